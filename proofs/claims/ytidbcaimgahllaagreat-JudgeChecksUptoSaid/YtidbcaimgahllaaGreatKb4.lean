/-
  What the proof of the last of these texts leans on: part 4 of 7.
-/
import Derived.Test.YtidbcaimgahllaaGreatKb3
set_option linter.unusedSectionVars false
set_option linter.unusedVariables false
set_option linter.unusedSimpArgs false
namespace Go.Proofs.YtidbcaimgahllaaGreat
open Go.Proofs.Tryz
open Go.X
open Go.Sort (Holds putRow putCells grow mapBlock onCells)

section
variable {α : Type} [Inhabited α] {enc : α → Value} {W0 w : World} {E b off n c : Nat} {zs zs' : List α} {F : List Assn}
theorem own_open (s : Sat W0 w (own E 1 (.slice (some ⟨b, off, none⟩) n c) (zs.map enc) :: F)) : ∃ o : Lies, o.ok 1 (.slice (some ⟨b, off, none⟩) n c) (zs.map enc) ∧ o.b = b ∧ o.off = off ∧ Sat W0 w (pt b (.cells o.l.toArray E o.z) :: F) := by
  obtain ⟨h1, h2, a, q, d, x, y⟩ := s.heap
  rcases a with ⟨h, _⟩ | ⟨o, ho, hp⟩
  · cases h
  · have hv := ho.val
    simp only [Value.slice.injEq, Option.some.injEq, Addr.mk.injEq] at hv
    obtain ⟨⟨e1, e2, _⟩, _, _⟩ := hv
    exact ⟨o, ho, e1.symm, e2.symm, s.os, s.tape, s.out, h1, h2, e1 ▸ hp, q, d, x, y⟩
theorem own_holds (s : Sat W0 w (own E 1 (.slice (some ⟨b, off, none⟩) n c) (zs.map enc) :: F)) : Holds enc w b off zs.toArray ∧ b < w.heap.size := by
  obtain ⟨o, ho, rfl, rfl, t⟩ := own_open s
  have hb := t.at_ (i := 0) rfl
  refine ⟨fun j hj => ?_, (Array.getElem?_eq_some_iff.1 hb).1⟩
  have hj' : j < zs.length := by simpa using hj
  have hg := ho.get j (enc zs[j]!) (by simp [hj'])
  have hlt := (List.getElem?_eq_some_iff.1 hg).1
  refine ⟨?_, ?_⟩
  · simp only [World.cell?, hb]
    simpa [hj'] using hg
  · have := ho.free (o.off + j) hlt
    simp only [World.frozen?, hb]
    simpa using this
theorem own_putRow (s : Sat W0 w (own E 1 (.slice (some ⟨b, off, none⟩) n c) (zs.map enc) :: F)) (hl : zs'.length = zs.length) (m : Nat) (os : Array Obj) :
    Sat W0 (grow (putRow enc (Go.Sort.ahead w m) b off zs'.toArray) os) (own E 1 (.slice (some ⟨b, off, none⟩) n c) (zs'.map enc) :: F) := by
  obtain ⟨o, ho, rfl, rfl, t⟩ := own_open s
  have hb : hp w o.b = some (.cells o.l.toArray E o.z) := t.at_ (i := 0) rfl
  have hlen : zs.length = n := by have := ho.len; have hv := ho.val; simp only [Value.slice.injEq] at hv; rw [← hv.2.1] at this; simpa using this
  have e1 : hp (putRow enc (Go.Sort.ahead w m) o.b o.off zs'.toArray) = upd (hp w) o.b (.cells (putCells enc o.off zs'.toArray o.l.toArray) E o.z) := hp_modify w o.b (onCells (putCells enc o.off zs'.toArray)) _ hb
  have hsub : Sub (hp (putRow enc (Go.Sort.ahead w m) o.b o.off zs'.toArray)) (hp (grow (putRow enc (Go.Sort.ahead w m) o.b o.off zs'.toArray) os)) := by
    intro x p hx
    have hlt := (Array.getElem?_eq_some_iff.1 (show (putRow enc (Go.Sort.ahead w m) o.b o.off zs'.toArray).heap[x]? = some p from hx)).1
    show ((putRow enc (Go.Sort.ahead w m) o.b o.off zs'.toArray).heap ++ os)[x]? = some p
    rw [Array.getElem?_append_left hlt]; exact hx
  have hu : HSat (upd (hp w) o.b (.cells (putCells enc o.off zs'.toArray o.l.toArray) E o.z)) (pt o.b (.cells (putCells enc o.off zs'.toArray o.l.toArray) E o.z) :: F) := by
    have := HSat.update (i := 0) (b := o.b) (o := .cells (putCells enc o.off zs'.toArray o.l.toArray) E o.z) (A := pt o.b (.cells o.l.toArray E o.z)) (B := pt o.b (.cells (putCells enc o.off zs'.toArray o.l.toArray) E o.z)) t.heap rfl fun k hk => ⟨⟨_, hk⟩, by simp [pt, upd]⟩
    simpa using this
  refine ⟨t.os, t.tape, t.out, (HSat.mono ?_ (e1 ▸ hsub))⟩
  refine hu.imp fun h hh => .inr ⟨{ o with l := (putCells enc o.off zs'.toArray o.l.toArray).toList }, ⟨ho.val, ?_, ho.cap, ?_, ?_, ?_⟩, hh⟩
  · have := ho.len; simp only [List.length_map] at this ⊢; omega
  · have := ho.fits; simpa [putCells] using this
  · intro j u hj
    have hj' : j < zs'.length := by have := (List.getElem?_eq_some_iff.1 hj).1; simpa using this
    have hg := ho.get j (enc zs[j]!) (by simp [show j < zs.length by omega])
    have hlt := (List.getElem?_eq_some_iff.1 hg).1
    simp only [List.getElem?_map, List.getElem?_eq_getElem hj', Option.map_some, Option.some.injEq] at hj
    subst hj
    simp only [putCells, Array.getElem?_toList, Array.getElem?_mapIdx, List.getElem?_toArray, hg, Option.map_some, List.size_toArray]
    rw [if_pos (by omega)]
    simp [hj']
  · intro k hk
    exact ho.free k (by simpa [putCells] using hk)
end

def leBy (a b : ByteArray) : Bool := decide (a.data.toList ≤ b.data.toList)
def ordS (l : List ByteArray) : List ByteArray := l.mergeSort leBy
theorem ordS_map (l : List ByteArray) : (ordS l).map (·.data.toList) = (l.map (·.data.toList)).mergeSort fun x y => decide (x ≤ y) :=
  List.map_mergeSort fun a _ b _ => rfl
theorem bytes_inj {a b : ByteArray} (h : a.data.toList = b.data.toList) : a = b := by
  cases a; cases b; simp only [ByteArray.mk.injEq] at *; exact Array.toList_inj.1 h
theorem ordS_perm {l m : List ByteArray} (h : l.Perm m) : ordS l = ordS m := by
  unfold ordS
  have t1 : ∀ a b c : ByteArray, leBy a b = true → leBy b c = true → leBy a c = true := fun a b c h1 h2 => by
    simp only [leBy, decide_eq_true_eq] at *; exact List.le_trans h1 h2
  have t2 : ∀ a b : ByteArray, (leBy a b || leBy b a) = true := fun a b => by
    simp only [leBy, Bool.or_eq_true, decide_eq_true_eq]; exact List.le_total _ _
  refine List.Perm.eq_of_pairwise (le := fun a b => leBy a b = true) ?_ (List.pairwise_mergeSort t1 t2 l) (List.pairwise_mergeSort t1 t2 m) (((List.mergeSort_perm l _).trans h).trans (List.mergeSort_perm m _).symm)
  intro a b _ _ h1 h2
  simp only [leBy, decide_eq_true_eq] at h1 h2
  exact bytes_inj (List.le_antisymm h1 h2)
theorem ordS_enc (l : List ByteArray) : l.map Value.string = (l.map (·.data.toList)).map encStr := by
  rw [List.map_map]
  refine List.map_congr_left fun p _ => ?_
  show Value.string p = Value.string ⟨p.data.toList.toArray⟩
  rw [Array.toArray_toList]

theorem sortAnyS (p : Option Addr) (c : Nat) (l : List ByteArray) (hs : l.length ≤ 1099511627776) :
    FSpec Tryz.prog 101 [.slice p l.length c] [own 9 1 (.slice p l.length c) (l.map Value.string)] (fun v B => v = .tuple #[] ∧ B = [own 9 1 (.slice p l.length c) ((ordS l).map Value.string)]) := by
  refine ⟨fun W0 w F s => ?_⟩
  obtain ⟨k, hk, _⟩ := s.heap.at_ (i := 0) rfl
  rcases hk with ⟨h1, h2⟩ | ⟨o, ho, _⟩
  · have hl : l = [] := by simpa using h2
    subst hl
    refine (AnyM.slices_Sort_string_none Tryz.sort101 p c w).mono ?_
    rintro e w' ⟨rfl, rfl⟩
    exact ⟨_, _, rfl, ⟨rfl, rfl⟩, by simpa [ordS] using s⟩
  · have hv := ho.val
    simp only [Value.slice.injEq] at hv
    obtain ⟨rfl, _, _⟩ := hv
    rw [ordS_enc] at s
    obtain ⟨q1, q2⟩ := own_holds (F := [F]) s
    have hc := AnyM.slices_Sort_string Tryz.sort101 o.b o.off c (l.map (·.data.toList)) w q1 q2 (by simp; omega)
    rw [List.length_map] at hc
    refine hc.mono ?_
    rintro e w' ⟨rfl, m, os, rfl⟩
    refine ⟨_, _, rfl, ⟨rfl, rfl⟩, ?_⟩
    rw [ordS_enc, ordS_map]
    exact own_putRow (F := [F]) s (by simp [List.length_mergeSort]) m os

theorem sortedS (gf : FuncId) (lb : List Value) (G : Assn) (M : List ByteArray) (ok : List ByteArray → ByteArray → Prop) (eg : ∀ (args : Array Value) (w : World), (callFunc gf args).run Tryz.prog w = .ok (.enter gf args) w)
    (hit : ItSpec Tryz.prog gf lb (fun x : ByteArray => [Value.string x]) [G] (fun xs => xs.Perm M) ok) (hok : ∀ pre x, ok pre x → pre.length < 1099511627776) (hs : M.length ≤ 1099511627776) :
    FSpec Tryz.prog 97 [.func (.func gf) #[] lb.toArray] [G] (fun v B => ∃ (p : Option Addr) (c : Nat), v = .slice p M.length c ∧ B = [own 9 1 (.slice p M.length c) ((ordS M).map Value.string), G]) := by
  refine FSpec.of func97 rfl ntmps97 rfl fun W0 F => ?_
  refine J.seq <| J.region <| J.p rfl (Q.asg rfl) <| J.nil <| J.then_n <| J.seq <| J.region <| J.m rfl ?_
  refine J.call call100 (collectS gf lb G (fun xs => xs.Perm M) ok eg hit hok) [0] rfl rfl rfl rfl ?_
  rintro _ _ ⟨xs, p, c, hS, rfl, rfl⟩
  refine J.norm rfl ?_
  have hlen : xs.length = M.length := hS.length_eq
  refine J.p rfl (Q.asg rfl) <| J.nil <| J.then_n <| J.seq <| J.region <| J.m rfl ?_
  refine J.call call101 (sortAnyS p c xs (by omega)) [0] rfl rfl rfl rfl ?_
  rintro _ _ ⟨rfl, rfl⟩
  refine J.norm rfl <| J.nil <| J.then_n <| J.seq <| J.region <| J.m rfl <| J.p rfl (Q.asg rfl) <| J.nil <| J.then_n <| J.cret ?_
  rw [ordS_perm hS, hlen]
  refine J.ret1 (B := [_, G]) rfl rfl ⟨p, c, rfl, rfl⟩ rfl
end Go.Proofs.YtidbcaimgahllaaGreat
namespace Go.Proofs.YtidbcaimgahllaaGreat
open Go.X
open Go.X.G (Ord3 ord3_nat ord3_int ord3_str ltB sget sput sdel Srtd MapAt MapHole Ent Ents)

theorem srtS {ν : Type} {S : List (ByteArray × ν)} (h : Srtd ltB S) : ordS (S.map (·.1)) = S.map (·.1) := by
  refine List.mergeSort_of_pairwise ?_
  rw [List.pairwise_map]
  refine h.imp fun {a b} h => ?_
  simp only [ltB, leBy, decide_eq_true_eq] at h ⊢
  exact List.le_of_lt h
end Go.Proofs.YtidbcaimgahllaaGreat
namespace Go.Proofs.YtidbcaimgahllaaGreat
open Go.Proofs.Tryz
open Go.X
open Go.X.G (Ord3 ord3_nat ord3_int ord3_str ltB sget sput sdel Srtd MapAt MapHole Ent Ents edone eleft)

theorem keysItOb (bm r : Nat) (S0 : List (ByteArray × (List UInt8))) : ItSpec Tryz.prog 102 [.pointer (some ⟨bm, 0, none⟩)] (fun x : ByteArray => [Value.string x]) [star [pt bm (.cells [.map (some r)].toArray 179 (0, 0)), MapAt Value.string datRep r S0]]
    (fun xs => xs.Perm (S0.map (·.1))) (fun pre _ => pre.length < S0.length) := by
  intro l Inv hY
  refine FSpec.of func102 rfl ntmps102 rfl fun W0 F => ?_
  refine J.seq ?_
  refine J.unpack 1 rfl rfl ?_
  refine J.open_ 1 rfl rfl (fun _ h => h) fun q hq => ?_
  refine J.norm rfl <| J.region ?_
  refine J.p rfl (Q.ldI isAgg179 rfl) ?_
  refine J.c rfl rfl (X.G.C.range (i := 0) runUnderlying179 rfl rfl) ?_
  rintro _ _ ⟨b5, rfl, rfl⟩
  refine J.norm rfl <| J.nil <| J.then_n <| J.block ?_
  refine J.pick [0, 1, 2, 3, 4, 5] rfl ?_
  refine J.loop (fun z : List Nat × List ByteArray => z.2.Perm ((edone q.1 z.1).map (·.key))) (fun z => (eleft q.1 z.1).length) (fun z => [(0, .func (.yield l) #[] #[]), (5, .pointer (some ⟨b5, 0, none⟩))])
    (fun z => [pt b5 (X.G.miter r q.2 z.1), pt r (X.G.mobj Value.string (q.1.map Ent.m) q.2), star (q.1.map (Ent.asn datRep)), pt bm (.cells [.map (some r)].toArray 179 (0, 0)), Inv z.2, F])
    ([], []) (by simp [X.G.edone_nil]) ⟨rfl, rfl, trivial⟩ rfl fun z hz => ?_
  obtain ⟨seen, pre⟩ := z
  dsimp only at hz
  refine J.seq <| J.region ?_
  refine J.c rfl rfl (X.G.C.nextE (i := 0) (j := 1) hq rfl rfl rfl) ?_
  rintro _ _ ⟨t, rest, seen', rfl, rfl, hst⟩
  refine J.norm rfl <| J.p rfl (Q.ext rfl rfl) <| J.nil <| J.then_n <| J.seq ?_
  refine J.kases 7 rfl (fun hc7 => ?_) (fun hc7 => ?_)
  ·
   obtain ⟨e, he, rfl⟩ : ∃ e, e ∈ eleft q.1 seen ∧ seen' = seen ++ [e.born] := by rcases hst with ⟨h, _⟩ | ⟨_, h⟩; exact absurd hc7 (by rw [h]; decide); exact h
   refine J.cond_t rfl <| J.cskip <| J.then_n <| J.block <| J.seq <| J.region ?_
   have hstep := X.G.estep hq.born he
   have hlt : pre.length < S0.length := by
     have h1 := hstep.1.length_eq
     have h2 : (edone q.1 (seen ++ [e.born])).length ≤ q.1.length := List.length_filter_le _ _
     have h3 := hz.length_eq
     have h4 := hq.len
     simp only [List.length_cons, List.length_map] at h1 h3
     omega
   have hnx : (pre ++ [e.key]).Perm ((edone q.1 (seen ++ [e.born])).map (·.key)) := by
     refine (List.perm_append_singleton _ _).trans ?_
     refine (hz.cons e.key).trans ?_
     exact (hstep.1.map (·.key)).symm
   refine J.p rfl (X.G.Q.entryE (i := 0) (j := 1) hq he rfl rfl rfl) ?_
   refine J.p rfl (Q.ext rfl rfl) <| J.p rfl (Q.asg rfl) <| J.nil <| J.then_n <| J.seq ?_
   refine J.regionY ?_
   refine JI.q rfl rfl (fun _ e => nomatch e) (Q.mv rfl) ?_
   refine JI.q rfl rfl (fun _ e => nomatch e) (Q.mv rfl) ?_
   refine JI.yield (hY pre e.key hlt) [4] rfl rfl rfl rfl rfl ?_
   rintro _ _ ⟨rfl, rfl⟩
   refine J.norm rfl ?_
   refine JI.q rfl rfl (fun _ e => nomatch e) (Q.not rfl) ?_
   refine JI.nil ?_
   refine JI.out ?_
   refine J.then_n ?_
   refine J.cases 13 rfl (fun hc13 => ?_) (fun hc13 => ?_)
   ·
    cases hc13
   replace hc13 := X.nm hc13
   refine J.cond_f rfl <| J.cskip <| J.blk_n ?_
   refine J.pick [1, 2, 3, 4, 0, 5] rfl ?_
   refine J.again (seen ++ [e.born], pre ++ [e.key]) hnx hstep.2 ⟨rfl, rfl, trivial⟩ rfl
  obtain ⟨hall, rfl⟩ : edone q.1 seen = q.1 ∧ seen' = seen := by rcases hst with ⟨_, h⟩ | ⟨h, _⟩; exact h; exact absurd hc7 (by rw [h]; decide)
  refine J.cond_f rfl <| J.exit <| J.then_x <| J.lp_x <| J.blk_x ?_
  rw [hall] at hz
  have hfin : pre.Perm (S0.map (·.1)) := by
    refine hz.trans ?_
    have := hq.perm.map (·.1)
    rw [List.map_map] at this
    exact this
  refine J.shut [1, 2] (MapAt Value.string datRep r S0) rfl (fun h s => ⟨q, hq, s⟩) ?_
  refine J.pick [2, 0, 1, 3, 4] rfl ?_
  refine J.pack [0, 1] rfl ?_
  refine J.keep [2, 0, 3] rfl ?_
  refine J.end0 (B := [Inv pre, _]) rfl ⟨pre, hfin, rfl⟩ rfl

theorem keysOb (r : Option Nat) : FSpec Tryz.prog 98 [.map r] [] (fun v B => ∃ bm, v = .func (.func 102) #[] #[.pointer (some ⟨bm, 0, none⟩)] ∧ B = [pt bm (.cells [.map r].toArray 179 (0, 0))]) := by
  refine FSpec.of func98 rfl ntmps98 rfl fun W0 F => ?_
  refine J.seq <| J.region ?_
  refine J.c rfl rfl (C.box (l := [_]) rfl rfl) ?_
  rintro _ _ ⟨b1, rfl, rfl⟩
  refine J.norm rfl <| J.p rfl (Q.asg rfl) <| J.nil <| J.then_n <| J.seq <| J.region <| J.p rfl (Q.func rfl rfl) <| J.p rfl (Q.asg rfl) <| J.nil <| J.then_n <| J.cret ?_
  refine J.keep [0, 1] rfl ?_
  refine J.ret1 (B := [_]) rfl rfl ⟨_, rfl, rfl⟩ rfl

theorem sortedOb (bm r : Nat) (S0 : List (ByteArray × (List UInt8))) (hS : Srtd ltB S0) (hl : S0.length ≤ 32768) : FSpec Tryz.prog 97 [.func (.func 102) #[] #[.pointer (some ⟨bm, 0, none⟩)]] [pt bm (.cells [.map (some r)].toArray 179 (0, 0)), MapAt Value.string datRep r S0]
    (fun v B => ∃ (p : Option Addr) (c : Nat), v = .slice p S0.length c ∧ B = [own 9 1 (.slice p S0.length c) ((S0.map (·.1)).map Value.string), pt bm (.cells [.map (some r)].toArray 179 (0, 0)), MapAt Value.string datRep r S0]) := by
  have h := sortedS 102 [.pointer (some ⟨bm, 0, none⟩)] _ (S0.map (·.1)) _ call102 (keysItOb bm r S0) (fun pre _ h => by omega) (by rw [List.length_map]; omega)
  refine h.conv (fun k s => HSat.pack (Bs := []) (by simpa using s)) ?_
  rintro v B' ⟨p, c, rfl, rfl⟩
  rw [List.length_map, srtS hS]
  refine ⟨_, ⟨p, c, rfl, rfl⟩, fun k s => ?_⟩
  exact HSat.under s fun _ s => HSat.unpack (Bs := []) s
end Go.Proofs.YtidbcaimgahllaaGreat
namespace Go.Proofs.YtidbcaimgahllaaGreat
open Go.Proofs.Tryz
open Go.X
open Go.X.G (Ord3 ord3_nat ord3_int ord3_str ltB sget sput sdel Srtd MapAt MapHole Ent Ents mobj)

theorem leqs {P : Program} {L : Slots} {D : List Assn} {ty T T' : TypeId} {x y : Operand} {s t : ByteArray} (ex : ev L x = some (.string s)) (ey : ev L y = some (.string t)) : OpQ P (.binOp .leq T x y T') ty L D (.bool (!ltB t s)) :=
  Q.bin ex ey fun w => by
    have h : (Op.bytesLess s.data.toList t.data.toList || decide (s.data.toList = t.data.toList)) = !ltB t s := by
      rw [Bool.eq_iff_iff]
      simp only [Bool.or_eq_true, less_iff, decide_eq_true_eq, Bool.not_eq_true', ltB, decide_eq_false_iff_not, List.not_lt]
      exact ⟨fun h => h.elim List.le_of_lt (fun e => by rw [e]; exact List.le_refl _), fun h => by
        rcases List.le_total t.data.toList s.data.toList with h' | h'
        · exact .inr (List.le_antisymm h h')
        · rcases Classical.em (s.data.toList = t.data.toList) with e | e
          · exact .inr e
          · exact .inl (by
              rcases Classical.em (s.data.toList < t.data.toList) with g | g
              · exact g
              · exact absurd (List.le_antisymm h (List.not_lt.1 g)) e)⟩
    simp only [Sem.run_bind, guard_str, Result.andThen_ok, binOp, Op.stringOp, ByteArray.toList_eq, list_beq, ← h]; rfl

structure BM.kok (M : BM) : Prop where
  ob : ∀ n o, sget n M.buckets = some o → ∀ p, p ∈ o → p.1.size ≤ 1024
  up : ∀ n u, sget n M.uploads = some u → u.key.size ≤ 1024

def keysM (M : BM) (name : ByteArray) : List ByteArray := match sget name M.buckets with | none => [] | some o => o.map (·.1)

theorem keysNil (bm : Nat) : ItSpec Tryz.prog 102 [.pointer (some ⟨bm, 0, none⟩)] (fun x : ByteArray => [Value.string x]) [pt bm (.cells [.map none].toArray 179 (0, 0))]
    (fun xs => xs.Perm []) (fun _ _ => False) := by
  intro l Inv hY
  refine FSpec.of func102 rfl ntmps102 rfl fun W0 F => ?_
  refine J.seq <| J.region ?_
  refine J.p rfl (Q.ldI isAgg179 rfl) ?_
  refine J.c rfl rfl (X.G.C.rangeNil runUnderlying179 rfl) ?_
  rintro _ _ ⟨b5, rfl, rfl⟩
  refine J.norm rfl <| J.nil <| J.then_n <| J.block ?_
  refine J.loop (fun _ : Unit => True) (fun _ => 0) (fun _ => [(5, .pointer (some ⟨b5, 0, none⟩))]) (fun _ => [pt b5 X.G.miterNil, Inv [], pt bm (.cells [.map none].toArray 179 (0, 0)), F]) () trivial ⟨rfl, trivial⟩ rfl fun _ _ => ?_
  refine J.seq <| J.region ?_
  refine J.p rfl (X.G.Q.nextNil (i := 0) rfl rfl) ?_
  refine J.p rfl (Q.ext rfl rfl) <| J.nil <| J.then_n <| J.seq ?_
  refine J.cases 7 rfl (fun hc7 => ?_) (fun hc7 => ?_)
  ·
   exfalso; cases hc7
  replace hc7 := X.nm hc7
  refine J.cond_f rfl <| J.exit <| J.then_x <| J.lp_x <| J.blk_x ?_
  refine J.keep [1, 2, 3] rfl ?_
  refine J.end0 (B := [_, _]) rfl ⟨[], List.Perm.refl _, rfl⟩ rfl

section
variable {k : Nat} (m : Nat) (M : BM) (hM : M.ok k) (hK : M.kok) (hk : k ≤ 32768) (name : ByteArray)
include hM hK hk
theorem objects_no (hB : sget name M.buckets = none) : FSpec Tryz.prog 95 [.pointer (some ⟨m, 0, none⟩), .string name] [BktAt m M] (fun v B => ∃ p c, v = .slice p (keysM M name).length c ∧ B = [own 9 1 (.slice p (keysM M name).length c) ((keysM M name).map Value.string), BktAt m M]) := by
  have hke : keysM M name = [] := by unfold keysM; rw [hB]
  rw [hke]
  refine FSpec.of func95 rfl ntmps95 rfl fun W0 F => ?_
  refine J.seq <| J.region <| J.p rfl (Q.asg rfl) <| J.nil <| J.then_n <| J.seq ?_
  refine J.open1 0 rfl (fun _ h => h) fun z => ?_
  refine J.norm rfl <| J.region <| J.m rfl <| J.p rfl (Q.nil_ rfl) <| J.p rfl (Q.fa (n := 0) runUnderlying167 rfl rfl sizeOf163 rfl) ?_
  refine J.p rfl (Q.ldI isAgg163 rfl) ?_
  refine J.m rfl ?_
  refine J.p rfl (X.G.Q.lkNo (i := 1) runUnderlying163 keyS zeroValue179 rfl rfl rfl hB) ?_
  refine J.call call98 (keysOb none) [] rfl rfl rfl rfl ?_
  rintro _ _ ⟨bk, rfl, rfl⟩
  refine J.norm rfl ?_
  refine J.call call97 (sortedS 102 [.pointer (some ⟨bk, 0, none⟩)] _ [] (fun _ _ => False) call102 (keysNil bk) (fun _ _ h => h.elim) (by decide)) [0] rfl rfl rfl rfl ?_
  rintro _ _ ⟨p12, c12, rfl, rfl⟩
  refine J.norm rfl ?_
  have e0 : ordS [] = [] := by simp [ordS]
  rw [e0]
  refine J.p rfl (Q.asg rfl) <| J.nil <| J.then_n <| J.cret ?_
  refine J.shut [2, 3, 4, 5] (BktAt m M) rfl (fun h s => ⟨z, s⟩) ?_
  refine J.keep [1, 0, 3] rfl ?_
  refine J.ret1 (B := [own 9 1 (.slice p12 0 c12) [], BktAt m M]) rfl rfl ⟨p12, c12, rfl, rfl⟩ rfl
theorem objects_yes {objs : Objs} (hB : sget name M.buckets = some objs) : FSpec Tryz.prog 95 [.pointer (some ⟨m, 0, none⟩), .string name] [BktAt m M] (fun v B => ∃ p c, v = .slice p (keysM M name).length c ∧ B = [own 9 1 (.slice p (keysM M name).length c) ((keysM M name).map Value.string), BktAt m M]) := by
  have hke : keysM M name = objs.map (·.1) := by unfold keysM; rw [hB]
  have hO := hM.os _ _ hB
  have hob := hK.ob _ _ hB
  rw [hke, List.length_map]
  refine FSpec.of func95 rfl ntmps95 rfl fun W0 F => ?_
  refine J.seq <| J.region <| J.p rfl (Q.asg rfl) <| J.nil <| J.then_n <| J.seq ?_
  refine J.open1 0 rfl (fun _ h => h) fun z => ?_
  refine J.norm rfl ?_
  refine J.mapFocus 1 hB rfl fun val => ?_
  refine J.norm rfl ?_
  refine J.open_ 0 rfl rfl (fun _ h => h) fun r hr => ?_
  subst hr
  refine J.norm rfl <| J.region <| J.m rfl <| J.p rfl (Q.nil_ rfl) <| J.p rfl (Q.fa (n := 0) runUnderlying167 rfl rfl sizeOf163 rfl) ?_
  refine J.p rfl (Q.ldI isAgg163 rfl) ?_
  refine J.m rfl ?_
  refine J.p rfl (X.G.Q.lkYes (i := 1) runUnderlying163 keyS zeroValue179 rfl rfl rfl) ?_
  refine J.call call98 (keysOb (some r)) [] rfl rfl rfl rfl ?_
  rintro _ _ ⟨bk, rfl, rfl⟩
  refine J.norm rfl ?_
  refine J.call call97 (sortedOb bk r objs hO.1 (by omega)) [0, 1] rfl rfl rfl rfl ?_
  rintro _ _ ⟨p12, c12, rfl, rfl⟩
  refine J.norm rfl <| J.p rfl (Q.asg rfl) <| J.nil <| J.then_n <| J.cret ?_
  refine J.shut [2] (bRep name objs (.map (some r))) rfl (fun h s => ⟨r, rfl, s⟩) ?_
  refine J.mapSame 0 3 ord3_str hM.bs hB rfl ?_
  refine J.shut [3, 0, 4, 5] (BktAt m M) rfl (fun h s => ⟨z, s⟩) ?_
  refine J.keep [1, 0, 3] rfl ?_
  refine J.ret1 (B := [own 9 1 (.slice p12 objs.length c12) ((objs.map (·.1)).map Value.string), BktAt m M]) rfl rfl ⟨p12, c12, rfl, rfl⟩ rfl
theorem objects_spec : FSpec Tryz.prog 95 [.pointer (some ⟨m, 0, none⟩), .string name] [BktAt m M] (fun v B => ∃ p c, v = .slice p (keysM M name).length c ∧ B = [own 9 1 (.slice p (keysM M name).length c) ((keysM M name).map Value.string), BktAt m M]) := by
  cases hB : sget name M.buckets with
  | none => exact objects_no m M hM hK hk name hB
  | some objs => exact objects_yes m M hM hK hk name hB
end

theorem prefix_spec (s p : ByteArray) : FSpec Tryz.prog 99 [.string s, .string p] [] (fun v B => v = .bool (beg s p) ∧ B = []) := by
  refine FSpec.of func99 rfl ntmps99 rfl fun W0 F => ?_
  refine J.seq <| J.region <| J.p rfl (Q.asg rfl) <| J.nil <| J.then_n <| J.seq <| J.region <| J.m rfl <| J.p rfl (Q.lenS runUnderlying9 rfl) <| J.m rfl <| J.p rfl (Q.lenS runUnderlying9 rfl) <| J.p rfl (Q.geq rfl rfl) <| J.m rfl ?_
  refine J.kases 10 rfl (fun hb10 => ?_) (fun hb10 => ?_)
  ·
   refine J.m rfl <| J.m rfl <| J.p rfl (Q.lenS runUnderlying9 rfl) <| J.p rfl (Q.strH runUnderlying9 rfl rfl (by omega) (by omega)) <| J.m rfl <| J.p rfl (Q.eqls rfl rfl) <| J.p rfl (Q.pick_t rfl rfl) <| J.p rfl (Q.asg rfl) <| J.nil <| J.then_n <| J.cret ?_
   refine J.ret1 (B := []) rfl rfl ⟨?_, rfl⟩ rfl
   unfold beg
   first
     | (rw [decide_eq_true (show p.size ≤ s.size by omega)]; simp only [Bool.true_and, Int.toNat_natCast]; done)
     | (rw [decide_eq_true (show p.size ≤ s.size by omega)]; rfl)
     | (rw [decide_eq_false (show ¬ p.size ≤ s.size by omega)]; rfl)
  refine J.k rfl <| J.k rfl <| J.k rfl <| J.k rfl <| J.k rfl <| J.k rfl <| J.p rfl (Q.pick_f rfl rfl) <| J.p rfl (Q.asg rfl) <| J.nil <| J.then_n <| J.cret ?_
  refine J.ret1 (B := []) rfl rfl ⟨?_, rfl⟩ rfl
  unfold beg
  first
    | (rw [decide_eq_true (show p.size ≤ s.size by omega)]; simp only [Bool.true_and, Int.toNat_natCast]; done)
    | (rw [decide_eq_true (show p.size ≤ s.size by omega)]; rfl)
    | (rw [decide_eq_false (show ¬ p.size ≤ s.size by omega)]; rfl)
theorem hasPrefix_spec (s p : ByteArray) : FSpec Tryz.prog 96 [.string s, .string p] [] (fun v B => v = .bool (beg s p) ∧ B = []) := by
  refine FSpec.of func96 rfl ntmps96 rfl fun W0 F => ?_
  refine J.seq <| J.region <| J.p rfl (Q.asg rfl) <| J.nil <| J.then_n <| J.seq <| J.region <| J.m rfl <| J.m rfl ?_
  refine J.call call99 (prefix_spec s p) [] rfl rfl rfl rfl ?_
  rintro _ _ ⟨rfl, rfl⟩
  refine J.norm rfl <| J.p rfl (Q.asg rfl) <| J.nil <| J.then_n <| J.cret ?_
  refine J.ret1 (B := []) rfl rfl ⟨rfl, rfl⟩ rfl

def lsel (o : OM) (a : ByteArray) : Bool := beg a o.key && ltB o.after a
theorem filter_take {p : ByteArray → Bool} {l : List ByteArray} {j : Nat} {a : ByteArray} (h : l[j]? = some a) : (l.take (j + 1)).filter p = (l.take j).filter p ++ (if p a then [a] else []) := by
  obtain ⟨h1, h2⟩ := List.getElem?_eq_some_iff.1 h
  rw [List.take_succ_eq_append_getElem h1, List.filter_append, h2]
  cases hp : p a <;> simp [List.filter, hp]
theorem filter_more {p : ByteArray → Bool} {l : List ByteArray} {j : Nat} {a : ByteArray} (h : l[j]? = some a) (hp : p a = true) : ∃ r, l.filter p = (l.take j).filter p ++ a :: r := by
  obtain ⟨h1, h2⟩ := List.getElem?_eq_some_iff.1 h
  refine ⟨(l.drop (j + 1)).filter p, ?_⟩
  conv => lhs; rw [← List.take_append_drop j l, List.filter_append, List.drop_eq_getElem_cons h1, h2]
  rw [List.filter_cons, if_pos hp]

section
variable {k : Nat} (m : Nat) (M : BM) (hM : M.ok k) (hK : M.kok) (hk : k ≤ 32768) (x : OW) (G : Assn) (hx : x.ok G) (hc : x.o.chkB = true) (h6 : x.o.kind = 6)
include hM hK hk hx hc h6
theorem list_no_all : (∀ (hB : sget x.o.bucket M.buckets = none), FSpec Tryz.prog 89 [.pointer (some ⟨m, 0, none⟩), .agg x.cells.toArray] [BktAt m M, G] (ActR m G (st 404, M))) ∧ (∀ {objs : Objs} (hB : sget x.o.bucket M.buckets = some objs), FSpec Tryz.prog 89 [.pointer (some ⟨m, 0, none⟩), .agg x.cells.toArray] [BktAt m M, G] (ActR m G (⟨200, 0, (listed x.o objs).take x.o.n.toNat, decide (x.o.n.toNat < (listed x.o objs).length), []⟩, M))) := by
  refine ⟨fun hB => ?_, fun {objs} hB => ?_⟩
  all_goals
   have hn := chk_6 hc h6
   try have hO := hM.os _ _ hB
   try have hke : keysM M x.o.bucket = objs.map (·.1) := by unfold keysM; rw [hB]
   refine FSpec.of func89 rfl ntmps89 rfl fun W0 F => ?_
   refine J.seq <| J.region ?_
   refine J.c rfl rfl (C.box (l := [_, _, _, _, _, _, _, _, _]) rfl rfl) ?_
   rintro _ _ ⟨b3, rfl, rfl⟩
   refine J.norm rfl ?_
   refine J.c rfl rfl (C.alloc (l := [_, _, _, _, _]) zeroValue44 rfl) ?_
   rintro _ _ ⟨b4, rfl, rfl⟩
   refine J.norm rfl <| J.nil <| J.then_n <| J.seq <| J.seq <| J.region <| J.m rfl ?_
   refine J.p rfl (Q.ldN (vs := [_, _, _, _, _, _, _, _, _]) isAgg52 sizeOf52 rfl rnI) ?_
   refine J.call call94 ((by first | exact known_no m M x hB | exact known_yes m M hM x hB)) [2] rfl rfl rfl rfl ?_
   rintro _ _ ⟨rfl, rfl⟩
   refine J.norm rfl <| J.p rfl (Q.not rfl) <| J.nil <| J.then_n ?_
   refine J.kases 11 rfl (fun hc11 => ?_) (fun hc11 => ?_)
   ·
    try (first | (cases hc11; done) | (exfalso; simp at hc11; done))
    all_goals
     refine J.cond_t rfl <| J.seq <| J.region ?_
     refine J.call call73 (status_spec 404) [] rfl rfl rfl rfl ?_
     rintro _ _ ⟨y, rfl, hy, rfl⟩
     refine J.norm rfl ?_
     refine J.stAJ (vs := [_, _, _, _, _]) rfl sizeOf44 rfl rfl ?_
     refine J.nil <| J.then_n <| J.cret <| J.then_r ?_
     refine J.retC [1, 0, 4, 5] (vs := [_, _, _, _, _]) rfl rfl isAgg44 sizeOf44 (ReadsN.pt 2 rfl) rfl (B := [_, _, _]) ⟨_, rfl, hy, rfl⟩
   try (first | (cases hc11; done) | (exfalso; simp at hc11; done))
   all_goals
    refine J.cond_f rfl <| J.cskip <| J.then_n <| J.seq <| J.region ?_
    refine J.call call73 (status_spec 200) [] rfl rfl rfl rfl ?_
    rintro _ _ ⟨y, rfl, hy, rfl⟩
    refine J.norm rfl ?_
    obtain ⟨yr, kp, kc, dp, dc⟩ := y
    dsimp only at hy
    subst hy
    refine J.c rfl rfl (C.alloc (l := [_, _, _, _, _]) zeroValue44 rfl) ?_
    rintro _ _ ⟨b5, rfl, rfl⟩
    refine J.norm rfl ?_
    refine J.stAJ (vs := [_, _, _, _, _]) rfl sizeOf44 rfl rfl ?_
    refine J.nil <| J.then_n ?_
    refine J.cut (fun w : List ByteArray × Option Addr × Nat × Bool => w.1 = (listed x.o objs).take x.o.n.toNat ∧ w.2.2.2 = decide (x.o.n.toNat < (listed x.o objs).length)) (fun w => [(4, .pointer (some ⟨b4, 0, none⟩)), (5, .pointer (some ⟨b5, 0, none⟩))]) (fun w => [own 9 1 (.slice w.2.1 w.1.length w.2.2.1) (w.1.map Value.string), own 5 1 (.slice dp 0 dc) [], BktAt m M, pt b5 (.cells [Value.int .i64 200, .int .u64 0, .slice w.2.1 w.1.length w.2.2.1, .bool w.2.2.2, .slice dp 0 dc].toArray 44 (0, 0)), pt b4 (.cells [Value.int .i64 0, .int .u64 0, .slice none 0 0, .bool false, .slice none 0 0].toArray 44 (0, 0)), G, F]) ?_ fun w hw => ?_
    ·
     refine J.seq <| J.region <| J.m rfl <| J.p rfl (Q.fa (n := 2) runUnderlying52 rfl rfl sizeOf9 rfl) ?_
     refine J.p rfl (Q.ldI isAgg9 rfl) ?_
     refine J.call call95 (objects_spec m M hM hK hk x.o.bucket) [2] rfl rfl rfl rfl ?_
     rintro _ _ ⟨p17, c17, rfl, rfl⟩
     refine J.norm rfl ?_
     obtain ⟨ks, hks⟩ : ∃ ks, ks = keysM M x.o.bucket := ⟨_, rfl⟩
     rw [← hks]
     have hkl : ks.length ≤ 1048576 := by rw [hks, hke, List.length_map]; omega
     have hlst : listed x.o objs = ks.filter (lsel x.o) := by rw [hks, hke]; rfl
     refine J.unpack 3 rfl rfl ?_
     refine J.norm rfl ?_
     refine J.slr1 2 rfl fun hs17 => ?_
     refine J.p rfl (Q.lenSl runUnderlying41 rfl) <| J.m rfl <| J.nil <| J.then_n <| J.block ?_
     refine J.loop (fun w : Nat × Option Addr × Nat => w.1 ≤ ks.length ∧ ((ks.take w.1).filter (lsel x.o)).length ≤ x.o.n.toNat) (fun w => ks.length - w.1) (fun w => [(3, .pointer (some ⟨b3, 0, none⟩)), (4, .pointer (some ⟨b4, 0, none⟩)), (5, .pointer (some ⟨b5, 0, none⟩)), (17, .slice p17 ks.length c17), (18, .int .i64 ks.length), (19, .int .i64 w.1)])
       (fun w => [own 9 1 (.slice w.2.1 ((ks.take w.1).filter (lsel x.o)).length w.2.2) (((ks.take w.1).filter (lsel x.o)).map Value.string), own 5 1 (.slice dp 0 dc) [], own 9 1 (.slice p17 ks.length c17) (ks.map Value.string), BktAt m M, pt b5 (.cells [Value.int .i64 200, .int .u64 0, .slice w.2.1 ((ks.take w.1).filter (lsel x.o)).length w.2.2, .bool false, .slice dp 0 dc].toArray 44 (0, 0)), pt b4 (.cells [Value.int .i64 0, .int .u64 0, .slice none 0 0, .bool false, .slice none 0 0].toArray 44 (0, 0)), pt b3 (.cells x.cells.toArray 52 (0, 0)), G, F]) (0, kp, kc) ⟨Nat.zero_le _, Nat.zero_le _⟩ ⟨rfl, rfl, rfl, rfl, rfl, rfl, trivial⟩ rfl fun w hw => ?_
     obtain ⟨j, pa, ca⟩ := w
     obtain ⟨hj, ha⟩ := hw
     dsimp only at hj ha
     refine J.seq <| J.region <| J.p rfl (Q.lss rfl rfl) <| J.nil <| J.then_n <| J.seq ?_
     refine J.kases 20 rfl (fun hc20 => ?_) (fun hc20 => ?_)
     ·
      refine J.cond_t rfl <| J.cskip <| J.then_n <| J.seq <| J.block <| J.seq ?_
      obtain ⟨bb, ob, hpp, hrd⟩ := hs17.some_ (by omega)
      obtain ⟨a, hka⟩ : ∃ a, ks[j]? = some a := ⟨_, List.getElem?_eq_getElem (by omega)⟩
      have hft := filter_take (p := lsel x.o) hka
      refine J.slot 17 (.slice (some ⟨bb, ob, none⟩) ks.length c17) rfl (by rw [hpp]) ?_
      refine J.region <| J.p rfl (Q.ia runUnderlying41 sizeOf9 rfl rfl (by omega) (by omega)) ?_
      refine J.p rfl (Q.ld isAgg9 rfl (((hrd j (.string a) (by simp [hka])).within (i := 2) rfl).cast (by simp))) ?_
      refine J.p rfl (Q.asg rfl) <| J.nil <| J.then_n <| J.seq <| J.seq <| J.region <| J.m rfl <| J.p rfl (Q.fa (n := 3) runUnderlying52 rfl rfl sizeOf9 rfl) ?_
      refine J.p rfl (Q.ldI isAgg9 rfl) ?_
      refine J.call call96 (hasPrefix_spec a x.o.key) [] rfl rfl rfl rfl ?_
      rintro _ _ ⟨rfl, rfl⟩
      refine J.norm rfl <| J.p rfl (Q.not rfl) <| J.m rfl ?_
      refine J.kases 28 rfl (fun hb28 => ?_) (fun hb28 => ?_)
      ·
       refine J.k rfl <| J.k rfl <| J.k rfl <| J.k rfl <| J.p rfl (Q.pick_t rfl rfl) <| J.nil <| J.then_n <| J.cond_t rfl <| J.exit <| J.then_x <| J.blk_x <| J.then_n <| J.region <| J.p rfl (Q.add64 rfl rfl (by omega)) <| J.m rfl <| J.nil ?_
       have hsel : lsel x.o a = false := by unfold lsel; first | (have h1 := hb28; have h2 : ltB x.o.after a = false := (by simpa using hc33); revert h1 h2; cases beg a x.o.key <;> cases ltB x.o.after a <;> decide) | (have h1 := hb28; revert h1; cases beg a x.o.key <;> cases ltB x.o.after a <;> decide)
       rw [hsel] at hft
       simp only [Bool.false_eq_true, if_false, List.append_nil] at hft
       refine J.again (j + 1, pa, ca) ⟨by show j + 1 ≤ _; omega, by show ((ks.take (j + 1)).filter (lsel x.o)).length ≤ _; rw [hft]; exact ha⟩ (by show ks.length - (j + 1) < ks.length - j; omega) ⟨rfl, rfl, rfl, (by show _ = some (Value.slice p17 _ _); rw [hpp]; rfl), rfl, rfl, trivial⟩ ?_
       show _ = [own 9 1 (.slice pa ((ks.take (j + 1)).filter (lsel x.o)).length ca) (((ks.take (j + 1)).filter (lsel x.o)).map Value.string), _, _, _, pt b5 (.cells [Value.int .i64 200, .int .u64 0, .slice pa ((ks.take (j + 1)).filter (lsel x.o)).length ca, .bool false, .slice dp 0 dc].toArray 44 (0, 0)), _, _, _, _]
       rw [hft]
      refine J.m rfl <| J.p rfl (Q.fa (n := 4) runUnderlying52 rfl rfl sizeOf9 rfl) ?_
      refine J.p rfl (Q.ldI isAgg9 rfl) ?_
      refine J.p rfl (leqs rfl rfl) ?_
      refine J.p rfl (Q.pick_f rfl rfl) <| J.nil <| J.then_n ?_
      refine J.kases 33 rfl (fun hc33 => ?_) (fun hc33 => ?_)
      ·
       refine J.cond_t rfl <| J.exit <| J.then_x <| J.blk_x <| J.then_n <| J.region <| J.p rfl (Q.add64 rfl rfl (by omega)) <| J.m rfl <| J.nil ?_
       have hsel : lsel x.o a = false := by unfold lsel; first | (have h1 := hb28; have h2 : ltB x.o.after a = false := (by simpa using hc33); revert h1 h2; cases beg a x.o.key <;> cases ltB x.o.after a <;> decide) | (have h1 := hb28; revert h1; cases beg a x.o.key <;> cases ltB x.o.after a <;> decide)
       rw [hsel] at hft
       simp only [Bool.false_eq_true, if_false, List.append_nil] at hft
       refine J.again (j + 1, pa, ca) ⟨by show j + 1 ≤ _; omega, by show ((ks.take (j + 1)).filter (lsel x.o)).length ≤ _; rw [hft]; exact ha⟩ (by show ks.length - (j + 1) < ks.length - j; omega) ⟨rfl, rfl, rfl, (by show _ = some (Value.slice p17 _ _); rw [hpp]; rfl), rfl, rfl, trivial⟩ ?_
       show _ = [own 9 1 (.slice pa ((ks.take (j + 1)).filter (lsel x.o)).length ca) (((ks.take (j + 1)).filter (lsel x.o)).map Value.string), _, _, _, pt b5 (.cells [Value.int .i64 200, .int .u64 0, .slice pa ((ks.take (j + 1)).filter (lsel x.o)).length ca, .bool false, .slice dp 0 dc].toArray 44 (0, 0)), _, _, _, _]
       rw [hft]
      refine J.cond_f rfl <| J.cskip <| J.then_n <| J.seq <| J.seq <| J.region <| J.p rfl (Q.fa (n := 2) runUnderlying44 rfl rfl sizeOf41 rfl) ?_
      refine J.p rfl (Q.ldI isAgg41 rfl) ?_
      refine J.p rfl (Q.lenSl runUnderlying41 rfl) <| J.p rfl (Q.fa (n := 5) runUnderlying52 rfl rfl sizeOf3 rfl) ?_
      refine J.p rfl (Q.ldI isAgg3 rfl) ?_
      refine J.p rfl (Q.eql rfl rfl) <| J.p rfl (Q.fa (n := 3) runUnderlying44 rfl rfl sizeOf4 rfl) ?_
      refine J.stJ rfl sizeOf4 rfl rfl rfl ?_
      refine J.nil <| J.then_n <| J.seq <| J.region <| J.p rfl (Q.fa (n := 3) runUnderlying44 rfl rfl sizeOf4 rfl) ?_
      refine J.p rfl (Q.ldI isAgg4 rfl) ?_
      refine J.nil <| J.then_n ?_
      refine J.kases 42 rfl (fun hc42 => ?_) (fun hc42 => ?_)
      ·
       refine J.cond_t rfl <| J.exit <| J.then_x <| J.blk_o rfl <| J.then_x <| J.lp_x <| J.blk_x ?_
       have hsel : lsel x.o a = true := by unfold lsel; first | (have h1 := hb28; have h2 : ltB x.o.after a = true := (by simpa using hc33); revert h1 h2; cases beg a x.o.key <;> cases ltB x.o.after a <;> decide) | (have h1 := hb28; revert h1; cases beg a x.o.key <;> cases ltB x.o.after a <;> decide)
       obtain ⟨r, hr⟩ := filter_more hka hsel
       have hdt := decide_eq_true hc42
       dsimp only at hc42
       have hal : ((ks.take j).filter (lsel x.o)).length = x.o.n.toNat := by omega
       refine J.keep [0, 1, 3, 4, 5, 7, 8] rfl ?_
       refine J.meet ((ks.take j).filter (lsel x.o), pa, ca, true) ⟨?_, ?_⟩ ⟨rfl, rfl, trivial⟩ ?_
       · show _ = List.take _ _
         rw [hlst, hr, ← hal, List.take_left]
       · show true = _
         rw [hlst, hr, ← hal, List.length_append, List.length_cons]
         simp
       · rw [hdt]
      refine J.cond_f rfl <| J.cskip <| J.then_n <| J.region <| J.p rfl (Q.fa (n := 2) runUnderlying44 rfl rfl sizeOf41 rfl) ?_
      refine J.p rfl (Q.ldI isAgg41 rfl) ?_
      refine J.m rfl ?_
      refine J.c rfl rfl (C.bslG (l := [_]) runUnderlying41 sizeOf9 zeroValue9 (by decide) rfl rfl rfl rfl rfl) ?_
      rintro _ _ ⟨b46, rfl, rfl⟩
      refine J.norm rfl ?_
      refine J.conv (Y := own 9 1 (.slice (some ⟨b46, 0, none⟩) 1 1) [.string a]) 0 rfl (own_of_block rfl) ?_
      refine J.slr1 0 rfl fun hs46 => ?_
      refine J.c rfl rfl (C.app (i := 1) runUnderlying41 runUnderlying41 typeInfo9 sizeOf9 zeroValue9 rfl rfl rfl (hs46.within (i := 0) rfl) (by intro v hv; simp at hv; subst hv; rfl) (by rw [show Tryz.t9.bytes = 16 from rfl]; show (_ + 1) * 16 ≤ _; dsimp only; omega) (by decide)) ?_
      rintro _ _ ⟨p47, c47, rfl, rfl⟩
      refine J.norm rfl <| J.p rfl (Q.fa (n := 2) runUnderlying44 rfl rfl sizeOf41 rfl) ?_
      refine J.stJ rfl sizeOf41 rfl rfl rfl ?_
      refine J.nil <| J.blk_n <| J.then_n <| J.region <| J.p rfl (Q.add64 rfl rfl (by omega)) <| J.m rfl <| J.nil ?_
      have hsel : lsel x.o a = true := by unfold lsel; first | (have h1 := hb28; have h2 : ltB x.o.after a = true := (by simpa using hc33); revert h1 h2; cases beg a x.o.key <;> cases ltB x.o.after a <;> decide) | (have h1 := hb28; revert h1; cases beg a x.o.key <;> cases ltB x.o.after a <;> decide)
      have e1 : (ks.take (j + 1)).filter (lsel x.o) = (ks.take j).filter (lsel x.o) ++ [a] := by rw [hft, hsel]; rfl
      have hdf := decide_eq_false hc42
      refine J.keep [1, 2, 3, 4, 5, 6, 7, 8, 9] rfl ?_
      refine J.again (j + 1, p47, c47) ⟨by show j + 1 ≤ _; omega, by show ((ks.take (j + 1)).filter (lsel x.o)).length ≤ _; rw [e1, List.length_append]; dsimp only at hc42; simp only [List.length_cons, List.length_nil]; omega⟩ (by show ks.length - (j + 1) < ks.length - j; omega) ⟨rfl, rfl, rfl, (by show _ = some (Value.slice p17 _ _); rw [hpp]; rfl), rfl, rfl, trivial⟩ ?_
      show _ = [own 9 1 (.slice p47 ((ks.take (j + 1)).filter (lsel x.o)).length c47) (((ks.take (j + 1)).filter (lsel x.o)).map Value.string), _, _, _, pt b5 (.cells [Value.int .i64 200, .int .u64 0, .slice p47 ((ks.take (j + 1)).filter (lsel x.o)).length c47, .bool false, .slice dp 0 dc].toArray 44 (0, 0)), _, _, _, _]
      rw [e1, List.length_append, List.map_append, hdf]
      rfl
     refine J.cond_f rfl <| J.exit <| J.then_x <| J.lp_x <| J.blk_x ?_
     have hjn : j = ks.length := by omega
     subst hjn
     rw [List.take_length] at ha ⊢
     refine J.keep [0, 1, 3, 4, 5, 7, 8] rfl ?_
     refine J.meet (ks.filter (lsel x.o), pa, ca, false) ⟨?_, ?_⟩ ⟨rfl, rfl, trivial⟩ rfl
     · show _ = List.take _ _
       rw [hlst, List.take_of_length_le ha]
     · show false = _
       rw [hlst]
       simp; omega
    obtain ⟨kl, pk, ck, more⟩ := w
    obtain ⟨h1, h2⟩ := hw
    dsimp only at h1 h2
    refine J.seq <| J.region ?_
    refine J.p rfl (Q.ldN (vs := [_, _, _, _, _]) isAgg44 sizeOf44 rfl rnI) ?_
    refine J.stAJ (vs := [_, _, _, _, _]) rfl sizeOf44 rfl rfl ?_
    refine J.nil <| J.then_n <| J.cret ?_
    refine J.pack [0, 1] rfl ?_
    refine J.retC [1, 0, 4, 5] (vs := [_, _, _, _, _]) rfl rfl isAgg44 sizeOf44 (ReadsN.pt 3 rfl) rfl (B := [_, _, _]) ⟨⟨⟨200, 0, kl, more, []⟩, pk, ck, dp, dc⟩, rfl, ?_, rfl⟩
    rw [h1, h2]
theorem list_no (hB : sget x.o.bucket M.buckets = none) : FSpec Tryz.prog 89 [.pointer (some ⟨m, 0, none⟩), .agg x.cells.toArray] [BktAt m M, G] (ActR m G (st 404, M)) := (list_no_all m M hM hK hk x G hx hc h6).1 hB
theorem list_yes {objs : Objs} (hB : sget x.o.bucket M.buckets = some objs) : FSpec Tryz.prog 89 [.pointer (some ⟨m, 0, none⟩), .agg x.cells.toArray] [BktAt m M, G] (ActR m G (⟨200, 0, (listed x.o objs).take x.o.n.toNat, decide (x.o.n.toNat < (listed x.o objs).length), []⟩, M)) := (list_no_all m M hM hK hk x G hx hc h6).2 hB
theorem list_spec : FSpec Tryz.prog 89 [.pointer (some ⟨m, 0, none⟩), .agg x.cells.toArray] [BktAt m M, G] (ActR m G (M.list x.o)) := by
  unfold BM.list
  cases hB : sget x.o.bucket M.buckets with
  | none => exact list_no m M hM hK hk x G hx hc h6 hB
  | some objs => exact list_yes m M hM hK hk x G hx hc h6 hB
end

theorem do_all {k : Nat} (m : Nat) (M : BM) (hM : M.ok k) (hK : M.kok) (hk : k ≤ 32768) (x : OW) (G : Assn) (hx : x.ok G) : FSpec Tryz.prog 51 [.pointer (some ⟨m, 0, none⟩), .agg x.cells.toArray] [BktAt m M, G] (ActR m G (M.run x.o)) :=
  do_spec m M hM x G hx fun hc => hasAct m M hM x G hx hc fun h6 => list_spec m M hM hK hk x G hx hc h6
end Go.Proofs.YtidbcaimgahllaaGreat
namespace Go.Proofs.YtidbcaimgahllaaGreat
open Go.Proofs.Tryz
open Go.X

theorem definite_spec (n : Int) : FSpec Tryz.prog 17 [.int .i64 n] [] (fun v B => v = .bool (decide (n = 200) || decide (n = 400) || decide (n = 404) || decide (n = 409) || decide (n = 413)) ∧ B = []) := by
  refine FSpec.of func17 rfl ntmps17 rfl fun W0 F => ?_
  refine J.seq <| J.region <| J.p rfl (Q.asg rfl) <| J.nil <| J.then_n <| J.seq <| J.seq <| J.region <| J.m rfl <| J.nil <| J.then_n <| J.block <| J.seq <| J.seq <| J.region <| J.p rfl (Q.eql rfl rfl) <| J.p rfl (Q.asg rfl) <| J.nil <| J.then_n ?_
  refine J.kases 4 rfl (fun hc4 => ?_) (fun hc4 => ?_)
  ·
   refine J.cond_t rfl <| J.cskip <| J.then_n <| J.cond_t rfl <| J.seq <| J.region <| J.p rfl (Q.asg rfl) <| J.nil <| J.then_n <| J.cret <| J.blk_r <| J.then_r ?_
   first
    | (have e : (decide (n = 200) || decide (n = 400) || decide (n = 404) || decide (n = 409) || decide (n = 413)) = true := by simp; omega
       refine J.ret1I [] rfl rfl ⟨by rw [e], rfl⟩)
    | (have e : (decide (n = 200) || decide (n = 400) || decide (n = 404) || decide (n = 409) || decide (n = 413)) = false := by simp; omega
       refine J.ret1I [] rfl rfl ⟨by rw [e], rfl⟩)
  refine J.cond_f rfl <| J.seq <| J.region <| J.p rfl (Q.eql rfl rfl) <| J.p rfl (Q.asg rfl) <| J.nil <| J.then_n ?_
  refine J.kases 4 rfl (fun hc4 => ?_) (fun hc4 => ?_)
  ·
   refine J.cond_t rfl <| J.cskip <| J.then_n <| J.cond_t rfl <| J.seq <| J.region <| J.p rfl (Q.asg rfl) <| J.nil <| J.then_n <| J.cret <| J.blk_r <| J.then_r ?_
   first
    | (have e : (decide (n = 200) || decide (n = 400) || decide (n = 404) || decide (n = 409) || decide (n = 413)) = true := by simp; omega
       refine J.ret1I [] rfl rfl ⟨by rw [e], rfl⟩)
    | (have e : (decide (n = 200) || decide (n = 400) || decide (n = 404) || decide (n = 409) || decide (n = 413)) = false := by simp; omega
       refine J.ret1I [] rfl rfl ⟨by rw [e], rfl⟩)
  refine J.cond_f rfl <| J.seq <| J.region <| J.p rfl (Q.eql rfl rfl) <| J.p rfl (Q.asg rfl) <| J.nil <| J.then_n ?_
  refine J.kases 4 rfl (fun hc4 => ?_) (fun hc4 => ?_)
  ·
   refine J.cond_t rfl <| J.cskip <| J.then_n <| J.cond_t rfl <| J.seq <| J.region <| J.p rfl (Q.asg rfl) <| J.nil <| J.then_n <| J.cret <| J.blk_r <| J.then_r ?_
   first
    | (have e : (decide (n = 200) || decide (n = 400) || decide (n = 404) || decide (n = 409) || decide (n = 413)) = true := by simp; omega
       refine J.ret1I [] rfl rfl ⟨by rw [e], rfl⟩)
    | (have e : (decide (n = 200) || decide (n = 400) || decide (n = 404) || decide (n = 409) || decide (n = 413)) = false := by simp; omega
       refine J.ret1I [] rfl rfl ⟨by rw [e], rfl⟩)
  refine J.cond_f rfl <| J.seq <| J.region <| J.p rfl (Q.eql rfl rfl) <| J.p rfl (Q.asg rfl) <| J.nil <| J.then_n ?_
  refine J.kases 4 rfl (fun hc4 => ?_) (fun hc4 => ?_)
  ·
   refine J.cond_t rfl <| J.cskip <| J.then_n <| J.cond_t rfl <| J.seq <| J.region <| J.p rfl (Q.asg rfl) <| J.nil <| J.then_n <| J.cret <| J.blk_r <| J.then_r ?_
   first
    | (have e : (decide (n = 200) || decide (n = 400) || decide (n = 404) || decide (n = 409) || decide (n = 413)) = true := by simp; omega
       refine J.ret1I [] rfl rfl ⟨by rw [e], rfl⟩)
    | (have e : (decide (n = 200) || decide (n = 400) || decide (n = 404) || decide (n = 409) || decide (n = 413)) = false := by simp; omega
       refine J.ret1I [] rfl rfl ⟨by rw [e], rfl⟩)
  refine J.cond_f rfl <| J.region <| J.p rfl (Q.eql rfl rfl) <| J.p rfl (Q.asg rfl) <| J.nil <| J.then_n ?_
  refine J.kases 4 rfl (fun hc4 => ?_) (fun hc4 => ?_)
  ·
   refine J.cond_t rfl <| J.seq <| J.region <| J.p rfl (Q.asg rfl) <| J.nil <| J.then_n <| J.cret <| J.blk_r <| J.then_r ?_
   first
    | (have e : (decide (n = 200) || decide (n = 400) || decide (n = 404) || decide (n = 409) || decide (n = 413)) = true := by simp; omega
       refine J.ret1I [] rfl rfl ⟨by rw [e], rfl⟩)
    | (have e : (decide (n = 200) || decide (n = 400) || decide (n = 404) || decide (n = 409) || decide (n = 413)) = false := by simp; omega
       refine J.ret1I [] rfl rfl ⟨by rw [e], rfl⟩)
  refine J.cond_f rfl <| J.cskip <| J.blk_n <| J.then_n <| J.seq <| J.region <| J.p rfl (Q.asg rfl) <| J.nil <| J.then_n <| J.cret ?_
  first
   | (have e : (decide (n = 200) || decide (n = 400) || decide (n = 404) || decide (n = 409) || decide (n = 413)) = true := by simp; omega
      refine J.ret1I [] rfl rfl ⟨by rw [e], rfl⟩)
   | (have e : (decide (n = 200) || decide (n = 400) || decide (n = 404) || decide (n = 409) || decide (n = 413)) = false := by simp; omega
      refine J.ret1I [] rfl rfl ⟨by rw [e], rfl⟩)

structure CW where
  index : Nat
  bs : List UInt8
  p : Option Addr
  c : Nat
abbrev CW.cells (x : CW) : List Value := [.int .u64 x.index, .slice x.p x.bs.length x.c]
theorem CW.len (x : CW) : x.cells.length = 2 := rfl
structure Coms (G : Assn) (lp : Option Addr) (lc : Nat) (l : List CW) (ds : List DM) : Prop where
  rd : SlR [G] 2 (.slice lp l.length lc) (l.flatMap CW.cells)
  ok : ∀ x, x ∈ l → SlP G x.p x.c x.bs
  small : l.length ≤ 32768
  dec : ∀ (i : Nat) (x : CW), l[i]? = some x → ∃ d, ds[i]? = some d ∧ DecIs x.bs d
  dl : ds.length = l.length

structure SM where
  o : OM
  point : Bool
def DM.m (d : DM) : SM := ⟨d.o, d.point⟩
structure SW where
  y : OW
  point : Bool
def SW.m (w : SW) : SM := ⟨w.y.o, w.point⟩
abbrev SW.cells (w : SW) : List Value := [.int .u64 w.y.o.id, .int .i64 w.y.o.kind, .string w.y.o.bucket, .string w.y.o.key, .string w.y.o.after, .int .i64 w.y.o.n, .int .u64 w.y.o.upload, .slice w.y.pp w.y.o.parts.length w.y.pc, .slice w.y.dp w.y.o.data.length w.y.dc, .bool w.point]
theorem SW.len (x : SW) : x.cells.length = 10 := rfl
theorem SW.one (x : SW) : ∀ v, v ∈ x.cells → oneC v = true := by
  intro v hv
  simp only [SW.cells, List.mem_cons, List.not_mem_nil, or_false] at hv
  rcases hv with rfl | rfl | rfl | rfl | rfl | rfl | rfl | rfl | rfl | rfl <;> rfl
def SW.asn (w : SW) : Assn := w.y.asn

section
variable (G : Assn) (lp : Option Addr) (lc : Nat) (l : List CW) (ds : List DM) (hl : Coms G lp lc l ds)
include hl
theorem read_ok (hi : ∀ (i : Nat) (x : CW), l[i]? = some x → x.index = i + 1) (hb : ∀ d, d ∈ ds → d.bad = false) : FSpec Tryz.prog 20 [.slice lp l.length lc] [G]
    (fun u B => ∃ (ws : List SW) (p : Option Addr) (c : Nat), u = .tuple #[.slice p ws.length c, .int .i64 0] ∧ ws.map SW.m = ds.map DM.m ∧ (∀ w, w ∈ ws → w.y.ok w.asn) ∧ B = [own 127 10 (.slice p ws.length c) (ws.flatMap SW.cells), star (ws.map SW.asn), G]) := by
  have hsml := hl.small
  have hdl := hl.dl
  refine FSpec.of func20 rfl ntmps20 rfl fun W0 F => ?_
  refine J.seq <| J.region <| J.p rfl (Q.asg rfl) <| J.p rfl (Q.asg rfl) <| J.nil <| J.then_n <| J.seq <| J.region <| J.p rfl (Q.asg rfl) <| J.nil <| J.then_n <| J.seq <| J.seq <| J.region <| J.m rfl <| J.p rfl (Q.lenSl runUnderlying25 rfl) <| J.m rfl <| J.nil <| J.then_n <| J.block ?_
  refine J.loop (fun i : Nat => i ≤ l.length) (fun i => l.length - i) (fun i => [(0, .slice lp l.length lc), (4, .slice none 0 0), (13, .slice lp l.length lc), (14, .int .i64 l.length), (15, .int .i64 i)]) (fun _ => [G, F]) 0 (Nat.zero_le _) ⟨rfl, rfl, rfl, rfl, rfl, trivial⟩ rfl fun i hil => ?_
  refine J.seq <| J.region <| J.p rfl (Q.lss rfl rfl) <| J.nil <| J.then_n <| J.seq ?_
  refine J.kases 16 rfl (fun hc16 => ?_) (fun hc16 => ?_)
  ·
   refine J.cond_t rfl <| J.cskip <| J.then_n <| J.seq <| J.block <| J.seq ?_
   have hlt : i < l.length := by omega
   obtain ⟨b, off, hlp, hrd⟩ := hl.rd.some_ (by omega)
   obtain ⟨x, hx⟩ : ∃ x, l[i]? = some x := ⟨_, List.getElem?_eq_getElem (by omega)⟩
   have hix := hi i x hx
   refine J.slot 13 (.slice (some ⟨b, off, none⟩) l.length lc) rfl (by rw [hlp]) ?_
   refine J.region <| J.m rfl <| J.p rfl (Q.ia runUnderlying25 sizeOf56 rfl rfl (by omega) (by omega)) <| J.p rfl (Q.ldN (vs := [_, _]) isAgg56 sizeOf56 rfl ((rd_elem CW.len hrd hx (by simp)).inI)) ?_
   refine J.c rfl rfl (C.alloc (l := [_, _]) zeroValue56 rfl) ?_
   rintro _ _ ⟨b6, rfl, rfl⟩
   refine J.norm rfl <| J.p rfl (Q.asg rfl) ?_
   refine J.stAJ (vs := [_, _]) rfl sizeOf56 rfl rfl ?_
   refine J.nil <| J.then_n <| J.seq <| J.region <| J.p rfl (Q.fa (n := 0) runUnderlying56 rfl rfl sizeOf40 rfl) ?_
   refine J.p rfl (Q.ldI isAgg40 rfl) ?_
   refine J.m rfl <| J.p rfl (Q.add64 rfl rfl (by omega)) <| J.p rfl (Q.conv runUnderlying3 runUnderlying40 rfl) ?_
   refine J.slot 24 (.int .u64 ((i + 1 : Nat) : Int)) rfl (by rw [show ((i : Int) + 1) = ((i + 1 : Nat) : Int) by omega, wrap64 (by omega)]) ?_
   refine J.p rfl (Q.neq rfl rfl) <| J.nil <| J.then_n ?_
   refine J.cases 25 rfl (fun hc25 => ?_) (fun hc25 => ?_)
   ·
    (exfalso; have hq := X.nm hc25; rw [hix] at hq; exact hq rfl)
   replace hc25 := X.nm hc25
   refine J.cond_f rfl <| J.cskip <| J.blk_n <| J.then_n <| J.region <| J.p rfl (Q.add64 rfl rfl (by omega)) <| J.m rfl <| J.nil ?_
   refine J.againI (i + 1) (by show i + 1 ≤ _; omega) (by show l.length - (i + 1) < l.length - i; omega) ⟨rfl, rfl, (by show _ = some (Value.slice lp l.length lc); rw [hlp]; rfl), rfl, rfl, trivial⟩
  refine J.cond_f rfl <| J.exit <| J.then_x <| J.lp_x <| J.blk_x <| J.then_n <| J.seq <| J.seq <| J.region <| J.m rfl <| J.p rfl (Q.lenSl runUnderlying25 rfl) <| J.m rfl <| J.nil <| J.then_n <| J.block ?_
  refine J.give (own.nil 127 10 _) ?_
  refine J.give (X := star (([] : List SW).map SW.asn)) trivial ?_
  refine J.keepI [own 127 10 (.slice none 0 0) [], star (([] : List SW).map SW.asn), G, F] ?_
  refine J.loop4 (fun (j : Nat) (ws : List SW) (_ : Option Addr) (_ : Nat) => j ≤ l.length ∧ ws.length = j ∧ ws.map SW.m = (ds.take j).map DM.m ∧ ∀ w, w ∈ ws → w.y.ok w.asn) (fun j _ _ _ => l.length - j)
   (fun j ws p c => [(4, .slice p ws.length c), (27, .slice lp l.length lc), (28, .int .i64 l.length), (29, .int .i64 j)])
   (fun j ws p c => [own 127 10 (.slice p ws.length c) (ws.flatMap SW.cells), star (ws.map SW.asn), G, F]) 0 [] none 0 ⟨Nat.zero_le _, rfl, rfl, by simp⟩ ⟨rfl, rfl, rfl, rfl, trivial⟩ rfl fun j ws p c hz => ?_
  obtain ⟨hj, hwl, hwm, hwo⟩ := hz
  refine J.seq <| J.region <| J.p rfl (Q.lss rfl rfl) <| J.nil <| J.then_n <| J.seq ?_
  refine J.kases 30 rfl (fun hc30 => ?_) (fun hc30 => ?_)
  ·
   refine J.cond_t rfl <| J.cskip <| J.then_n <| J.seq <| J.block <| J.seq ?_
   have hlt : j < l.length := by omega
   obtain ⟨b, off, hlp, hrd⟩ := hl.rd.some_ (by omega)
   obtain ⟨x, hx⟩ : ∃ x, l[j]? = some x := ⟨_, List.getElem?_eq_getElem (by omega)⟩
   obtain ⟨d, hd, hdec⟩ := hl.dec j x hx
   have hdb := hb d (List.mem_of_getElem? hd)
   refine J.slot 27 (.slice (some ⟨b, off, none⟩) l.length lc) rfl (by rw [hlp]) ?_
   refine J.region <| J.p rfl (Q.ia runUnderlying25 sizeOf56 rfl rfl (by omega) (by omega)) <| J.p rfl (Q.ldN (vs := [_, _]) isAgg56 sizeOf56 rfl ((rd_elem CW.len hrd hx (by simp)).inI)) ?_
   refine J.c rfl rfl (C.alloc (l := [_, _]) zeroValue56 rfl) ?_
   rintro _ _ ⟨b8, rfl, rfl⟩
   refine J.norm rfl ?_
   refine J.stAJ (vs := [_, _]) rfl sizeOf56 rfl rfl ?_
   refine J.nil <| J.then_n <| J.seq <| J.region <| J.p rfl (Q.fa (n := 1) runUnderlying56 rfl rfl sizeOf42 rfl) ?_
   refine J.p rfl (Q.ldI isAgg42 rfl) ?_
   refine J.callI call19 (hdec G x.p x.c (hl.ok x (List.mem_of_getElem? hx))) rfl rfl rfl ?_
   rintro _ _ ⟨y, zp, rfl, hyo, hyk, rfl⟩
   refine J.norm rfl ?_
   refine J.slot 36 (.tuple #[.agg y.cells.toArray, .agg zp.cells.toArray, .bool d.point, .int .i64 0]) rfl (by rw [hdb]; rfl) ?_
   refine J.m rfl <| J.p rfl (Q.ext rfl rfl) <| J.p rfl (Q.ext rfl rfl) <| J.p rfl (Q.ext rfl rfl) <| J.p rfl (Q.ext rfl rfl) ?_
   refine J.c rfl rfl (C.alloc (l := [_, _, _, _, _, _, _, _, _]) zeroValue52 rfl) ?_
   rintro _ _ ⟨b9, rfl, rfl⟩
   refine J.norm rfl ?_
   refine J.c rfl rfl (C.alloc (l := [_, _, _, _, _, _, _, _, _]) zeroValue67 rfl) ?_
   rintro _ _ ⟨b10, rfl, rfl⟩
   refine J.norm rfl ?_
   refine J.stAJ (vs := [_, _, _, _, _, _, _, _, _]) rfl sizeOf52 rfl rfl ?_
   refine J.stAJ (vs := [_, _, _, _, _, _, _, _, _]) rfl sizeOf67 rfl rfl ?_
   refine J.p rfl (Q.asg rfl) <| J.p rfl (Q.asg rfl) <| J.nil <| J.then_n <| J.seq <| J.seq <| J.region <| J.m rfl <| J.p rfl (Q.neq rfl rfl) <| J.nil <| J.then_n ?_
   refine J.kases 42 rfl (fun hc42 => ?_) (fun hc42 => ?_)
   ·
    simp at hc42
   refine J.cond_f rfl <| J.cskip <| J.then_n <| J.region <| J.m rfl ?_
   refine J.p rfl (Q.ldN (vs := [_, _, _, _, _, _, _, _, _]) isAgg52 sizeOf52 rfl rnI) ?_
   refine J.m rfl <| J.p rfl (Q.bld (l := SW.cells ⟨y, d.point⟩) runUnderlying127 zeroValue127 places127 rfl (by kernel_rfl)) ?_
   refine J.c rfl rfl (C.bslG (l := [_, _, _, _, _, _, _, _, _, _]) runUnderlying76 sizeOf127 zeroValue127 (by decide) rfl rfl rfl rfl rfl) ?_
   rintro _ _ ⟨b47, rfl, rfl⟩
   refine J.norm rfl ?_
   refine J.c rfl rfl (C.appI runUnderlying76 runUnderlying76 typeInfo127 sizeOf127 zeroValue127 rfl rfl (SlR.ptI rfl) (SW.one ⟨y, d.point⟩) (by simp [Tryz.t127] <;> omega) (by decide)) ?_
   rintro _ _ ⟨p48, c48, rfl, rfl⟩
   refine J.norm rfl <| J.p rfl (Q.asg rfl) <| J.nil <| J.blk_n <| J.then_n <| J.region <| J.p rfl (Q.add64 rfl rfl (by omega)) <| J.m rfl <| J.nil ?_
   refine J.convI y.asn (SW.asn ⟨y, d.point⟩) (fun _ h => h) ?_
   refine J.shutI [SW.asn ⟨y, d.point⟩, star (ws.map SW.asn)] (star ((ws ++ [(⟨y, d.point⟩ : SW)]).map SW.asn)) (star_snoc _) ?_
   have e1 : ws.length + 1 = (ws ++ [(⟨y, d.point⟩ : SW)]).length := by simp
   have e2 : ws.flatMap SW.cells ++ SW.cells ⟨y, d.point⟩ = (ws ++ [(⟨y, d.point⟩ : SW)]).flatMap SW.cells := by simp
   have e3 : ds.take (j + 1) = ds.take j ++ [d] := by
    obtain ⟨q1, q2⟩ := List.getElem?_eq_some_iff.1 hd
    rw [List.take_succ_eq_append_getElem q1, q2]
   rw [e1, e2]
   refine J.againI (j + 1, ws ++ [(⟨y, d.point⟩ : SW)], p48, c48) ⟨by show j + 1 ≤ _; omega, by show (ws ++ [(⟨y, d.point⟩ : SW)]).length = j + 1; rw [← e1, hwl], ?_, ?_⟩ (by show l.length - (j + 1) < l.length - j; omega) ⟨rfl, (by show _ = some (Value.slice lp l.length lc); rw [hlp]; rfl), rfl, rfl, trivial⟩
   · show (ws ++ [(⟨y, d.point⟩ : SW)]).map SW.m = (ds.take (j + 1)).map DM.m
     rw [e3, List.map_append, List.map_append, hwm, List.map_singleton, List.map_singleton]
     show _ ++ [SM.mk y.o d.point] = _ ++ [SM.mk d.o d.point]
     rw [hyo]
   · intro w hw
     rcases List.mem_append.1 hw with h | h
     · exact hwo w h
     · rw [List.mem_singleton.1 h]; exact hyk
  refine J.cond_f rfl <| J.exit <| J.then_x <| J.lp_x <| J.blk_x <| J.then_n <| J.seq <| J.region <| J.m rfl <| J.p rfl (Q.asg rfl) <| J.p rfl (Q.asg rfl) <| J.nil <| J.then_n <| J.cret ?_
  have htk : ds.take j = ds := List.take_of_length_le (by omega)
  rw [htk] at hwm
  refine J.ret2I [own 127 10 (.slice p ws.length c) (ws.flatMap SW.cells), star (ws.map SW.asn), G] rfl rfl rfl ⟨ws, p, c, rfl, hwm, hwo, rfl⟩
end
end Go.Proofs.YtidbcaimgahllaaGreat
namespace Go.Proofs.YtidbcaimgahllaaGreat
open Go.X
open Go.X.G (Ord3 ord3_nat ord3_int ord3_str ltB sget sput sdel Srtd)

theorem chk_key {o : OM} (h : o.chkB = true) (hk : o.kind ≤ 7) : o.key.size ≤ 1024 := by
  rw [chk_eq] at h
  unfold OM.chkR at h
  repeat' split at h
  all_goals first
    | (simp only [Bool.and_eq_true, decide_eq_true_eq, longB, emp] at h; have e : o.key.data.toList.length = o.key.size := by simp
       first | omega | (have e2 : o.key.data.toList = [] := by simp_all
                        rw [e2] at e; simp at e; omega))
    | (cases h; done)
    | omega

theorem kok_new : BM.kok ⟨[], [], []⟩ := ⟨(fun _ _ h => by cases h), (fun _ _ h => by cases h)⟩
theorem kok_put {k : Nat} {M : BM} (h : M.kok) (b : ByteArray) {o : Objs} (ho : ∀ p, p ∈ o → p.1.size ≤ 1024) (us : List (Nat × UM)) (hu : ∀ n u, sget n us = some u → u.key.size ≤ 1024) (d) : BM.kok ⟨sput ltB b o M.buckets, us, d⟩ := by
  refine ⟨fun n q hq => ?_, hu⟩
  rw [X.G.sget_put ord3_str] at hq
  split at hq
  · cases hq; exact ho
  · exact h.ob n q hq
theorem keys_put {k : Nat} {o : Objs} (hs : Srtd ltB o) (h : ∀ p, p ∈ o → p.1.size ≤ 1024) {a : ByteArray} (ha : a.size ≤ 1024) (d : List UInt8) : ∀ p, p ∈ sput ltB a d o → p.1.size ≤ 1024 := by
  intro p hp
  have := (X.G.sput_perm ord3_str (hs.nodup ord3_str) a d).mem_iff.1 hp
  rcases List.mem_cons.1 this with rfl | h'
  · exact ha
  · exact h p ((List.mem_filter.1 h').1)

theorem act_kok {k : Nat} {M : BM} (hM : M.ok k) (h : M.kok) {o : OM} (hc : o.chkB = true) : (M.act o).2.kok := by
  have hkey := chk_key hc
  unfold BM.act
  split
  · unfold BM.make
    split
    · exact h
    · exact kok_put (k := 0) h _ (by simp) _ h.up _
  split
  · unfold BM.unmake
    split
    · exact h
    · split
      · exact h
      · refine ⟨fun n q hq => ?_, h.up⟩
        rw [X.G.sget_del] at hq
        split at hq
        · cases hq
        · exact h.ob n q hq
  split
  · unfold BM.put
    split
    · exact h
    · rename_i objs hb
      exact kok_put (k := 0) h _ (keys_put (k := 0) (hM.os _ _ hb).1 (h.ob _ _ hb) (hkey (by omega)) _) _ h.up _
  split
  · have : (M.get o).2 = M := by unfold BM.get; repeat' split
                                 all_goals rfl
    rw [this]; exact h
  split
  · unfold BM.delete
    split
    · exact h
    · rename_i objs hb
      split
      · exact h
      · exact kok_put (k := 0) h _ (fun p hp => h.ob _ _ hb p ((List.mem_filter.1 hp).1)) _ h.up _
  split
  · have : (M.list o).2 = M := by unfold BM.list; split <;> rfl
    rw [this]; exact h
  split
  · unfold BM.begin
    split
    · exact h
    · refine ⟨h.ob, fun n u hu => ?_⟩
      rw [X.G.sget_put ord3_nat] at hu
      split at hu
      · cases hu; exact hkey (by omega)
      · exact h.up n u hu
  split
  · unfold BM.part
    split
    · exact h
    · rename_i u0 hu0
      refine ⟨h.ob, fun n u hu => ?_⟩
      rw [X.G.sget_put ord3_nat] at hu
      split at hu
      · cases hu
        show u0.key.size ≤ 1024
        exact h.up _ _ hu0
      · exact h.up n u hu
  split
  · unfold BM.complete
    split
    · exact h
    · rename_i u0 hu0
      split
      · exact h
      · refine kok_put (k := 0) h _ ?_ _ (fun n u hu => ?_) _
        · obtain ⟨objs, hB⟩ := Option.isSome_iff_exists.1 (hM.ps _ _ hu0).2.1
          rw [hB]
          exact keys_put (k := 0) (hM.os _ _ hB).1 (h.ob _ _ hB) (h.up _ _ hu0) _
        · rw [X.G.sget_del] at hu
          split at hu
          · cases hu
          · exact h.up n u hu
  · unfold BM.abort
    split
    · exact h
    · refine ⟨h.ob, fun n u hu => ?_⟩
      rw [X.G.sget_del] at hu
      split at hu
      · cases hu
      · exact h.up n u hu

theorem run_kok {k : Nat} {M : BM} (hM : M.ok k) (h : M.kok) (o : OM) : (M.run o).2.kok := by
  unfold BM.run
  split
  · rename_i hc
    have ha := act_kok hM h hc
    split
    · exact ha
    · split
      · exact h
      · exact ⟨ha.ob, ha.up⟩
  · exact h

variable {k j : Nat} {name : ByteArray} {mine : Nat → Bool} {M N : BM} {o : OM}
end Go.Proofs.YtidbcaimgahllaaGreat
namespace Go.Proofs.YtidbcaimgahllaaGreat
open Go.Proofs.Tryz
open Go.X
open Go.X.G (Ord3 ord3_nat ord3_int ord3_str ltB sget sput sdel Srtd MapAt MapHole valRep)

structure PS where
  M : BM
  rs : List RM
  first : List (Nat × Nat)
def PS.step (z : PS) (s : SM) : PS :=
  if s.point then { z with rs := z.rs ++ [st 0] }
  else ⟨(z.M.run s.o).2, z.rs ++ [(z.M.run s.o).1], if (sget s.o.id z.first).getD 0 = 0 then sput ltN s.o.id (z.rs.length + 1) z.first else z.first⟩
def playP (l : List SM) : PS := l.foldl PS.step ⟨⟨[], [], []⟩, [], []⟩
theorem playP_snoc (l : List SM) (s : SM) : playP (l ++ [s]) = (playP l).step s := by simp [playP]
theorem playP_take {l : List SM} {k : Nat} {s : SM} (h : l[k]? = some s) : playP (l.take (k + 1)) = (playP (l.take k)).step s := by
  obtain ⟨h1, h2⟩ := List.getElem?_eq_some_iff.1 h
  rw [List.take_succ_eq_append_getElem h1, h2, playP_snoc]
structure PS.ok (k : Nat) (z : PS) : Prop where
  m : z.M.ok k
  kok : z.M.kok
  srt : Srtd ltN z.first
  len : z.rs.length = k
  small : ∀ r, r ∈ z.rs → r.keys.length ≤ 1000 ∧ r.data.length ≤ 274877906944
theorem PS.ok.step {k : Nat} {z : PS} (h : z.ok k) (s : SM) : (z.step s).ok (k + 1) := by
  unfold PS.step
  split
  · refine ⟨h.m.mono (Nat.le_succ k), h.kok, h.srt, by simp [h.len], fun r hr => ?_⟩
    rcases List.mem_append.1 hr with q | q
    · exact h.small r q
    · rw [List.mem_singleton.1 q]; simp [st]
  · refine ⟨run_ok h.m s.o, run_kok h.m h.kok s.o, ?_, by simp [h.len], fun r hr => ?_⟩
    · dsimp only
      split
      · exact X.G.srtd_put ord3_nat h.srt _ _
      · exact h.srt
    rcases List.mem_append.1 hr with q | q
    · exact h.small r q
    · rw [List.mem_singleton.1 q]; exact run_small h.m s.o
theorem PS.ok.fold : ∀ (l : List SM) {k : Nat} {z : PS}, z.ok k → (l.foldl PS.step z).ok (k + l.length)
  | [], _, _, h => h
  | s :: l, k, z, h => by
    have := PS.ok.fold l (h.step s)
    rw [List.foldl_cons, List.length_cons, show k + (l.length + 1) = k + 1 + l.length by omega]; exact this
theorem playP_ok (l : List SM) : (playP l).ok l.length := by
  have := PS.ok.fold l (k := 0) (z := ⟨⟨[], [], []⟩, [], []⟩) ⟨BM.ok.new, kok_new, List.Pairwise.nil, rfl, by simp⟩
  rwa [Nat.zero_add] at this
theorem getD_enc (o : Option Nat) : (o.map encU).getD (.int .u64 0) = Value.int .u64 ((o.getD 0 : Nat) : Int) := by cases o <;> rfl

structure JM where
  l : List SM
  rs : List RM
  first : List (Nat × Nat)
  asked : List (Nat × Bool)
  before : List (Nat × Nat)
  most : Nat
structure JM.ok (H : JM) : Prop where
  first : Srtd ltN H.first
  asked : Srtd ltN H.asked
  before : Srtd ltN H.before
  len : H.rs.length = H.l.length
  small : H.l.length ≤ 32768
  rs : ∀ r, r ∈ H.rs → r.keys.length ≤ 1000 ∧ r.data.length ≤ 274877906944
structure HZ where
  ws : List SW
  lp : Option Addr
  lc : Nat
  rws : List RW
  rp : Option Addr
  rc : Nat
  f : Nat
  a : Nat
  b : Nat
abbrev HZ.asns (h : Nat) (H : JM) (z : HZ) : List Assn :=
  [pt h (.cells [.slice z.lp z.ws.length z.lc, .slice z.rp z.rws.length z.rc, .map (some z.f), .map (some z.a), .map (some z.b), .int .u64 H.most].toArray 86 (0, 0)), own 44 5 (.slice z.rp z.rws.length z.rc) (z.rws.flatMap RW.cells), star (z.rws.map RW.asn),
   MapAt encU (valRep encU) z.f H.first, MapAt encU (valRep Value.bool) z.a H.asked, MapAt encU (valRep encU) z.b H.before, own 127 10 (.slice z.lp z.ws.length z.lc) (z.ws.flatMap SW.cells), star (z.ws.map SW.asn)]
structure HZ.of (H : JM) (z : HZ) : Prop where
  l : z.ws.map SW.m = H.l
  rs : z.rws.map (·.r) = H.rs
def HAt (h : Nat) (H : JM) : Assn := fun q => ∃ z : HZ, z.of H ∧ HSat q (z.asns h H)
def begM (l : List SM) : JM := ⟨l, (playP l).rs, (playP l).first, [], [], 0⟩
theorem begM_ok {l : List SM} (h : l.length ≤ 32768) : (begM l).ok := by
  have := playP_ok l
  exact ⟨this.srt, List.Pairwise.nil, List.Pairwise.nil, this.len, h, this.small⟩

theorem ok_star {ws : List SW} {i : Nat} {w : SW} (hi : ws[i]? = some w) (h : w.y.ok w.asn) : w.y.ok (star (ws.map SW.asn)) :=
  ⟨h.parts.into i (by rw [List.getElem?_map, hi]; rfl), h.data.into i (by rw [List.getElem?_map, hi]; rfl), h.small⟩

theorem rw_one (r : RW) : ∀ v, v ∈ r.cells → oneC v = true := by
  have := RW.cells_one (l := [r])
  rwa [List.flatMap_cons, List.flatMap_nil, List.append_nil] at this

theorem jbegin_spec (ws : List SW) (lp : Option Addr) (lc : Nat) (hok : ∀ w, w ∈ ws → w.y.ok w.asn) (hn : ws.length ≤ 32768) : FSpec Tryz.prog 21 [.slice lp ws.length lc] [own 127 10 (.slice lp ws.length lc) (ws.flatMap SW.cells), star (ws.map SW.asn)]
    (fun u B => ∃ h, u = .pointer (some ⟨h, 0, none⟩) ∧ B = [HAt h (begM (ws.map SW.m))]) := by
  refine FSpec.of func21 rfl ntmps21 rfl fun W0 F => ?_
  refine J.slrI (E0 := 127) (sz := 10) (p := lp) (n := ws.length) (c := lc) (xs := ws.flatMap SW.cells) fun hsl => ?_
  refine J.seq <| J.region <| J.p rfl (Q.asg rfl) <| J.nil <| J.then_n <| J.seq <| J.region <| J.m rfl ?_
  refine J.c rfl rfl C.mkMap ?_
  rintro _ _ ⟨b9, rfl, rfl⟩
  refine J.norm rfl ?_
  refine J.c rfl rfl C.mkMap ?_
  rintro _ _ ⟨b10, rfl, rfl⟩
  refine J.norm rfl ?_
  refine J.c rfl rfl C.mkMap ?_
  rintro _ _ ⟨b11, rfl, rfl⟩
  refine J.norm rfl <| J.p rfl (Q.bld (l := [.slice lp ws.length lc, .slice none 0 0, .map (some b9), .map (some b10), .map (some b11), .int .u64 0]) runUnderlying86 zeroValue86 places86 rfl (by kernel_rfl)) ?_
  refine J.c rfl rfl (C.box (l := [_, _, _, _, _, _]) rfl rfl) ?_
  rintro _ _ ⟨b13, rfl, rfl⟩
  refine J.norm rfl ?_
  refine J.convI (pt b9 (.map #[] 0)) (MapAt encU (valRep encU) b9 ([] : List (Nat × Nat))) X.G.MapAt.new ?_
  refine J.convI (pt b10 (.map #[] 0)) (MapAt encU (valRep Value.bool) b10 ([] : List (Nat × Bool))) X.G.MapAt.new ?_
  refine J.convI (pt b11 (.map #[] 0)) (MapAt encU (valRep encU) b11 ([] : List (Nat × Nat))) X.G.MapAt.new ?_
  refine J.p rfl (Q.asg rfl) <| J.nil <| J.then_n <| J.seq <| J.region ?_
  refine J.callI call50 (new_spec) rfl rfl rfl ?_
  rintro _ _ ⟨m, rfl, rfl⟩
  refine J.norm rfl <| J.p rfl (Q.asg rfl) <| J.nil <| J.then_n <| J.seq <| J.seq <| J.region <| J.m rfl <| J.p rfl (Q.lenSl runUnderlying76 rfl) <| J.m rfl <| J.nil <| J.then_n <| J.block ?_
  refine J.give (own.nil 44 5 _) ?_
  refine J.give (X := star (([] : List RW).map RW.asn)) trivial ?_
  refine J.keepI [pt b13 (.cells [.slice lp ws.length lc, .slice none 0 0, .map (some b9), .map (some b10), .map (some b11), .int .u64 0].toArray 86 (0, 0)), own 44 5 (.slice none 0 0) [], star (([] : List RW).map RW.asn), MapAt encU (valRep encU) b9 ([] : List (Nat × Nat)), MapAt encU (valRep Value.bool) b10 ([] : List (Nat × Bool)), MapAt encU (valRep encU) b11 ([] : List (Nat × Nat)), BktAt m ⟨[], [], []⟩, own 127 10 (.slice lp ws.length lc) (ws.flatMap SW.cells), star (ws.map SW.asn), F] ?_
  refine J.loop4 (fun (i : Nat) (rws : List RW) (_ : Option Addr) (_ : Nat) => i ≤ ws.length ∧ rws.map (·.r) = (playP ((ws.map SW.m).take i)).rs) (fun i _ _ _ => ws.length - i)
   (fun i rws p c => [(3, .pointer (some ⟨b13, 0, none⟩)), (4, .pointer (some ⟨m, 0, none⟩)), (15, .slice lp ws.length lc), (16, .int .i64 ws.length), (17, .int .i64 i)])
   (fun i rws p c => [pt b13 (.cells [.slice lp ws.length lc, .slice p rws.length c, .map (some b9), .map (some b10), .map (some b11), .int .u64 0].toArray 86 (0, 0)), own 44 5 (.slice p rws.length c) (rws.flatMap RW.cells), star (rws.map RW.asn), MapAt encU (valRep encU) b9 (playP ((ws.map SW.m).take i)).first, MapAt encU (valRep Value.bool) b10 ([] : List (Nat × Bool)), MapAt encU (valRep encU) b11 ([] : List (Nat × Nat)), BktAt m (playP ((ws.map SW.m).take i)).M, own 127 10 (.slice lp ws.length lc) (ws.flatMap SW.cells), star (ws.map SW.asn), F])
   0 [] none 0 ⟨Nat.zero_le _, rfl⟩ ⟨rfl, rfl, rfl, rfl, rfl, trivial⟩ rfl fun i rws p c hz => ?_
  obtain ⟨hi, hrs⟩ := hz
  refine J.seq <| J.region <| J.p rfl (Q.lss rfl rfl) <| J.nil <| J.then_n <| J.seq ?_
  refine J.kases 18 rfl (fun hc18 => ?_) (fun hc18 => ?_)
  ·
   refine J.cond_t rfl <| J.cskip <| J.then_n <| J.seq <| J.block <| J.seq ?_
   have hlt : i < ws.length := by omega
   obtain ⟨b, off, hlp, hrd⟩ := hsl.some_ (by omega)
   obtain ⟨w, hw⟩ : ∃ w, ws[i]? = some w := ⟨_, List.getElem?_eq_getElem (by omega)⟩
   have hpt := playP_take (l := ws.map SW.m) (k := i) (s := w.m) (by rw [List.getElem?_map, hw]; rfl)
   have hSo := playP_ok ((ws.map SW.m).take i)
   obtain ⟨S, hS⟩ : ∃ S, S = playP ((ws.map SW.m).take i) := ⟨_, rfl⟩
   rw [← hS] at hpt hrs hSo ⊢
   rw [List.length_take, List.length_map, Nat.min_eq_left (by omega)] at hSo
   have hrl : rws.length = i := by rw [← hSo.len, ← hrs, List.length_map]
   have hst := hSo.srt
   refine J.slot 15 (.slice (some ⟨b, off, none⟩) ws.length lc) rfl (by rw [hlp]) ?_
   refine J.region <| J.m rfl <| J.p rfl (Q.ia runUnderlying76 sizeOf127 rfl rfl (by omega) (by omega)) <| J.p rfl (Q.ldN (vs := [_, _, _, _, _, _, _, _, _, _]) isAgg127 sizeOf127 rfl ((rd_elem SW.len hrd hw (by simp)).inI)) ?_
   refine J.c rfl rfl (C.alloc (l := [_, _, _, _, _, _, _, _, _, _]) zeroValue127 rfl) ?_
   rintro _ _ ⟨b6, rfl, rfl⟩
   refine J.norm rfl <| J.p rfl (Q.asg rfl) ?_
   refine J.stAJ (vs := [_, _, _, _, _, _, _, _, _, _]) rfl sizeOf127 rfl rfl ?_
   refine J.nil <| J.then_n <| J.seq <| J.region <| J.p rfl (Q.bld (l := [_, _, _, _, _]) runUnderlying44 zeroValue44 places44 rfl rfl) ?_
   refine J.c rfl rfl (C.alloc (l := [_, _, _, _, _]) zeroValue44 rfl) ?_
   rintro _ _ ⟨b7, rfl, rfl⟩
   refine J.norm rfl ?_
   refine J.stAJ (vs := [_, _, _, _, _]) rfl sizeOf44 rfl rfl ?_
   refine J.nil <| J.then_n ?_
   refine J.cut (fun r : RW => r.r = (if w.point then st 0 else (S.M.run w.y.o).1)) (fun r => [(3, .pointer (some ⟨b13, 0, none⟩)), (4, .pointer (some ⟨m, 0, none⟩)), (7, .pointer (some ⟨b7, 0, none⟩)), (15, .slice (some ⟨b, off, none⟩) ws.length lc), (16, .int .i64 ws.length), (17, .int .i64 i)])
    (fun r => [pt b13 (.cells [.slice lp ws.length lc, .slice p rws.length c, .map (some b9), .map (some b10), .map (some b11), .int .u64 0].toArray 86 (0, 0)), own 44 5 (.slice p rws.length c) (rws.flatMap RW.cells), star (rws.map RW.asn), MapAt encU (valRep encU) b9 (S.step w.m).first, MapAt encU (valRep Value.bool) b10 ([] : List (Nat × Bool)), MapAt encU (valRep encU) b11 ([] : List (Nat × Nat)), BktAt m (S.step w.m).M, own 127 10 (.slice lp ws.length lc) (ws.flatMap SW.cells), star (ws.map SW.asn),
     pt b7 (.cells r.cells.toArray 44 (0, 0)), r.asn, F]) ?_ fun r hr => ?_
   ·
    refine J.seq <| J.region <| J.p rfl (Q.fa (n := 9) runUnderlying127 rfl rfl sizeOf4 rfl) ?_
    refine J.p rfl (Q.ldI isAgg4 rfl) ?_
    refine J.p rfl (Q.not rfl) <| J.nil <| J.then_n ?_
    refine J.kases 25 rfl (fun hc25 => ?_) (fun hc25 => ?_)
    ·
     refine J.cond_t rfl <| J.seq <| J.region <| J.m rfl <| J.p rfl (Q.fa (n := 0) runUnderlying127 rfl rfl sizeOf52 rfl) <| J.p rfl (Q.ldN (vs := [_, _, _, _, _, _, _, _, _]) isAgg52 sizeOf52 rfl (rnSub 0 rfl)) ?_
     refine J.callI call51 (do_all m S.M hSo.m hSo.kok (by omega) w.y (star (ws.map SW.asn)) (ok_star hw (hok w (List.mem_of_getElem? hw)))) rfl rfl rfl ?_
     rintro _ _ ⟨r, rfl, hr, rfl⟩
     refine J.norm rfl ?_
     refine J.stAJ (vs := [_, _, _, _, _]) rfl sizeOf44 rfl rfl ?_
     refine J.nil <| J.then_n <| J.seq ?_
     refine J.draw [] Tryz.mixed (by kernel_rfl) fun hR => ?_
     refine RG.p 0 hR rfl (Q.mv rfl) <| RG.p 1 hR rfl (Q.nil_ rfl) <| RG.p 2 hR rfl (Q.fa (n := 2) runUnderlying86 rfl rfl sizeOf84 rfl) ?_
     refine RG.p 3 hR rfl (Q.ldI isAgg84 rfl) ?_
     refine RG.p 4 hR rfl (Q.fa (n := 0) runUnderlying127 rfl rfl sizeOf52 rfl) <| RG.p 5 hR rfl (Q.fa (n := 0) runUnderlying52 rfl rfl sizeOf40 rfl) ?_
     refine RG.p 6 hR rfl (Q.ldI isAgg40 rfl) ?_
     refine RG.p 7 hR rfl (X.G.Q.lkV (f := encU) S.first ord3_nat hst runUnderlying84 keyU zeroValue40 rfl rfl) ?_
     refine RG.slot 37 (.int .u64 (((sget w.y.o.id S.first).getD 0 : Nat) : Int)) rfl (getD_enc _) ?_
     refine RG.p 8 hR rfl (Q.eql rfl rfl) ?_
     refine RG.fin hR rfl ?_
     refine J.norm rfl <| J.then_n ?_
     refine J.kases 38 rfl (fun hc38 => ?_) (fun hc38 => ?_)
     ·
      refine J.cond_t rfl ?_
      refine J.draw [10] Tryz.mixed (by kernel_rfl) fun hR => ?_
      refine RG.p 0 hR rfl (Q.mv rfl) <| RG.p 1 hR rfl (Q.nil_ rfl) <| RG.p 2 hR rfl (Q.fa (n := 2) runUnderlying86 rfl rfl sizeOf84 rfl) ?_
      refine RG.p 3 hR rfl (Q.ldI isAgg84 rfl) ?_
      refine RG.p 4 hR rfl (Q.fa (n := 0) runUnderlying127 rfl rfl sizeOf52 rfl) <| RG.p 5 hR rfl (Q.fa (n := 0) runUnderlying52 rfl rfl sizeOf40 rfl) ?_
      refine RG.p 6 hR rfl (Q.ldI isAgg40 rfl) ?_
      refine RG.p 7 hR rfl (Q.mv rfl) <| RG.p 8 hR rfl (Q.add64 rfl rfl (by omega)) <| RG.p 9 hR rfl (Q.conv runUnderlying3 runUnderlying40 rfl) ?_
      refine RG.slot 48 (encU (rws.length + 1)) rfl (by show Value.int .u64 _ = Value.int .u64 _; rw [hrl, show ((i : Int) + 1) = ((i + 1 : Nat) : Int) by omega, wrap64 (by omega)]) ?_
      refine RG.bar 10 hR rfl rfl rfl rfl rfl rfl (X.G.C.putV encU S.first (rws.length + 1) ord3_nat hst runUnderlying84 keyU rfl rfl rfl) ?_
      rintro _ _ ⟨rfl, rfl⟩
      refine RG.norm rfl ?_
      refine RG.fin hR rfl ?_
      refine J.norm rfl ?_
      have hp : w.point = false := by simpa using hc25
      have hf : (sget w.y.o.id S.first).getD 0 = 0 := by omega
      have hrl2 : rws.length = S.rs.length := by rw [← hrs, List.length_map]
      have e : S.step w.m = ⟨(S.M.run w.y.o).2, S.rs ++ [(S.M.run w.y.o).1], sput ltN w.y.o.id (rws.length + 1) S.first⟩ := by simp [PS.step, SW.m, hp, hf, hrl2]
      rw [e]
      exact J.meetI r (by rw [hp]; exact hr) ⟨rfl, rfl, rfl, rfl, rfl, rfl, trivial⟩
     refine J.cond_f rfl <| J.cskip ?_
     have hp : w.point = false := by simpa using hc25
     have hf : ¬ (sget w.y.o.id S.first).getD 0 = 0 := by omega
     have e : S.step w.m = ⟨(S.M.run w.y.o).2, S.rs ++ [(S.M.run w.y.o).1], S.first⟩ := by simp [PS.step, SW.m, hp, hf]
     rw [e]
     exact J.meetI r (by rw [hp]; exact hr) ⟨rfl, rfl, rfl, rfl, rfl, rfl, trivial⟩
    refine J.cond_f rfl <| J.cskip ?_
    have hp : w.point = true := by simpa using hc25
    have e : S.step w.m = { S with rs := S.rs ++ [st 0] } := by simp [PS.step, SW.m, hp]
    rw [e]
    refine J.convI (pt b7 (.cells [.int .i64 0, .int .u64 0, .slice none 0 0, .bool false, .slice none 0 0].toArray 44 (0, 0))) (pt b7 (.cells (RW.cells ⟨st 0, none, 0, none, 0⟩).toArray 44 (0, 0))) (fun _ h => h) ?_
    refine J.give (X := RW.asn ⟨st 0, none, 0, none, 0⟩) empty_asn ?_
    exact J.meetI ⟨st 0, none, 0, none, 0⟩ (by rw [hp]; rfl) ⟨rfl, rfl, rfl, rfl, rfl, rfl, trivial⟩
   refine J.norm rfl ?_
   refine J.pickI [pt b13 (.cells [.slice lp ws.length lc, .slice p rws.length c, .map (some b9), .map (some b10), .map (some b11), .int .u64 0].toArray 86 (0, 0)), pt b7 (.cells r.cells.toArray 44 (0, 0))] ?_
   refine J.norm rfl ?_
   refine J.drawE [6, 7, 10] 2 Tryz.mixed (by kernel_rfl) rfl rfl fun hR => ?_
   refine RG.p 0 hR rfl (Q.mv rfl) <| RG.p 1 hR rfl (Q.mv rfl) <| RG.p 2 hR rfl (Q.nil_ rfl) <| RG.p 3 hR rfl (Q.fa (n := 1) runUnderlying86 rfl rfl sizeOf48 rfl) ?_
   refine RG.p 4 hR rfl (Q.ldI isAgg48 rfl) ?_
   refine RG.p 5 hR rfl (Q.ldN (vs := [_, _, _, _, _]) isAgg44 sizeOf44 rfl rnI) ?_
   refine RG.made 6 hR rfl rfl rfl rfl rfl (C.bslG (l := [_, _, _, _, _]) runUnderlying48 sizeOf44 zeroValue44 (by decide) rfl rfl rfl rfl rfl) ?_
   rintro b55
   refine RG.many hR 7 [] rfl ⟨?_, trivial⟩
   ·
    refine RGi.appI rfl rfl rfl rfl runUnderlying48 runUnderlying48 typeInfo44 sizeOf44 zeroValue44 rfl rfl (SlR.ptI rfl) (rw_one r) (by simp [Tryz.t44] <;> omega) (by decide) ?_
    rintro p56 c56
    refine RG.normE rfl <| RG.p 8 hR rfl (Q.nil_ rfl) <| RG.p 9 hR rfl (Q.fa (n := 1) runUnderlying86 rfl rfl sizeOf48 rfl) ?_
    refine RG.stI 10 hR rfl rfl rfl rfl rfl sizeOf48 rfl rfl rfl (by exact rfl) (by exact rfl) (by exact rfl) ?_
    refine RG.fin hR rfl ?_
    refine J.norm rfl <| J.blk_n <| J.then_n <| J.region <| J.p rfl (Q.add64 rfl rfl (by omega)) <| J.m rfl <| J.nil ?_
    refine J.shutI [RW.asn r, star (rws.map RW.asn)] (star ((rws ++ [r]).map RW.asn)) (star_snoc _) ?_
    have e1 : rws.length + 1 = (rws ++ [r]).length := by simp
    have e2 : rws.flatMap RW.cells ++ r.cells = (rws ++ [r]).flatMap RW.cells := by simp
    have e3 : (S.step w.m).rs = S.rs ++ [r.r] := by
     rw [hr]; unfold PS.step
     cases hp : w.point <;> simp [SW.m, hp]
    rw [e1, e2, ← hpt]
    refine J.againI (i + 1, rws ++ [r], p56, c56) ⟨by show i + 1 ≤ _; omega, by show (rws ++ [r]).map (·.r) = (playP ((ws.map SW.m).take (i + 1))).rs; rw [hpt, e3, List.map_append, hrs]; rfl⟩ (by show ws.length - (i + 1) < ws.length - i; omega) ⟨rfl, rfl, (by show _ = some (Value.slice lp ws.length lc); rw [hlp]; rfl), rfl, rfl, trivial⟩
  refine J.cond_f rfl <| J.exit <| J.then_x <| J.lp_x <| J.blk_x <| J.then_n <| J.seq <| J.region <| J.m rfl <| J.p rfl (Q.asg rfl) <| J.nil <| J.then_n <| J.cret ?_
  have htk : (ws.map SW.m).take i = ws.map SW.m := List.take_of_length_le (by rw [List.length_map]; omega)
  rw [htk] at hrs ⊢
  refine J.shutI [pt b13 (.cells [.slice lp ws.length lc, .slice p rws.length c, .map (some b9), .map (some b10), .map (some b11), .int .u64 0].toArray 86 (0, 0)), own 44 5 (.slice p rws.length c) (rws.flatMap RW.cells), star (rws.map RW.asn), MapAt encU (valRep encU) b9 (playP (ws.map SW.m)).first, MapAt encU (valRep Value.bool) b10 ([] : List (Nat × Bool)), MapAt encU (valRep encU) b11 ([] : List (Nat × Nat)), own 127 10 (.slice lp ws.length lc) (ws.flatMap SW.cells), star (ws.map SW.asn)]
   (HAt b13 (begM (ws.map SW.m))) (fun h s => ⟨⟨ws, lp, lc, rws, p, c, b9, b10, b11⟩, ⟨rfl, hrs⟩, s⟩) ?_
  refine J.ret1I [HAt b13 (begM (ws.map SW.m))] rfl rfl ⟨b13, rfl, rfl⟩

def JM.ask (H : JM) (id : Nat) : JM := { H with before := if (sget id H.before).isSome then H.before else sput ltN id H.most H.before, asked := sput ltN id true H.asked }
theorem ask_spec (h : Nat) (H : JM) (hH : H.ok) (id : Nat) : FSpec Tryz.prog 22 [.pointer (some ⟨h, 0, none⟩), .int .u64 id] [HAt h H] (fun u B => u = .tuple #[] ∧ B = [HAt h (H.ask id)]) := by
  refine FSpec.of func22 rfl ntmps22 rfl fun W0 F => ?_
  refine J.openI (HAt h H) (fun _ h => h) fun z hz => ?_
  refine J.norm rfl <| J.seq <| J.seq <| J.region <| J.m rfl <| J.p rfl (Q.nil_ rfl) <| J.p rfl (Q.fa (n := 4) runUnderlying86 rfl rfl sizeOf84 rfl) ?_
  refine J.p rfl (Q.ldI isAgg84 rfl) ?_
  refine J.m rfl ?_
  refine J.p rfl (X.G.Q.lk2V (f := encU) H.before ord3_nat hH.before runUnderlying84 keyU zeroValue40 rfl rfl) ?_
  refine J.m rfl <| J.p rfl (Q.ext rfl rfl) <| J.p rfl (Q.ext rfl rfl) <| J.p rfl (Q.asg rfl) <| J.p rfl (Q.asg rfl) <| J.nil <| J.then_n <| J.seq <| J.region <| J.m rfl <| J.p rfl (Q.not rfl) <| J.nil <| J.then_n ?_
  refine J.kases 16 rfl (fun hc16 => ?_) (fun hc16 => ?_)
  ·
   refine J.cond_t rfl ?_
   refine J.draw [9] Tryz.mixed (by kernel_rfl) fun hR => ?_
   refine RG.p 0 hR rfl (Q.mv rfl) <| RG.p 1 hR rfl (Q.nil_ rfl) <| RG.p 2 hR rfl (Q.fa (n := 4) runUnderlying86 rfl rfl sizeOf84 rfl) ?_
   refine RG.p 3 hR rfl (Q.ldI isAgg84 rfl) ?_
   refine RG.p 4 hR rfl (Q.mv rfl) <| RG.p 5 hR rfl (Q.mv rfl) <| RG.p 6 hR rfl (Q.nil_ rfl) <| RG.p 7 hR rfl (Q.fa (n := 5) runUnderlying86 rfl rfl sizeOf40 rfl) ?_
   refine RG.p 8 hR rfl (Q.ldI isAgg40 rfl) ?_
   refine RG.bar 9 hR rfl rfl rfl rfl rfl rfl (X.G.C.putV encU H.before H.most ord3_nat hH.before runUnderlying84 keyU rfl rfl rfl) ?_
   rintro _ _ ⟨rfl, rfl⟩
   refine RG.norm rfl ?_
   refine RG.fin hR rfl ?_
   refine J.norm rfl <| J.then_n <| J.region <| J.m rfl <| J.p rfl (Q.nil_ rfl) <| J.p rfl (Q.fa (n := 3) runUnderlying86 rfl rfl sizeOf63 rfl) ?_
   refine J.p rfl (Q.ldI isAgg63 rfl) ?_
   refine J.m rfl ?_
   refine J.c0 rfl (X.G.C.putV Value.bool H.asked true ord3_nat hH.asked runUnderlying63 keyU rfl rfl rfl) ?_
   rintro _ _ ⟨rfl, rfl⟩
   refine J.norm rfl <| J.nil ?_
   first
    | (have hp : (sget id H.before).isSome = false := by simpa using hc16
       have e : H.ask id = ⟨H.l, H.rs, H.first, sput ltN id true H.asked, sput ltN id H.most H.before, H.most⟩ := by unfold JM.ask; rw [hp]; rfl
       rw [e]
       refine J.shutI (z.asns h ⟨H.l, H.rs, H.first, sput ltN id true H.asked, sput ltN id H.most H.before, H.most⟩) (HAt h ⟨H.l, H.rs, H.first, sput ltN id true H.asked, sput ltN id H.most H.before, H.most⟩) (fun _ s => ⟨z, ⟨hz.l, hz.rs⟩, s⟩) ?_
       refine J.end0I [HAt h ⟨H.l, H.rs, H.first, sput ltN id true H.asked, sput ltN id H.most H.before, H.most⟩] rfl ⟨rfl, rfl⟩)
    | (have hp : (sget id H.before).isSome = true := by simpa using hc16
       have e : H.ask id = ⟨H.l, H.rs, H.first, sput ltN id true H.asked, H.before, H.most⟩ := by unfold JM.ask; rw [hp]; rfl
       rw [e]
       refine J.shutI (z.asns h ⟨H.l, H.rs, H.first, sput ltN id true H.asked, H.before, H.most⟩) (HAt h ⟨H.l, H.rs, H.first, sput ltN id true H.asked, H.before, H.most⟩) (fun _ s => ⟨z, ⟨hz.l, hz.rs⟩, s⟩) ?_
       refine J.end0I [HAt h ⟨H.l, H.rs, H.first, sput ltN id true H.asked, H.before, H.most⟩] rfl ⟨rfl, rfl⟩)
  refine J.cond_f rfl <| J.cskip <| J.then_n <| J.region <| J.m rfl <| J.p rfl (Q.nil_ rfl) <| J.p rfl (Q.fa (n := 3) runUnderlying86 rfl rfl sizeOf63 rfl) ?_
  refine J.p rfl (Q.ldI isAgg63 rfl) ?_
  refine J.m rfl ?_
  refine J.c0 rfl (X.G.C.putV Value.bool H.asked true ord3_nat hH.asked runUnderlying63 keyU rfl rfl rfl) ?_
  rintro _ _ ⟨rfl, rfl⟩
  refine J.norm rfl <| J.nil ?_
  first
   | (have hp : (sget id H.before).isSome = false := by simpa using hc16
      have e : H.ask id = ⟨H.l, H.rs, H.first, sput ltN id true H.asked, sput ltN id H.most H.before, H.most⟩ := by unfold JM.ask; rw [hp]; rfl
      rw [e]
      refine J.shutI (z.asns h ⟨H.l, H.rs, H.first, sput ltN id true H.asked, sput ltN id H.most H.before, H.most⟩) (HAt h ⟨H.l, H.rs, H.first, sput ltN id true H.asked, sput ltN id H.most H.before, H.most⟩) (fun _ s => ⟨z, ⟨hz.l, hz.rs⟩, s⟩) ?_
      refine J.end0I [HAt h ⟨H.l, H.rs, H.first, sput ltN id true H.asked, sput ltN id H.most H.before, H.most⟩] rfl ⟨rfl, rfl⟩)
   | (have hp : (sget id H.before).isSome = true := by simpa using hc16
      have e : H.ask id = ⟨H.l, H.rs, H.first, sput ltN id true H.asked, H.before, H.most⟩ := by unfold JM.ask; rw [hp]; rfl
      rw [e]
      refine J.shutI (z.asns h ⟨H.l, H.rs, H.first, sput ltN id true H.asked, H.before, H.most⟩) (HAt h ⟨H.l, H.rs, H.first, sput ltN id true H.asked, H.before, H.most⟩) (fun _ s => ⟨z, ⟨hz.l, hz.rs⟩, s⟩) ?_
      refine J.end0I [HAt h ⟨H.l, H.rs, H.first, sput ltN id true H.asked, H.before, H.most⟩] rfl ⟨rfl, rfl⟩)

structure EM where
  answer : Bool
  id : Nat
  index : Nat
  res : RM
structure EW where
  answer : Bool
  id : Nat
  x : OW
  index : Nat
  w : RW
def EW.m (e : EW) : EM := ⟨e.answer, e.id, e.index, e.w.r⟩
abbrev EW.cells (e : EW) : List Value := [.bool e.answer, .int .u64 e.id, .int .u64 e.x.o.id, .int .i64 e.x.o.kind, .string e.x.o.bucket, .string e.x.o.key, .string e.x.o.after, .int .i64 e.x.o.n, .int .u64 e.x.o.upload, .slice e.x.pp e.x.o.parts.length e.x.pc, .slice e.x.dp e.x.o.data.length e.x.dc, .int .u64 e.index, .int .i64 e.w.r.status, .int .u64 e.w.r.upload, .slice e.w.kp e.w.r.keys.length e.w.kc, .bool e.w.r.more, .slice e.w.dp e.w.r.data.length e.w.dc]
theorem EW.len (x : EW) : x.cells.length = 17 := rfl
structure EW.ok (G : Assn) (e : EW) : Prop where
  w : e.w.ok G
  index : e.index ≤ 18446744073709551615

def defB (n : Int) : Bool := decide (n = 200) || decide (n = 400) || decide (n = 404) || decide (n = 409) || decide (n = 413)
def addR (l : List Int) (r : Int) (b : Bool) : List Int := if b then l ++ [r] else l
def thereB (H : JM) (id n : Nat) : Bool := decide (1 ≤ n) && decide (n ≤ H.l.length) && (match H.l[n - 1]? with | some s => !s.point && decide (s.o.id = id) | none => false)
def lateB (H : JM) (e : EM) : Bool := decide (e.index ≠ 0) && (sget e.id H.before).isSome && decide ((sget e.id H.first).getD 0 ≠ 0) && decide ((sget e.id H.first).getD 0 ≤ (sget e.id H.before).getD 0)
def toldB (H : JM) (e : EM) : Bool := defB e.res.status && thereB H e.id e.index && !(match H.rs[max e.index 1 - 1]? with | some r => sameM e.res r | none => true)
def rul1 (H : JM) (e : EM) : List Int := addR [] 2 (!(sget e.id H.asked).getD false)
def rul2 (H : JM) (e : EM) : List Int := addR (rul1 H e) 3 (decide (e.index ≠ 0) && !thereB H e.id e.index)
def rul3 (H : JM) (e : EM) : List Int := addR (rul2 H e) 4 (defB e.res.status && decide (e.index = 0))
def rul4 (H : JM) (e : EM) : List Int := addR (rul3 H e) 5 (lateB H e)
def JM.breaks (H : JM) (e : EM) : List Int := addR (rul4 H e) 6 (toldB H e)
theorem addR_le {l : List Int} {n : Nat} (h : l.length ≤ n) (r : Int) (b : Bool) : (addR l r b).length ≤ n + 1 := by
  unfold addR
  split
  · rw [List.length_append, List.length_singleton]; omega
  · omega
theorem rul_le (H : JM) (e : EM) : (rul1 H e).length ≤ 1 ∧ (rul2 H e).length ≤ 2 ∧ (rul3 H e).length ≤ 3 ∧ (rul4 H e).length ≤ 4 ∧ (H.breaks e).length ≤ 5 := by
  have h1 : (rul1 H e).length ≤ 1 := addR_le (Nat.le_refl 0) _ _
  have h2 : (rul2 H e).length ≤ 2 := addR_le h1 _ _
  have h3 : (rul3 H e).length ≤ 3 := addR_le h2 _ _
  have h4 : (rul4 H e).length ≤ 4 := addR_le h3 _ _
  exact ⟨h1, h2, h3, h4, addR_le h4 _ _⟩

theorem rws_ok {rws : List RW} (hs : ∀ r, r ∈ rws → r.r.keys.length ≤ 1099511627776 ∧ r.r.data.length ≤ 1099511627776) : ∀ h, star (rws.map RW.asn) h → ∀ (i : Nat) (r : RW), rws[i]? = some r → r.ok r.asn := by
  intro h hh i r hr
  have s1 : HSat h (r.asn :: (rws.eraseIdx i).map RW.asn) := HSat.perm (perm_focus RW.asn hr) hh
  obtain ⟨h1, h2, a, _⟩ := s1
  exact asn_ok (hs r (List.mem_of_getElem? hr)) h1 a
theorem RW.ok.into {A : List Assn} {X : Assn} {x : RW} (h : x.ok X) (i : Nat) (e : A[i]? = some X) : x.ok (star A) := ⟨h.keys.into i e, h.data.into i e, h.small⟩

theorem add_spec (q : Nat) (p : Option Addr) (c : Nat) (rs : List Int) (r : Int) (b : Bool) (hn : rs.length ≤ 100) : FSpec Tryz.prog 52 [.int .i64 r, .bool b, .pointer (some ⟨q, 0, none⟩)]
    [pt q (.cells [Value.slice p rs.length c].toArray 82 (0, 0)), own 33 1 (.slice p rs.length c) (rs.map (Value.int .i64))]
    (fun u B => ∃ p' c', u = .tuple #[] ∧ B = [pt q (.cells [Value.slice p' (addR rs r b).length c'].toArray 82 (0, 0)), own 33 1 (.slice p' (addR rs r b).length c') ((addR rs r b).map (Value.int .i64))]) := by
  refine FSpec.of func52 rfl ntmps52 rfl fun W0 F => ?_
  refine J.seq <| J.region <| J.m rfl <| J.nil <| J.then_n ?_
  refine J.kases 5 rfl (fun hc5 => ?_) (fun hc5 => ?_)
  ·
   refine J.cond_t rfl <| J.region ?_
   refine J.p rfl (Q.ldI isAgg82 rfl) ?_
   refine J.m rfl ?_
   refine J.c rfl rfl (C.bslG (l := [_]) runUnderlying82 sizeOf33 zeroValue33 (by decide) rfl rfl rfl rfl rfl) ?_
   rintro _ _ ⟨b8, rfl, rfl⟩
   refine J.norm rfl ?_
   refine J.c rfl rfl (C.appI runUnderlying82 runUnderlying82 typeInfo33 sizeOf33 zeroValue33 rfl rfl (SlR.ptI rfl) (by simp [oneC]) (by simp [Tryz.t33] <;> omega) (by decide)) ?_
   rintro _ _ ⟨p9, c9, rfl, rfl⟩
   refine J.norm rfl ?_
   refine J.stJ rfl sizeOf82 rfl rfl rfl ?_
   refine J.nil ?_
   first
    | (have e : addR rs r b = rs ++ [r] := by unfold addR; rw [if_pos hc5]
       rw [e]
       have e1 : rs.length + 1 = (rs ++ [r]).length := by simp
       have e2 : rs.map (Value.int .i64) ++ [Value.int .i64 r] = (rs ++ [r]).map (Value.int .i64) := by simp
       rw [e1, e2]
       refine J.end0I [pt q (.cells [Value.slice p9 (rs ++ [r]).length c9].toArray 82 (0, 0)), own 33 1 (.slice p9 (rs ++ [r]).length c9) ((rs ++ [r]).map (Value.int .i64))] rfl ⟨p9, c9, rfl, rfl⟩)
    | (have e : addR rs r b = rs := by unfold addR; rw [if_neg (by simp [hc5])]
       rw [e]
       refine J.end0I [pt q (.cells [Value.slice p rs.length c].toArray 82 (0, 0)), own 33 1 (.slice p rs.length c) (rs.map (Value.int .i64))] rfl ⟨p, c, rfl, rfl⟩)
  refine J.cond_f rfl <| J.cskip ?_
  first
   | (have e : addR rs r b = rs ++ [r] := by unfold addR; rw [if_pos hc5]
      rw [e]
      have e1 : rs.length + 1 = (rs ++ [r]).length := by simp
      have e2 : rs.map (Value.int .i64) ++ [Value.int .i64 r] = (rs ++ [r]).map (Value.int .i64) := by simp
      rw [e1, e2]
      refine J.end0I [pt q (.cells [Value.slice p9 (rs ++ [r]).length c9].toArray 82 (0, 0)), own 33 1 (.slice p9 (rs ++ [r]).length c9) ((rs ++ [r]).map (Value.int .i64))] rfl ⟨p9, c9, rfl, rfl⟩)
   | (have e : addR rs r b = rs := by unfold addR; rw [if_neg (by simp [hc5])]
      rw [e]
      refine J.end0I [pt q (.cells [Value.slice p rs.length c].toArray 82 (0, 0)), own 33 1 (.slice p rs.length c) (rs.map (Value.int .i64))] rfl ⟨p, c, rfl, rfl⟩)

theorem getD_bool (o : Option Bool) : (o.map Value.bool).getD (.bool false) = Value.bool (o.getD false) := by cases o <;> rfl
theorem there_in {H : JM} {id n : Nat} (h : thereB H id n = true) : 1 ≤ n ∧ n ≤ H.l.length := by
  simp only [thereB, Bool.and_eq_true, decide_eq_true_eq] at h
  exact h.1

set_option maxHeartbeats 1000000 in
theorem breaks_spec (G : Assn) (h : Nat) (H : JM) (hH : H.ok) (e : EW) (he : e.ok G) : FSpec Tryz.prog 23 [.pointer (some ⟨h, 0, none⟩), .agg e.cells.toArray] [HAt h H, G]
    (fun u B => ∃ p c, u = .slice p (H.breaks e.m).length c ∧ B = [own 33 1 (.slice p (H.breaks e.m).length c) ((H.breaks e.m).map (Value.int .i64)), HAt h H, G]) := by
  obtain ⟨n1, n2, n3, n4, n5⟩ := rul_le H e.m
  have hidx := he.index
  have hsm := hH.small
  refine FSpec.of func23 rfl ntmps23 rfl fun W0 F => ?_
  refine J.openI (HAt h H) (fun _ h => h) fun z hz => ?_
  refine J.norm rfl ?_
  have hlw : z.ws.length = H.l.length := by rw [← hz.l, List.length_map]
  have hlr : z.rws.length = H.l.length := by rw [← hH.len, ← hz.rs, List.length_map]
  have hrs : ∀ r, r ∈ z.rws → r.r.keys.length ≤ 1099511627776 ∧ r.r.data.length ≤ 1099511627776 := fun r hr => by
   have := hH.rs r.r (by rw [← hz.rs]; exact List.mem_map_of_mem hr)
   omega
  refine J.slrI (E0 := 127) (sz := 10) (p := z.lp) (n := z.ws.length) (c := z.lc) (xs := z.ws.flatMap SW.cells) fun hsl => ?_
  refine J.slrI (E0 := 44) (sz := 5) (p := z.rp) (n := z.rws.length) (c := z.rc) (xs := z.rws.flatMap RW.cells) fun hsr => ?_
  refine J.tellsI (star (z.rws.map RW.asn)) (rws_ok hrs) fun hro => ?_
  refine J.shutI [G, star (z.rws.map RW.asn)] (star [G, star (z.rws.map RW.asn)]) (fun _ s => s) ?_
  refine J.seq <| J.region ?_
  refine J.c rfl rfl (C.box (l := [_, _, _, _, _, _, _, _, _, _, _, _, _, _, _, _, _]) rfl rfl) ?_
  rintro _ _ ⟨b3, rfl, rfl⟩
  refine J.norm rfl <| J.p rfl (Q.asg rfl) <| J.nil <| J.then_n <| J.seq <| J.region ?_
  refine J.c rfl rfl (C.alloc (l := [_]) zeroValue82 rfl) ?_
  rintro _ _ ⟨b5, rfl, rfl⟩
  refine J.norm rfl ?_
  refine J.convI (pt b5 (.cells [Value.slice none 0 0].toArray 82 (0, 0))) (pt b5 (.cells [Value.slice none ([] : List Int).length 0].toArray 82 (0, 0))) (fun _ h => h) ?_
  refine J.give (X := own 33 1 (.slice none ([] : List Int).length 0) (([] : List Int).map (Value.int .i64))) (own.nil _ _ _) ?_
  refine J.nil <| J.then_n <| J.seq <| J.region <| J.p rfl (Q.func rfl rfl) <| J.p rfl (Q.asg rfl) <| J.nil <| J.then_n <| J.seq <| J.region <| J.p rfl (Q.fa (n := 12) runUnderlying58 rfl rfl sizeOf44 rfl) <| J.p rfl (Q.fa (n := 0) runUnderlying44 rfl rfl sizeOf3 rfl) ?_
  refine J.p rfl (Q.ldI isAgg3 rfl) ?_
  refine J.callI call17 (definite_spec e.w.r.status) rfl rfl rfl ?_
  rintro _ _ ⟨rfl, rfl⟩
  refine J.norm rfl <| J.p rfl (Q.asg rfl) <| J.nil <| J.then_n <| J.seq <| J.region <| J.p rfl (Q.fa (n := 11) runUnderlying58 rfl rfl sizeOf40 rfl) ?_
  refine J.p rfl (Q.ldI isAgg40 rfl) ?_
  refine J.p rfl (Q.asg rfl) <| J.nil <| J.then_n ?_
  refine J.cut (fun _ : Unit => True) (fun _ => [(0, .pointer (some ⟨h, 0, none⟩)), (3, .pointer (some ⟨b3, 0, none⟩)), (5, .pointer (some ⟨b5, 0, none⟩)), (6, .func (.func 52) #[] #[.pointer (some ⟨b5, 0, none⟩)]), (7, .bool (defB e.w.r.status)), (8, .int .u64 e.index), (9, .bool (thereB H e.id e.index))]) (fun _ => [pt b3 (.cells e.cells.toArray 58 (0, 0)), pt b5 (.cells [Value.slice none ([] : List Int).length 0].toArray 82 (0, 0)), own 33 1 (.slice none ([] : List Int).length 0) (([] : List Int).map (Value.int .i64)), pt h (.cells [.slice z.lp z.ws.length z.lc, .slice z.rp z.rws.length z.rc, .map (some z.f), .map (some z.a), .map (some z.b), .int .u64 H.most].toArray 86 (0, 0)), own 44 5 (.slice z.rp z.rws.length z.rc) (z.rws.flatMap RW.cells), MapAt encU (valRep encU) z.f H.first, MapAt encU (valRep Value.bool) z.a H.asked, MapAt encU (valRep encU) z.b H.before, own 127 10 (.slice z.lp z.ws.length z.lc) (z.ws.flatMap SW.cells), star (z.ws.map SW.asn), star [G, star (z.rws.map RW.asn)], F]) ?_ fun _ _ => ?_
  ·
   refine J.draw [39] Tryz.mixed (by kernel_rfl) fun hR => ?_
   refine RG.p 0 hR rfl (Q.mv rfl) <| RG.p 1 hR rfl (Q.geq rfl rfl) <| RG.p 2 hR rfl (Q.mv rfl) ?_
   refine RG.cases 21 rfl (fun hb21 => ?_) (fun hb21 => ?_)
   ·
    replace hb21 := X.nm hb21
    refine RG.p 3 hR rfl (Q.mv rfl) <| RG.p 4 hR rfl (Q.mv rfl) <| RG.p 5 hR rfl (Q.nil_ rfl) <| RG.p 6 hR rfl (Q.fa (n := 0) runUnderlying86 rfl rfl sizeOf76 rfl) ?_
    refine RG.p 7 hR rfl (Q.ldI isAgg76 rfl) ?_
    refine RG.p 8 hR rfl (Q.lenSl runUnderlying76 rfl) <| RG.p 9 hR rfl (Q.conv runUnderlying3 runUnderlying40 rfl) ?_
    refine RG.slot 28 (.int .u64 (z.ws.length : Int)) rfl (by rw [wrap64 (by omega)]) ?_
    refine RG.p 10 hR rfl (Q.leq rfl rfl) <| RG.p 11 hR rfl (Q.pick_t rfl rfl) <| RG.p 12 hR rfl (Q.mv rfl) ?_
    refine RG.cases 31 rfl (fun hb31 => ?_) (fun hb31 => ?_)
    ·
     replace hb31 := X.nm hb31
     have hn1 : 1 ≤ e.index := by omega
     have hn2 : e.index ≤ z.ws.length := by omega
     obtain ⟨b, off, hlp, hrd⟩ := hsl.some_ (by omega)
     obtain ⟨w, hw⟩ : ∃ w, z.ws[e.index - 1]? = some w := ⟨_, List.getElem?_eq_getElem (by omega)⟩
     have hws : H.l[e.index - 1]? = some w.m := by rw [← hz.l, List.getElem?_map, hw]; rfl
     refine RG.p 13 hR rfl (Q.mv rfl) <| RG.p 14 hR rfl (Q.nil_ rfl) <| RG.p 15 hR rfl (Q.fa (n := 0) runUnderlying86 rfl rfl sizeOf76 rfl) ?_
     refine RG.p 16 hR rfl (Q.ldI isAgg76 rfl) ?_
     refine RG.slot 35 (.slice (some ⟨b, off, none⟩) z.ws.length z.lc) rfl (by rw [hlp]) ?_
     refine RG.p 17 hR rfl (Q.mv rfl) <| RG.p 18 hR rfl (Q.sub rfl rfl) ?_
     refine RG.slot 37 (.int .u64 ((e.index - 1 : Nat) : Int)) rfl (by rw [show (e.index : Int) - 1 = ((e.index - 1 : Nat) : Int) by omega, wrap64 (by omega)]) ?_
     refine RG.p 19 hR rfl (Q.ia runUnderlying76 sizeOf127 rfl rfl (by omega) (by omega)) <| RG.p 20 hR rfl (Q.fa (n := 9) runUnderlying127 rfl rfl sizeOf4 rfl) <| RG.p 21 hR rfl (Q.ld isAgg4 rfl ((((rd_elem SW.len hrd hw rfl) 9 (.bool w.point) rfl).cast (by simp)).inI)) <| RG.p 22 hR rfl (Q.not rfl) <| RG.p 23 hR rfl (Q.pick_t rfl rfl) ?_
     refine RG.p 24 hR rfl (Q.mv rfl) ?_
     refine RG.cases 43 rfl (fun hb43 => ?_) (fun hb43 => ?_)
     ·
      replace hb43 := X.nm hb43
      refine RG.p 25 hR rfl (Q.mv rfl) <| RG.p 26 hR rfl (Q.nil_ rfl) <| RG.p 27 hR rfl (Q.fa (n := 0) runUnderlying86 rfl rfl sizeOf76 rfl) ?_
      refine RG.p 28 hR rfl (Q.ldI isAgg76 rfl) ?_
      refine RG.slot 47 (.slice (some ⟨b, off, none⟩) z.ws.length z.lc) rfl (by rw [hlp]) ?_
      refine RG.p 29 hR rfl (Q.mv rfl) <| RG.p 30 hR rfl (Q.sub rfl rfl) ?_
      refine RG.slot 49 (.int .u64 ((e.index - 1 : Nat) : Int)) rfl (by rw [show (e.index : Int) - 1 = ((e.index - 1 : Nat) : Int) by omega, wrap64 (by omega)]) ?_
      refine RG.p 31 hR rfl (Q.ia runUnderlying76 sizeOf127 rfl rfl (by omega) (by omega)) <| RG.p 32 hR rfl (Q.fa (n := 0) runUnderlying127 rfl rfl sizeOf52 rfl) <| RG.p 33 hR rfl (Q.fa (n := 0) runUnderlying52 rfl rfl sizeOf40 rfl) <| RG.p 34 hR rfl (Q.ld isAgg40 rfl ((((rd_elem SW.len hrd hw rfl) 0 (.int .u64 w.y.o.id) rfl).cast (by simp)).inI)) ?_
      refine RG.p 35 hR rfl (Q.fa (n := 1) runUnderlying58 rfl rfl sizeOf40 rfl) ?_
      refine RG.p 36 hR rfl (Q.ldI isAgg40 rfl) ?_
      refine RG.p 37 hR rfl (Q.eql rfl rfl) <| RG.p 38 hR rfl (Q.pick_t rfl rfl) ?_
      refine RG.bar 39 hR rfl rfl rfl rfl rfl rfl (Q.asg rfl).toC ?_
      rintro _ _ ⟨rfl, rfl⟩
      refine RG.norm rfl ?_
      refine RG.fin hR rfl ?_
      refine J.norm rfl ?_
      have hp : w.point = false := by simpa using hb43
      have ht : decide ((w.y.o.id : Int) = (e.id : Int)) = thereB H e.id e.index := by
       unfold thereB
       rw [hws, decide_eq_true hn1, decide_eq_true (show e.index ≤ H.l.length by omega)]
       simp [SW.m, hp]
       omega
      exact J.meetI () trivial ⟨rfl, rfl, rfl, rfl, rfl, rfl, (by show some (Value.bool (decide ((w.y.o.id : Int) = (e.id : Int)))) = _; rw [ht]), trivial⟩
     replace hb43 := X.nm hb43
     refine RG.k 25 hR rfl <| RG.k 26 hR rfl <| RG.k 27 hR rfl <| RG.k 28 hR rfl <| RG.k 29 hR rfl <| RG.k 30 hR rfl <| RG.k 31 hR rfl <| RG.k 32 hR rfl <| RG.k 33 hR rfl <| RG.k 34 hR rfl ?_
     refine RG.k 35 hR rfl <| RG.k 36 hR rfl <| RG.k 37 hR rfl <| RG.p 38 hR rfl (Q.pick_f rfl rfl) ?_
     refine RG.bar 39 hR rfl rfl rfl rfl rfl rfl (Q.asg rfl).toC ?_
     rintro _ _ ⟨rfl, rfl⟩
     refine RG.norm rfl ?_
     refine RG.fin hR rfl ?_
     refine J.norm rfl ?_
     have hp : w.point = true := by simpa using hb43
     have ht : thereB H e.id e.index = false := by
      unfold thereB
      rw [hws]
      simp [SW.m, hp]
     exact J.meetI () trivial ⟨rfl, rfl, rfl, rfl, rfl, rfl, (by rw [ht]; rfl), trivial⟩
    replace hb31 := X.nm hb31
    refine RG.k 13 hR rfl <| RG.k 14 hR rfl <| RG.k 15 hR rfl <| RG.k 16 hR rfl <| RG.k 17 hR rfl <| RG.k 18 hR rfl <| RG.k 19 hR rfl <| RG.k 20 hR rfl <| RG.k 21 hR rfl <| RG.k 22 hR rfl ?_
    refine RG.p 23 hR rfl (Q.pick_f rfl rfl) <| RG.p 24 hR rfl (Q.mv rfl) <| RG.k 25 hR rfl <| RG.k 26 hR rfl <| RG.k 27 hR rfl <| RG.k 28 hR rfl <| RG.k 29 hR rfl <| RG.k 30 hR rfl <| RG.k 31 hR rfl <| RG.k 32 hR rfl ?_
    refine RG.k 33 hR rfl <| RG.k 34 hR rfl <| RG.k 35 hR rfl <| RG.k 36 hR rfl <| RG.k 37 hR rfl <| RG.p 38 hR rfl (Q.pick_f rfl rfl) ?_
    refine RG.bar 39 hR rfl rfl rfl rfl rfl rfl (Q.asg rfl).toC ?_
    rintro _ _ ⟨rfl, rfl⟩
    refine RG.norm rfl ?_
    refine RG.fin hR rfl ?_
    refine J.norm rfl ?_
    have ht : thereB H e.id e.index = false := by
     unfold thereB
     rw [decide_eq_false (show ¬ e.index ≤ H.l.length by omega)]
     simp
    exact J.meetI () trivial ⟨rfl, rfl, rfl, rfl, rfl, rfl, (by rw [ht]; rfl), trivial⟩
   replace hb21 := X.nm hb21
   refine RG.k 3 hR rfl <| RG.k 4 hR rfl <| RG.k 5 hR rfl <| RG.k 6 hR rfl <| RG.k 7 hR rfl <| RG.k 8 hR rfl <| RG.k 9 hR rfl <| RG.k 10 hR rfl <| RG.p 11 hR rfl (Q.pick_f rfl rfl) <| RG.p 12 hR rfl (Q.mv rfl) ?_
   refine RG.k 13 hR rfl <| RG.k 14 hR rfl <| RG.k 15 hR rfl <| RG.k 16 hR rfl <| RG.k 17 hR rfl <| RG.k 18 hR rfl <| RG.k 19 hR rfl <| RG.k 20 hR rfl <| RG.k 21 hR rfl <| RG.k 22 hR rfl ?_
   refine RG.p 23 hR rfl (Q.pick_f rfl rfl) <| RG.p 24 hR rfl (Q.mv rfl) <| RG.k 25 hR rfl <| RG.k 26 hR rfl <| RG.k 27 hR rfl <| RG.k 28 hR rfl <| RG.k 29 hR rfl <| RG.k 30 hR rfl <| RG.k 31 hR rfl <| RG.k 32 hR rfl ?_
   refine RG.k 33 hR rfl <| RG.k 34 hR rfl <| RG.k 35 hR rfl <| RG.k 36 hR rfl <| RG.k 37 hR rfl <| RG.p 38 hR rfl (Q.pick_f rfl rfl) ?_
   refine RG.bar 39 hR rfl rfl rfl rfl rfl rfl (Q.asg rfl).toC ?_
   rintro _ _ ⟨rfl, rfl⟩
   refine RG.norm rfl ?_
   refine RG.fin hR rfl ?_
   refine J.norm rfl ?_
   have ht : thereB H e.id e.index = false := by
    unfold thereB
    rw [decide_eq_false (show ¬ 1 ≤ e.index by omega)]
    simp
   exact J.meetI () trivial ⟨rfl, rfl, rfl, rfl, rfl, rfl, (by rw [ht]; rfl), trivial⟩
  refine J.norm rfl <| J.seq ?_
  refine J.draw [9] Tryz.mixed (by kernel_rfl) fun hR => ?_
  refine RG.p 0 hR rfl (Q.mv rfl) <| RG.p 1 hR rfl (Q.mv rfl) <| RG.p 2 hR rfl (Q.nil_ rfl) <| RG.p 3 hR rfl (Q.fa (n := 3) runUnderlying86 rfl rfl sizeOf63 rfl) ?_
  refine RG.p 4 hR rfl (Q.ldI isAgg63 rfl) ?_
  refine RG.p 5 hR rfl (Q.fa (n := 1) runUnderlying58 rfl rfl sizeOf40 rfl) ?_
  refine RG.p 6 hR rfl (Q.ldI isAgg40 rfl) ?_
  refine RG.p 7 hR rfl (X.G.Q.lkV (f := Value.bool) H.asked ord3_nat hH.asked runUnderlying63 keyU zeroValue4 rfl rfl) ?_
  refine RG.slot 65 (.bool ((sget e.id H.asked).getD false)) rfl (getD_bool _) ?_
  refine RG.p 8 hR rfl (Q.not rfl) ?_
  refine RG.bar 9 hR rfl rfl rfl rfl rfl rfl (OpC.callvP (first := []) (args := [.int .i64 2, .bool (!(sget e.id H.asked).getD false)]) (cap := [.pointer (some ⟨b5, 0, none⟩)]) call52 rfl rfl (add_spec b5 none 0 ([] : List Int) 2 (!(sget e.id H.asked).getD false) (by first | omega | simp))) ?_
  rintro _ _ ⟨_, ⟨p67, c67, rfl, rfl⟩, rfl⟩
  refine RG.norm rfl ?_
  rw [show addR ([] : List Int) 2 (!(sget e.id H.asked).getD false) = rul1 H e.m from rfl]
  refine RG.fin hR rfl ?_
  refine J.norm rfl <| J.then_n ?_
  refine J.cut (fun _ : Option Addr × Nat => True) (fun _ => [(0, .pointer (some ⟨h, 0, none⟩)), (3, .pointer (some ⟨b3, 0, none⟩)), (5, .pointer (some ⟨b5, 0, none⟩)), (6, .func (.func 52) #[] #[.pointer (some ⟨b5, 0, none⟩)]), (7, .bool (defB e.w.r.status)), (8, .int .u64 e.index), (9, .bool (thereB H e.id e.index))]) (fun w => [pt b3 (.cells e.cells.toArray 58 (0, 0)), pt b5 (.cells [Value.slice w.1 (rul2 H e.m).length w.2].toArray 82 (0, 0)), own 33 1 (.slice w.1 (rul2 H e.m).length w.2) ((rul2 H e.m).map (Value.int .i64)), pt h (.cells [.slice z.lp z.ws.length z.lc, .slice z.rp z.rws.length z.rc, .map (some z.f), .map (some z.a), .map (some z.b), .int .u64 H.most].toArray 86 (0, 0)), own 44 5 (.slice z.rp z.rws.length z.rc) (z.rws.flatMap RW.cells), MapAt encU (valRep encU) z.f H.first, MapAt encU (valRep Value.bool) z.a H.asked, MapAt encU (valRep encU) z.b H.before, own 127 10 (.slice z.lp z.ws.length z.lc) (z.ws.flatMap SW.cells), star (z.ws.map SW.asn), star [G, star (z.rws.map RW.asn)], F]) ?_ fun w _ => ?_
  ·
   refine J.region <| J.m rfl <| J.m rfl <| J.p rfl (Q.neq rfl rfl) <| J.m rfl ?_
   refine J.kases 71 rfl (fun hb71 => ?_) (fun hb71 => ?_)
   ·
    refine J.m rfl <| J.p rfl (Q.not rfl) <| J.p rfl (Q.pick_t rfl rfl) ?_
    refine J.slot 74 (.bool (decide (e.index ≠ 0) && !thereB H e.id e.index)) rfl (by first | (rw [decide_eq_true (show e.index ≠ 0 by omega)]; rfl) | (rw [decide_eq_false (show ¬ e.index ≠ 0 by omega)]; rfl)) ?_
    refine J.c rfl rfl (OpC.callvP (first := []) (args := [.int .i64 3, .bool (decide (e.index ≠ 0) && !thereB H e.id e.index)]) (cap := [.pointer (some ⟨b5, 0, none⟩)]) call52 rfl rfl (add_spec b5 p67 c67 (rul1 H e.m) 3 (decide (e.index ≠ 0) && !thereB H e.id e.index) (by first | omega | simp))) ?_
    rintro _ _ ⟨_, ⟨p75, c75, rfl, rfl⟩, rfl⟩
    refine J.norm rfl ?_
    rw [show addR (rul1 H e.m) 3 (decide (e.index ≠ 0) && !thereB H e.id e.index) = rul2 H e.m from rfl]
    refine J.nil ?_
    exact J.meetI (p75, c75) trivial ⟨rfl, rfl, rfl, rfl, rfl, rfl, rfl, trivial⟩
   refine J.k rfl <| J.k rfl <| J.p rfl (Q.pick_f rfl rfl) ?_
   refine J.slot 74 (.bool (decide (e.index ≠ 0) && !thereB H e.id e.index)) rfl (by first | (rw [decide_eq_true (show e.index ≠ 0 by omega)]; rfl) | (rw [decide_eq_false (show ¬ e.index ≠ 0 by omega)]; rfl)) ?_
   refine J.c rfl rfl (OpC.callvP (first := []) (args := [.int .i64 3, .bool (decide (e.index ≠ 0) && !thereB H e.id e.index)]) (cap := [.pointer (some ⟨b5, 0, none⟩)]) call52 rfl rfl (add_spec b5 p67 c67 (rul1 H e.m) 3 (decide (e.index ≠ 0) && !thereB H e.id e.index) (by first | omega | simp))) ?_
   rintro _ _ ⟨_, ⟨p75, c75, rfl, rfl⟩, rfl⟩
   refine J.norm rfl ?_
   rw [show addR (rul1 H e.m) 3 (decide (e.index ≠ 0) && !thereB H e.id e.index) = rul2 H e.m from rfl]
   refine J.nil ?_
   exact J.meetI (p75, c75) trivial ⟨rfl, rfl, rfl, rfl, rfl, rfl, rfl, trivial⟩
  refine J.norm rfl ?_
  obtain ⟨pw7, cw7⟩ := w
  dsimp only
  refine J.cut (fun _ : Option Addr × Nat => True) (fun _ => [(0, .pointer (some ⟨h, 0, none⟩)), (3, .pointer (some ⟨b3, 0, none⟩)), (5, .pointer (some ⟨b5, 0, none⟩)), (6, .func (.func 52) #[] #[.pointer (some ⟨b5, 0, none⟩)]), (7, .bool (defB e.w.r.status)), (8, .int .u64 e.index), (9, .bool (thereB H e.id e.index))]) (fun w => [pt b3 (.cells e.cells.toArray 58 (0, 0)), pt b5 (.cells [Value.slice w.1 (rul3 H e.m).length w.2].toArray 82 (0, 0)), own 33 1 (.slice w.1 (rul3 H e.m).length w.2) ((rul3 H e.m).map (Value.int .i64)), pt h (.cells [.slice z.lp z.ws.length z.lc, .slice z.rp z.rws.length z.rc, .map (some z.f), .map (some z.a), .map (some z.b), .int .u64 H.most].toArray 86 (0, 0)), own 44 5 (.slice z.rp z.rws.length z.rc) (z.rws.flatMap RW.cells), MapAt encU (valRep encU) z.f H.first, MapAt encU (valRep Value.bool) z.a H.asked, MapAt encU (valRep encU) z.b H.before, own 127 10 (.slice z.lp z.ws.length z.lc) (z.ws.flatMap SW.cells), star (z.ws.map SW.asn), star [G, star (z.rws.map RW.asn)], F]) ?_ fun w _ => ?_
  ·
   refine J.region <| J.m rfl <| J.m rfl <| J.m rfl ?_
   refine J.kases 78 rfl (fun hb78 => ?_) (fun hb78 => ?_)
   ·
    refine J.m rfl <| J.p rfl (Q.eql rfl rfl) <| J.p rfl (Q.pick_t rfl rfl) ?_
    refine J.slot 81 (.bool (defB e.w.r.status && decide (e.index = 0))) rfl (by first | (rw [hb78, decide_eq_decide.2 (show (e.index : Int) = 0 ↔ e.index = 0 by omega)]; rfl) | (rw [hb78]; rfl)) ?_
    refine J.c rfl rfl (OpC.callvP (first := []) (args := [.int .i64 4, .bool (defB e.w.r.status && decide (e.index = 0))]) (cap := [.pointer (some ⟨b5, 0, none⟩)]) call52 rfl rfl (add_spec b5 pw7 cw7 (rul2 H e.m) 4 (defB e.w.r.status && decide (e.index = 0)) (by first | omega | simp))) ?_
    rintro _ _ ⟨_, ⟨p82, c82, rfl, rfl⟩, rfl⟩
    refine J.norm rfl ?_
    rw [show addR (rul2 H e.m) 4 (defB e.w.r.status && decide (e.index = 0)) = rul3 H e.m from rfl]
    refine J.nil ?_
    exact J.meetI (p82, c82) trivial ⟨rfl, rfl, rfl, rfl, rfl, rfl, rfl, trivial⟩
   refine J.k rfl <| J.k rfl <| J.p rfl (Q.pick_f rfl rfl) ?_
   refine J.slot 81 (.bool (defB e.w.r.status && decide (e.index = 0))) rfl (by first | (rw [hb78, decide_eq_decide.2 (show (e.index : Int) = 0 ↔ e.index = 0 by omega)]; rfl) | (rw [hb78]; rfl)) ?_
   refine J.c rfl rfl (OpC.callvP (first := []) (args := [.int .i64 4, .bool (defB e.w.r.status && decide (e.index = 0))]) (cap := [.pointer (some ⟨b5, 0, none⟩)]) call52 rfl rfl (add_spec b5 pw7 cw7 (rul2 H e.m) 4 (defB e.w.r.status && decide (e.index = 0)) (by first | omega | simp))) ?_
   rintro _ _ ⟨_, ⟨p82, c82, rfl, rfl⟩, rfl⟩
   refine J.norm rfl ?_
   rw [show addR (rul2 H e.m) 4 (defB e.w.r.status && decide (e.index = 0)) = rul3 H e.m from rfl]
   refine J.nil ?_
   exact J.meetI (p82, c82) trivial ⟨rfl, rfl, rfl, rfl, rfl, rfl, rfl, trivial⟩
  refine J.norm rfl ?_
  obtain ⟨pw8, cw8⟩ := w
  dsimp only
  refine J.seq ?_
  refine J.draw [10, 11] Tryz.mixed (by kernel_rfl) fun hR => ?_
  refine RG.p 0 hR rfl (Q.mv rfl) <| RG.p 1 hR rfl (Q.nil_ rfl) <| RG.p 2 hR rfl (Q.fa (n := 4) runUnderlying86 rfl rfl sizeOf84 rfl) ?_
  refine RG.p 3 hR rfl (Q.ldI isAgg84 rfl) ?_
  refine RG.p 4 hR rfl (Q.fa (n := 1) runUnderlying58 rfl rfl sizeOf40 rfl) ?_
  refine RG.p 5 hR rfl (Q.ldI isAgg40 rfl) ?_
  refine RG.p 6 hR rfl (X.G.Q.lk2V (f := encU) H.before ord3_nat hH.before runUnderlying84 keyU zeroValue40 rfl rfl) ?_
  refine RG.p 7 hR rfl (Q.mv rfl) <| RG.p 8 hR rfl (Q.ext rfl rfl) ?_
  refine RG.slot 91 (.int .u64 (((sget e.id H.before).getD 0 : Nat) : Int)) rfl (getD_enc _) ?_
  refine RG.p 9 hR rfl (Q.ext rfl rfl) ?_
  refine RG.keep 10 hR rfl rfl rfl rfl rfl (Q.asg rfl) ?_
  refine RG.bar 11 hR rfl rfl rfl rfl rfl rfl (Q.asg rfl).toC ?_
  rintro _ _ ⟨rfl, rfl⟩
  refine RG.norm rfl ?_
  refine RG.fin hR rfl ?_
  refine J.norm rfl <| J.then_n ?_
  refine J.cut (fun _ : Option Addr × Nat => True) (fun _ => [(0, .pointer (some ⟨h, 0, none⟩)), (3, .pointer (some ⟨b3, 0, none⟩)), (5, .pointer (some ⟨b5, 0, none⟩)), (6, .func (.func 52) #[] #[.pointer (some ⟨b5, 0, none⟩)]), (7, .bool (defB e.w.r.status)), (8, .int .u64 e.index), (9, .bool (thereB H e.id e.index))]) (fun w => [pt b3 (.cells e.cells.toArray 58 (0, 0)), pt b5 (.cells [Value.slice w.1 (rul4 H e.m).length w.2].toArray 82 (0, 0)), own 33 1 (.slice w.1 (rul4 H e.m).length w.2) ((rul4 H e.m).map (Value.int .i64)), pt h (.cells [.slice z.lp z.ws.length z.lc, .slice z.rp z.rws.length z.rc, .map (some z.f), .map (some z.a), .map (some z.b), .int .u64 H.most].toArray 86 (0, 0)), own 44 5 (.slice z.rp z.rws.length z.rc) (z.rws.flatMap RW.cells), MapAt encU (valRep encU) z.f H.first, MapAt encU (valRep Value.bool) z.a H.asked, MapAt encU (valRep encU) z.b H.before, own 127 10 (.slice z.lp z.ws.length z.lc) (z.ws.flatMap SW.cells), star (z.ws.map SW.asn), star [G, star (z.rws.map RW.asn)], F]) ?_ fun w _ => ?_
  ·
   refine J.draw [27] Tryz.mixed (by kernel_rfl) fun hR => ?_
   refine RG.p 0 hR rfl (Q.mv rfl) <| RG.p 1 hR rfl (Q.mv rfl) <| RG.p 2 hR rfl (Q.neq rfl rfl) <| RG.p 3 hR rfl (Q.mv rfl) ?_
   refine RG.cases 96 rfl (fun hb96 => ?_) (fun hb96 => ?_)
   ·
    replace hb96 := X.nm hb96
    refine RG.p 4 hR rfl (Q.mv rfl) <| RG.p 5 hR rfl (Q.pick_t rfl rfl) <| RG.p 6 hR rfl (Q.mv rfl) ?_
    refine RG.cases 99 rfl (fun hb99 => ?_) (fun hb99 => ?_)
    ·
     replace hb99 := X.nm hb99
     refine RG.p 7 hR rfl (Q.mv rfl) <| RG.p 8 hR rfl (Q.nil_ rfl) <| RG.p 9 hR rfl (Q.fa (n := 2) runUnderlying86 rfl rfl sizeOf84 rfl) ?_
     refine RG.p 10 hR rfl (Q.ldI isAgg84 rfl) ?_
     refine RG.p 11 hR rfl (Q.fa (n := 1) runUnderlying58 rfl rfl sizeOf40 rfl) ?_
     refine RG.p 12 hR rfl (Q.ldI isAgg40 rfl) ?_
     refine RG.p 13 hR rfl (X.G.Q.lkV (f := encU) H.first ord3_nat hH.first runUnderlying84 keyU zeroValue40 rfl rfl) ?_
     refine RG.slot 106 (.int .u64 (((sget e.id H.first).getD 0 : Nat) : Int)) rfl (getD_enc _) ?_
     refine RG.p 14 hR rfl (Q.neq rfl rfl) <| RG.p 15 hR rfl (Q.pick_t rfl rfl) <| RG.p 16 hR rfl (Q.mv rfl) ?_
     refine RG.cases 109 rfl (fun hb109 => ?_) (fun hb109 => ?_)
     ·
      replace hb109 := X.nm hb109
      refine RG.p 17 hR rfl (Q.mv rfl) <| RG.p 18 hR rfl (Q.nil_ rfl) <| RG.p 19 hR rfl (Q.fa (n := 2) runUnderlying86 rfl rfl sizeOf84 rfl) ?_
      refine RG.p 20 hR rfl (Q.ldI isAgg84 rfl) ?_
      refine RG.p 21 hR rfl (Q.fa (n := 1) runUnderlying58 rfl rfl sizeOf40 rfl) ?_
      refine RG.p 22 hR rfl (Q.ldI isAgg40 rfl) ?_
      refine RG.p 23 hR rfl (X.G.Q.lkV (f := encU) H.first ord3_nat hH.first runUnderlying84 keyU zeroValue40 rfl rfl) ?_
      refine RG.slot 116 (.int .u64 (((sget e.id H.first).getD 0 : Nat) : Int)) rfl (getD_enc _) ?_
      refine RG.p 24 hR rfl (Q.mv rfl) <| RG.p 25 hR rfl (Q.leq rfl rfl) <| RG.p 26 hR rfl (Q.pick_t rfl rfl) ?_
      refine RG.slot 119 (.bool (lateB H e.m)) rfl (by
        show Value.bool _ = Value.bool (decide (e.index ≠ 0) && (sget e.id H.before).isSome && decide ((sget e.id H.first).getD 0 ≠ 0) && decide ((sget e.id H.first).getD 0 ≤ (sget e.id H.before).getD 0))
        first
         | (rw [decide_eq_false (show ¬ e.index ≠ 0 by omega)]; rfl)
         | (rw [decide_eq_true (show e.index ≠ 0 by omega), show (sget e.id H.before).isSome = false from hb99]; rfl)
         | (rw [decide_eq_true (show e.index ≠ 0 by omega), show (sget e.id H.before).isSome = true from hb99, decide_eq_false (show ¬ (sget e.id H.first).getD 0 ≠ 0 by omega)]; rfl)
         | (rw [decide_eq_true (show e.index ≠ 0 by omega), show (sget e.id H.before).isSome = true from hb99, decide_eq_true (show (sget e.id H.first).getD 0 ≠ 0 by omega), decide_eq_decide.2 (show (sget e.id H.first).getD 0 ≤ (sget e.id H.before).getD 0 ↔ (((sget e.id H.first).getD 0 : Nat) : Int) ≤ (((sget e.id H.before).getD 0 : Nat) : Int) by omega)]; rfl)) ?_
      refine RG.bar 27 hR rfl rfl rfl rfl rfl rfl (OpC.callvP (first := []) (args := [.int .i64 5, .bool (lateB H e.m)]) (cap := [.pointer (some ⟨b5, 0, none⟩)]) call52 rfl rfl (add_spec b5 pw8 cw8 (rul3 H e.m) 5 (lateB H e.m) (by first | omega | simp))) ?_
      rintro _ _ ⟨_, ⟨p120, c120, rfl, rfl⟩, rfl⟩
      refine RG.norm rfl ?_
      rw [show addR (rul3 H e.m) 5 (lateB H e.m) = rul4 H e.m from rfl]
      refine RG.fin hR rfl ?_
      refine J.norm rfl ?_
      exact J.meetI (p120, c120) trivial ⟨rfl, rfl, rfl, rfl, rfl, rfl, rfl, trivial⟩
     replace hb109 := X.nm hb109
     refine RG.k 17 hR rfl <| RG.k 18 hR rfl <| RG.k 19 hR rfl <| RG.k 20 hR rfl <| RG.k 21 hR rfl <| RG.k 22 hR rfl <| RG.k 23 hR rfl <| RG.k 24 hR rfl <| RG.k 25 hR rfl <| RG.p 26 hR rfl (Q.pick_f rfl rfl) ?_
     refine RG.slot 119 (.bool (lateB H e.m)) rfl (by
       show Value.bool _ = Value.bool (decide (e.index ≠ 0) && (sget e.id H.before).isSome && decide ((sget e.id H.first).getD 0 ≠ 0) && decide ((sget e.id H.first).getD 0 ≤ (sget e.id H.before).getD 0))
       first
        | (rw [decide_eq_false (show ¬ e.index ≠ 0 by omega)]; rfl)
        | (rw [decide_eq_true (show e.index ≠ 0 by omega), show (sget e.id H.before).isSome = false from hb99]; rfl)
        | (rw [decide_eq_true (show e.index ≠ 0 by omega), show (sget e.id H.before).isSome = true from hb99, decide_eq_false (show ¬ (sget e.id H.first).getD 0 ≠ 0 by omega)]; rfl)
        | (rw [decide_eq_true (show e.index ≠ 0 by omega), show (sget e.id H.before).isSome = true from hb99, decide_eq_true (show (sget e.id H.first).getD 0 ≠ 0 by omega), decide_eq_decide.2 (show (sget e.id H.first).getD 0 ≤ (sget e.id H.before).getD 0 ↔ (((sget e.id H.first).getD 0 : Nat) : Int) ≤ (((sget e.id H.before).getD 0 : Nat) : Int) by omega)]; rfl)) ?_
     refine RG.bar 27 hR rfl rfl rfl rfl rfl rfl (OpC.callvP (first := []) (args := [.int .i64 5, .bool (lateB H e.m)]) (cap := [.pointer (some ⟨b5, 0, none⟩)]) call52 rfl rfl (add_spec b5 pw8 cw8 (rul3 H e.m) 5 (lateB H e.m) (by first | omega | simp))) ?_
     rintro _ _ ⟨_, ⟨p120, c120, rfl, rfl⟩, rfl⟩
     refine RG.norm rfl ?_
     rw [show addR (rul3 H e.m) 5 (lateB H e.m) = rul4 H e.m from rfl]
     refine RG.fin hR rfl ?_
     refine J.norm rfl ?_
     exact J.meetI (p120, c120) trivial ⟨rfl, rfl, rfl, rfl, rfl, rfl, rfl, trivial⟩
    replace hb99 := X.nm hb99
    refine RG.k 7 hR rfl <| RG.k 8 hR rfl <| RG.k 9 hR rfl <| RG.k 10 hR rfl <| RG.k 11 hR rfl <| RG.k 12 hR rfl <| RG.k 13 hR rfl <| RG.k 14 hR rfl <| RG.p 15 hR rfl (Q.pick_f rfl rfl) <| RG.p 16 hR rfl (Q.mv rfl) ?_
    refine RG.k 17 hR rfl <| RG.k 18 hR rfl <| RG.k 19 hR rfl <| RG.k 20 hR rfl <| RG.k 21 hR rfl <| RG.k 22 hR rfl <| RG.k 23 hR rfl <| RG.k 24 hR rfl <| RG.k 25 hR rfl <| RG.p 26 hR rfl (Q.pick_f rfl rfl) ?_
    refine RG.slot 119 (.bool (lateB H e.m)) rfl (by
      show Value.bool _ = Value.bool (decide (e.index ≠ 0) && (sget e.id H.before).isSome && decide ((sget e.id H.first).getD 0 ≠ 0) && decide ((sget e.id H.first).getD 0 ≤ (sget e.id H.before).getD 0))
      first
       | (rw [decide_eq_false (show ¬ e.index ≠ 0 by omega)]; rfl)
       | (rw [decide_eq_true (show e.index ≠ 0 by omega), show (sget e.id H.before).isSome = false from hb99]; rfl)
       | (rw [decide_eq_true (show e.index ≠ 0 by omega), show (sget e.id H.before).isSome = true from hb99, decide_eq_false (show ¬ (sget e.id H.first).getD 0 ≠ 0 by omega)]; rfl)
       | (rw [decide_eq_true (show e.index ≠ 0 by omega), show (sget e.id H.before).isSome = true from hb99, decide_eq_true (show (sget e.id H.first).getD 0 ≠ 0 by omega), decide_eq_decide.2 (show (sget e.id H.first).getD 0 ≤ (sget e.id H.before).getD 0 ↔ (((sget e.id H.first).getD 0 : Nat) : Int) ≤ (((sget e.id H.before).getD 0 : Nat) : Int) by omega)]; rfl)) ?_
    refine RG.bar 27 hR rfl rfl rfl rfl rfl rfl (OpC.callvP (first := []) (args := [.int .i64 5, .bool (lateB H e.m)]) (cap := [.pointer (some ⟨b5, 0, none⟩)]) call52 rfl rfl (add_spec b5 pw8 cw8 (rul3 H e.m) 5 (lateB H e.m) (by first | omega | simp))) ?_
    rintro _ _ ⟨_, ⟨p120, c120, rfl, rfl⟩, rfl⟩
    refine RG.norm rfl ?_
    rw [show addR (rul3 H e.m) 5 (lateB H e.m) = rul4 H e.m from rfl]
    refine RG.fin hR rfl ?_
    refine J.norm rfl ?_
    exact J.meetI (p120, c120) trivial ⟨rfl, rfl, rfl, rfl, rfl, rfl, rfl, trivial⟩
   replace hb96 := X.nm hb96
   refine RG.k 4 hR rfl <| RG.p 5 hR rfl (Q.pick_f rfl rfl) <| RG.p 6 hR rfl (Q.mv rfl) <| RG.k 7 hR rfl <| RG.k 8 hR rfl <| RG.k 9 hR rfl <| RG.k 10 hR rfl <| RG.k 11 hR rfl <| RG.k 12 hR rfl <| RG.k 13 hR rfl ?_
   refine RG.k 14 hR rfl <| RG.p 15 hR rfl (Q.pick_f rfl rfl) <| RG.p 16 hR rfl (Q.mv rfl) <| RG.k 17 hR rfl <| RG.k 18 hR rfl <| RG.k 19 hR rfl <| RG.k 20 hR rfl <| RG.k 21 hR rfl <| RG.k 22 hR rfl <| RG.k 23 hR rfl ?_
   refine RG.k 24 hR rfl <| RG.k 25 hR rfl <| RG.p 26 hR rfl (Q.pick_f rfl rfl) ?_
   refine RG.slot 119 (.bool (lateB H e.m)) rfl (by
     show Value.bool _ = Value.bool (decide (e.index ≠ 0) && (sget e.id H.before).isSome && decide ((sget e.id H.first).getD 0 ≠ 0) && decide ((sget e.id H.first).getD 0 ≤ (sget e.id H.before).getD 0))
     first
      | (rw [decide_eq_false (show ¬ e.index ≠ 0 by omega)]; rfl)
      | (rw [decide_eq_true (show e.index ≠ 0 by omega), show (sget e.id H.before).isSome = false from hb99]; rfl)
      | (rw [decide_eq_true (show e.index ≠ 0 by omega), show (sget e.id H.before).isSome = true from hb99, decide_eq_false (show ¬ (sget e.id H.first).getD 0 ≠ 0 by omega)]; rfl)
      | (rw [decide_eq_true (show e.index ≠ 0 by omega), show (sget e.id H.before).isSome = true from hb99, decide_eq_true (show (sget e.id H.first).getD 0 ≠ 0 by omega), decide_eq_decide.2 (show (sget e.id H.first).getD 0 ≤ (sget e.id H.before).getD 0 ↔ (((sget e.id H.first).getD 0 : Nat) : Int) ≤ (((sget e.id H.before).getD 0 : Nat) : Int) by omega)]; rfl)) ?_
   refine RG.bar 27 hR rfl rfl rfl rfl rfl rfl (OpC.callvP (first := []) (args := [.int .i64 5, .bool (lateB H e.m)]) (cap := [.pointer (some ⟨b5, 0, none⟩)]) call52 rfl rfl (add_spec b5 pw8 cw8 (rul3 H e.m) 5 (lateB H e.m) (by first | omega | simp))) ?_
   rintro _ _ ⟨_, ⟨p120, c120, rfl, rfl⟩, rfl⟩
   refine RG.norm rfl ?_
   rw [show addR (rul3 H e.m) 5 (lateB H e.m) = rul4 H e.m from rfl]
   refine RG.fin hR rfl ?_
   refine J.norm rfl ?_
   exact J.meetI (p120, c120) trivial ⟨rfl, rfl, rfl, rfl, rfl, rfl, rfl, trivial⟩
  refine J.norm rfl ?_
  obtain ⟨pw10, cw10⟩ := w
  dsimp only
  refine J.seq ?_
  refine J.pickI [pt b3 (.cells e.cells.toArray 58 (0, 0)), pt h (.cells [.slice z.lp z.ws.length z.lc, .slice z.rp z.rws.length z.rc, .map (some z.f), .map (some z.a), .map (some z.b), .int .u64 H.most].toArray 86 (0, 0)), own 44 5 (.slice z.rp z.rws.length z.rc) (z.rws.flatMap RW.cells)] ?_
  refine J.norm rfl ?_
  refine J.drawE [17, 20] 3 Tryz.mixed (by kernel_rfl) rfl rfl fun hR => ?_
  refine RG.p 0 hR rfl (Q.mv rfl) <| RG.p 1 hR rfl (Q.mv rfl) <| RG.p 2 hR rfl (Q.mv rfl) ?_
  refine RG.cases 123 rfl (fun hb123 => ?_) (fun hb123 => ?_)
  ·
   replace hb123 := X.nm hb123
   refine RG.p 3 hR rfl (Q.mv rfl) <| RG.p 4 hR rfl (Q.pick_t rfl rfl) <| RG.p 5 hR rfl (Q.mv rfl) ?_
   refine RG.cases 126 rfl (fun hb126 => ?_) (fun hb126 => ?_)
   ·
    replace hb126 := X.nm hb126
    have hth : thereB H e.id e.index = true := hb126
    obtain ⟨hn1, hn2⟩ := there_in hth
    obtain ⟨b, off, hlp, hrd⟩ := hsr.some_ (by omega)
    obtain ⟨w, hw⟩ : ∃ w, z.rws[e.index - 1]? = some w := ⟨_, List.getElem?_eq_getElem (by omega)⟩
    have hws : H.rs[e.index - 1]? = some w.r := by rw [← hz.rs, List.getElem?_map, hw]; rfl
    refine RG.p 6 hR rfl (Q.fa (n := 12) runUnderlying58 rfl rfl sizeOf44 rfl) <| RG.p 7 hR rfl (Q.ldN (vs := [_, _, _, _, _]) isAgg44 sizeOf44 rfl (rnSub 12 rfl)) <| RG.p 8 hR rfl (Q.mv rfl) <| RG.p 9 hR rfl (Q.nil_ rfl) <| RG.p 10 hR rfl (Q.fa (n := 1) runUnderlying86 rfl rfl sizeOf48 rfl) ?_
    refine RG.p 11 hR rfl (Q.ldI isAgg48 rfl) ?_
    refine RG.slot 132 (.slice (some ⟨b, off, none⟩) z.rws.length z.rc) rfl (by rw [hlp]) ?_
    refine RG.p 12 hR rfl (Q.mv rfl) <| RG.p 13 hR rfl (Q.maxI rfl) ?_
    refine RG.slot 134 (.int .u64 (e.index : Int)) rfl (by rw [show (if (1 : Int) > (e.index : Int) then (1 : Int) else (e.index : Int)) = (e.index : Int) from if_neg (by omega)]) ?_
    refine RG.p 14 hR rfl (Q.sub rfl rfl) ?_
    refine RG.slot 135 (.int .u64 ((e.index - 1 : Nat) : Int)) rfl (by rw [show (e.index : Int) - 1 = ((e.index - 1 : Nat) : Int) by omega, wrap64 (by omega)]) ?_
    refine RG.p 15 hR rfl (Q.ia runUnderlying48 sizeOf44 rfl rfl (by omega) (by omega)) <| RG.p 16 hR rfl (Q.ldN (vs := [_, _, _, _, _]) isAgg44 sizeOf44 rfl ((rd_elem RW.cells_length hrd hw (by simp)).inI)) ?_
    refine RG.callkI 17 hR rfl rfl rfl rfl rfl call53 (same_spec (star [G, star (z.rws.map RW.asn)]) e.w w (he.w.into 0 rfl) (((hro _ _ hw).into (e.index - 1) (by rw [List.getElem?_map, hw]; rfl)).into 1 rfl)) rfl ?_
    rintro _ _ ⟨rfl, rfl⟩
    refine RG.normE rfl <| RG.p 18 hR rfl (Q.not rfl) <| RG.p 19 hR rfl (Q.pick_t rfl rfl) ?_
    refine RG.slot 140 (.bool (toldB H e.m)) rfl (by
      show Value.bool _ = Value.bool (defB e.w.r.status && thereB H e.id e.index && !(match H.rs[max e.index 1 - 1]? with | some r => sameM e.w.r r | none => true))
      first
       | (rw [show defB e.w.r.status = false from hb123]; rfl)
       | (rw [show defB e.w.r.status = true from hb123, show thereB H e.id e.index = false from hb126]; rfl)
       | (rw [show defB e.w.r.status = true from hb123, hth, show max e.index 1 - 1 = e.index - 1 by omega, hws]; rfl)) ?_
    refine RG.bar 20 hR rfl rfl rfl rfl rfl rfl (OpC.callvP (first := []) (args := [.int .i64 6, .bool (toldB H e.m)]) (cap := [.pointer (some ⟨b5, 0, none⟩)]) call52 rfl rfl (add_spec b5 pw10 cw10 (rul4 H e.m) 6 (toldB H e.m) (by first | omega | simp))) ?_
    rintro _ _ ⟨_, ⟨p141, c141, rfl, rfl⟩, rfl⟩
    refine RG.norm rfl ?_
    rw [show addR (rul4 H e.m) 6 (toldB H e.m) = H.breaks e.m from rfl]
    refine RG.fin hR rfl ?_
    refine J.norm rfl <| J.then_n <| J.seq <| J.region ?_
    refine J.p rfl (Q.ldI isAgg82 rfl) ?_
    refine J.p rfl (Q.asg rfl) <| J.nil <| J.then_n <| J.cret ?_
    refine J.unpackI [G, star (z.rws.map RW.asn)] ?_
    refine J.norm rfl ?_
    refine J.shutI (z.asns h H) (HAt h H) (fun _ s => ⟨z, hz, s⟩) ?_
    refine J.ret1I [own 33 1 (.slice p141 (H.breaks e.m).length c141) ((H.breaks e.m).map (Value.int .i64)), HAt h H, G] rfl rfl ⟨p141, c141, rfl, rfl⟩
   replace hb126 := X.nm hb126
   refine RG.k 6 hR rfl <| RG.k 7 hR rfl <| RG.k 8 hR rfl <| RG.k 9 hR rfl <| RG.k 10 hR rfl <| RG.k 11 hR rfl <| RG.k 12 hR rfl <| RG.k 13 hR rfl <| RG.k 14 hR rfl <| RG.k 15 hR rfl ?_
   refine RG.k 16 hR rfl ?_
   refine RG.pass 17 hR rfl rfl rfl rfl rfl ?_
   refine RG.k 18 hR rfl <| RG.p 19 hR rfl (Q.pick_f rfl rfl) ?_
   refine RG.slot 140 (.bool (toldB H e.m)) rfl (by
     show Value.bool _ = Value.bool (defB e.w.r.status && thereB H e.id e.index && !(match H.rs[max e.index 1 - 1]? with | some r => sameM e.w.r r | none => true))
     first
      | (rw [show defB e.w.r.status = false from hb123]; rfl)
      | (rw [show defB e.w.r.status = true from hb123, show thereB H e.id e.index = false from hb126]; rfl)
      | (rw [show defB e.w.r.status = true from hb123, hth, show max e.index 1 - 1 = e.index - 1 by omega, hws]; rfl)) ?_
   refine RG.bar 20 hR rfl rfl rfl rfl rfl rfl (OpC.callvP (first := []) (args := [.int .i64 6, .bool (toldB H e.m)]) (cap := [.pointer (some ⟨b5, 0, none⟩)]) call52 rfl rfl (add_spec b5 pw10 cw10 (rul4 H e.m) 6 (toldB H e.m) (by first | omega | simp))) ?_
   rintro _ _ ⟨_, ⟨p141, c141, rfl, rfl⟩, rfl⟩
   refine RG.norm rfl ?_
   rw [show addR (rul4 H e.m) 6 (toldB H e.m) = H.breaks e.m from rfl]
   refine RG.fin hR rfl ?_
   refine J.norm rfl <| J.then_n <| J.seq <| J.region ?_
   refine J.p rfl (Q.ldI isAgg82 rfl) ?_
   refine J.p rfl (Q.asg rfl) <| J.nil <| J.then_n <| J.cret ?_
   refine J.unpackI [G, star (z.rws.map RW.asn)] ?_
   refine J.norm rfl ?_
   refine J.shutI (z.asns h H) (HAt h H) (fun _ s => ⟨z, hz, s⟩) ?_
   refine J.ret1I [own 33 1 (.slice p141 (H.breaks e.m).length c141) ((H.breaks e.m).map (Value.int .i64)), HAt h H, G] rfl rfl ⟨p141, c141, rfl, rfl⟩
  replace hb123 := X.nm hb123
  refine RG.k 3 hR rfl <| RG.p 4 hR rfl (Q.pick_f rfl rfl) <| RG.p 5 hR rfl (Q.mv rfl) <| RG.k 6 hR rfl <| RG.k 7 hR rfl <| RG.k 8 hR rfl <| RG.k 9 hR rfl <| RG.k 10 hR rfl <| RG.k 11 hR rfl <| RG.k 12 hR rfl ?_
  refine RG.k 13 hR rfl <| RG.k 14 hR rfl <| RG.k 15 hR rfl <| RG.k 16 hR rfl ?_
  refine RG.pass 17 hR rfl rfl rfl rfl rfl ?_
  refine RG.k 18 hR rfl <| RG.p 19 hR rfl (Q.pick_f rfl rfl) ?_
  refine RG.slot 140 (.bool (toldB H e.m)) rfl (by
    show Value.bool _ = Value.bool (defB e.w.r.status && thereB H e.id e.index && !(match H.rs[max e.index 1 - 1]? with | some r => sameM e.w.r r | none => true))
    first
     | (rw [show defB e.w.r.status = false from hb123]; rfl)
     | (rw [show defB e.w.r.status = true from hb123, show thereB H e.id e.index = false from hb126]; rfl)
     | (rw [show defB e.w.r.status = true from hb123, hth, show max e.index 1 - 1 = e.index - 1 by omega, hws]; rfl)) ?_
  refine RG.bar 20 hR rfl rfl rfl rfl rfl rfl (OpC.callvP (first := []) (args := [.int .i64 6, .bool (toldB H e.m)]) (cap := [.pointer (some ⟨b5, 0, none⟩)]) call52 rfl rfl (add_spec b5 pw10 cw10 (rul4 H e.m) 6 (toldB H e.m) (by first | omega | simp))) ?_
  rintro _ _ ⟨_, ⟨p141, c141, rfl, rfl⟩, rfl⟩
  refine RG.norm rfl ?_
  rw [show addR (rul4 H e.m) 6 (toldB H e.m) = H.breaks e.m from rfl]
  refine RG.fin hR rfl ?_
  refine J.norm rfl <| J.then_n <| J.seq <| J.region ?_
  refine J.p rfl (Q.ldI isAgg82 rfl) ?_
  refine J.p rfl (Q.asg rfl) <| J.nil <| J.then_n <| J.cret ?_
  refine J.unpackI [G, star (z.rws.map RW.asn)] ?_
  refine J.norm rfl ?_
  refine J.shutI (z.asns h H) (HAt h H) (fun _ s => ⟨z, hz, s⟩) ?_
  refine J.ret1I [own 33 1 (.slice p141 (H.breaks e.m).length c141) ((H.breaks e.m).map (Value.int .i64)), HAt h H, G] rfl rfl ⟨p141, c141, rfl, rfl⟩

def JM.told (H : JM) (e : EM) : JM := { H with asked := sput ltN e.id false H.asked, most := if defB e.res.status then max H.most e.index else H.most }
structure FM where
  rule : Int
  event : Int
abbrev FM.cells (f : FM) : List Value := [.int .i64 f.rule, .int .i64 f.event]
theorem FM.len (f : FM) : f.cells.length = 2 := rfl
theorem FM.one (f : FM) : ∀ v, v ∈ f.cells → oneC v = true := by
  intro v hv
  simp only [FM.cells, List.mem_cons, List.not_mem_nil, or_false] at hv
  rcases hv with rfl | rfl <;> rfl
structure ES where
  H : JM
  fs : List FM
  n : Nat
def ES.step (z : ES) (e : EM) : ES :=
  if e.answer then ⟨z.H.told e, z.fs ++ (z.H.breaks e).map (fun r => ⟨r, z.n⟩), z.n + 1⟩ else ⟨z.H.ask e.id, z.fs, z.n + 1⟩
def runE (H : JM) (l : List EM) : ES := l.foldl ES.step ⟨H, [], 0⟩
def faults (H : JM) (l : List EM) : List FM := (runE H l).fs
theorem runE_snoc (H : JM) (l : List EM) (e : EM) : runE H (l ++ [e]) = (runE H l).step e := by simp [runE]
theorem runE_take {H : JM} {l : List EM} {k : Nat} {e : EM} (h : l[k]? = some e) : runE H (l.take (k + 1)) = (runE H (l.take k)).step e := by
  obtain ⟨h1, h2⟩ := List.getElem?_eq_some_iff.1 h
  rw [List.take_succ_eq_append_getElem h1, h2, runE_snoc]
theorem JM.ok.ask {H : JM} (h : H.ok) (id : Nat) : (H.ask id).ok := by
  refine ⟨h.first, X.G.srtd_put ord3_nat h.asked _ _, ?_, h.len, h.small, h.rs⟩
  show Srtd ltN (if (sget id H.before).isSome then H.before else sput ltN id H.most H.before)
  split
  · exact h.before
  · exact X.G.srtd_put ord3_nat h.before _ _
theorem JM.ok.told {H : JM} (h : H.ok) (e : EM) : (H.told e).ok := ⟨h.first, X.G.srtd_put ord3_nat h.asked _ _, h.before, h.len, h.small, h.rs⟩
structure ES.ok (k : Nat) (z : ES) : Prop where
  h : z.H.ok
  n : z.n = k
  fs : z.fs.length ≤ 5 * k
theorem ES.ok.step {k : Nat} {z : ES} (h : z.ok k) (e : EM) : (z.step e).ok (k + 1) := by
  obtain ⟨h1, h2, h3⟩ := h
  obtain ⟨_, _, _, _, n5⟩ := rul_le z.H e
  unfold ES.step
  split
  · exact ⟨h1.told e, by show z.n + 1 = k + 1; omega, by show (z.fs ++ _).length ≤ _; rw [List.length_append, List.length_map]; omega⟩
  · exact ⟨h1.ask e.id, by show z.n + 1 = k + 1; omega, by show z.fs.length ≤ _; omega⟩
theorem ES.ok.fold : ∀ (l : List EM) {k : Nat} {z : ES}, z.ok k → (l.foldl ES.step z).ok (k + l.length)
  | [], _, _, h => h
  | e :: l, k, z, h => by
    have := ES.ok.fold l (h.step e)
    rw [List.foldl_cons, List.length_cons, show k + (l.length + 1) = k + 1 + l.length by omega]; exact this
theorem runE_ok {H : JM} (h : H.ok) (l : List EM) : (runE H l).ok l.length := by
  have := ES.ok.fold l (k := 0) (z := ⟨H, [], 0⟩) ⟨h, rfl, Nat.zero_le _⟩
  rwa [Nat.zero_add] at this

structure Evs (G : Assn) (ep : Option Addr) (ec : Nat) (l : List EW) : Prop where
  rd : SlR [G] 17 (.slice ep l.length ec) (l.flatMap EW.cells)
  ok : ∀ e, e ∈ l → e.ok G
  small : l.length ≤ 32768

theorem EW.ok.into {A : List Assn} {X : Assn} {x : EW} (h : x.ok X) (i : Nat) (e : A[i]? = some X) : x.ok (star A) := ⟨h.w.into i e, h.index⟩
theorem Evs.into {A : List Assn} {X : Assn} {ep : Option Addr} {ec : Nat} {l : List EW} (h : Evs X ep ec l) (i : Nat) (e : A[i]? = some X) : Evs (star A) ep ec l := ⟨h.rd.into i e, fun x hx => (h.ok x hx).into i e, h.small⟩
theorem SlP.into {A : List Assn} {X : Assn} {p : Option Addr} {c : Nat} {bs : List UInt8} (h : SlP X p c bs) (i : Nat) (e : A[i]? = some X) : SlP (star A) p c bs := ⟨h.sl.into i e, h.n, h.c⟩
theorem Coms.into {A : List Assn} {X : Assn} {p : Option Addr} {c : Nat} {l : List CW} {ds : List DM} (h : Coms X p c l ds) (i : Nat) (e : A[i]? = some X) : Coms (star A) p c l ds := ⟨h.rd.into i e, fun x hx => (h.ok x hx).into i e, h.small, h.dec, h.dl⟩
theorem check_okK (G1 : Assn) (lp : Option Addr) (lc : Nat) (l : List CW) (ds : List DM) (hl : Coms G1 lp lc l ds) (hi : ∀ (i : Nat) (x : CW), l[i]? = some x → x.index = i + 1) (hb : ∀ d, d ∈ ds → d.bad = false)
    (ep : Option Addr) (ec : Nat) (es : List EW) (he : Evs G1 ep ec es) : FSpec Tryz.prog 8 [.slice lp l.length lc, .slice ep es.length ec] [G1]
    (fun u B => ∃ p c, u = .slice p (faults (begM (ds.map DM.m)) (es.map EW.m)).length c ∧ B = [own 35 2 (.slice p (faults (begM (ds.map DM.m)) (es.map EW.m)).length c) ((faults (begM (ds.map DM.m)) (es.map EW.m)).flatMap FM.cells), G1]) := by
  have hesm := he.small
  have hlsm := hl.small
  refine FSpec.of func8 rfl ntmps8 rfl fun W0 F => ?_
  refine J.seq <| J.region <| J.p rfl (Q.asg rfl) <| J.nil <| J.then_n <| J.scope <| J.seq <| J.region <| J.m rfl ?_
  refine J.callI call20 (read_ok G1 lp lc l ds hl hi hb) rfl rfl rfl ?_
  rintro _ _ ⟨ws, wp, wc, rfl, hwm, hwo, rfl⟩
  refine J.norm rfl ?_
  have hwl : ws.length = l.length := by
   have := congrArg List.length hwm
   rw [List.length_map, List.length_map] at this
   rw [this, hl.dl]
  refine J.m rfl <| J.p rfl (Q.ext rfl rfl) <| J.p rfl (Q.ext rfl rfl) <| J.p rfl (Q.asg rfl) <| J.p rfl (Q.asg rfl) <| J.nil <| J.then_n <| J.seq <| J.seq <| J.region <| J.m rfl <| J.p rfl (Q.neq rfl rfl) <| J.nil <| J.then_n ?_
  refine J.kases 19 rfl (fun hc19 => ?_) (fun hc19 => ?_)
  ·
   simp at hc19
  refine J.cond_f rfl <| J.cskip <| J.then_n <| J.seq <| J.region <| J.m rfl ?_
  refine J.callI call21 (jbegin_spec ws wp wc hwo (by omega)) rfl rfl rfl ?_
  rintro _ _ ⟨h, rfl, rfl⟩
  refine J.norm rfl ?_
  obtain ⟨H0, hH0⟩ : ∃ H0, H0 = begM (ds.map DM.m) := ⟨_, rfl⟩
  have hH0o : H0.ok := by rw [hH0]; exact begM_ok (by rw [List.length_map, hl.dl]; omega)
  rw [hwm, ← hH0]
  refine J.p rfl (Q.asg rfl) <| J.nil <| J.then_n <| J.seq <| J.region <| J.p rfl (Q.asg rfl) <| J.nil <| J.then_n <| J.seq ?_
  refine J.clabel ?_
  refine J.then_n <| J.seq <| J.seq <| J.region <| J.m rfl <| J.p rfl (Q.lenSl runUnderlying23 rfl) <| J.m rfl <| J.nil <| J.then_n <| J.block ?_
  refine J.give (own.nil 35 2 _) ?_
  refine J.keepI [own 35 2 (.slice none 0 0) [], HAt h H0, G1, F] ?_
  refine J.loop3 (fun (i : Nat) (_ : Option Addr) (_ : Nat) => i ≤ es.length) (fun i _ _ => es.length - i)
   (fun i p c => [(7, .pointer (some ⟨h, 0, none⟩)), (8, .slice p (runE H0 ((es.map EW.m).take i)).fs.length c), (24, .slice ep es.length ec), (25, .int .i64 es.length), (26, .int .i64 i)])
   (fun i p c => [own 35 2 (.slice p (runE H0 ((es.map EW.m).take i)).fs.length c) ((runE H0 ((es.map EW.m).take i)).fs.flatMap FM.cells), HAt h (runE H0 ((es.map EW.m).take i)).H, G1, F]) 0 none 0 (Nat.zero_le _) ⟨rfl, rfl, rfl, rfl, rfl, trivial⟩ rfl fun i p c hil => ?_
  refine J.seq <| J.region <| J.p rfl (Q.lss rfl rfl) <| J.nil <| J.then_n <| J.seq ?_
  refine J.kases 27 rfl (fun hc27 => ?_) (fun hc27 => ?_)
  ·
   refine J.cond_t rfl <| J.cskip <| J.then_n <| J.seq <| J.block <| J.seq ?_
   have hlt : i < es.length := by omega
   obtain ⟨b, off, hep, hrd⟩ := he.rd.some_ (by omega)
   obtain ⟨e, hex⟩ : ∃ e, es[i]? = some e := ⟨_, List.getElem?_eq_getElem (by omega)⟩
   have heo := he.ok e (List.mem_of_getElem? hex)
   have hidx := heo.index
   have hpt := runE_take (H := H0) (l := es.map EW.m) (k := i) (e := e.m) (by rw [List.getElem?_map, hex]; rfl)
   have hSo := runE_ok hH0o ((es.map EW.m).take i)
   rw [List.length_take, List.length_map, Nat.min_eq_left (by omega)] at hSo
   obtain ⟨S, hS⟩ : ∃ S, S = runE H0 ((es.map EW.m).take i) := ⟨_, rfl⟩
   rw [← hS] at hpt hSo ⊢
   have hfl := hSo.fs
   have hSh := hSo.h
   obtain ⟨n1, n2, n3, n4, n5⟩ := rul_le S.H e.m
   refine J.slot 24 (.slice (some ⟨b, off, none⟩) es.length ec) rfl (by rw [hep]) ?_
   refine J.region <| J.m rfl <| J.p rfl (Q.ia runUnderlying23 sizeOf58 rfl rfl (by omega) (by omega)) <| J.p rfl (Q.ldN (vs := [_, _, _, _, _, _, _, _, _, _, _, _, _, _, _, _, _]) isAgg58 sizeOf58 rfl ((rd_elem EW.len hrd hex (by simp)).inI)) ?_
   refine J.c rfl rfl (C.alloc (l := [_, _, _, _, _, _, _, _, _, _, _, _, _, _, _, _, _]) zeroValue58 rfl) ?_
   rintro _ _ ⟨b10, rfl, rfl⟩
   refine J.norm rfl <| J.p rfl (Q.asg rfl) ?_
   refine J.stAJ (vs := [_, _, _, _, _, _, _, _, _, _, _, _, _, _, _, _, _]) rfl sizeOf58 rfl rfl ?_
   refine J.nil <| J.then_n <| J.seq <| J.seq <| J.region <| J.p rfl (Q.fa (n := 0) runUnderlying58 rfl rfl sizeOf4 rfl) ?_
   refine J.p rfl (Q.ldI isAgg4 rfl) ?_
   refine J.p rfl (Q.not rfl) <| J.nil <| J.then_n ?_
   refine J.kases 33 rfl (fun hc33 => ?_) (fun hc33 => ?_)
   ·
    refine J.cond_t rfl <| J.seq <| J.region <| J.m rfl <| J.p rfl (Q.fa (n := 1) runUnderlying58 rfl rfl sizeOf40 rfl) ?_
    refine J.p rfl (Q.ldI isAgg40 rfl) ?_
    refine J.callI call22 (ask_spec h S.H hSh e.id) rfl rfl rfl ?_
    rintro _ _ ⟨rfl, rfl⟩
    refine J.norm rfl <| J.nil <| J.then_n <| J.exit <| J.then_x <| J.blk_x <| J.then_n <| J.region <| J.p rfl (Q.add64 rfl rfl (by omega)) <| J.m rfl <| J.nil ?_
    have hp : e.answer = false := by simpa using hc33
    have hst : S.step e.m = ⟨S.H.ask e.id, S.fs, S.n + 1⟩ := by unfold ES.step; rw [if_neg (by show ¬ e.answer = true; rw [hp]; simp)]; rfl
    have e3 : S.fs = (runE H0 ((es.map EW.m).take (i + 1))).fs := by rw [hpt, hst]
    have e4 : S.H.ask e.id = (runE H0 ((es.map EW.m).take (i + 1))).H := by rw [hpt, hst]
    rw [e3, e4]
    refine J.againI (i + 1, p, c) (by show i + 1 ≤ _; omega) (by show es.length - (i + 1) < es.length - i; omega) ⟨rfl, rfl, (by show _ = some (Value.slice ep es.length ec); rw [hep]; rfl), rfl, rfl, trivial⟩
   refine J.cond_f rfl <| J.cskip <| J.then_n <| J.seq <| J.seq <| J.region <| J.m rfl ?_
   refine J.p rfl (Q.ldN (vs := [_, _, _, _, _, _, _, _, _, _, _, _, _, _, _, _, _]) isAgg58 sizeOf58 rfl rnI) ?_
   refine J.callI call23 (breaks_spec G1 h S.H hSh e heo) rfl rfl rfl ?_
   rintro _ _ ⟨q, d, rfl, rfl⟩
   refine J.norm rfl ?_
   obtain ⟨rs, hrs⟩ : ∃ rs, rs = S.H.breaks e.m := ⟨_, rfl⟩
   rw [← hrs] at n5 ⊢
   refine J.slrI (E0 := 33) (sz := 1) (p := q) (n := rs.length) (c := d) (xs := rs.map (Value.int .i64)) fun hsr => ?_
   refine J.p rfl (Q.lenSl runUnderlying82 rfl) <| J.m rfl <| J.nil <| J.then_n <| J.block ?_
   refine J.pickI [own 35 2 (.slice p S.fs.length c) (S.fs.flatMap FM.cells), own 33 1 (.slice q rs.length d) (rs.map (Value.int .i64)), HAt h S.H, pt b10 (.cells e.cells.toArray 58 (0, 0)), G1, F] ?_
   refine J.keepI [own 35 2 (.slice p S.fs.length c) (S.fs.flatMap FM.cells), own 33 1 (.slice q rs.length d) (rs.map (Value.int .i64)), HAt h S.H, pt b10 (.cells e.cells.toArray 58 (0, 0)), G1, F] ?_
   refine J.loop3 (fun (j : Nat) (_ : Option Addr) (_ : Nat) => j ≤ rs.length) (fun j _ _ => rs.length - j)
    (fun j p c => [(7, .pointer (some ⟨h, 0, none⟩)), (8, .slice p (S.fs ++ (rs.take j).map fun r => (⟨r, S.n⟩ : FM)).length c), (9, .int .i64 i), (10, .pointer (some ⟨b10, 0, none⟩)), (24, .slice (some ⟨b, off, none⟩) es.length ec), (25, .int .i64 es.length), (26, .int .i64 i), (40, .slice q rs.length d), (41, .int .i64 rs.length), (42, .int .i64 j)])
    (fun j p c => [own 35 2 (.slice p (S.fs ++ (rs.take j).map fun r => (⟨r, S.n⟩ : FM)).length c) ((S.fs ++ (rs.take j).map fun r => (⟨r, S.n⟩ : FM)).flatMap FM.cells), own 33 1 (.slice q rs.length d) (rs.map (Value.int .i64)), HAt h S.H, pt b10 (.cells e.cells.toArray 58 (0, 0)), G1, F]) 0 p c (Nat.zero_le _) ⟨rfl, (by rw [List.take_zero, List.map_nil, List.append_nil]; rfl), rfl, rfl, rfl, rfl, rfl, rfl, rfl, rfl, trivial⟩ (by rw [List.take_zero, List.map_nil, List.append_nil]) fun j p c hjl => ?_
   refine J.seq <| J.region <| J.p rfl (Q.lss rfl rfl) <| J.nil <| J.then_n <| J.seq ?_
   refine J.kases 43 rfl (fun hc43 => ?_) (fun hc43 => ?_)
   ·
    refine J.cond_t rfl <| J.cskip <| J.then_n <| J.seq <| J.block <| J.seq ?_
    have hjt : j < rs.length := by omega
    obtain ⟨b1, o1, hq, hrr⟩ := hsr.some_ (by omega)
    obtain ⟨r, hr⟩ : ∃ r, rs[j]? = some r := ⟨_, List.getElem?_eq_getElem (by omega)⟩
    refine J.slot 40 (.slice (some ⟨b1, o1, none⟩) rs.length d) rfl (by rw [hq]) ?_
    have hjn : rs.take (j + 1) = rs.take j ++ [r] := by
     obtain ⟨q1, q2⟩ := List.getElem?_eq_some_iff.1 hr
     rw [List.take_succ_eq_append_getElem q1, q2]
    have hfn : (S.fs ++ (rs.take j).map fun r => (⟨r, S.n⟩ : FM)).length ≤ 5 * i + 5 := by rw [List.length_append, List.length_map, List.length_take]; omega
    obtain ⟨fs, hfs⟩ : ∃ fs, fs = S.fs ++ (rs.take j).map fun r => (⟨r, S.n⟩ : FM) := ⟨_, rfl⟩
    have hfs2 : S.fs ++ (rs.take (j + 1)).map (fun r => (⟨r, S.n⟩ : FM)) = fs ++ [⟨r, S.n⟩] := by rw [hjn, List.map_append, ← List.append_assoc, ← hfs]; rfl
    rw [← hfs] at hfn ⊢
    refine J.region <| J.p rfl (Q.ia runUnderlying82 sizeOf33 rfl rfl (by omega) (by omega)) <| J.p rfl (Q.ld isAgg33 rfl ((hrr j (.int .i64 r) (by simp [hr])).cast (by simp)).inI) <| J.p rfl (Q.asg rfl) <| J.nil <| J.then_n <| J.region <| J.m rfl <| J.m rfl <| J.m rfl <| J.p rfl (Q.bld (l := [.int .i64 r, .int .i64 i]) runUnderlying35 zeroValue35 places35 rfl (by kernel_rfl)) ?_
    refine J.slot 49 (.agg (FM.cells ⟨r, S.n⟩).toArray) rfl (by rw [hSo.n]) ?_
    refine J.c rfl rfl (C.bslG (l := [_, _]) runUnderlying29 sizeOf35 zeroValue35 (by decide) rfl rfl rfl rfl rfl) ?_
    rintro _ _ ⟨b50, rfl, rfl⟩
    refine J.norm rfl ?_
    refine J.c rfl rfl (C.appI runUnderlying29 runUnderlying29 typeInfo35 sizeOf35 zeroValue35 rfl rfl (SlR.ptI rfl) (FM.one ⟨r, S.n⟩) (by simp [Tryz.t35] <;> omega) (by decide)) ?_
    rintro _ _ ⟨p51, c51, rfl, rfl⟩
    refine J.norm rfl <| J.p rfl (Q.asg rfl) <| J.nil <| J.blk_n <| J.then_n <| J.region <| J.p rfl (Q.add64 rfl rfl (by omega)) <| J.m rfl <| J.nil ?_
    have e1 : fs.length + 1 = (fs ++ [(⟨r, S.n⟩ : FM)]).length := by simp
    have e2 : fs.flatMap FM.cells ++ FM.cells ⟨r, S.n⟩ = (fs ++ [(⟨r, S.n⟩ : FM)]).flatMap FM.cells := by simp
    rw [e1, e2, ← hfs2]
    refine J.againI (j + 1, p51, c51) (by show j + 1 ≤ _; omega) (by show rs.length - (j + 1) < rs.length - j; omega) ⟨rfl, rfl, rfl, rfl, rfl, rfl, rfl, (by show _ = some (Value.slice q rs.length d); rw [hq]; rfl), rfl, rfl, trivial⟩
   refine J.cond_f rfl <| J.exit <| J.then_x <| J.lp_x <| J.blk_x <| J.then_n <| J.seq ?_
   have htk : rs.take j = rs := List.take_of_length_le (by omega)
   rw [htk]
   have hans : e.answer = true := by simpa using hc33
   refine J.openI (HAt h S.H) (fun _ h => h) fun z hz => ?_
   refine J.norm rfl ?_
   refine J.draw [6] Tryz.mixed (by kernel_rfl) fun hR => ?_
   refine RG.p 0 hR rfl (Q.mv rfl) <| RG.p 1 hR rfl (Q.nil_ rfl) <| RG.p 2 hR rfl (Q.fa (n := 3) runUnderlying86 rfl rfl sizeOf63 rfl) ?_
   refine RG.p 3 hR rfl (Q.ldI isAgg63 rfl) ?_
   refine RG.p 4 hR rfl (Q.fa (n := 1) runUnderlying58 rfl rfl sizeOf40 rfl) ?_
   refine RG.p 5 hR rfl (Q.ldI isAgg40 rfl) ?_
   refine RG.bar 6 hR rfl rfl rfl rfl rfl rfl (X.G.C.putV Value.bool S.H.asked false ord3_nat hSh.asked runUnderlying63 keyU rfl rfl rfl) ?_
   rintro _ _ ⟨rfl, rfl⟩
   refine RG.norm rfl ?_
   refine RG.fin hR rfl ?_
   refine J.norm rfl <| J.then_n <| J.seq <| J.region <| J.p rfl (Q.fa (n := 12) runUnderlying58 rfl rfl sizeOf44 rfl) <| J.p rfl (Q.fa (n := 0) runUnderlying44 rfl rfl sizeOf3 rfl) ?_
   refine J.p rfl (Q.ldI isAgg3 rfl) ?_
   refine J.callI call17 (definite_spec e.w.r.status) rfl rfl rfl ?_
   rintro _ _ ⟨rfl, rfl⟩
   refine J.norm rfl <| J.nil <| J.then_n ?_
   refine J.kases 62 rfl (fun hc62 => ?_) (fun hc62 => ?_)
   ·
    refine J.cond_t rfl ?_
    refine J.draw [10] Tryz.mixed (by kernel_rfl) fun hR => ?_
    refine RG.p 0 hR rfl (Q.mv rfl) <| RG.p 1 hR rfl (Q.mv rfl) <| RG.p 2 hR rfl (Q.nil_ rfl) <| RG.p 3 hR rfl (Q.fa (n := 5) runUnderlying86 rfl rfl sizeOf40 rfl) ?_
    refine RG.p 4 hR rfl (Q.ldI isAgg40 rfl) ?_
    refine RG.p 5 hR rfl (Q.fa (n := 11) runUnderlying58 rfl rfl sizeOf40 rfl) ?_
    refine RG.p 6 hR rfl (Q.ldI isAgg40 rfl) ?_
    refine RG.p 7 hR rfl (Q.maxI rfl) ?_
    refine RG.slot 70 (.int .u64 ((max S.H.most e.index : Nat) : Int)) rfl (by
      show Value.int .u64 (if (e.index : Int) > (S.H.most : Int) then (e.index : Int) else (S.H.most : Int)) = _
      congr 1
      split <;> omega) ?_
    refine RG.p 8 hR rfl (Q.nil_ rfl) <| RG.p 9 hR rfl (Q.fa (n := 5) runUnderlying86 rfl rfl sizeOf40 rfl) ?_
    refine RG.stI 10 hR rfl rfl rfl rfl rfl sizeOf40 rfl rfl rfl (by exact rfl) (by exact rfl) (by exact rfl) ?_
    refine RG.fin hR rfl ?_
    refine J.norm rfl <| J.blk_n <| J.then_n <| J.region <| J.p rfl (Q.add64 rfl rfl (by omega)) <| J.m rfl <| J.nil ?_
    have hst : S.step e.m = ⟨S.H.told e.m, S.fs ++ rs.map (fun r => (⟨r, S.n⟩ : FM)), S.n + 1⟩ := by unfold ES.step; rw [if_pos (show e.m.answer = true from hans), hrs]
    have e3 : S.fs ++ rs.map (fun r => (⟨r, S.n⟩ : FM)) = (runE H0 ((es.map EW.m).take (i + 1))).fs := by rw [hpt, hst]
    have e4 : S.H.told e.m = (runE H0 ((es.map EW.m).take (i + 1))).H := by rw [hpt, hst]
    first
     | (have hd : defB e.w.r.status = true := hc62
        have ht : S.H.told e.m = ⟨S.H.l, S.H.rs, S.H.first, sput ltN e.id false S.H.asked, S.H.before, max S.H.most e.index⟩ := by unfold JM.told; rw [show defB e.m.res.status = true from hd]; rfl
        refine J.shutI (z.asns h ⟨S.H.l, S.H.rs, S.H.first, sput ltN e.id false S.H.asked, S.H.before, max S.H.most e.index⟩) (HAt h (S.H.told e.m)) (fun _ s => by rw [ht]; exact ⟨z, ⟨hz.l, hz.rs⟩, s⟩) ?_
        rw [e3, e4]
        refine J.againI (i + 1, p, c) (by show i + 1 ≤ _; omega) (by show es.length - (i + 1) < es.length - i; omega) ⟨rfl, rfl, (by show _ = some (Value.slice ep es.length ec); rw [hep]; rfl), rfl, rfl, trivial⟩)
     | (have hd : defB e.w.r.status = false := hc62
        have ht : S.H.told e.m = ⟨S.H.l, S.H.rs, S.H.first, sput ltN e.id false S.H.asked, S.H.before, S.H.most⟩ := by unfold JM.told; rw [show defB e.m.res.status = false from hd]; rfl
        refine J.shutI (z.asns h ⟨S.H.l, S.H.rs, S.H.first, sput ltN e.id false S.H.asked, S.H.before, S.H.most⟩) (HAt h (S.H.told e.m)) (fun _ s => by rw [ht]; exact ⟨z, ⟨hz.l, hz.rs⟩, s⟩) ?_
        rw [e3, e4]
        refine J.againI (i + 1, p, c) (by show i + 1 ≤ _; omega) (by show es.length - (i + 1) < es.length - i; omega) ⟨rfl, rfl, (by show _ = some (Value.slice ep es.length ec); rw [hep]; rfl), rfl, rfl, trivial⟩)
   refine J.cond_f rfl <| J.cskip <| J.blk_n <| J.then_n <| J.region <| J.p rfl (Q.add64 rfl rfl (by omega)) <| J.m rfl <| J.nil ?_
   have hst : S.step e.m = ⟨S.H.told e.m, S.fs ++ rs.map (fun r => (⟨r, S.n⟩ : FM)), S.n + 1⟩ := by unfold ES.step; rw [if_pos (show e.m.answer = true from hans), hrs]
   have e3 : S.fs ++ rs.map (fun r => (⟨r, S.n⟩ : FM)) = (runE H0 ((es.map EW.m).take (i + 1))).fs := by rw [hpt, hst]
   have e4 : S.H.told e.m = (runE H0 ((es.map EW.m).take (i + 1))).H := by rw [hpt, hst]
   first
    | (have hd : defB e.w.r.status = true := hc62
       have ht : S.H.told e.m = ⟨S.H.l, S.H.rs, S.H.first, sput ltN e.id false S.H.asked, S.H.before, max S.H.most e.index⟩ := by unfold JM.told; rw [show defB e.m.res.status = true from hd]; rfl
       refine J.shutI (z.asns h ⟨S.H.l, S.H.rs, S.H.first, sput ltN e.id false S.H.asked, S.H.before, max S.H.most e.index⟩) (HAt h (S.H.told e.m)) (fun _ s => by rw [ht]; exact ⟨z, ⟨hz.l, hz.rs⟩, s⟩) ?_
       rw [e3, e4]
       refine J.againI (i + 1, p, c) (by show i + 1 ≤ _; omega) (by show es.length - (i + 1) < es.length - i; omega) ⟨rfl, rfl, (by show _ = some (Value.slice ep es.length ec); rw [hep]; rfl), rfl, rfl, trivial⟩)
    | (have hd : defB e.w.r.status = false := hc62
       have ht : S.H.told e.m = ⟨S.H.l, S.H.rs, S.H.first, sput ltN e.id false S.H.asked, S.H.before, S.H.most⟩ := by unfold JM.told; rw [show defB e.m.res.status = false from hd]; rfl
       refine J.shutI (z.asns h ⟨S.H.l, S.H.rs, S.H.first, sput ltN e.id false S.H.asked, S.H.before, S.H.most⟩) (HAt h (S.H.told e.m)) (fun _ s => by rw [ht]; exact ⟨z, ⟨hz.l, hz.rs⟩, s⟩) ?_
       rw [e3, e4]
       refine J.againI (i + 1, p, c) (by show i + 1 ≤ _; omega) (by show es.length - (i + 1) < es.length - i; omega) ⟨rfl, rfl, (by show _ = some (Value.slice ep es.length ec); rw [hep]; rfl), rfl, rfl, trivial⟩)
  refine J.cond_f rfl <| J.exit <| J.then_x <| J.lp_x <| J.blk_x <| J.then_n <| J.seq <| J.region <| J.m rfl <| J.p rfl (Q.asg rfl) <| J.nil <| J.then_n <| J.cret <| J.scp_r ?_
  have htk : (es.map EW.m).take i = es.map EW.m := List.take_of_length_le (by rw [List.length_map]; omega)
  rw [htk]
  rw [hH0, show (runE (begM (ds.map DM.m)) (es.map EW.m)).fs = faults (begM (ds.map DM.m)) (es.map EW.m) from rfl]
  refine J.ret1I [own 35 2 (.slice p (faults (begM (ds.map DM.m)) (es.map EW.m)).length c) ((faults (begM (ds.map DM.m)) (es.map EW.m)).flatMap FM.cells), G1] rfl rfl ⟨p, c, rfl, rfl⟩
theorem check_ok (G1 G2 : Assn) (lp : Option Addr) (lc : Nat) (l : List CW) (ds : List DM) (hl : Coms G1 lp lc l ds) (hi : ∀ (i : Nat) (x : CW), l[i]? = some x → x.index = i + 1) (hb : ∀ d, d ∈ ds → d.bad = false)
    (ep : Option Addr) (ec : Nat) (es : List EW) (he : Evs G2 ep ec es) : FSpec Tryz.prog 8 [.slice lp l.length lc, .slice ep es.length ec] [G1, G2]
    (fun u B => ∃ p c, u = .slice p (faults (begM (ds.map DM.m)) (es.map EW.m)).length c ∧ B = [own 35 2 (.slice p (faults (begM (ds.map DM.m)) (es.map EW.m)).length c) ((faults (begM (ds.map DM.m)) (es.map EW.m)).flatMap FM.cells), G1, G2]) :=
  (check_okK (star [G1, G2]) lp lc l ds (hl.into 0 rfl) hi hb ep ec es (he.into 1 rfl)).conv (fun _ s => HSat.pack (As := [G1, G2]) (Bs := []) s) fun v B ⟨p, c, hv, hB⟩ => ⟨_, ⟨p, c, hv, rfl⟩, fun k s => (by rw [hB] at s; exact HSat.unstar2 s)⟩
end Go.Proofs.YtidbcaimgahllaaGreat
namespace Go.Proofs.YtidbcaimgahllaaGreat
open Go.X
open Go.X.G (Ord3 ord3_nat ord3_int ord3_str ltB sget sput sdel Srtd sget_put)

theorem playP_len (l : List SM) : (playP l).rs.length = l.length := (playP_ok l).len
def isOp (id : Nat) (s : SM) : Prop := s.point = false ∧ s.o.id = id
structure FirstIs (l : List SM) (id f : Nat) : Prop where
  no : f = 0 → ∀ (i : Nat) (s : SM), l[i]? = some s → ¬ isOp id s
  yes : ∀ i, f = i + 1 → (∃ s, l[i]? = some s ∧ isOp id s) ∧ ∀ (j : Nat) (s : SM), j < i → l[j]? = some s → ¬ isOp id s
def isAsk (id : Nat) (e : EM) : Prop := e.answer = false ∧ e.id = id
structure AskIs (l : List EM) (id : Nat) (a : Option Nat) : Prop where
  no : a = none → ∀ (i : Nat) (e : EM), l[i]? = some e → ¬ isAsk id e
  yes : ∀ i, a = some i → (∃ e, l[i]? = some e ∧ isAsk id e) ∧ ∀ (j : Nat) (e : EM), j < i → l[j]? = some e → ¬ isAsk id e
def tellsGe (f : Nat) (e : EM) : Bool := e.answer && defB e.res.status && decide (f ≤ e.index)
def EarlyIs (l : List SM) (es : List EM) (id : Nat) (b : Bool) : Prop :=
  ∃ f a, FirstIs l id f ∧ AskIs es id a ∧ b = (decide (f ≠ 0) && (match a with | none => false | some n => (es.take n).any (tellsGe f)))
def waitsM (es : List EM) (id : Nat) : Bool := es.foldl (fun op e => if e.id = id then !e.answer else op) false
def mostM (es : List EM) : Nat := es.foldl (fun m e => if e.answer && defB e.res.status then max m e.index else m) 0
theorem waitsM_snoc (es : List EM) (e : EM) (id : Nat) : waitsM (es ++ [e]) id = if e.id = id then !e.answer else waitsM es id := by simp [waitsM]
theorem mostM_snoc (es : List EM) (e : EM) : mostM (es ++ [e]) = if e.answer && defB e.res.status then max (mostM es) e.index else mostM es := by simp [mostM]
theorem most_ge {f : Nat} (hf : f ≠ 0) : ∀ n (es : List EM), es.length = n → (es.any (tellsGe f) = decide (f ≤ mostM es)) := by
  intro n
  induction n with
  | zero =>
    intro es h
    obtain rfl := List.eq_nil_of_length_eq_zero h
    simp [mostM, hf]
  | succ n ih =>
    intro es h
    obtain ⟨l, e, rfl⟩ : ∃ l e, es = l ++ [e] := ⟨es.dropLast, es.getLast (by intro q; rw [q] at h; cases h), (List.dropLast_concat_getLast _).symm⟩
    rw [List.length_append, List.length_singleton] at h
    rw [List.any_append, ih l (by omega), mostM_snoc]
    simp only [List.any_cons, List.any_nil, Bool.or_false, tellsGe]
    cases h1 : e.answer && defB e.res.status with
    | false => simp
    | true =>
      simp only [Bool.true_and, if_true]
      rw [Bool.eq_iff_iff]
      simp only [Bool.or_eq_true, decide_eq_true_eq]
      omega

theorem first_none {l : List SM} {id : Nat} : ∀ k, k ≤ l.length → (∀ (i : Nat) (s : SM), i < k → l[i]? = some s → ¬ isOp id s) → sget id (playP (l.take k)).first = none
  | 0, _, _ => rfl
  | k + 1, hk, h => by
    obtain ⟨s, hs⟩ : ∃ s, l[k]? = some s := ⟨_, List.getElem?_eq_getElem (by omega)⟩
    have ih := first_none k (by omega) fun i t hi ht => h i t (by omega) ht
    have hn := h k s (Nat.lt_succ_self k) hs
    rw [playP_take hs]
    unfold PS.step
    split
    · exact ih
    · rename_i hp
      have hne : id ≠ s.o.id := fun e => hn ⟨by simpa using hp, e.symm⟩
      dsimp only
      split
      · rw [sget_put ord3_nat, if_neg hne]; exact ih
      · exact ih
theorem first_stay {l : List SM} {id v : Nat} : ∀ (m : List SM), sget id (playP l).first = some (v + 1) → sget id (playP (l ++ m)).first = some (v + 1)
  | [], h => by rwa [List.append_nil]
  | s :: m, h => by
    have : sget id (playP (l ++ [s])).first = some (v + 1) := by
      rw [playP_snoc]
      unfold PS.step
      split
      · exact h
      · dsimp only
        split
        · rename_i h0
          rw [sget_put ord3_nat]
          split
          · rename_i e; rw [← e, h] at h0; simp at h0
          · exact h
        · exact h
    have := first_stay m this
    rwa [List.append_assoc, List.singleton_append] at this
theorem first_is {l : List SM} {id f : Nat} (h : FirstIs l id f) : (sget id (playP l).first).getD 0 = f := by
  cases f with
  | zero =>
    have := first_none (l := l) (id := id) l.length (Nat.le_refl _) fun i s _ hs => h.no rfl i s hs
    rw [List.take_length] at this
    rw [this]; rfl
  | succ i =>
    obtain ⟨⟨s, hs, hp, hid⟩, hb⟩ := h.yes i rfl
    have hi := (List.getElem?_eq_some_iff.1 hs).1
    have h0 := first_none (l := l) (id := id) i (by omega) hb
    have h1 : sget id (playP (l.take (i + 1))).first = some (i + 1) := by
      rw [playP_take hs]
      unfold PS.step
      rw [if_neg (by rw [hp]; simp)]
      dsimp only
      rw [hid, h0, if_pos (show (none : Option Nat).getD 0 = 0 from rfl), sget_put ord3_nat, if_pos rfl, playP_len, List.length_take, Nat.min_eq_left (by omega)]
    have := first_stay (l.drop (i + 1)) h1
    rw [List.take_append_drop] at this
    rw [this]; rfl

structure KInv (lm : List SM) (es : List EM) (H : JM) : Prop where
  l : H.l = lm
  rs : H.rs = (playP lm).rs
  first : H.first = (playP lm).first
  asked : ∀ id, (sget id H.asked).getD false = waitsM es id
  most : H.most = mostM es
  bef : ∀ id a, AskIs es id a → sget id H.before = a.map fun n => mostM (es.take n)
theorem ask_front {es : List EM} {e : EM} {id : Nat} {a : Option Nat} (h : AskIs (es ++ [e]) id a) : (∀ n, a = some n → n < es.length → AskIs es id a) ∧ (a = some es.length → AskIs es id none ∧ isAsk id e) ∧ (a = none → AskIs es id none ∧ ¬ isAsk id e) ∧ (∀ n, a = some n → n ≤ es.length) := by
  have old : ∀ (i : Nat) (t : EM), es[i]? = some t → (es ++ [e])[i]? = some t := fun i t ht => by rw [List.getElem?_append_left (List.getElem?_eq_some_iff.1 ht).1]; exact ht
  have new : (es ++ [e])[es.length]? = some e := by rw [List.getElem?_append_right (Nat.le_refl _), Nat.sub_self]; rfl
  refine ⟨fun n hn hl => ⟨fun q => (by rw [hn] at q; cases q), fun i hi => ?_⟩, fun hn => ⟨⟨fun _ i t ht q => ?_, fun i hi => (by cases hi)⟩, ?_⟩, fun hn => ⟨⟨fun _ i t ht => h.no hn i t (old i t ht), fun i hi => (by cases hi)⟩, h.no hn _ e new⟩, fun n hn => ?_⟩
  · obtain ⟨⟨t, ht, k⟩, b⟩ := h.yes i hi
    rw [hn] at hi; cases hi
    rw [List.getElem?_append_left hl] at ht
    exact ⟨⟨t, ht, k⟩, fun j u hj hu => b j u hj (old j u hu)⟩
  · exact (h.yes _ hn).2 i t (List.getElem?_eq_some_iff.1 ht).1 (old i t ht) q
  · obtain ⟨⟨t, ht, k⟩, _⟩ := h.yes _ hn
    rw [new] at ht; cases ht; exact k
  · obtain ⟨⟨t, ht, _⟩, _⟩ := h.yes _ hn
    have := (List.getElem?_eq_some_iff.1 ht).1
    rw [List.length_append, List.length_singleton] at this; omega
theorem kinv (l : List SM) : ∀ n (es : List EM), es.length = n → KInv l es (runE (begM l) es).H := by
  intro n
  induction n with
  | zero =>
    intro es h
    obtain rfl := List.eq_nil_of_length_eq_zero h
    refine ⟨rfl, rfl, rfl, fun _ => rfl, rfl, fun id a ha => ?_⟩
    cases a with
    | none => rfl
    | some i => obtain ⟨⟨t, ht, _⟩, _⟩ := ha.yes i rfl; cases ht
  | succ n ih =>
    intro es h
    obtain ⟨l0, e, rfl⟩ : ∃ l e, es = l ++ [e] := ⟨es.dropLast, es.getLast (by intro q; rw [q] at h; cases h), (List.dropLast_concat_getLast _).symm⟩
    rw [List.length_append, List.length_singleton] at h
    have i := ih l0 (by omega)
    rw [runE_snoc]
    obtain ⟨z, hz⟩ : ∃ z, z = runE (begM l) l0 := ⟨_, rfl⟩
    rw [← hz] at i ⊢
    have tk : ∀ n, n ≤ l0.length → (l0 ++ [e]).take n = l0.take n := fun n hn => by rw [List.take_append_of_le_length hn]
    cases ha : e.answer with
    | true =>
      have e1 : (z.step e).H = z.H.told e := by unfold ES.step; rw [if_pos ha]
      rw [e1]
      refine ⟨i.l, i.rs, i.first, fun id => ?_, ?_, fun id a hA => ?_⟩
      · show (sget id (sput ltN e.id false z.H.asked)).getD false = _
        rw [sget_put ord3_nat, waitsM_snoc, ha]
        by_cases q : e.id = id
        · rw [if_pos q.symm, if_pos q]; rfl
        · rw [if_neg (fun x => q x.symm), if_neg q]; exact i.asked id
      · show (if defB e.res.status then max z.H.most e.index else z.H.most) = _
        rw [mostM_snoc, ha, Bool.true_and, i.most]
      · obtain ⟨f1, f2, f3, f4⟩ := ask_front hA
        show sget id z.H.before = _
        cases a with
        | none => rw [i.bef id none (f3 rfl).1]; rfl
        | some n =>
          rcases Nat.lt_or_ge n l0.length with q | q
          · rw [i.bef id (some n) (f1 n rfl q)]
            show some (mostM (l0.take n)) = some (mostM ((l0 ++ [e]).take n))
            rw [tk n (by omega)]
          · obtain rfl : n = l0.length := by have := f4 n rfl; omega
            have := (f2 rfl).2.1
            rw [ha] at this; cases this
    | false =>
      have e1 : (z.step e).H = z.H.ask e.id := by unfold ES.step; rw [if_neg (by rw [ha]; simp)]
      rw [e1]
      refine ⟨i.l, i.rs, i.first, fun id => ?_, ?_, fun id a hA => ?_⟩
      · show (sget id (sput ltN e.id true z.H.asked)).getD false = _
        rw [sget_put ord3_nat, waitsM_snoc, ha]
        by_cases q : e.id = id
        · rw [if_pos q.symm, if_pos q]; rfl
        · rw [if_neg (fun x => q x.symm), if_neg q]; exact i.asked id
      · show z.H.most = _
        rw [mostM_snoc, ha, Bool.false_and, i.most]; rfl
      · obtain ⟨f1, f2, f3, f4⟩ := ask_front hA
        have hbf : sget id (z.H.ask e.id).before = if e.id = id ∧ sget id z.H.before = none then some z.H.most else sget id z.H.before := by
          show sget id (if (sget e.id z.H.before).isSome then z.H.before else sput ltN e.id z.H.most z.H.before) = _
          by_cases q : e.id = id
          · subst q
            cases hb : sget e.id z.H.before with
            | none => simp [sget_put ord3_nat]
            | some v => simp [hb]
          · rw [if_neg (fun (x : e.id = id ∧ sget id z.H.before = none) => q x.1)]
            split
            · rfl
            · rw [sget_put ord3_nat, if_neg (fun x => q x.symm)]
        rw [hbf]
        cases a with
        | none =>
          obtain ⟨g1, g2⟩ := f3 rfl
          rw [if_neg (fun x => g2 ⟨ha, x.1⟩), i.bef id none g1]; rfl
        | some n =>
          rcases Nat.lt_or_ge n l0.length with q | q
          · have hb := i.bef id (some n) (f1 n rfl q)
            rw [if_neg (fun x => by have q2 := x.2; rw [hb] at q2; cases q2), hb]
            show some (mostM (l0.take n)) = some (mostM ((l0 ++ [e]).take n))
            rw [tk n (by omega)]
          · obtain rfl : n = l0.length := by have := f4 n rfl; omega
            obtain ⟨g1, g2⟩ := f2 rfl
            have hb := i.bef id none g1
            rw [if_pos ⟨g2.2, hb⟩, i.most]
            show some (mostM l0) = some (mostM ((l0 ++ [e]).take l0.length))
            rw [tk _ (Nat.le_refl _), List.take_length]

def refRules (l : List SM) (es : List EM) (e : EM) (late : Bool) : List Int :=
  addR (addR (addR (addR (addR [] 2 (!waitsM es e.id)) 3 (decide (e.index ≠ 0) && !thereB (begM l) e.id e.index)) 4 (defB e.res.status && decide (e.index = 0))) 5 (decide (e.index ≠ 0) && late)) 6
    (defB e.res.status && thereB (begM l) e.id e.index && !(match (playP l).rs[max e.index 1 - 1]? with | some r => sameM e.res r | none => true))
theorem rules_same {l : List SM} {es : List EM} {e : EM} {late : Bool} (h : EarlyIs l es e.id late) : (runE (begM l) es).H.breaks e = refRules l es e late := by
  have k := kinv l es.length es rfl
  obtain ⟨H, hH⟩ : ∃ H, H = (runE (begM l) es).H := ⟨_, rfl⟩
  rw [← hH] at k ⊢
  obtain ⟨f, a, h1, h2, h3⟩ := h
  have hth : thereB H e.id e.index = thereB (begM l) e.id e.index := by unfold thereB; rw [k.l]; rfl
  have hf : (sget e.id H.first).getD 0 = f := by rw [k.first]; exact first_is h1
  have hla : lateB H e = (decide (e.index ≠ 0) && late) := by
    unfold lateB
    rw [hf, k.bef e.id a h2, h3, Bool.and_assoc, Bool.and_assoc]
    congr 1
    cases a with
    | none => simp
    | some n =>
      by_cases q : f = 0
      · simp [q]
      · show (true && (decide (f ≠ 0) && decide (f ≤ mostM (es.take n)))) = (decide (f ≠ 0) && (es.take n).any (tellsGe f))
        rw [most_ge q _ (es.take n) rfl, Bool.true_and]
  unfold JM.breaks rul4 rul3 rul2 rul1 refRules
  rw [hth, hla, k.asked]
  congr 1
  unfold toldB
  rw [hth, k.rs] <;> rfl
end Go.Proofs.YtidbcaimgahllaaGreat
namespace Go.Proofs.YtidbcaimgahllaaGreat
open Go.X
open Go.X.G (Ord3 ord3_nat ord3_int ord3_str ltB sget sput sdel Srtd)

section rows
variable {κ ν : Type} [DecidableEq κ] {lt : κ → κ → Bool}
structure AtK (lt : κ → κ → Bool) (k : κ) (l : List (κ × ν)) (i : Nat) : Prop where
  le : i ≤ l.length
  lo : ∀ p, p ∈ l.take i → lt p.1 k = true
  hi : ∀ p, l[i]? = some p → lt p.1 k = false
theorem AtK.here (o : Ord3 lt) {k : κ} {v : ν} {l : List (κ × ν)} {i : Nat} (h : AtK lt k l i) (hs : Srtd lt l) (hk : sget k l = some v) : l[i]? = some (k, v) := by
  have hm := X.G.sget_mem hk
  rw [← List.take_append_drop i l, List.mem_append] at hm
  rcases hm with hm | hm
  · have := h.lo _ hm; rw [o.irr] at this; cases this
  · have hi : i < l.length := by
      apply Nat.lt_of_not_le; intro hge
      rw [List.drop_of_length_le hge] at hm; cases hm
    rw [List.drop_eq_getElem_cons hi, List.mem_cons] at hm
    rcases hm with hm | hm
    · rw [List.getElem?_eq_getElem hi, hm]
    · have h1 := h.hi _ (List.getElem?_eq_getElem hi)
      have h2 : Srtd lt (l.drop i) := List.Pairwise.sublist (List.drop_sublist i l) hs
      rw [List.drop_eq_getElem_cons hi] at h2
      have h3 := (List.pairwise_cons.1 h2).1 _ hm
      rw [h1] at h3; cases h3
theorem AtK.gt (o : Ord3 lt) {k : κ} {l : List (κ × ν)} {i : Nat} (h : AtK lt k l i) (hs : Srtd lt l) (hk : sget k l = none) : ∀ p, p ∈ l.drop i → lt k p.1 = true := by
  intro p hp
  have hi : i < l.length := by
    apply Nat.lt_of_not_le; intro hge
    rw [List.drop_of_length_le hge] at hp; cases hp
  have h2 : Srtd lt (l.drop i) := List.Pairwise.sublist (List.drop_sublist i l) hs
  rw [List.drop_eq_getElem_cons hi] at h2 hp
  have h1 := h.hi _ (List.getElem?_eq_getElem hi)
  have h0 : lt k (l[i]).1 = true := by
    cases e : lt k (l[i]).1 with
    | true => rfl
    | false => exact absurd (o.tri _ _ h1 e) (X.G.sget_none.1 hk _ (List.getElem_mem hi))
  rcases List.mem_cons.1 hp with rfl | hp
  · exact h0
  · exact o.tr _ _ _ h0 ((List.pairwise_cons.1 h2).1 _ hp)
theorem AtK.is (o : Ord3 lt) {k : κ} {l : List (κ × ν)} {i : Nat} {p : κ × ν} (h : AtK lt k l i) (hs : Srtd lt l) (hp : l[i]? = some p) : (sget k l).isSome = decide (p.1 = k) := by
  by_cases e : p.1 = k
  · rw [← e, show sget p.1 l = some p.2 from X.G.sget_of_mem (hs.nodup o) (List.mem_of_getElem? hp)]; simp
  · cases hk : sget k l with
    | none => simp [e]
    | some v => have := h.here o hs hk; rw [hp] at this; cases this; exact absurd rfl e
theorem AtK.out (o : Ord3 lt) {k : κ} {l : List (κ × ν)} {i : Nat} (h : AtK lt k l i) (hs : Srtd lt l) (hp : l.length ≤ i) : (sget k l).isSome = false := by
  cases hk : sget k l with
  | none => rfl
  | some v => have := h.here o hs hk; rw [List.getElem?_eq_none hp] at this; cases this
theorem AtK.split (o : Ord3 lt) {k : κ} {v : ν} {l : List (κ × ν)} {i : Nat} (h : AtK lt k l i) (hs : Srtd lt l) (hk : sget k l = some v) : l = l.take i ++ (k, v) :: l.drop (i + 1) ∧ (∀ p, p ∈ l.drop (i + 1) → lt k p.1 = true) := by
  have hh := h.here o hs hk
  obtain ⟨hi, he⟩ := List.getElem?_eq_some_iff.1 hh
  have e : l.drop i = (k, v) :: l.drop (i + 1) := by rw [List.drop_eq_getElem_cons hi, he]
  refine ⟨by rw [← e, List.take_append_drop], fun p hp => ?_⟩
  have h2 : Srtd lt (l.drop i) := List.Pairwise.sublist (List.drop_sublist i l) hs
  rw [e] at h2
  exact (List.pairwise_cons.1 h2).1 _ hp
theorem put_split (o : Ord3 lt) {k : κ} {w : ν} {a b c : List (κ × ν)} (ha : ∀ p, p ∈ a → lt p.1 k = true) (hc : ∀ p, p ∈ c → lt k p.1 = true) (hb : ∀ p, p ∈ b → p.1 = k) : sput lt k w (a ++ b ++ c) = a ++ (k, w) :: c := by
  have ax : ∀ {x : κ}, lt x k = true → lt k x = false := fun {x} h => by
    cases e : lt k x with
    | false => rfl
    | true => have := o.tr _ _ _ h e; rw [o.irr] at this; cases this
  have ay : ∀ {x : κ}, lt k x = true → lt x k = false := fun {x} h => by
    cases e : lt x k with
    | false => rfl
    | true => have := o.tr _ _ _ h e; rw [o.irr] at this; cases this
  have f1 : a.filter (fun p => lt p.1 k) = a := List.filter_eq_self.2 ha
  have f2 : c.filter (fun p => lt k p.1) = c := List.filter_eq_self.2 hc
  have f3 : a.filter (fun p => lt k p.1) = [] := List.filter_eq_nil_iff.2 fun p hp => by rw [ax (ha p hp)]; exact Bool.false_ne_true
  have f4 : c.filter (fun p => lt p.1 k) = [] := List.filter_eq_nil_iff.2 fun p hp => by rw [ay (hc p hp)]; exact Bool.false_ne_true
  have f5 : b.filter (fun p => lt k p.1) = [] := List.filter_eq_nil_iff.2 fun p hp => by rw [hb p hp, o.irr]; exact Bool.false_ne_true
  have f6 : b.filter (fun p => lt p.1 k) = [] := List.filter_eq_nil_iff.2 fun p hp => by rw [hb p hp, o.irr]; exact Bool.false_ne_true
  unfold sput
  rw [List.filter_append, List.filter_append, List.filter_append, List.filter_append, f1, f2, f3, f4, f5, f6]; simp
theorem AtK.put_yes (o : Ord3 lt) {k : κ} {v w : ν} {l : List (κ × ν)} {i : Nat} (h : AtK lt k l i) (hs : Srtd lt l) (hk : sget k l = some v) : sput lt k w l = l.set i (k, w) := by
  obtain ⟨e, hg⟩ := h.split o hs hk
  obtain ⟨hi, _⟩ := List.getElem?_eq_some_iff.1 (h.here o hs hk)
  have h1 : sput lt k w (l.take i ++ [(k, v)] ++ l.drop (i + 1)) = l.take i ++ (k, w) :: l.drop (i + 1) := put_split o h.lo hg (by simp)
  rw [List.append_assoc, List.singleton_append, ← e] at h1
  rw [h1, List.set_eq_take_append_cons_drop, if_pos hi]
theorem AtK.put_no (o : Ord3 lt) {k : κ} {w : ν} {l : List (κ × ν)} {i : Nat} (h : AtK lt k l i) (hs : Srtd lt l) (hk : sget k l = none) : sput lt k w l = l.take i ++ (k, w) :: l.drop i := by
  have h1 : sput lt k w (l.take i ++ [] ++ l.drop i) = _ := put_split o h.lo (h.gt o hs hk) (by simp)
  rwa [List.append_nil, List.take_append_drop] at h1
theorem AtK.del (o : Ord3 lt) {k : κ} {v : ν} {l : List (κ × ν)} {i : Nat} (h : AtK lt k l i) (hs : Srtd lt l) (hk : sget k l = some v) : sdel k l = l.eraseIdx i := by
  obtain ⟨e, hg⟩ := h.split o hs hk
  have ne : ∀ {x : κ}, lt x k = true ∨ lt k x = true → decide (x = k) = false := fun {x} h => by
    apply decide_eq_false; rintro rfl; rw [o.irr] at h; rcases h with h | h <;> cases h
  rw [List.eraseIdx_eq_take_drop_succ]
  conv => lhs; rw [e]
  unfold sdel
  rw [List.filter_append, List.filter_cons, List.filter_eq_self.2 (fun p hp => by rw [ne (.inl (h.lo p hp))]; rfl), List.filter_eq_self.2 (fun p hp => by rw [ne (.inr (hg p hp))]; rfl)]
  simp
theorem AtK.next {k : κ} {l : List (κ × ν)} {i : Nat} {p : κ × ν} (h : ∀ p, p ∈ l.take i → lt p.1 k = true) (hp : l[i]? = some p) (hl : lt p.1 k = true) : ∀ p, p ∈ l.take (i + 1) → lt p.1 k = true := by
  obtain ⟨h1, h2⟩ := List.getElem?_eq_some_iff.1 hp
  rw [List.take_succ_eq_append_getElem h1, h2]
  intro q hq
  rcases List.mem_append.1 hq with hq | hq
  · exact h q hq
  · rw [List.mem_singleton.1 hq]; exact hl
end rows

section own
variable {α : Type} {cl : α → List Value} {sz E : Nat} (hc : ∀ x, (cl x).length = sz) {l : List α} {p : Option Addr} {c i : Nat}
include hc
theorem own_ins {x : α} (hi : i ≤ l.length) : ∀ h, own E sz (.slice p (0 + i + 1 + (l.length - i)) c) ([] ++ (l.flatMap cl).take (i * sz) ++ cl x ++ (l.flatMap cl).drop (i * sz)) h → own E sz (.slice p (l.take i ++ x :: l.drop i).length c) ((l.take i ++ x :: l.drop i).flatMap cl) h := by
  intro h s
  have e1 : (l.take i ++ x :: l.drop i).length = 0 + i + 1 + (l.length - i) := by simp; omega
  have e2 : (l.take i ++ x :: l.drop i).flatMap cl = [] ++ (l.flatMap cl).take (i * sz) ++ cl x ++ (l.flatMap cl).drop (i * sz) := by rw [flat_take hc, flat_drop hc]; simp
  rw [e1, e2]; exact s
theorem own_cut (hi : i < l.length) : ∀ h, own E sz (.slice p (0 + i + (l.length - (i + 1))) c) ([] ++ (l.flatMap cl).take (i * sz) ++ (l.flatMap cl).drop ((i + 1) * sz)) h → own E sz (.slice p (l.eraseIdx i).length c) ((l.eraseIdx i).flatMap cl) h := by
  intro h s
  have e1 : (l.eraseIdx i).length = 0 + i + (l.length - (i + 1)) := by rw [List.length_eraseIdx]; split <;> omega
  have e2 : (l.eraseIdx i).flatMap cl = [] ++ (l.flatMap cl).take (i * sz) ++ (l.flatMap cl).drop ((i + 1) * sz) := by rw [flat_take hc, flat_drop hc, List.eraseIdx_eq_take_drop_succ]; simp
  rw [e1, e2]; exact s
end own

structure ROb where
  k : ByteArray
  p : Option Addr
  c : Nat
  d : List UInt8
abbrev ROb.cells (x : ROb) : List Value := [.string x.k, .slice x.p x.d.length x.c]
abbrev ROb.asn (x : ROb) : Assn := own 5 1 (.slice x.p x.d.length x.c) (bytesV x.d)
abbrev ROb.kv (x : ROb) : ByteArray × List UInt8 := (x.k, x.d)
theorem ROb.len (x : ROb) : x.cells.length = 2 := rfl
structure RBk where
  k : ByteArray
  p : Option Addr
  c : Nat
  l : List ROb
abbrev RBk.cells (x : RBk) : List Value := [.string x.k, .slice x.p x.l.length x.c]
abbrev RBk.own (x : RBk) : Assn := X.own 150 2 (.slice x.p x.l.length x.c) (x.l.flatMap ROb.cells)
def RBk.asn (x : RBk) : Assn := star [x.own, star (x.l.map ROb.asn)]
abbrev RBk.kv (x : RBk) : ByteArray × Objs := (x.k, x.l.map ROb.kv)
theorem RBk.len (x : RBk) : x.cells.length = 2 := rfl
structure RPt where
  k : Int
  p : Option Addr
  c : Nat
  d : List UInt8
abbrev RPt.cells (x : RPt) : List Value := [.int .i64 x.k, .slice x.p x.d.length x.c]
abbrev RPt.asn (x : RPt) : Assn := own 5 1 (.slice x.p x.d.length x.c) (bytesV x.d)
abbrev RPt.kv (x : RPt) : Int × List UInt8 := (x.k, x.d)
theorem RPt.len (x : RPt) : x.cells.length = 2 := rfl
structure RUp where
  k : Nat
  b : ByteArray
  o : ByteArray
  p : Option Addr
  c : Nat
  l : List RPt
abbrev RUp.cells (x : RUp) : List Value := [.int .u64 x.k, .string x.b, .string x.o, .slice x.p x.l.length x.c]
abbrev RUp.own (x : RUp) : Assn := X.own 146 2 (.slice x.p x.l.length x.c) (x.l.flatMap RPt.cells)
def RUp.asn (x : RUp) : Assn := star [x.own, star (x.l.map RPt.asn)]
abbrev RUp.kv (x : RUp) : Nat × UM := (x.k, ⟨x.b, x.o, x.l.map RPt.kv⟩)
theorem RUp.len (x : RUp) : x.cells.length = 4 := rfl
abbrev RKp := Nat × RM
abbrev RKp.cells (x : RKp) : List Value := [.int .u64 x.1, .int .i64 x.2.status, .int .u64 x.2.upload, .slice none 0 0, .bool false, .slice none 0 0]
theorem RKp.len (x : RKp) : (RKp.cells x).length = 6 := rfl

abbrev bksO (p : Option Addr) (c : Nat) (bs : List RBk) : Assn := own 136 2 (.slice p bs.length c) (bs.flatMap RBk.cells)
abbrev upsO (p : Option Addr) (c : Nat) (us : List RUp) : Assn := own 143 4 (.slice p us.length c) (us.flatMap RUp.cells)
abbrev kpsO (p : Option Addr) (c : Nat) (ks : List RKp) : Assn := own 105 6 (.slice p ks.length c) (ks.flatMap RKp.cells)
abbrev refP (m : Nat) (b u k : Value) : Assn := pt m (.cells [b, u, k].toArray 98 (0, 0))

structure RMx where
  p1 : Option Addr
  c1 : Nat
  bs : List RBk
  p2 : Option Addr
  c2 : Nat
  us : List RUp
  p3 : Option Addr
  c3 : Nat
structure BM.lite (M : BM) : Prop where
  bs : Srtd ltB M.buckets
  us : Srtd ltN M.uploads
  ds : Srtd ltN M.done
  len : M.buckets.length ≤ 32768 ∧ M.uploads.length ≤ 32768 ∧ M.done.length ≤ 32768
  pl : ∀ n u, sget n M.uploads = some u → u.parts.length ≤ 32768
def BM.bare (M : BM) : Prop := ∀ p, p ∈ M.done → p.2.keys = [] ∧ p.2.more = false ∧ p.2.data = []
abbrev RMx.asns (m : Nat) (M : BM) (x : RMx) : List Assn := [refP m (.slice x.p1 x.bs.length x.c1) (.slice x.p2 x.us.length x.c2) (.slice x.p3 M.done.length x.c3), bksO x.p1 x.c1 x.bs, upsO x.p2 x.c2 x.us, kpsO x.p3 x.c3 M.done, star (x.bs.map RBk.asn), star (x.us.map RUp.asn)]
structure RMx.of (M : BM) (x : RMx) : Prop where
  b : x.bs.map RBk.kv = M.buckets
  u : x.us.map RUp.kv = M.uploads
  k : M.bare
def RefAt (m : Nat) (M : BM) : Assn := fun h => ∃ x : RMx, x.of M ∧ HSat h (x.asns m M)
theorem RefAt.mk {m : Nat} {M : BM} (x : RMx) (hx : x.of M) : ∀ h, HSat h (x.asns m M) → RefAt m M h := fun _ s => ⟨x, hx, s⟩
theorem RMx.of.bl {M : BM} {x : RMx} (h : x.of M) : x.bs.length = M.buckets.length := by rw [← h.b, List.length_map]
theorem RMx.of.ul {M : BM} {x : RMx} (h : x.of M) : x.us.length = M.uploads.length := by rw [← h.u, List.length_map]
end Go.Proofs.YtidbcaimgahllaaGreat
namespace Go.Proofs.YtidbcaimgahllaaGreat
open Go.Proofs.Tryz
open Go.X
open Go.X.G (Ord3 ord3_nat ord3_int ord3_str ltB sget sput sdel Srtd)

theorem rbucket_spec (m : Nat) (p : Option Addr) (c : Nat) (bs : List RBk) (v2 v3 : Value) (n : ByteArray) (hs : Srtd ltB (bs.map RBk.kv)) (hn : bs.length ≤ 9223372036854775807) :
    FSpec Tryz.prog 54 [.pointer (some ⟨m, 0, none⟩), .string n] [refP m (.slice p bs.length c) v2 v3, bksO p c bs]
    (fun v B => ∃ i : Nat, v = .tuple #[.int .i64 i, .bool (sget n (bs.map RBk.kv)).isSome] ∧ AtK ltB n (bs.map RBk.kv) i ∧ B = [refP m (.slice p bs.length c) v2 v3, bksO p c bs]) := by
  refine FSpec.of func54 rfl ntmps54 rfl fun W0 F => ?_
  refine J.seq ?_
  refine J.slrI (E0 := 136) (sz := 2) (p := p) (n := bs.length) (c := c) (xs := bs.flatMap RBk.cells) fun hsl => ?_
  obtain ⟨kv, hkv⟩ : ∃ kv, kv = bs.map RBk.kv := ⟨_, rfl⟩
  have hkl : kv.length = bs.length := by rw [hkv, List.length_map]
  have hka : ∀ {k : Nat} {x : RBk}, bs[k]? = some x → kv[k]? = some x.kv := fun {k x} h => by rw [hkv, List.getElem?_map, h]; rfl
  rw [← hkv] at hs
  refine J.region <| J.p rfl (Q.asg rfl) <| J.p rfl (Q.asg rfl) <| J.nil <| J.then_n <| J.seq <| J.region <| J.p rfl (Q.asg rfl) <| J.nil <| J.then_n ?_
  refine J.cut (fun i : Nat => AtK ltB n kv i) (fun i => [(0, .pointer (some ⟨m, 0, none⟩)), (1, .string n), (6, .int .i64 i)]) (fun _ => [refP m (.slice p bs.length c) v2 v3, bksO p c bs, F]) ?_ fun i hi => ?_
  ·
   refine J.block ?_
   refine J.loop (fun k : Nat => k ≤ bs.length ∧ ∀ q, q ∈ kv.take k → ltB q.1 n = true) (fun k => bs.length - k) (fun k => [(0, .pointer (some ⟨m, 0, none⟩)), (1, .string n), (6, .int .i64 k)]) (fun _ => [refP m (.slice p bs.length c) v2 v3, bksO p c bs, F]) 0
    ⟨Nat.zero_le _, (fun _ h => by cases h)⟩ ⟨rfl, rfl, rfl, trivial⟩ rfl fun k hk => ?_
   obtain ⟨hk, hlo⟩ := hk
   refine J.seq <| J.seq <| J.region <| J.m rfl <| J.m rfl <| J.p rfl (Q.nil_ rfl) <| J.p rfl (Q.fa (n := 0) runUnderlying98 rfl rfl sizeOf94 rfl) ?_
   refine J.p rfl (Q.ldI isAgg94 rfl) ?_
   refine J.p rfl (Q.lenSl runUnderlying94 rfl) <| J.p rfl (Q.lss rfl rfl) <| J.m rfl ?_
   refine J.kases 14 rfl (fun hb14 => ?_) (fun hb14 => ?_)
   ·
    refine J.m rfl <| J.p rfl (Q.nil_ rfl) <| J.p rfl (Q.fa (n := 0) runUnderlying98 rfl rfl sizeOf94 rfl) ?_
    refine J.p rfl (Q.ldI isAgg94 rfl) ?_
    obtain ⟨bb, off, hpp, hrd⟩ := hsl.some_ (by omega)
    obtain ⟨x, hx⟩ : ∃ x, bs[k]? = some x := ⟨_, List.getElem?_eq_getElem (by omega)⟩
    refine J.slot 18 (.slice (some ⟨bb, off, none⟩) bs.length c) rfl (by rw [hpp]) ?_
    refine J.m rfl <| J.p rfl (Q.ia runUnderlying94 sizeOf136 rfl rfl (by omega) (by omega)) <| J.p rfl (Q.fa (n := 0) runUnderlying136 rfl rfl sizeOf9 rfl) ?_
    refine J.p rfl (Q.ld isAgg9 rfl ((rd_field RBk.len hrd hx (k := 0) rfl (by simp)).within (i := 1) rfl)) ?_
    refine J.m rfl <| J.p rfl (Q.lsss rfl rfl) <| J.p rfl (Q.pick_t rfl rfl) <| J.nil <| J.then_n ?_
    refine J.kases 25 rfl (fun hc25 => ?_) (fun hc25 => ?_)
    ·
     refine J.cond_t rfl <| J.cskip <| J.then_n <| J.block <| J.region <| J.m rfl <| J.p rfl (Q.add64 rfl rfl (by omega)) <| J.p rfl (Q.asg rfl) <| J.nil <| J.blk_n ?_
     refine J.againI (k + 1) ⟨by show k + 1 ≤ _; omega, AtK.next hlo (hka hx) (by first | (simp only [ltB, decide_eq_true_eq]; exact (less_iff _ _).1 hc25) | (simp only [decide_eq_true_eq]; omega))⟩ (by show bs.length - (k + 1) < bs.length - k; omega) ⟨rfl, rfl, rfl, trivial⟩
    refine J.cond_f rfl <| J.exit <| J.then_x <| J.lp_x <| J.blk_x ?_
    refine J.meet k ⟨by omega, hlo, fun q hq => by
     rw [hka hx] at hq; cases hq
     first | (simp only [ltB, decide_eq_false_iff_not]; intro h; rw [(less_iff _ _).2 h] at hc25; cases hc25) | (simp only [decide_eq_false_iff_not]; omega)⟩ ⟨rfl, rfl, rfl, trivial⟩ rfl
   refine J.k rfl <| J.k rfl <| J.k rfl <| J.k rfl <| J.k rfl <| J.k rfl <| J.k rfl <| J.k rfl <| J.k rfl <| J.k rfl <| J.p rfl (Q.pick_f rfl rfl) <| J.nil <| J.then_n <| J.cond_f rfl <| J.exit <| J.then_x <| J.lp_x <| J.blk_x ?_
   refine J.meet k ⟨by omega, hlo, fun q hq => by rw [List.getElem?_eq_none (by omega)] at hq; cases hq⟩ ⟨rfl, rfl, rfl, trivial⟩ rfl
  have hle := hi.le
  refine J.seq ?_
  refine J.draw [20, 21] Tryz.mixed (by kernel_rfl) fun hR => ?_
  refine RG.p 0 hR rfl (Q.mv rfl) <| RG.p 1 hR rfl (Q.mv rfl) <| RG.p 2 hR rfl (Q.mv rfl) <| RG.p 3 hR rfl (Q.nil_ rfl) <| RG.p 4 hR rfl (Q.fa (n := 0) runUnderlying98 rfl rfl sizeOf94 rfl) ?_
  refine RG.p 5 hR rfl (Q.ldI isAgg94 rfl) ?_
  refine RG.p 6 hR rfl (Q.lenSl runUnderlying94 rfl) <| RG.p 7 hR rfl (Q.lss rfl rfl) <| RG.p 8 hR rfl (Q.mv rfl) ?_
  refine RG.cases 36 rfl (fun hb36 => ?_) (fun hb36 => ?_)
  ·
   replace hb36 := X.nm hb36
   refine RG.p 9 hR rfl (Q.mv rfl) <| RG.p 10 hR rfl (Q.nil_ rfl) <| RG.p 11 hR rfl (Q.fa (n := 0) runUnderlying98 rfl rfl sizeOf94 rfl) ?_
   refine RG.p 12 hR rfl (Q.ldI isAgg94 rfl) ?_
   obtain ⟨bb, off, hpp, hrd⟩ := hsl.some_ (by omega)
   obtain ⟨x, hx⟩ : ∃ x, bs[i]? = some x := ⟨_, List.getElem?_eq_getElem (by omega)⟩
   have his := hi.is ord3_str hs (hka hx)
   refine RG.slot 40 (.slice (some ⟨bb, off, none⟩) bs.length c) rfl (by rw [hpp]) ?_
   refine RG.p 13 hR rfl (Q.mv rfl) <| RG.p 14 hR rfl (Q.ia runUnderlying94 sizeOf136 rfl rfl (by omega) (by omega)) <| RG.p 15 hR rfl (Q.fa (n := 0) runUnderlying136 rfl rfl sizeOf9 rfl) ?_
   refine RG.p 16 hR rfl (Q.ld isAgg9 rfl ((rd_field RBk.len hrd hx (k := 0) rfl (by simp)).within (i := 1) rfl)) ?_
   refine RG.p 17 hR rfl (Q.mv rfl) <| RG.p 18 hR rfl (Q.eqls rfl rfl) <| RG.p 19 hR rfl (Q.pick_t rfl rfl) ?_
   refine RG.keep 20 hR rfl rfl rfl rfl rfl (Q.asg rfl) ?_
   refine RG.bar 21 hR rfl rfl rfl rfl rfl rfl (Q.asg rfl).toC ?_
   rintro _ _ ⟨rfl, rfl⟩
   refine RG.norm rfl ?_
   refine RG.fin hR rfl ?_
   refine J.norm rfl <| J.then_n <| J.cret ?_
   refine J.ret2I [refP m (.slice p bs.length c) v2 v3, bksO p c bs] rfl rfl rfl ⟨_, by first | (rw [← hkv, his]; done) | (rw [← hkv, his, bytes_eq]; done) | (rw [← hkv, his]; simp only [Int.ofNat_inj]; rfl), by rw [← hkv]; exact hi, rfl⟩
  replace hb36 := X.nm hb36
  refine RG.k 9 hR rfl <| RG.k 10 hR rfl <| RG.k 11 hR rfl <| RG.k 12 hR rfl <| RG.k 13 hR rfl <| RG.k 14 hR rfl <| RG.k 15 hR rfl <| RG.k 16 hR rfl <| RG.k 17 hR rfl <| RG.k 18 hR rfl ?_
  refine RG.p 19 hR rfl (Q.pick_f rfl rfl) ?_
  refine RG.keep 20 hR rfl rfl rfl rfl rfl (Q.asg rfl) ?_
  refine RG.bar 21 hR rfl rfl rfl rfl rfl rfl (Q.asg rfl).toC ?_
  rintro _ _ ⟨rfl, rfl⟩
  refine RG.norm rfl ?_
  refine RG.fin hR rfl ?_
  refine J.norm rfl <| J.then_n <| J.cret ?_
  have his := hi.out ord3_str hs (by omega)
  refine J.ret2I [refP m (.slice p bs.length c) v2 v3, bksO p c bs] rfl rfl rfl ⟨_, by rw [← hkv, his], by rw [← hkv]; exact hi, rfl⟩

theorem rupload_spec (m : Nat) (p : Option Addr) (c : Nat) (us : List RUp) (v1 v3 : Value) (n : Nat) (hs : Srtd ltN (us.map RUp.kv)) (hn : us.length ≤ 9223372036854775807) :
    FSpec Tryz.prog 55 [.pointer (some ⟨m, 0, none⟩), .int .u64 n] [refP m v1 (.slice p us.length c) v3, upsO p c us]
    (fun v B => ∃ i : Nat, v = .tuple #[.int .i64 i, .bool (sget n (us.map RUp.kv)).isSome] ∧ AtK ltN n (us.map RUp.kv) i ∧ B = [refP m v1 (.slice p us.length c) v3, upsO p c us]) := by
  refine FSpec.of func55 rfl ntmps55 rfl fun W0 F => ?_
  refine J.seq ?_
  refine J.slrI (E0 := 143) (sz := 4) (p := p) (n := us.length) (c := c) (xs := us.flatMap RUp.cells) fun hsl => ?_
  obtain ⟨kv, hkv⟩ : ∃ kv, kv = us.map RUp.kv := ⟨_, rfl⟩
  have hkl : kv.length = us.length := by rw [hkv, List.length_map]
  have hka : ∀ {k : Nat} {x : RUp}, us[k]? = some x → kv[k]? = some x.kv := fun {k x} h => by rw [hkv, List.getElem?_map, h]; rfl
  rw [← hkv] at hs
  refine J.region <| J.p rfl (Q.asg rfl) <| J.p rfl (Q.asg rfl) <| J.nil <| J.then_n <| J.seq <| J.region <| J.p rfl (Q.asg rfl) <| J.nil <| J.then_n ?_
  refine J.cut (fun i : Nat => AtK ltN n kv i) (fun i => [(0, .pointer (some ⟨m, 0, none⟩)), (1, .int .u64 n), (6, .int .i64 i)]) (fun _ => [refP m v1 (.slice p us.length c) v3, upsO p c us, F]) ?_ fun i hi => ?_
  ·
   refine J.block ?_
   refine J.loop (fun k : Nat => k ≤ us.length ∧ ∀ q, q ∈ kv.take k → ltN q.1 n = true) (fun k => us.length - k) (fun k => [(0, .pointer (some ⟨m, 0, none⟩)), (1, .int .u64 n), (6, .int .i64 k)]) (fun _ => [refP m v1 (.slice p us.length c) v3, upsO p c us, F]) 0
    ⟨Nat.zero_le _, (fun _ h => by cases h)⟩ ⟨rfl, rfl, rfl, trivial⟩ rfl fun k hk => ?_
   obtain ⟨hk, hlo⟩ := hk
   refine J.seq <| J.seq <| J.region <| J.m rfl <| J.m rfl <| J.p rfl (Q.nil_ rfl) <| J.p rfl (Q.fa (n := 1) runUnderlying98 rfl rfl sizeOf95 rfl) ?_
   refine J.p rfl (Q.ldI isAgg95 rfl) ?_
   refine J.p rfl (Q.lenSl runUnderlying95 rfl) <| J.p rfl (Q.lss rfl rfl) <| J.m rfl ?_
   refine J.kases 14 rfl (fun hb14 => ?_) (fun hb14 => ?_)
   ·
    refine J.m rfl <| J.p rfl (Q.nil_ rfl) <| J.p rfl (Q.fa (n := 1) runUnderlying98 rfl rfl sizeOf95 rfl) ?_
    refine J.p rfl (Q.ldI isAgg95 rfl) ?_
    obtain ⟨bb, off, hpp, hrd⟩ := hsl.some_ (by omega)
    obtain ⟨x, hx⟩ : ∃ x, us[k]? = some x := ⟨_, List.getElem?_eq_getElem (by omega)⟩
    refine J.slot 18 (.slice (some ⟨bb, off, none⟩) us.length c) rfl (by rw [hpp]) ?_
    refine J.m rfl <| J.p rfl (Q.ia runUnderlying95 sizeOf143 rfl rfl (by omega) (by omega)) <| J.p rfl (Q.fa (n := 0) runUnderlying143 rfl rfl sizeOf40 rfl) ?_
    refine J.p rfl (Q.ld isAgg40 rfl ((rd_field RUp.len hrd hx (k := 0) rfl (by simp)).within (i := 1) rfl)) ?_
    refine J.m rfl <| J.p rfl (Q.lss rfl rfl) <| J.p rfl (Q.pick_t rfl rfl) <| J.nil <| J.then_n ?_
    refine J.kases 25 rfl (fun hc25 => ?_) (fun hc25 => ?_)
    ·
     refine J.cond_t rfl <| J.cskip <| J.then_n <| J.block <| J.region <| J.m rfl <| J.p rfl (Q.add64 rfl rfl (by omega)) <| J.p rfl (Q.asg rfl) <| J.nil <| J.blk_n ?_
     refine J.againI (k + 1) ⟨by show k + 1 ≤ _; omega, AtK.next hlo (hka hx) (by first | (simp only [ltB, decide_eq_true_eq]; exact (less_iff _ _).1 hc25) | (simp only [decide_eq_true_eq]; omega))⟩ (by show us.length - (k + 1) < us.length - k; omega) ⟨rfl, rfl, rfl, trivial⟩
    refine J.cond_f rfl <| J.exit <| J.then_x <| J.lp_x <| J.blk_x ?_
    refine J.meet k ⟨by omega, hlo, fun q hq => by
     rw [hka hx] at hq; cases hq
     first | (simp only [ltB, decide_eq_false_iff_not]; intro h; rw [(less_iff _ _).2 h] at hc25; cases hc25) | (simp only [decide_eq_false_iff_not]; omega)⟩ ⟨rfl, rfl, rfl, trivial⟩ rfl
   refine J.k rfl <| J.k rfl <| J.k rfl <| J.k rfl <| J.k rfl <| J.k rfl <| J.k rfl <| J.k rfl <| J.k rfl <| J.k rfl <| J.p rfl (Q.pick_f rfl rfl) <| J.nil <| J.then_n <| J.cond_f rfl <| J.exit <| J.then_x <| J.lp_x <| J.blk_x ?_
   refine J.meet k ⟨by omega, hlo, fun q hq => by rw [List.getElem?_eq_none (by omega)] at hq; cases hq⟩ ⟨rfl, rfl, rfl, trivial⟩ rfl
  have hle := hi.le
  refine J.seq ?_
  refine J.draw [20, 21] Tryz.mixed (by kernel_rfl) fun hR => ?_
  refine RG.p 0 hR rfl (Q.mv rfl) <| RG.p 1 hR rfl (Q.mv rfl) <| RG.p 2 hR rfl (Q.mv rfl) <| RG.p 3 hR rfl (Q.nil_ rfl) <| RG.p 4 hR rfl (Q.fa (n := 1) runUnderlying98 rfl rfl sizeOf95 rfl) ?_
  refine RG.p 5 hR rfl (Q.ldI isAgg95 rfl) ?_
  refine RG.p 6 hR rfl (Q.lenSl runUnderlying95 rfl) <| RG.p 7 hR rfl (Q.lss rfl rfl) <| RG.p 8 hR rfl (Q.mv rfl) ?_
  refine RG.cases 36 rfl (fun hb36 => ?_) (fun hb36 => ?_)
  ·
   replace hb36 := X.nm hb36
   refine RG.p 9 hR rfl (Q.mv rfl) <| RG.p 10 hR rfl (Q.nil_ rfl) <| RG.p 11 hR rfl (Q.fa (n := 1) runUnderlying98 rfl rfl sizeOf95 rfl) ?_
   refine RG.p 12 hR rfl (Q.ldI isAgg95 rfl) ?_
   obtain ⟨bb, off, hpp, hrd⟩ := hsl.some_ (by omega)
   obtain ⟨x, hx⟩ : ∃ x, us[i]? = some x := ⟨_, List.getElem?_eq_getElem (by omega)⟩
   have his := hi.is ord3_nat hs (hka hx)
   refine RG.slot 40 (.slice (some ⟨bb, off, none⟩) us.length c) rfl (by rw [hpp]) ?_
   refine RG.p 13 hR rfl (Q.mv rfl) <| RG.p 14 hR rfl (Q.ia runUnderlying95 sizeOf143 rfl rfl (by omega) (by omega)) <| RG.p 15 hR rfl (Q.fa (n := 0) runUnderlying143 rfl rfl sizeOf40 rfl) ?_
   refine RG.p 16 hR rfl (Q.ld isAgg40 rfl ((rd_field RUp.len hrd hx (k := 0) rfl (by simp)).within (i := 1) rfl)) ?_
   refine RG.p 17 hR rfl (Q.mv rfl) <| RG.p 18 hR rfl (Q.eql rfl rfl) <| RG.p 19 hR rfl (Q.pick_t rfl rfl) ?_
   refine RG.keep 20 hR rfl rfl rfl rfl rfl (Q.asg rfl) ?_
   refine RG.bar 21 hR rfl rfl rfl rfl rfl rfl (Q.asg rfl).toC ?_
   rintro _ _ ⟨rfl, rfl⟩
   refine RG.norm rfl ?_
   refine RG.fin hR rfl ?_
   refine J.norm rfl <| J.then_n <| J.cret ?_
   refine J.ret2I [refP m v1 (.slice p us.length c) v3, upsO p c us] rfl rfl rfl ⟨_, by first | (rw [← hkv, his]; done) | (rw [← hkv, his, bytes_eq]; done) | (rw [← hkv, his]; simp only [Int.ofNat_inj]; rfl), by rw [← hkv]; exact hi, rfl⟩
  replace hb36 := X.nm hb36
  refine RG.k 9 hR rfl <| RG.k 10 hR rfl <| RG.k 11 hR rfl <| RG.k 12 hR rfl <| RG.k 13 hR rfl <| RG.k 14 hR rfl <| RG.k 15 hR rfl <| RG.k 16 hR rfl <| RG.k 17 hR rfl <| RG.k 18 hR rfl ?_
  refine RG.p 19 hR rfl (Q.pick_f rfl rfl) ?_
  refine RG.keep 20 hR rfl rfl rfl rfl rfl (Q.asg rfl) ?_
  refine RG.bar 21 hR rfl rfl rfl rfl rfl rfl (Q.asg rfl).toC ?_
  rintro _ _ ⟨rfl, rfl⟩
  refine RG.norm rfl ?_
  refine RG.fin hR rfl ?_
  refine J.norm rfl <| J.then_n <| J.cret ?_
  have his := hi.out ord3_nat hs (by omega)
  refine J.ret2I [refP m v1 (.slice p us.length c) v3, upsO p c us] rfl rfl rfl ⟨_, by rw [← hkv, his], by rw [← hkv]; exact hi, rfl⟩

theorem robject_spec (b0 o0 c0 : Nat) (bs : List RBk) {j : Nat} {y : RBk} (hy : bs[j]? = some y) (n : ByteArray) (hs : Srtd ltB (y.l.map ROb.kv)) (hn : y.l.length ≤ 9223372036854775807) :
    FSpec Tryz.prog 63 [.pointer (some ⟨b0, o0 + j * 2, none⟩), .string n] [bksO (some ⟨b0, o0, none⟩) c0 bs, y.own]
    (fun v B => ∃ i : Nat, v = .tuple #[.int .i64 i, .bool (sget n (y.l.map ROb.kv)).isSome] ∧ AtK ltB n (y.l.map ROb.kv) i ∧ B = [bksO (some ⟨b0, o0, none⟩) c0 bs, y.own]) := by
  refine FSpec.of func63 rfl ntmps63 rfl fun W0 F => ?_
  refine J.seq ?_
  refine J.slrI (E0 := 150) (sz := 2) (p := y.p) (n := y.l.length) (c := y.c) (xs := y.l.flatMap ROb.cells) fun hsl => ?_
  refine J.slrI (E0 := 136) (sz := 2) (p := some ⟨b0, o0, none⟩) (n := bs.length) (c := c0) (xs := bs.flatMap RBk.cells) fun hsl0 => ?_
  obtain ⟨_, _, e0, hrd0⟩ := hsl0.some_ (by have := (List.getElem?_eq_some_iff.1 hy).1; omega)
  cases e0
  obtain ⟨kv, hkv⟩ : ∃ kv, kv = y.l.map ROb.kv := ⟨_, rfl⟩
  have hkl : kv.length = y.l.length := by rw [hkv, List.length_map]
  have hka : ∀ {k : Nat} {x : ROb}, y.l[k]? = some x → kv[k]? = some x.kv := fun {k x} h => by rw [hkv, List.getElem?_map, h]; rfl
  rw [← hkv] at hs
  refine J.region <| J.p rfl (Q.asg rfl) <| J.p rfl (Q.asg rfl) <| J.nil <| J.then_n <| J.seq <| J.region <| J.p rfl (Q.asg rfl) <| J.nil <| J.then_n ?_
  refine J.cut (fun i : Nat => AtK ltB n kv i) (fun i => [(0, .pointer (some ⟨b0, o0 + j * 2, none⟩)), (1, .string n), (6, .int .i64 i)]) (fun _ => [bksO (some ⟨b0, o0, none⟩) c0 bs, y.own, F]) ?_ fun i hi => ?_
  ·
   refine J.block ?_
   refine J.loop (fun k : Nat => k ≤ y.l.length ∧ ∀ q, q ∈ kv.take k → ltB q.1 n = true) (fun k => y.l.length - k) (fun k => [(0, .pointer (some ⟨b0, o0 + j * 2, none⟩)), (1, .string n), (6, .int .i64 k)]) (fun _ => [bksO (some ⟨b0, o0, none⟩) c0 bs, y.own, F]) 0
    ⟨Nat.zero_le _, (fun _ h => by cases h)⟩ ⟨rfl, rfl, rfl, trivial⟩ rfl fun k hk => ?_
   obtain ⟨hk, hlo⟩ := hk
   refine J.seq <| J.seq <| J.region <| J.m rfl <| J.m rfl <| J.p rfl (Q.nil_ rfl) <| J.p rfl (Q.fa (n := 1) runUnderlying136 rfl rfl sizeOf134 rfl) ?_
   refine J.p rfl (Q.ld isAgg134 rfl ((rd_field RBk.len hrd0 hy (k := 1) rfl (by omega)).within (i := 0) rfl)) ?_
   refine J.p rfl (Q.lenSl runUnderlying134 rfl) <| J.p rfl (Q.lss rfl rfl) <| J.m rfl ?_
   refine J.kases 14 rfl (fun hb14 => ?_) (fun hb14 => ?_)
   ·
    refine J.m rfl <| J.p rfl (Q.nil_ rfl) <| J.p rfl (Q.fa (n := 1) runUnderlying136 rfl rfl sizeOf134 rfl) ?_
    refine J.p rfl (Q.ld isAgg134 rfl ((rd_field RBk.len hrd0 hy (k := 1) rfl (by omega)).within (i := 0) rfl)) ?_
    obtain ⟨bb, off, hpp, hrd⟩ := hsl.some_ (by omega)
    obtain ⟨x, hx⟩ : ∃ x, y.l[k]? = some x := ⟨_, List.getElem?_eq_getElem (by omega)⟩
    refine J.slot 18 (.slice (some ⟨bb, off, none⟩) y.l.length y.c) rfl (by rw [hpp]) ?_
    refine J.m rfl <| J.p rfl (Q.ia runUnderlying134 sizeOf150 rfl rfl (by omega) (by omega)) <| J.p rfl (Q.fa (n := 0) runUnderlying150 rfl rfl sizeOf9 rfl) ?_
    refine J.p rfl (Q.ld isAgg9 rfl ((rd_field ROb.len hrd hx (k := 0) rfl (by simp)).within (i := 1) rfl)) ?_
    refine J.m rfl <| J.p rfl (Q.lsss rfl rfl) <| J.p rfl (Q.pick_t rfl rfl) <| J.nil <| J.then_n ?_
    refine J.kases 25 rfl (fun hc25 => ?_) (fun hc25 => ?_)
    ·
     refine J.cond_t rfl <| J.cskip <| J.then_n <| J.block <| J.region <| J.m rfl <| J.p rfl (Q.add64 rfl rfl (by omega)) <| J.p rfl (Q.asg rfl) <| J.nil <| J.blk_n ?_
     refine J.againI (k + 1) ⟨by show k + 1 ≤ _; omega, AtK.next hlo (hka hx) (by first | (simp only [ltB, decide_eq_true_eq]; exact (less_iff _ _).1 hc25) | (simp only [decide_eq_true_eq]; omega))⟩ (by show y.l.length - (k + 1) < y.l.length - k; omega) ⟨rfl, rfl, rfl, trivial⟩
    refine J.cond_f rfl <| J.exit <| J.then_x <| J.lp_x <| J.blk_x ?_
    refine J.meet k ⟨by omega, hlo, fun q hq => by
     rw [hka hx] at hq; cases hq
     first | (simp only [ltB, decide_eq_false_iff_not]; intro h; rw [(less_iff _ _).2 h] at hc25; cases hc25) | (simp only [decide_eq_false_iff_not]; omega)⟩ ⟨rfl, rfl, rfl, trivial⟩ rfl
   refine J.k rfl <| J.k rfl <| J.k rfl <| J.k rfl <| J.k rfl <| J.k rfl <| J.k rfl <| J.k rfl <| J.k rfl <| J.k rfl <| J.p rfl (Q.pick_f rfl rfl) <| J.nil <| J.then_n <| J.cond_f rfl <| J.exit <| J.then_x <| J.lp_x <| J.blk_x ?_
   refine J.meet k ⟨by omega, hlo, fun q hq => by rw [List.getElem?_eq_none (by omega)] at hq; cases hq⟩ ⟨rfl, rfl, rfl, trivial⟩ rfl
  have hle := hi.le
  refine J.seq ?_
  refine J.draw [20, 21] Tryz.mixed (by kernel_rfl) fun hR => ?_
  refine RG.p 0 hR rfl (Q.mv rfl) <| RG.p 1 hR rfl (Q.mv rfl) <| RG.p 2 hR rfl (Q.mv rfl) <| RG.p 3 hR rfl (Q.nil_ rfl) <| RG.p 4 hR rfl (Q.fa (n := 1) runUnderlying136 rfl rfl sizeOf134 rfl) ?_
  refine RG.p 5 hR rfl (Q.ld isAgg134 rfl ((rd_field RBk.len hrd0 hy (k := 1) rfl (by omega)).within (i := 0) rfl)) ?_
  refine RG.p 6 hR rfl (Q.lenSl runUnderlying134 rfl) <| RG.p 7 hR rfl (Q.lss rfl rfl) <| RG.p 8 hR rfl (Q.mv rfl) ?_
  refine RG.cases 36 rfl (fun hb36 => ?_) (fun hb36 => ?_)
  ·
   replace hb36 := X.nm hb36
   refine RG.p 9 hR rfl (Q.mv rfl) <| RG.p 10 hR rfl (Q.nil_ rfl) <| RG.p 11 hR rfl (Q.fa (n := 1) runUnderlying136 rfl rfl sizeOf134 rfl) ?_
   refine RG.p 12 hR rfl (Q.ld isAgg134 rfl ((rd_field RBk.len hrd0 hy (k := 1) rfl (by omega)).within (i := 0) rfl)) ?_
   obtain ⟨bb, off, hpp, hrd⟩ := hsl.some_ (by omega)
   obtain ⟨x, hx⟩ : ∃ x, y.l[i]? = some x := ⟨_, List.getElem?_eq_getElem (by omega)⟩
   have his := hi.is ord3_str hs (hka hx)
   refine RG.slot 40 (.slice (some ⟨bb, off, none⟩) y.l.length y.c) rfl (by rw [hpp]) ?_
   refine RG.p 13 hR rfl (Q.mv rfl) <| RG.p 14 hR rfl (Q.ia runUnderlying134 sizeOf150 rfl rfl (by omega) (by omega)) <| RG.p 15 hR rfl (Q.fa (n := 0) runUnderlying150 rfl rfl sizeOf9 rfl) ?_
   refine RG.p 16 hR rfl (Q.ld isAgg9 rfl ((rd_field ROb.len hrd hx (k := 0) rfl (by simp)).within (i := 1) rfl)) ?_
   refine RG.p 17 hR rfl (Q.mv rfl) <| RG.p 18 hR rfl (Q.eqls rfl rfl) <| RG.p 19 hR rfl (Q.pick_t rfl rfl) ?_
   refine RG.keep 20 hR rfl rfl rfl rfl rfl (Q.asg rfl) ?_
   refine RG.bar 21 hR rfl rfl rfl rfl rfl rfl (Q.asg rfl).toC ?_
   rintro _ _ ⟨rfl, rfl⟩
   refine RG.norm rfl ?_
   refine RG.fin hR rfl ?_
   refine J.norm rfl <| J.then_n <| J.cret ?_
   refine J.ret2I [bksO (some ⟨b0, o0, none⟩) c0 bs, y.own] rfl rfl rfl ⟨_, by first | (rw [← hkv, his]; done) | (rw [← hkv, his, bytes_eq]; done) | (rw [← hkv, his]; simp only [Int.ofNat_inj]; rfl), by rw [← hkv]; exact hi, rfl⟩
  replace hb36 := X.nm hb36
  refine RG.k 9 hR rfl <| RG.k 10 hR rfl <| RG.k 11 hR rfl <| RG.k 12 hR rfl <| RG.k 13 hR rfl <| RG.k 14 hR rfl <| RG.k 15 hR rfl <| RG.k 16 hR rfl <| RG.k 17 hR rfl <| RG.k 18 hR rfl ?_
  refine RG.p 19 hR rfl (Q.pick_f rfl rfl) ?_
  refine RG.keep 20 hR rfl rfl rfl rfl rfl (Q.asg rfl) ?_
  refine RG.bar 21 hR rfl rfl rfl rfl rfl rfl (Q.asg rfl).toC ?_
  rintro _ _ ⟨rfl, rfl⟩
  refine RG.norm rfl ?_
  refine RG.fin hR rfl ?_
  refine J.norm rfl <| J.then_n <| J.cret ?_
  have his := hi.out ord3_str hs (by omega)
  refine J.ret2I [bksO (some ⟨b0, o0, none⟩) c0 bs, y.own] rfl rfl rfl ⟨_, by rw [← hkv, his], by rw [← hkv]; exact hi, rfl⟩

theorem rpart_spec (b0 o0 c0 : Nat) (us : List RUp) {j : Nat} {y : RUp} (hy : us[j]? = some y) (n : Int) (hs : Srtd ltI (y.l.map RPt.kv)) (hn : y.l.length ≤ 9223372036854775807) :
    FSpec Tryz.prog 58 [.pointer (some ⟨b0, o0 + j * 4, none⟩), .int .i64 n] [upsO (some ⟨b0, o0, none⟩) c0 us, y.own]
    (fun v B => ∃ i : Nat, v = .tuple #[.int .i64 i, .bool (sget n (y.l.map RPt.kv)).isSome] ∧ AtK ltI n (y.l.map RPt.kv) i ∧ B = [upsO (some ⟨b0, o0, none⟩) c0 us, y.own]) := by
  refine FSpec.of func58 rfl ntmps58 rfl fun W0 F => ?_
  refine J.seq ?_
  refine J.slrI (E0 := 146) (sz := 2) (p := y.p) (n := y.l.length) (c := y.c) (xs := y.l.flatMap RPt.cells) fun hsl => ?_
  refine J.slrI (E0 := 143) (sz := 4) (p := some ⟨b0, o0, none⟩) (n := us.length) (c := c0) (xs := us.flatMap RUp.cells) fun hsl0 => ?_
  obtain ⟨_, _, e0, hrd0⟩ := hsl0.some_ (by have := (List.getElem?_eq_some_iff.1 hy).1; omega)
  cases e0
  obtain ⟨kv, hkv⟩ : ∃ kv, kv = y.l.map RPt.kv := ⟨_, rfl⟩
  have hkl : kv.length = y.l.length := by rw [hkv, List.length_map]
  have hka : ∀ {k : Nat} {x : RPt}, y.l[k]? = some x → kv[k]? = some x.kv := fun {k x} h => by rw [hkv, List.getElem?_map, h]; rfl
  rw [← hkv] at hs
  refine J.region <| J.p rfl (Q.asg rfl) <| J.p rfl (Q.asg rfl) <| J.nil <| J.then_n <| J.seq <| J.region <| J.p rfl (Q.asg rfl) <| J.nil <| J.then_n ?_
  refine J.cut (fun i : Nat => AtK ltI n kv i) (fun i => [(0, .pointer (some ⟨b0, o0 + j * 4, none⟩)), (1, .int .i64 n), (6, .int .i64 i)]) (fun _ => [upsO (some ⟨b0, o0, none⟩) c0 us, y.own, F]) ?_ fun i hi => ?_
  ·
   refine J.block ?_
   refine J.loop (fun k : Nat => k ≤ y.l.length ∧ ∀ q, q ∈ kv.take k → ltI q.1 n = true) (fun k => y.l.length - k) (fun k => [(0, .pointer (some ⟨b0, o0 + j * 4, none⟩)), (1, .int .i64 n), (6, .int .i64 k)]) (fun _ => [upsO (some ⟨b0, o0, none⟩) c0 us, y.own, F]) 0
    ⟨Nat.zero_le _, (fun _ h => by cases h)⟩ ⟨rfl, rfl, rfl, trivial⟩ rfl fun k hk => ?_
   obtain ⟨hk, hlo⟩ := hk
   refine J.seq <| J.seq <| J.region <| J.m rfl <| J.m rfl <| J.p rfl (Q.nil_ rfl) <| J.p rfl (Q.fa (n := 3) runUnderlying143 rfl rfl sizeOf141 rfl) ?_
   refine J.p rfl (Q.ld isAgg141 rfl ((rd_field RUp.len hrd0 hy (k := 3) rfl (by omega)).within (i := 0) rfl)) ?_
   refine J.p rfl (Q.lenSl runUnderlying141 rfl) <| J.p rfl (Q.lss rfl rfl) <| J.m rfl ?_
   refine J.kases 14 rfl (fun hb14 => ?_) (fun hb14 => ?_)
   ·
    refine J.m rfl <| J.p rfl (Q.nil_ rfl) <| J.p rfl (Q.fa (n := 3) runUnderlying143 rfl rfl sizeOf141 rfl) ?_
    refine J.p rfl (Q.ld isAgg141 rfl ((rd_field RUp.len hrd0 hy (k := 3) rfl (by omega)).within (i := 0) rfl)) ?_
    obtain ⟨bb, off, hpp, hrd⟩ := hsl.some_ (by omega)
    obtain ⟨x, hx⟩ : ∃ x, y.l[k]? = some x := ⟨_, List.getElem?_eq_getElem (by omega)⟩
    refine J.slot 18 (.slice (some ⟨bb, off, none⟩) y.l.length y.c) rfl (by rw [hpp]) ?_
    refine J.m rfl <| J.p rfl (Q.ia runUnderlying141 sizeOf146 rfl rfl (by omega) (by omega)) <| J.p rfl (Q.fa (n := 0) runUnderlying146 rfl rfl sizeOf3 rfl) ?_
    refine J.p rfl (Q.ld isAgg3 rfl ((rd_field RPt.len hrd hx (k := 0) rfl (by simp)).within (i := 1) rfl)) ?_
    refine J.m rfl <| J.p rfl (Q.lss rfl rfl) <| J.p rfl (Q.pick_t rfl rfl) <| J.nil <| J.then_n ?_
    refine J.kases 25 rfl (fun hc25 => ?_) (fun hc25 => ?_)
    ·
     refine J.cond_t rfl <| J.cskip <| J.then_n <| J.block <| J.region <| J.m rfl <| J.p rfl (Q.add64 rfl rfl (by omega)) <| J.p rfl (Q.asg rfl) <| J.nil <| J.blk_n ?_
     refine J.againI (k + 1) ⟨by show k + 1 ≤ _; omega, AtK.next hlo (hka hx) (by first | (simp only [ltB, decide_eq_true_eq]; exact (less_iff _ _).1 hc25) | (simp only [decide_eq_true_eq]; omega))⟩ (by show y.l.length - (k + 1) < y.l.length - k; omega) ⟨rfl, rfl, rfl, trivial⟩
    refine J.cond_f rfl <| J.exit <| J.then_x <| J.lp_x <| J.blk_x ?_
    refine J.meet k ⟨by omega, hlo, fun q hq => by
     rw [hka hx] at hq; cases hq
     first | (simp only [ltB, decide_eq_false_iff_not]; intro h; rw [(less_iff _ _).2 h] at hc25; cases hc25) | (simp only [decide_eq_false_iff_not]; omega)⟩ ⟨rfl, rfl, rfl, trivial⟩ rfl
   refine J.k rfl <| J.k rfl <| J.k rfl <| J.k rfl <| J.k rfl <| J.k rfl <| J.k rfl <| J.k rfl <| J.k rfl <| J.k rfl <| J.p rfl (Q.pick_f rfl rfl) <| J.nil <| J.then_n <| J.cond_f rfl <| J.exit <| J.then_x <| J.lp_x <| J.blk_x ?_
   refine J.meet k ⟨by omega, hlo, fun q hq => by rw [List.getElem?_eq_none (by omega)] at hq; cases hq⟩ ⟨rfl, rfl, rfl, trivial⟩ rfl
  have hle := hi.le
  refine J.seq ?_
  refine J.draw [20, 21] Tryz.mixed (by kernel_rfl) fun hR => ?_
  refine RG.p 0 hR rfl (Q.mv rfl) <| RG.p 1 hR rfl (Q.mv rfl) <| RG.p 2 hR rfl (Q.mv rfl) <| RG.p 3 hR rfl (Q.nil_ rfl) <| RG.p 4 hR rfl (Q.fa (n := 3) runUnderlying143 rfl rfl sizeOf141 rfl) ?_
  refine RG.p 5 hR rfl (Q.ld isAgg141 rfl ((rd_field RUp.len hrd0 hy (k := 3) rfl (by omega)).within (i := 0) rfl)) ?_
  refine RG.p 6 hR rfl (Q.lenSl runUnderlying141 rfl) <| RG.p 7 hR rfl (Q.lss rfl rfl) <| RG.p 8 hR rfl (Q.mv rfl) ?_
  refine RG.cases 36 rfl (fun hb36 => ?_) (fun hb36 => ?_)
  ·
   replace hb36 := X.nm hb36
   refine RG.p 9 hR rfl (Q.mv rfl) <| RG.p 10 hR rfl (Q.nil_ rfl) <| RG.p 11 hR rfl (Q.fa (n := 3) runUnderlying143 rfl rfl sizeOf141 rfl) ?_
   refine RG.p 12 hR rfl (Q.ld isAgg141 rfl ((rd_field RUp.len hrd0 hy (k := 3) rfl (by omega)).within (i := 0) rfl)) ?_
   obtain ⟨bb, off, hpp, hrd⟩ := hsl.some_ (by omega)
   obtain ⟨x, hx⟩ : ∃ x, y.l[i]? = some x := ⟨_, List.getElem?_eq_getElem (by omega)⟩
   have his := hi.is ord3_int hs (hka hx)
   refine RG.slot 40 (.slice (some ⟨bb, off, none⟩) y.l.length y.c) rfl (by rw [hpp]) ?_
   refine RG.p 13 hR rfl (Q.mv rfl) <| RG.p 14 hR rfl (Q.ia runUnderlying141 sizeOf146 rfl rfl (by omega) (by omega)) <| RG.p 15 hR rfl (Q.fa (n := 0) runUnderlying146 rfl rfl sizeOf3 rfl) ?_
   refine RG.p 16 hR rfl (Q.ld isAgg3 rfl ((rd_field RPt.len hrd hx (k := 0) rfl (by simp)).within (i := 1) rfl)) ?_
   refine RG.p 17 hR rfl (Q.mv rfl) <| RG.p 18 hR rfl (Q.eql rfl rfl) <| RG.p 19 hR rfl (Q.pick_t rfl rfl) ?_
   refine RG.keep 20 hR rfl rfl rfl rfl rfl (Q.asg rfl) ?_
   refine RG.bar 21 hR rfl rfl rfl rfl rfl rfl (Q.asg rfl).toC ?_
   rintro _ _ ⟨rfl, rfl⟩
   refine RG.norm rfl ?_
   refine RG.fin hR rfl ?_
   refine J.norm rfl <| J.then_n <| J.cret ?_
   refine J.ret2I [upsO (some ⟨b0, o0, none⟩) c0 us, y.own] rfl rfl rfl ⟨_, by first | (rw [← hkv, his]; done) | (rw [← hkv, his, bytes_eq]; done) | (rw [← hkv, his]; simp only [Int.ofNat_inj]; rfl), by rw [← hkv]; exact hi, rfl⟩
  replace hb36 := X.nm hb36
  refine RG.k 9 hR rfl <| RG.k 10 hR rfl <| RG.k 11 hR rfl <| RG.k 12 hR rfl <| RG.k 13 hR rfl <| RG.k 14 hR rfl <| RG.k 15 hR rfl <| RG.k 16 hR rfl <| RG.k 17 hR rfl <| RG.k 18 hR rfl ?_
  refine RG.p 19 hR rfl (Q.pick_f rfl rfl) ?_
  refine RG.keep 20 hR rfl rfl rfl rfl rfl (Q.asg rfl) ?_
  refine RG.bar 21 hR rfl rfl rfl rfl rfl rfl (Q.asg rfl).toC ?_
  rintro _ _ ⟨rfl, rfl⟩
  refine RG.norm rfl ?_
  refine RG.fin hR rfl ?_
  refine J.norm rfl <| J.then_n <| J.cret ?_
  have his := hi.out ord3_int hs (by omega)
  refine J.ret2I [upsO (some ⟨b0, o0, none⟩) c0 us, y.own] rfl rfl rfl ⟨_, by rw [← hkv, his], by rw [← hkv]; exact hi, rfl⟩

theorem ROb.one (x : ROb) : ∀ v, v ∈ x.cells → oneC v = true := by intro v hv; simp at hv; rcases hv with rfl | rfl <;> rfl
theorem RBk.one (x : RBk) : ∀ v, v ∈ x.cells → oneC v = true := by intro v hv; simp at hv; rcases hv with rfl | rfl <;> rfl
theorem RPt.one (x : RPt) : ∀ v, v ∈ x.cells → oneC v = true := by intro v hv; simp at hv; rcases hv with rfl | rfl <;> rfl
theorem RUp.one (x : RUp) : ∀ v, v ∈ x.cells → oneC v = true := by intro v hv; simp at hv; rcases hv with rfl | rfl | rfl | rfl <;> rfl
theorem RKp.one (x : RKp) : ∀ v, v ∈ RKp.cells x → oneC v = true := by intro v hv; simp at hv; rcases hv with rfl | rfl | rfl | rfl | rfl | rfl <;> rfl

theorem rput_spec (G : Assn) (b0 o0 c0 : Nat) (bs : List RBk) {j : Nat} {y : RBk} (hy : bs[j]? = some y) (k : ByteArray) (dp : Option Addr) (dc : Nat) (d : List UInt8) (hd : SlR [G] 1 (.slice dp d.length dc) (bytesV d)) (hdl : d.length ≤ 140737488355328)
    (hs : Srtd ltB (y.l.map ROb.kv)) (hn : y.l.length ≤ 1073741824) : FSpec Tryz.prog 60 [.pointer (some ⟨b0, o0 + j * 2, none⟩), .string k, .slice dp d.length dc] [bksO (some ⟨b0, o0, none⟩) c0 bs, y.own, star (y.l.map ROb.asn), G]
    (fun v B => ∃ z : RBk, z.k = y.k ∧ z.l.map ROb.kv = sput ltB k d (y.l.map ROb.kv) ∧ v = .tuple #[] ∧ B = [bksO (some ⟨b0, o0, none⟩) c0 (bs.set j z), z.own, star (z.l.map ROb.asn), G]) := by
  obtain ⟨yk, yp, yc, yl⟩ := y
  dsimp only [RBk.own, RBk.kv, RBk.cells] at *
  have hj := (List.getElem?_eq_some_iff.1 hy).1
  refine FSpec.of func60 rfl ntmps60 rfl fun W0 F => ?_
  refine J.slrI (E0 := 150) (sz := 2) (p := yp) (n := yl.length) (c := yc) (xs := yl.flatMap ROb.cells) fun hsl => ?_
  refine J.tells 1 rfl own.len fun hlc => ?_
  have hlc' : yl.length ≤ yc := hlc.2
  refine J.seq <| J.region <| J.m rfl <| J.m rfl ?_
  refine J.callI call63 (robject_spec b0 o0 c0 bs hy k hs (by show yl.length ≤ _; omega)) rfl rfl rfl ?_
  rintro _ _ ⟨i, rfl, hi, rfl⟩
  refine J.norm rfl ?_
  dsimp only [RBk.own] at *
  have hle : i ≤ yl.length := by have := hi.le; rwa [List.length_map] at this
  refine J.m rfl <| J.p rfl (Q.ext rfl rfl) <| J.p rfl (Q.ext rfl rfl) <| J.p rfl (Q.asg rfl) <| J.p rfl (Q.asg rfl) <| J.nil <| J.then_n <| J.seq <| J.region <| J.m rfl ?_
  refine J.c rfl rfl (C.bslG (l := []) runUnderlying42 sizeOf5 zeroValue5 (by decide) rfl rfl rfl rfl rfl) ?_
  rintro _ _ ⟨b17, rfl, rfl⟩
  refine J.norm rfl <| J.m rfl ?_
  refine J.c rfl rfl (C.appI runUnderlying42 runUnderlying42 typeInfo5 sizeOf5 zeroValue5 rfl rfl (hd.inI) (bytesV_one _) (by simp [Tryz.t5] <;> omega) (by decide)) ?_
  rintro _ _ ⟨p19, c19, rfl, rfl⟩
  refine J.norm rfl ?_
  rw [show 0 + d.length = d.length from by omega, List.nil_append]
  obtain ⟨x, hx⟩ : ∃ x : ROb, x = ⟨k, p19, c19, d⟩ := ⟨_, rfl⟩
  refine J.p rfl (Q.bld (l := [_, _]) runUnderlying150 zeroValue150 places150 rfl rfl) ?_
  refine J.slot 20 (.agg x.cells.toArray) rfl (by rw [hx]; rfl) ?_
  refine J.c rfl rfl (C.alloc (l := [_, _]) zeroValue150 rfl) ?_
  rintro _ _ ⟨b8, rfl, rfl⟩
  refine J.norm rfl ?_
  refine J.stAJ (vs := [_, _]) rfl sizeOf150 rfl rfl ?_
  refine J.nil <| J.then_n <| J.seq <| J.seq ?_
  refine J.convI (own 5 1 (.slice p19 d.length c19) (bytesV d)) x.asn (fun _ h => by rw [hx]; exact h) ?_
  have hxk : x.kv = (k, d) := by rw [hx]
  refine J.region <| J.m rfl <| J.nil <| J.then_n ?_
  refine J.kases 21 rfl (fun hc21 => ?_) (fun hc21 => ?_)
  ·
   refine J.cond_t rfl <| J.seq ?_
   obtain ⟨v, hv⟩ := Option.isSome_iff_exists.1 hc21
   have hil := (List.getElem?_eq_some_iff.1 (hi.here ord3_str hs hv)).1
   rw [List.length_map] at hil
   obtain ⟨bb, off, rfl, hrd⟩ := hsl.some_ (by omega)
   have e1 : (yl.set i x).map ROb.kv = sput ltB k d (yl.map ROb.kv) := by rw [hi.put_yes ord3_str hs hv, List.map_set, hxk]
   refine J.draw [7] Tryz.mixed (by kernel_rfl) fun hR => ?_
   refine RG.p 0 hR rfl (Q.mv rfl) <| RG.p 1 hR rfl (Q.nil_ rfl) <| RG.p 2 hR rfl (Q.fa (n := 1) runUnderlying136 rfl rfl sizeOf134 rfl) <| RG.p 3 hR rfl (Q.ld isAgg134 rfl (rfO 1 RBk.len hy (show _ = some (Value.slice (some ⟨bb, off, none⟩) yl.length yc) from rfl) (by omega))) <| RG.p 4 hR rfl (Q.mv rfl) ?_
   refine RG.p 5 hR rfl (Q.ldN (vs := [_, _]) isAgg150 sizeOf150 rfl rnI) ?_
   refine RG.p 6 hR rfl (Q.ia runUnderlying134 sizeOf150 rfl rfl (by omega) (by omega)) ?_
   refine RG.bar 7 hR rfl rfl rfl rfl rfl rfl (C.stNO (i * 2) (vs := x.cells) sizeOf150 rfl rfl (by omega) (by rw [flat_length ROb.len]; show i * 2 + 2 ≤ _; omega) rfl) ?_
   rintro _ _ ⟨rfl, rfl⟩
   refine RG.norm rfl ?_
   refine RG.fin hR rfl ?_
   refine J.norm rfl <| J.then_n <| J.cret <| J.then_r ?_
   rw [flat_set ROb.len yl i x hil]
   refine J.shutI [x.asn, star (yl.map ROb.asn)] (star ((yl.set i x).map ROb.asn)) (star_set1 i x) ?_
   refine J.convI (bksO (some ⟨b0, o0, none⟩) c0 bs) (bksO (some ⟨b0, o0, none⟩) c0 (bs.set j ⟨yk, some ⟨bb, off, none⟩, yc, yl.set i x⟩)) (fun _ h => by show own _ _ (.slice _ (bs.set j _).length _) _ _; rw [List.length_set, flat_same hy (by show [_, Value.slice _ _ _] = _; rw [List.length_set])]; exact h) ?_
   refine J.convI (own 150 2 (.slice (some ⟨bb, off, none⟩) yl.length yc) ((yl.set i x).flatMap ROb.cells)) (RBk.own ⟨yk, some ⟨bb, off, none⟩, yc, yl.set i x⟩) (fun _ h => by show own _ _ (.slice _ (yl.set i x).length _) _ _; rw [List.length_set]; exact h) ?_
   refine J.ret0I [bksO (some ⟨b0, o0, none⟩) c0 (bs.set j ⟨yk, some ⟨bb, off, none⟩, yc, yl.set i x⟩), RBk.own ⟨yk, some ⟨bb, off, none⟩, yc, yl.set i x⟩, star ((yl.set i x).map ROb.asn), G] rfl ⟨_, rfl, e1, rfl, rfl⟩
  refine J.cond_f rfl <| J.cskip <| J.then_n ?_
  have hsn : sget k (yl.map ROb.kv) = none := Option.not_isSome_iff_eq_none.1 (by rw [hc21]; exact Bool.false_ne_true)
  have e1 : (yl.take i ++ x :: yl.drop i).map ROb.kv = sput ltB k d (yl.map ROb.kv) := by rw [hi.put_no ord3_str hs hsn, List.map_append, List.map_cons, List.map_take, List.map_drop, hxk]
  have e2 : (yl.take i ++ x :: yl.drop i).length = 0 + i + 1 + (yl.length - i) := by simp; omega
  refine J.cut (fun _ : Option Addr × Nat => True) (fun z => [(0, .pointer (some ⟨b0, o0 + j * 2, none⟩)), (6, .int .i64 i), (9, .slice z.1 (0 + i + 1) z.2)])
   (fun z => [bksO (some ⟨b0, o0, none⟩) c0 bs, own 150 2 (.slice yp yl.length yc) (yl.flatMap ROb.cells), star (yl.map ROb.asn), x.asn, G, own 150 2 (.slice z.1 (0 + i + 1) z.2) ([] ++ (yl.flatMap ROb.cells).take (i * 2) ++ x.cells), F]) ?_ fun z _ => ?_
  ·
   obtain ⟨hq35, hr35⟩ := slH_ (P := Tryz.prog) (T := 134) runUnderlying134 sizeOf150 hsl (hi := i) hle hlc'
   refine J.draw [0, 7, 9, 10, 11] Tryz.mixed (by kernel_rfl) fun hR => ?_
   refine RG.p 1 hR rfl (Q.mv rfl) <| RG.p 2 hR rfl (Q.nil_ rfl) <| RG.p 3 hR rfl (Q.fa (n := 1) runUnderlying136 rfl rfl sizeOf134 rfl) <| RG.p 4 hR rfl (Q.ld isAgg134 rfl (rfO 1 RBk.len hy (show _ = some (Value.slice yp yl.length yc) from rfl) (by omega))) <| RG.p 5 hR rfl (Q.mv rfl) ?_
   refine RG.p 6 hR rfl (hq35 _ _ _ _ _ _ rfl rfl) ?_
   refine RG.p 8 hR rfl (Q.ldN (vs := [_, _]) isAgg150 sizeOf150 rfl rnI) ?_
   refine RG.many hR 0 [9] rfl ⟨?_, ⟨?_, trivial⟩⟩
   ·
    refine RGi.made rfl rfl rfl rfl (C.bslG (l := []) runUnderlying134 sizeOf150 zeroValue150 (by decide) rfl rfl rfl rfl rfl) ?_
    rintro b29
    refine RG.many hR 7 [9] rfl ⟨?_, ⟨?_, trivial⟩⟩
    ·
     refine RGi.appI rfl rfl rfl rfl runUnderlying134 runUnderlying134 typeInfo150 sizeOf150 zeroValue150 rfl rfl (hr35.inI) (take_one (flat_one ROb.one)) (by simp [Tryz.t150] <;> omega) (by decide) ?_
     rintro p36 c36
     refine RG.normE rfl ?_
     refine RG.made 9 hR rfl rfl rfl rfl rfl (C.bslG (l := [_, _]) runUnderlying134 sizeOf150 zeroValue150 (by decide) rfl rfl rfl rfl rfl) ?_
     rintro b38
     refine RG.many hR 10 [] rfl ⟨?_, trivial⟩
     ·
      refine RGi.appI rfl rfl rfl rfl runUnderlying134 runUnderlying134 typeInfo150 sizeOf150 zeroValue150 rfl rfl (SlR.ptI rfl) (ROb.one x) (by simp [Tryz.t150] <;> omega) (by decide) ?_
      rintro p39 c39
      refine RG.normE rfl ?_
      refine RG.bar 11 hR rfl rfl rfl rfl rfl rfl (Q.asg rfl).toC ?_
      rintro _ _ ⟨rfl, rfl⟩
      refine RG.norm rfl ?_
      refine RG.fin hR rfl ?_
      refine J.norm rfl ?_
      exact J.meetI (p39, c39) trivial ⟨rfl, rfl, rfl, trivial⟩
    ·
     refine RGi.made rfl rfl rfl rfl (C.bslG (l := [_, _]) runUnderlying134 sizeOf150 zeroValue150 (by decide) rfl rfl rfl rfl rfl) ?_
     rintro b38
     refine RG.many hR 7 [] rfl ⟨?_, trivial⟩
     ·
      refine RGi.appI rfl rfl rfl rfl runUnderlying134 runUnderlying134 typeInfo150 sizeOf150 zeroValue150 rfl rfl (hr35.inI) (take_one (flat_one ROb.one)) (by simp [Tryz.t150] <;> omega) (by decide) ?_
      rintro p36 c36
      refine RG.normE rfl ?_
      refine RG.many hR 10 [] rfl ⟨?_, trivial⟩
      ·
       refine RGi.appI rfl rfl rfl rfl runUnderlying134 runUnderlying134 typeInfo150 sizeOf150 zeroValue150 rfl rfl (SlR.ptI rfl) (ROb.one x) (by simp [Tryz.t150] <;> omega) (by decide) ?_
       rintro p39 c39
       refine RG.normE rfl ?_
       refine RG.bar 11 hR rfl rfl rfl rfl rfl rfl (Q.asg rfl).toC ?_
       rintro _ _ ⟨rfl, rfl⟩
       refine RG.norm rfl ?_
       refine RG.fin hR rfl ?_
       refine J.norm rfl ?_
       exact J.meetI (p39, c39) trivial ⟨rfl, rfl, rfl, trivial⟩
   ·
    refine RGi.made rfl rfl rfl rfl (C.bslG (l := [_, _]) runUnderlying134 sizeOf150 zeroValue150 (by decide) rfl rfl rfl rfl rfl) ?_
    rintro b38
    refine RG.made 0 hR rfl rfl rfl rfl rfl (C.bslG (l := []) runUnderlying134 sizeOf150 zeroValue150 (by decide) rfl rfl rfl rfl rfl) ?_
    rintro b29
    refine RG.many hR 7 [] rfl ⟨?_, trivial⟩
    ·
     refine RGi.appI rfl rfl rfl rfl runUnderlying134 runUnderlying134 typeInfo150 sizeOf150 zeroValue150 rfl rfl (hr35.inI) (take_one (flat_one ROb.one)) (by simp [Tryz.t150] <;> omega) (by decide) ?_
     rintro p36 c36
     refine RG.normE rfl ?_
     refine RG.many hR 10 [] rfl ⟨?_, trivial⟩
     ·
      refine RGi.appI rfl rfl rfl rfl runUnderlying134 runUnderlying134 typeInfo150 sizeOf150 zeroValue150 rfl rfl (SlR.ptI rfl) (ROb.one x) (by simp [Tryz.t150] <;> omega) (by decide) ?_
      rintro p39 c39
      refine RG.normE rfl ?_
      refine RG.bar 11 hR rfl rfl rfl rfl rfl rfl (Q.asg rfl).toC ?_
      rintro _ _ ⟨rfl, rfl⟩
      refine RG.norm rfl ?_
      refine RG.fin hR rfl ?_
      refine J.norm rfl ?_
      exact J.meetI (p39, c39) trivial ⟨rfl, rfl, rfl, trivial⟩
  obtain ⟨p47, c47, hq47, hr47⟩ := slL_ (P := Tryz.prog) (T := 134) runUnderlying134 sizeOf150 hsl (lo := i) hle hlc'
  refine J.region <| J.m rfl <| J.m rfl <| J.m rfl <| J.p rfl (Q.nil_ rfl) <| J.p rfl (Q.fa (n := 1) runUnderlying136 rfl rfl sizeOf134 rfl) <| J.p rfl (Q.ld isAgg134 rfl (rfO 1 RBk.len hy (show _ = some (Value.slice yp yl.length yc) from rfl) (by omega))) <| J.m rfl ?_
  refine J.p rfl (hq47 _ _ _ _ _ _ rfl rfl) ?_
  refine J.c rfl rfl (C.appI runUnderlying134 runUnderlying134 typeInfo150 sizeOf150 zeroValue150 rfl rfl (hr47.inI) (drop_one (flat_one ROb.one)) (by simp [Tryz.t150] <;> omega) (by decide)) ?_
  rintro _ _ ⟨p48, c48, rfl, rfl⟩
  refine J.norm rfl <| J.p rfl (Q.nil_ rfl) <| J.p rfl (Q.fa (n := 1) runUnderlying136 rfl rfl sizeOf134 rfl) ?_
  refine J.c0 rfl (C.st1O (j * 2 + 1) sizeOf134 rfl rfl rfl (by omega) (by rw [flat_length RBk.len]; omega)) ?_
  rintro _ _ ⟨rfl, rfl⟩
  refine J.norm rfl <| J.nil ?_
  rw [flat_set1 (c := RBk.cells) RBk.len hy (k := 1) (x' := ⟨yk, p48, c48, yl.take i ++ x :: yl.drop i⟩) (by decide) (by show [_, Value.slice _ _ _] = _; rw [e2]; rfl)]
  refine J.convI _ _ (own_ins (p := p48) (c := c48) (E := 150) ROb.len (x := x) hle) ?_
  refine J.shutI [x.asn, star (yl.map ROb.asn)] (star ((yl.take i ++ x :: yl.drop i).map ROb.asn)) (star_ins1 i x) ?_
  refine J.convI (own 136 2 (.slice (some ⟨b0, o0, none⟩) bs.length c0) ((bs.set j ⟨yk, p48, c48, yl.take i ++ x :: yl.drop i⟩).flatMap RBk.cells)) (bksO (some ⟨b0, o0, none⟩) c0 (bs.set j ⟨yk, p48, c48, yl.take i ++ x :: yl.drop i⟩)) (fun _ h => by show own _ _ (.slice _ (bs.set j _).length _) _ _; rw [List.length_set]; exact h) ?_
  refine J.end0I [bksO (some ⟨b0, o0, none⟩) c0 (bs.set j ⟨yk, p48, c48, yl.take i ++ x :: yl.drop i⟩), RBk.own ⟨yk, p48, c48, yl.take i ++ x :: yl.drop i⟩, star ((yl.take i ++ x :: yl.drop i).map ROb.asn), G] rfl ⟨_, rfl, e1, rfl, rfl⟩

theorem rdrop_spec (b0 o0 c0 : Nat) (bs : List RBk) {j : Nat} {y : RBk} (hy : bs[j]? = some y) (k : ByteArray) {v : List UInt8} {i : Nat} (hi : AtK ltB k (y.l.map ROb.kv) i) (hv : sget k (y.l.map ROb.kv) = some v)
    (hs : Srtd ltB (y.l.map ROb.kv)) (hn : y.l.length ≤ 1073741824) : FSpec Tryz.prog 64 [.pointer (some ⟨b0, o0 + j * 2, none⟩), .int .i64 i] [bksO (some ⟨b0, o0, none⟩) c0 bs, y.own, star (y.l.map ROb.asn)]
    (fun v B => ∃ z : RBk, z.k = y.k ∧ z.l.map ROb.kv = sdel k (y.l.map ROb.kv) ∧ v = .tuple #[] ∧ B = [bksO (some ⟨b0, o0, none⟩) c0 (bs.set j z), z.own, star (z.l.map ROb.asn)]) := by
  obtain ⟨yk, yp, yc, yl⟩ := y
  dsimp only [RBk.own, RBk.kv, RBk.cells] at *
  have hj := (List.getElem?_eq_some_iff.1 hy).1
  refine FSpec.of func64 rfl ntmps64 rfl fun W0 F => ?_
  refine J.slrI (E0 := 150) (sz := 2) (p := yp) (n := yl.length) (c := yc) (xs := yl.flatMap ROb.cells) fun hsl => ?_
  refine J.tells 1 rfl own.len fun hlc => ?_
  have hlc' : yl.length ≤ yc := hlc.2
  have hil := (List.getElem?_eq_some_iff.1 (hi.here ord3_str hs hv)).1
  rw [List.length_map] at hil
  have e1 : (yl.eraseIdx i).map ROb.kv = sdel k (yl.map ROb.kv) := by rw [hi.del ord3_str hs hv, List.eraseIdx_eq_take_drop_succ, List.eraseIdx_eq_take_drop_succ, List.map_append, List.map_take, List.map_drop]
  have e2 : (yl.eraseIdx i).length = 0 + i + (yl.length - (i + 1)) := by rw [List.length_eraseIdx]; split <;> omega
  obtain ⟨hq11, hr11⟩ := slH_ (P := Tryz.prog) (T := 134) runUnderlying134 sizeOf150 hsl (hi := i) (by omega) hlc'
  obtain ⟨p19, c19, hq19, hr19⟩ := slL_ (P := Tryz.prog) (T := 134) runUnderlying134 sizeOf150 hsl (lo := i + 1) (by omega) hlc'
  refine J.draw [1, 8, 16, 19] Tryz.mixed (by kernel_rfl) fun hR => ?_
  refine RG.p 0 hR rfl (Q.mv rfl) <| RG.p 2 hR rfl (Q.mv rfl) <| RG.p 3 hR rfl (Q.nil_ rfl) <| RG.p 4 hR rfl (Q.fa (n := 1) runUnderlying136 rfl rfl sizeOf134 rfl) <| RG.p 5 hR rfl (Q.ld isAgg134 rfl (rfO 1 RBk.len hy (show _ = some (Value.slice yp yl.length yc) from rfl) (by omega))) <| RG.p 6 hR rfl (Q.mv rfl) ?_
  refine RG.p 7 hR rfl (hq11 _ _ _ _ _ _ rfl rfl) ?_
  refine RG.p 9 hR rfl (Q.mv rfl) <| RG.p 10 hR rfl (Q.nil_ rfl) <| RG.p 11 hR rfl (Q.fa (n := 1) runUnderlying136 rfl rfl sizeOf134 rfl) <| RG.p 12 hR rfl (Q.ld isAgg134 rfl (rfO 1 RBk.len hy (show _ = some (Value.slice yp yl.length yc) from rfl) (by omega))) <| RG.p 13 hR rfl (Q.mv rfl) <| RG.p 14 hR rfl (Q.add64 rfl rfl (by omega)) ?_
  refine RG.p 15 hR rfl (hq19 _ _ _ _ _ _ rfl rfl) ?_
  refine RG.made 1 hR rfl rfl rfl rfl rfl (C.bslG (l := []) runUnderlying134 sizeOf150 zeroValue150 (by decide) rfl rfl rfl rfl rfl) ?_
  rintro b5
  refine RG.many hR 8 [] rfl ⟨?_, trivial⟩
  ·
   refine RGi.appI rfl rfl rfl rfl runUnderlying134 runUnderlying134 typeInfo150 sizeOf150 zeroValue150 rfl rfl (hr11.inI) (take_one (flat_one ROb.one)) (by simp [Tryz.t150] <;> omega) (by decide) ?_
   rintro p12 c12
   refine RG.normE rfl ?_
   refine RG.many hR 16 [] rfl ⟨?_, trivial⟩
   ·
    refine RGi.appI rfl rfl rfl rfl runUnderlying134 runUnderlying134 typeInfo150 sizeOf150 zeroValue150 rfl rfl (hr19.inI) (drop_one (flat_one ROb.one)) (by simp [Tryz.t150] <;> omega) (by decide) ?_
    rintro p20 c20
    refine RG.normE rfl <| RG.p 17 hR rfl (Q.nil_ rfl) <| RG.p 18 hR rfl (Q.fa (n := 1) runUnderlying136 rfl rfl sizeOf134 rfl) ?_
    refine RG.bar 19 hR rfl rfl rfl rfl rfl rfl (C.st1O (j * 2 + 1) sizeOf134 rfl rfl rfl (by omega) (by rw [flat_length RBk.len]; omega)) ?_
    rintro _ _ ⟨rfl, rfl⟩
    refine RG.norm rfl ?_
    refine RG.fin hR rfl ?_
    refine J.norm rfl ?_
    rw [flat_set1 (c := RBk.cells) RBk.len hy (k := 1) (x' := ⟨yk, p20, c20, yl.eraseIdx i⟩) (by decide) (by show [_, Value.slice _ _ _] = _; rw [e2]; rfl)]
    refine J.convI _ _ (own_cut (p := p20) (c := c20) (E := 150) ROb.len hil) ?_
    refine J.convI (star (yl.map ROb.asn)) (star ((yl.eraseIdx i).map ROb.asn)) (star_drop1 i) ?_
    refine J.convI (own 136 2 (.slice (some ⟨b0, o0, none⟩) bs.length c0) ((bs.set j ⟨yk, p20, c20, yl.eraseIdx i⟩).flatMap RBk.cells)) (bksO (some ⟨b0, o0, none⟩) c0 (bs.set j ⟨yk, p20, c20, yl.eraseIdx i⟩)) (fun _ h => by show own _ _ (.slice _ (bs.set j _).length _) _ _; rw [List.length_set]; exact h) ?_
    refine J.end0I [bksO (some ⟨b0, o0, none⟩) c0 (bs.set j ⟨yk, p20, c20, yl.eraseIdx i⟩), RBk.own ⟨yk, p20, c20, yl.eraseIdx i⟩, star ((yl.eraseIdx i).map ROb.asn)] rfl ⟨_, rfl, e1, rfl, rfl⟩
end Go.Proofs.YtidbcaimgahllaaGreat

