/-
  What the proof of the last of these texts leans on: part 3 of 4.
-/
import Derived.Test.YtidbcaimgahllaaRows
import Derived.Laws.StructEq
import Derived.KernelRfl
import Derived.Shelf.SortM.Plain
import Derived.Shelf.SortM.SortNone
import Derived.Ground.SlgmProg
import Derived.Test.YtidbcaimgahllaaLb2
namespace Go.Proofs.Ytidbcaimgahllaa
set_option linter.unusedSectionVars false
set_option linter.unusedSimpArgs false
set_option linter.unusedVariables false
open Go.X
open Go.X.G (Ord3 ord3_nat ord3_int ord3_str ltB sget sput sdel Srtd MapAt MapHole Ent Ents edone eleft)

def BM.uses (M : BM) (b : ByteArray) : Bool := M.uploads.any fun p => decide (p.2.bucket = b)
def BM.unmake (M : BM) (o : OM) : RM × BM :=
  match sget o.bucket M.buckets with
  | none => (st 404, M)
  | some objs => if (decide (0 < objs.length) || M.uses o.bucket) = true then (st 409, M) else (st 200, { M with buckets := sdel o.bucket M.buckets })

def partOf (P : Parts) (n : Int) : List UInt8 := (sget n P).getD []
def collect (P : Parts) (l : List Int) : Option (List UInt8) := if (l.all fun n => (sget n P).isSome) = true then some (l.flatMap (partOf P)) else none
def BM.complete (M : BM) (o : OM) : RM × BM :=
  match sget o.upload M.uploads with
  | none => (st 404, M)
  | some u => match collect u.parts o.parts with
    | none => (st 400, M)
    | some d => (st 200, { M with buckets := sput ltB u.bucket (sput ltB u.key d ((sget u.bucket M.buckets).getD [])) M.buckets, uploads := sdel o.upload M.uploads })

theorem bytes_eq (a b : ByteArray) : decide (a.data.toList = b.data.toList) = decide (a = b) := by
  rw [Bool.eq_iff_iff]
  simp only [decide_eq_true_eq]
  refine ⟨fun h => ?_, fun h => by rw [h]⟩
  cases a; cases b; simp only [ByteArray.mk.injEq] at *; exact Array.toList_inj.1 h

theorem any_perm {α : Type} {p : α → Bool} {l m : List α} (h : l.Perm m) : l.any p = m.any p := by
  rw [Bool.eq_iff_iff, List.any_eq_true, List.any_eq_true]
  exact ⟨fun ⟨x, a, b⟩ => ⟨x, h.mem_iff.1 a, b⟩, fun ⟨x, a, b⟩ => ⟨x, h.mem_iff.2 a, b⟩⟩

def entUses (b : ByteArray) (es : List (Ent Nat UM)) : Bool := es.any fun e => decide (e.v.bucket = b)
theorem entUses_all {M : BM} {es : List (Ent Nat UM)} {c : Nat} (h : Ents M.uploads es c) (b : ByteArray) : entUses b es = M.uses b := by
  unfold entUses BM.uses
  rw [← any_perm h.perm, List.any_map]; rfl
theorem entUses_step {es : List (Ent Nat UM)} {seen : List Nat} {e : Ent Nat UM} (hn : (es.map (·.born)).Nodup) (he : e ∈ eleft es seen) (b : ByteArray) : entUses b (edone es (seen ++ [e.born])) = (entUses b (edone es seen) || decide (e.v.bucket = b)) := by
  unfold entUses
  rw [any_perm (X.G.estep hn he).1, List.any_cons, Bool.or_comm]

theorem flat_take_succ {P : Parts} {l : List Int} {k : Nat} {v : Int} {d : List UInt8} (h : l[k]? = some v) (hd : sget v P = some d) : (l.take (k + 1)).flatMap (partOf P) = (l.take k).flatMap (partOf P) ++ d := by
  obtain ⟨h1, h2⟩ := List.getElem?_eq_some_iff.1 h
  rw [List.take_succ_eq_append_getElem h1, List.flatMap_append, h2, List.flatMap_cons, List.flatMap_nil, List.append_nil]
  congr 1
  unfold partOf; rw [hd]; rfl
theorem all_take_some {P : Parts} {l : List Int} {k : Nat} {v : Int} (h : l[k]? = some v) (ha : ((l.take k).all fun n => (sget n P).isSome) = true) (hd : (sget v P).isSome = true) : ((l.take (k + 1)).all fun n => (sget n P).isSome) = true := by
  obtain ⟨h1, h2⟩ := List.getElem?_eq_some_iff.1 h
  rw [List.take_succ_eq_append_getElem h1, List.all_append, ha, h2, List.all_cons, hd]; rfl
theorem collect_none {P : Parts} {l : List Int} {k : Nat} {v : Int} (h : l[k]? = some v) (hd : sget v P = none) : collect P l = none := by
  unfold collect
  rw [if_neg]
  intro ha
  rw [List.all_eq_true] at ha
  have := ha v (List.mem_of_getElem? h)
  rw [hd] at this; cases this

theorem partOf_len {P : Parts} (hP : ∀ a d, sget a P = some d → d.length ≤ 16777216) (n : Int) : (partOf P n).length ≤ 16777216 := by
  unfold partOf
  cases h : sget n P with
  | none => simp
  | some d => exact hP n d h
theorem flat_len {P : Parts} (hP : ∀ a d, sget a P = some d → d.length ≤ 16777216) : ∀ l : List Int, (l.flatMap (partOf P)).length ≤ l.length * 16777216
  | [] => by simp
  | n :: l => by
    have h1 := flat_len hP l
    have h2 := partOf_len hP n
    simp only [List.flatMap_cons, List.length_append, List.length_cons]; omega

section
variable {k : Nat} (m : Nat) (M : BM) (hM : M.ok k) (x : OW) (G : Assn) (hx : x.ok G)
include hM hx

theorem unmake_no (hB : sget x.o.bucket M.buckets = none) : FSpec Try.prog 51 [.pointer (some ⟨m, 0, none⟩), .agg x.cells.toArray] [BktAt m M, G] (ActR m G (st 404, M)) := by
  refine FSpec.of Try.func51 rfl Try.ntmps51 rfl fun W0 F => ?_
  refine J.seq <| J.region ?_
  refine J.c rfl rfl (C.box (l := [_, _, _, _, _, _, _, _, _]) rfl rfl) ?_
  rintro _ _ ⟨b3, rfl, rfl⟩
  refine J.norm rfl ?_
  refine J.c rfl rfl (C.alloc (l := [_, _, _, _, _]) Try.zeroValue34 rfl) ?_
  rintro _ _ ⟨b4, rfl, rfl⟩
  refine J.norm rfl <| J.nil <| J.then_n <| J.seq <| J.seq <| J.region <| J.m rfl ?_
  refine J.p rfl (Q.ldN (vs := [_, _, _, _, _, _, _, _, _]) Try.isAgg27 Try.sizeOf27 rfl rnI) ?_
  refine J.call Try.call60 (known_no m M x hB) [2] rfl rfl rfl rfl ?_
  rintro _ _ ⟨rfl, rfl⟩
  refine J.norm rfl <| J.p rfl (Q.not rfl) <| J.nil <| J.then_n ?_
  refine J.cases 11 rfl (fun hc11 => ?_) (fun hc11 => ?_)
  ·
   replace hc11 := X.nm hc11
   try (first | (cases hc11; done) | (exfalso; simp at hc11; done))
   all_goals
    refine J.cond_t rfl <| J.seq <| J.region ?_
    refine J.call Try.call35 (status_spec 404) [] rfl rfl rfl rfl ?_
    rintro _ _ ⟨y, rfl, hy, rfl⟩
    refine J.norm rfl ?_
    refine J.stAI (vs := [_, _, _, _, _]) rfl Try.sizeOf34 rfl rfl (by exact rfl) (by exact rfl) (by exact rfl) ?_
    refine J.nil <| J.then_n <| J.cret <| J.then_r ?_
    refine J.retC [1, 0, 4, 5] (vs := [_, _, _, _, _]) rfl rfl Try.isAgg34 Try.sizeOf34 (ReadsN.pt 2 rfl) rfl (B := [_, _, _]) ⟨_, rfl, hy, rfl⟩
  exact absurd hc11 (by simp)
theorem unmake_yes {objs : Objs} (hB : sget x.o.bucket M.buckets = some objs) : FSpec Try.prog 51 [.pointer (some ⟨m, 0, none⟩), .agg x.cells.toArray] [BktAt m M, G] (ActR m G (if (decide (0 < objs.length) || M.uses x.o.bucket) = true then (st 409, M) else (st 200, { M with buckets := sdel x.o.bucket M.buckets }))) := by
  refine FSpec.of Try.func51 rfl Try.ntmps51 rfl fun W0 F => ?_
  refine J.seq <| J.region ?_
  refine J.c rfl rfl (C.box (l := [_, _, _, _, _, _, _, _, _]) rfl rfl) ?_
  rintro _ _ ⟨b3, rfl, rfl⟩
  refine J.norm rfl ?_
  refine J.c rfl rfl (C.alloc (l := [_, _, _, _, _]) Try.zeroValue34 rfl) ?_
  rintro _ _ ⟨b4, rfl, rfl⟩
  refine J.norm rfl <| J.nil <| J.then_n <| J.seq <| J.seq <| J.region <| J.m rfl ?_
  refine J.p rfl (Q.ldN (vs := [_, _, _, _, _, _, _, _, _]) Try.isAgg27 Try.sizeOf27 rfl rnI) ?_
  refine J.call Try.call60 (known_yes m M hM x hB) [2] rfl rfl rfl rfl ?_
  rintro _ _ ⟨rfl, rfl⟩
  refine J.norm rfl <| J.p rfl (Q.not rfl) <| J.nil <| J.then_n ?_
  refine J.cases 11 rfl (fun hc11 => ?_) (fun hc11 => ?_)
  ·
   cases hc11
  replace hc11 := X.nm hc11
  refine J.cond_f rfl <| J.cskip <| J.then_n <| J.seq ?_
  refine J.open1 0 rfl (fun _ h => h) fun z => ?_
  refine J.norm rfl ?_
  refine J.mapFocus 1 hB rfl fun val => ?_
  refine J.norm rfl ?_
  refine J.open_ 0 rfl rfl (fun _ h => h) fun r hr => ?_
  subst hr
  refine J.norm rfl ?_
  refine J.draw [9] Try.mixed (by kernel_rfl) fun hR => ?_
  refine RG.p 0 hR rfl (Q.mv rfl) <| RG.p 1 hR rfl (Q.nil_ rfl) <| RG.p 2 hR rfl (Q.fa (n := 0) Try.runUnderlying102 rfl rfl Try.sizeOf98 rfl) ?_
  refine RG.p 3 hR rfl (Q.ld Try.isAgg98 rfl (rdI (by exact rfl))) ?_
  refine RG.p 4 hR rfl (Q.fa (n := 2) Try.runUnderlying27 rfl rfl Try.sizeOf9 rfl) ?_
  refine RG.p 5 hR rfl (Q.ld Try.isAgg9 rfl (rdI (by exact rfl))) ?_
  refine RG.p 6 hR rfl (X.G.Q.lkYes (i := 1) Try.runUnderlying98 keyS Try.zeroValue123 rfl rfl rfl) ?_
  refine RG.p 7 hR rfl (X.G.Q.lenAt (i := 0) Try.runUnderlying123 rfl rfl) ?_
  refine RG.p 8 hR rfl (Q.gtr rfl rfl) ?_
  refine RG.bar 9 hR rfl rfl rfl rfl rfl rfl (Q.asg rfl).toC ?_
  rintro _ _ ⟨rfl, rfl⟩
  refine RG.norm rfl ?_
  refine RG.fin hR rfl ?_
  refine J.norm rfl <| J.then_n <| J.seq <| J.seq ?_
  refine J.open_ 3 rfl rfl (fun _ h => h) fun q hq => ?_
  refine J.norm rfl <| J.region <| J.m rfl <| J.p rfl (Q.nil_ rfl) <| J.p rfl (Q.fa (n := 1) Try.runUnderlying102 rfl rfl Try.sizeOf99 rfl) ?_
  refine J.p rfl (Q.ld Try.isAgg99 rfl (rdI (by exact rfl))) ?_
  refine J.c rfl rfl (X.G.C.range (i := 0) Try.runUnderlying99 rfl rfl) ?_
  rintro _ _ ⟨b26, rfl, rfl⟩
  refine J.norm rfl <| J.nil <| J.then_n <| J.block ?_
  refine J.loop (fun z' : List Nat × Bool => z'.2 = (decide (0 < objs.length) || entUses x.o.bucket (edone q.1 z'.1))) (fun z' => (eleft q.1 z'.1).length) (fun z' => [(0, .pointer (some ⟨m, 0, none⟩)), (3, .pointer (some ⟨b3, 0, none⟩)), (4, .pointer (some ⟨b4, 0, none⟩)), (5, .bool z'.2), (26, .pointer (some ⟨b26, 0, none⟩))])
    (fun z' => [pt b26 (X.G.miter z.2.1 q.2 z'.1), pt z.2.1 (X.G.mobj encU (q.1.map Ent.m) q.2), star (q.1.map (Ent.asn uRep)), MapAt Value.string datRep r objs, MapHole Value.string bRep z.1 M.buckets x.o.bucket (.map (some r)), pt m (.cells [.map (some z.1), .map (some z.2.1), .map (some z.2.2)].toArray 102 (0, 0)), MapAt encU dRep z.2.2 M.done, pt b4 (.cells [Value.int .i64 0, .int .u64 0, .slice none 0 0, .bool false, .slice none 0 0].toArray 34 (0, 0)), pt b3 (.cells x.cells.toArray 27 (0, 0)), G, F])
    ([], decide (0 < objs.length)) (by simp [X.G.edone_nil, entUses]) ⟨rfl, rfl, rfl, congrArg some (congrArg Value.bool (by simp)), rfl, trivial⟩ rfl fun z' hz => ?_
  obtain ⟨seen, used⟩ := z'
  dsimp only at hz
  refine J.seq <| J.region ?_
  refine J.c rfl rfl (X.G.C.nextE (i := 0) (j := 1) hq rfl rfl rfl) ?_
  rintro _ _ ⟨t, rest, seen', rfl, rfl, hst⟩
  refine J.norm rfl <| J.p rfl (Q.ext rfl rfl) <| J.nil <| J.then_n <| J.seq ?_
  refine J.cases 28 rfl (fun hc28 => ?_) (fun hc28 => ?_)
  ·
   replace hc28 := X.nm hc28
   obtain ⟨e, he, rfl⟩ : ∃ e, e ∈ eleft q.1 seen ∧ seen' = seen ++ [e.born] := by rcases hst with ⟨h, _⟩ | ⟨_, h⟩; exact absurd hc28 (by rw [h]; decide); exact h
   refine J.cond_t rfl <| J.cskip <| J.then_n <| J.block <| J.seq <| J.region ?_
   have hstep := X.G.estep hq.born he
   have huse := entUses_step hq.born he x.o.bucket
   obtain ⟨j, hj⟩ := List.getElem?_of_mem (List.mem_filter.1 he).1
   obtain ⟨ek, eu, eval, eb⟩ := e
   refine J.p rfl (X.G.Q.entryE (i := 0) (j := 1) hq he rfl rfl rfl) ?_
   refine J.focus 2 j rfl hj ?_
   refine J.norm rfl ?_
   refine J.conv (Y := uRep ek eu eval) 0 rfl (fun _ h => h) ?_
   refine J.open_ 0 rfl rfl (fun _ h => h) fun z2 hz2 => ?_
   subst hz2
   refine J.norm rfl <| J.p rfl (Q.ext rfl rfl) <| J.p rfl (Q.asg rfl) <| J.nil <| J.then_n ?_
   refine J.draw [10] Try.mixed (by kernel_rfl) fun hR => ?_
   refine RG.p 0 hR rfl (Q.mv rfl) <| RG.p 1 hR rfl (Q.mv rfl) ?_
   refine RG.cases 32 rfl (fun hb32 => ?_) (fun hb32 => ?_)
   ·
    replace hb32 := X.nm hb32
    refine RG.skip 2 hR rfl rfl rfl rfl rfl rfl <| RG.skip 3 hR rfl rfl rfl rfl rfl rfl <| RG.skip 4 hR rfl rfl rfl rfl rfl rfl <| RG.skip 5 hR rfl rfl rfl rfl rfl rfl <| RG.skip 6 hR rfl rfl rfl rfl rfl rfl <| RG.skip 7 hR rfl rfl rfl rfl rfl rfl <| RG.skip 8 hR rfl rfl rfl rfl rfl rfl <| RG.p 9 hR rfl (Q.pick_t rfl rfl) ?_
    refine RG.bar 10 hR rfl rfl rfl rfl rfl rfl (Q.asg rfl).toC ?_
    rintro _ _ ⟨rfl, rfl⟩
    refine RG.norm rfl ?_
    refine RG.fin hR rfl ?_
    refine J.norm rfl <| J.blk_n ?_
    refine J.shut [0, 1] (uRep ek eu (.pointer (some ⟨z2.1, 0, none⟩))) rfl (fun h s => ⟨z2, rfl, s⟩) ?_
    refine J.refocus (f := Ent.asn uRep) 0 1 j ⟨ek, eu, .pointer (some ⟨z2.1, 0, none⟩), eb⟩ rfl hj ?_
    refine J.keep [1, 2, 0, 3, 4, 5, 6, 7, 8, 9, 10] rfl ?_
    refine J.again (seen ++ [eb], _) ?_ hstep.2 ⟨rfl, rfl, rfl, rfl, rfl, trivial⟩ rfl
    dsimp only at huse ⊢
    rw [huse, ← Bool.or_assoc, ← hz]
    first
      | (have hb : used = true := hb32
         rw [hb]; rfl)
      | (have hb : used = false := hb32
         rw [hb, Bool.false_or]; exact bytes_eq _ _)
   replace hb32 := X.nm hb32
   refine RG.p 2 hR rfl (Q.mv rfl) <| RG.p 3 hR rfl (Q.nil_ rfl) <| RG.p 4 hR rfl (Q.fa (n := 0) Try.runUnderlying127 rfl rfl Try.sizeOf9 rfl) ?_
   refine RG.p 5 hR rfl (Q.ld Try.isAgg9 rfl (rdI (by exact rfl))) ?_
   refine RG.p 6 hR rfl (Q.fa (n := 2) Try.runUnderlying27 rfl rfl Try.sizeOf9 rfl) ?_
   refine RG.p 7 hR rfl (Q.ld Try.isAgg9 rfl (rdI (by exact rfl))) ?_
   refine RG.p 8 hR rfl (Q.eqls rfl rfl) <| RG.p 9 hR rfl (Q.pick_f rfl rfl) ?_
   refine RG.bar 10 hR rfl rfl rfl rfl rfl rfl (Q.asg rfl).toC ?_
   rintro _ _ ⟨rfl, rfl⟩
   refine RG.norm rfl ?_
   refine RG.fin hR rfl ?_
   refine J.norm rfl <| J.blk_n ?_
   refine J.shut [0, 1] (uRep ek eu (.pointer (some ⟨z2.1, 0, none⟩))) rfl (fun h s => ⟨z2, rfl, s⟩) ?_
   refine J.refocus (f := Ent.asn uRep) 0 1 j ⟨ek, eu, .pointer (some ⟨z2.1, 0, none⟩), eb⟩ rfl hj ?_
   refine J.keep [1, 2, 0, 3, 4, 5, 6, 7, 8, 9, 10] rfl ?_
   refine J.again (seen ++ [eb], _) ?_ hstep.2 ⟨rfl, rfl, rfl, rfl, rfl, trivial⟩ rfl
   dsimp only at huse ⊢
   rw [huse, ← Bool.or_assoc, ← hz]
   first
     | (have hb : used = true := hb32
        rw [hb]; rfl)
     | (have hb : used = false := hb32
        rw [hb, Bool.false_or]; exact bytes_eq _ _)
  replace hc28 := X.nm hc28
  obtain ⟨hall, rfl⟩ : edone q.1 seen = q.1 ∧ seen' = seen := by rcases hst with ⟨_, h⟩ | ⟨h, _⟩; exact h; exact absurd hc28 (by rw [h]; decide)
  refine J.cond_f rfl <| J.exit <| J.then_x <| J.lp_x <| J.blk_x <| J.then_n <| J.seq <| J.seq ?_
  have hused : used = (decide (0 < objs.length) || M.uses x.o.bucket) := by rw [hz, hall, entUses_all hq]
  refine J.shut [1, 2] (MapAt encU uRep z.2.1 M.uploads) rfl (fun h s => ⟨q, hq, s⟩) ?_
  refine J.region <| J.m rfl <| J.nil <| J.then_n ?_
  refine J.cases 41 rfl (fun hc41 => ?_) (fun hc41 => ?_)
  ·
   replace hc41 := X.nm hc41
   refine J.cond_t rfl <| J.seq <| J.region ?_
   refine J.call Try.call35 (status_spec 409) [] rfl rfl rfl rfl ?_
   rintro _ _ ⟨y, rfl, hy, rfl⟩
   refine J.norm rfl ?_
   refine J.stAI (vs := [_, _, _, _, _]) rfl Try.sizeOf34 rfl rfl (by exact rfl) (by exact rfl) (by exact rfl) ?_
   refine J.nil <| J.then_n <| J.cret <| J.then_r ?_
   rw [if_pos (by rw [← hused]; exact hc41)]
   refine J.shut [3] (bRep x.o.bucket objs (.map (some r))) rfl (fun h s => ⟨r, rfl, s⟩) ?_
   refine J.mapSame 0 4 ord3_str hM.bs hB rfl ?_
   refine J.shut [4, 0, 2, 5] (BktAt m M) rfl (fun h s => ⟨z, s⟩) ?_
   refine J.retC [0, 1, 5, 6] (vs := [_, _, _, _, _]) rfl rfl Try.isAgg34 Try.sizeOf34 (ReadsN.pt 3 rfl) rfl (B := [_, _, _]) ⟨_, rfl, hy, rfl⟩
  replace hc41 := X.nm hc41
  refine J.cond_f rfl <| J.cskip <| J.then_n <| J.seq ?_
  refine J.shut [2] (bRep x.o.bucket objs (.map (some r))) rfl (fun h s => ⟨r, rfl, s⟩) ?_
  refine J.mapSame 0 3 ord3_str hM.bs hB rfl ?_
  refine J.draw [6] Try.mixed (by kernel_rfl) fun hR => ?_
  refine RG.p 0 hR rfl (Q.mv rfl) <| RG.p 1 hR rfl (Q.nil_ rfl) <| RG.p 2 hR rfl (Q.fa (n := 0) Try.runUnderlying102 rfl rfl Try.sizeOf98 rfl) ?_
  refine RG.p 3 hR rfl (Q.ld Try.isAgg98 rfl (rdI (by exact rfl))) ?_
  refine RG.p 4 hR rfl (Q.fa (n := 2) Try.runUnderlying27 rfl rfl Try.sizeOf9 rfl) ?_
  refine RG.p 5 hR rfl (Q.ld Try.isAgg9 rfl (rdI (by exact rfl))) ?_
  refine RG.bar 6 hR rfl rfl rfl rfl rfl rfl (X.G.C.mapDel 0 Try.runUnderlying98 keyS rfl rfl) ?_
  rintro _ _ ⟨rfl, rfl⟩
  refine RG.norm rfl ?_
  refine RG.fin hR rfl ?_
  refine J.norm rfl <| J.then_n <| J.seq <| J.region ?_
  refine J.call Try.call35 (status_spec 200) [] rfl rfl rfl rfl ?_
  rintro _ _ ⟨y, rfl, hy, rfl⟩
  refine J.norm rfl ?_
  refine J.stAI (vs := [_, _, _, _, _]) rfl Try.sizeOf34 rfl rfl (by exact rfl) (by exact rfl) (by exact rfl) ?_
  refine J.nil <| J.then_n <| J.cret ?_
  have hcu : used = false := hc41
  rw [if_neg (by rw [← hused, hcu]; simp)]
  refine J.shut [4, 1, 2, 5] (BktAt m { M with buckets := sdel x.o.bucket M.buckets }) rfl (fun h s => ⟨z, s⟩) ?_
  refine J.retC [0, 1, 5, 6] (vs := [_, _, _, _, _]) rfl rfl Try.isAgg34 Try.sizeOf34 (ReadsN.pt 3 rfl) rfl (B := [_, _, _]) ⟨_, rfl, hy, rfl⟩
theorem unmake_spec : FSpec Try.prog 51 [.pointer (some ⟨m, 0, none⟩), .agg x.cells.toArray] [BktAt m M, G] (ActR m G (M.unmake x.o)) := by
  unfold BM.unmake
  split
  · rename_i hB; exact unmake_no m M hM x G hx hB
  · rename_i hB; exact unmake_yes m M hM x G hx hB

theorem complete_no (hU : sget x.o.upload M.uploads = none) : FSpec Try.prog 58 [.pointer (some ⟨m, 0, none⟩), .agg x.cells.toArray] [BktAt m M, G] (ActR m G (st 404, M)) := by
  refine FSpec.of Try.func58 rfl Try.ntmps58 rfl fun W0 F => ?_
  refine J.seq <| J.region ?_
  refine J.c rfl rfl (C.box (l := [_, _, _, _, _, _, _, _, _]) rfl rfl) ?_
  rintro _ _ ⟨b3, rfl, rfl⟩
  refine J.norm rfl ?_
  refine J.c rfl rfl (C.alloc (l := [_, _, _, _, _]) Try.zeroValue34 rfl) ?_
  rintro _ _ ⟨b4, rfl, rfl⟩
  refine J.norm rfl <| J.nil <| J.then_n <| J.seq ?_
  refine J.open1 2 rfl (fun _ h => h) fun z => ?_
  refine J.norm rfl ?_
  refine J.draw [7] Try.mixed (by kernel_rfl) fun hR => ?_
  refine RG.p 0 hR rfl (Q.mv rfl) <| RG.p 1 hR rfl (Q.nil_ rfl) <| RG.p 2 hR rfl (Q.fa (n := 1) Try.runUnderlying102 rfl rfl Try.sizeOf99 rfl) ?_
  refine RG.p 3 hR rfl (Q.ld Try.isAgg99 rfl (rdI (by exact rfl))) ?_
  refine RG.p 4 hR rfl (Q.fa (n := 6) Try.runUnderlying27 rfl rfl Try.sizeOf23 rfl) ?_
  refine RG.p 5 hR rfl (Q.ld Try.isAgg23 rfl (rdI (by exact rfl))) ?_
  refine RG.p 6 hR rfl (X.G.Q.lkNo (i := 2) Try.runUnderlying99 keyU Try.zeroValue124 rfl rfl rfl hU) ?_
  refine RG.bar 7 hR rfl rfl rfl rfl rfl rfl (Q.asg rfl).toC ?_
  rintro _ _ ⟨rfl, rfl⟩
  refine RG.norm rfl ?_
  refine RG.fin hR rfl ?_
  refine J.norm rfl <| J.then_n <| J.seq <| J.seq <| J.region <| J.m rfl <| J.p rfl (Q.eqlp Try.runUnderlying124 rfl rfl) <| J.nil <| J.then_n ?_
  refine J.cases 19 rfl (fun hc19 => ?_) (fun hc19 => ?_)
  ·
   replace hc19 := X.nm hc19
   try (first | (cases hc19; done) | (exfalso; simp at hc19; done))
   all_goals
    refine J.cond_t rfl <| J.seq <| J.region ?_
    refine J.call Try.call35 (status_spec 404) [] rfl rfl rfl rfl ?_
    rintro _ _ ⟨y, rfl, hy, rfl⟩
    refine J.norm rfl ?_
    refine J.stAI (vs := [_, _, _, _, _]) rfl Try.sizeOf34 rfl rfl (by exact rfl) (by exact rfl) (by exact rfl) ?_
    refine J.nil <| J.then_n <| J.cret <| J.then_r ?_
    refine J.shut [1, 2, 3, 4] (BktAt m M) rfl (fun h s => ⟨z, s⟩) ?_
    refine J.retC [0, 1, 4, 5] (vs := [_, _, _, _, _]) rfl rfl Try.isAgg34 Try.sizeOf34 (ReadsN.pt 2 rfl) rfl (B := [_, _, _]) ⟨_, rfl, hy, rfl⟩
  cases hc19

theorem complete_yes (hpl : x.o.parts.length ≤ 10000) {u : UM} (hU : sget x.o.upload M.uploads = some u) : FSpec Try.prog 58 [.pointer (some ⟨m, 0, none⟩), .agg x.cells.toArray] [BktAt m M, G]
    (ActR m G (match collect u.parts x.o.parts with
    | none => (st 400, M)
    | some d => (st 200, { M with buckets := sput ltB u.bucket (sput ltB u.key d ((sget u.bucket M.buckets).getD [])) M.buckets, uploads := sdel x.o.upload M.uploads }))) := by
  have hP := hM.ps _ _ hU
  obtain ⟨objs, hB⟩ := Option.isSome_iff_exists.1 hP.2.1
  have hO := hM.os _ _ hB
  have hfl := flat_len hP.2.2
  refine FSpec.of Try.func58 rfl Try.ntmps58 rfl fun W0 F => ?_
  refine J.seq <| J.region ?_
  refine J.c rfl rfl (C.box (l := [_, _, _, _, _, _, _, _, _]) rfl rfl) ?_
  rintro _ _ ⟨b3, rfl, rfl⟩
  refine J.norm rfl ?_
  refine J.c rfl rfl (C.alloc (l := [_, _, _, _, _]) Try.zeroValue34 rfl) ?_
  rintro _ _ ⟨b4, rfl, rfl⟩
  refine J.norm rfl <| J.nil <| J.then_n <| J.seq ?_
  refine J.open1 2 rfl (fun _ h => h) fun z => ?_
  refine J.norm rfl ?_
  refine J.mapFocus 2 hU rfl fun val => ?_
  refine J.norm rfl ?_
  refine J.open_ 0 rfl rfl (fun _ h => h) fun z2 hz2 => ?_
  subst hz2
  refine J.norm rfl ?_
  refine J.draw [7] Try.mixed (by kernel_rfl) fun hR => ?_
  refine RG.p 0 hR rfl (Q.mv rfl) <| RG.p 1 hR rfl (Q.nil_ rfl) <| RG.p 2 hR rfl (Q.fa (n := 1) Try.runUnderlying102 rfl rfl Try.sizeOf99 rfl) ?_
  refine RG.p 3 hR rfl (Q.ld Try.isAgg99 rfl (rdI (by exact rfl))) ?_
  refine RG.p 4 hR rfl (Q.fa (n := 6) Try.runUnderlying27 rfl rfl Try.sizeOf23 rfl) ?_
  refine RG.p 5 hR rfl (Q.ld Try.isAgg23 rfl (rdI (by exact rfl))) ?_
  refine RG.p 6 hR rfl (X.G.Q.lkYes (i := 2) Try.runUnderlying99 keyU Try.zeroValue124 rfl rfl rfl) ?_
  refine RG.bar 7 hR rfl rfl rfl rfl rfl rfl (Q.asg rfl).toC ?_
  rintro _ _ ⟨rfl, rfl⟩
  refine RG.norm rfl ?_
  refine RG.fin hR rfl ?_
  refine J.norm rfl <| J.then_n <| J.seq <| J.seq <| J.region <| J.m rfl <| J.p rfl (Q.eqlp Try.runUnderlying124 rfl rfl) <| J.nil <| J.then_n ?_
  refine J.cases 19 rfl (fun hc19 => ?_) (fun hc19 => ?_)
  ·
   cases hc19
  replace hc19 := X.nm hc19
  refine J.cond_f rfl <| J.cskip <| J.then_n <| J.seq <| J.region <| J.p rfl (Q.asg rfl) <| J.nil <| J.then_n <| J.seq <| J.seq <| J.region <| J.p rfl (Q.fa (n := 7) Try.runUnderlying27 rfl rfl Try.sizeOf24 rfl) ?_
  refine J.p rfl (Q.ld Try.isAgg24 rfl (rdI (by exact rfl))) ?_
  refine J.p rfl (Q.lenSl Try.runUnderlying24 rfl) <| J.m rfl <| J.nil <| J.then_n <| J.block ?_
  refine J.open_ 1 rfl rfl (fun _ h => h) fun q hq => ?_
  refine J.norm rfl ?_
  refine J.give (own.nil 5 1 _) ?_
  refine J.loop (fun w : Nat × Option Addr × Nat => w.1 ≤ x.o.parts.length ∧ ((x.o.parts.take w.1).all fun n => (sget n u.parts).isSome) = true) (fun w => x.o.parts.length - w.1) (fun w => [(0, .pointer (some ⟨m, 0, none⟩)), (3, .pointer (some ⟨b3, 0, none⟩)), (4, .pointer (some ⟨b4, 0, none⟩)), (5, .pointer (some ⟨z2.1, 0, none⟩)), (6, .slice w.2.1 ((x.o.parts.take w.1).flatMap (partOf u.parts)).length w.2.2), (22, .slice x.pp x.o.parts.length x.pc), (23, .int .i64 x.o.parts.length), (24, .int .i64 w.1)])
    (fun w => [own 5 1 (.slice w.2.1 ((x.o.parts.take w.1).flatMap (partOf u.parts)).length w.2.2) (bytesV ((x.o.parts.take w.1).flatMap (partOf u.parts))), pt z2.2 (X.G.mobj (Value.int .i64) (q.1.map Ent.m) q.2), star (q.1.map (Ent.asn datRep)), pt z2.1 (.cells [.string u.bucket, .string u.key, .map (some z2.2)].toArray 127 (0, 0)), MapHole encU uRep z.2.1 M.uploads x.o.upload (.pointer (some ⟨z2.1, 0, none⟩)), pt m (.cells [.map (some z.1), .map (some z.2.1), .map (some z.2.2)].toArray 102 (0, 0)), MapAt Value.string bRep z.1 M.buckets, MapAt encU dRep z.2.2 M.done, pt b4 (.cells [Value.int .i64 0, .int .u64 0, .slice none 0 0, .bool false, .slice none 0 0].toArray 34 (0, 0)), pt b3 (.cells x.cells.toArray 27 (0, 0)), G, F])
    (0, none, 0) ⟨Nat.zero_le _, rfl⟩ ⟨rfl, rfl, rfl, rfl, rfl, rfl, rfl, rfl, trivial⟩ rfl fun w hw => ?_
  obtain ⟨i, p6, c6⟩ := w
  obtain ⟨hi, hall⟩ := hw
  dsimp only at hi hall
  refine J.seq <| J.region <| J.p rfl (Q.lss rfl rfl) <| J.nil <| J.then_n <| J.seq ?_
  refine J.cases 25 rfl (fun hc25 => ?_) (fun hc25 => ?_)
  ·
   replace hc25 := X.nm hc25
   refine J.cond_t rfl <| J.cskip <| J.then_n <| J.seq <| J.block <| J.seq ?_
   obtain ⟨b, off, hpp, hrd⟩ := hx.parts.some_ (by omega)
   obtain ⟨v, hv⟩ : ∃ v, x.o.parts[i]? = some v := ⟨_, List.getElem?_eq_getElem (by omega)⟩
   refine J.slot 22 (.slice (some ⟨b, off, none⟩) x.o.parts.length x.pc) rfl (by rw [hpp]) ?_
   refine J.region <| J.p rfl (Q.ia Try.runUnderlying24 Try.sizeOf3 rfl rfl (by omega) (by omega)) ?_
   refine J.p rfl (Q.ld Try.isAgg3 rfl (((hrd i (.int .i64 v) (by simp [hv])).within (i := 10) rfl).cast (by simp))) ?_
   refine J.p rfl (Q.asg rfl) <| J.nil <| J.then_n <| J.seq <| J.region <| J.m rfl <| J.p rfl (Q.nil_ rfl) <| J.p rfl (Q.fa (n := 2) Try.runUnderlying127 rfl rfl Try.sizeOf125 rfl) ?_
   refine J.p rfl (Q.ld Try.isAgg125 rfl (rdI (by exact rfl))) ?_
   refine J.m rfl ?_
   refine J.p rfl (X.G.Q.lk2 (i := 1) Try.runUnderlying125 keyI Try.zeroValue25 rfl rfl rfl) ?_
   refine J.m rfl <| J.p rfl (Q.ext rfl rfl) <| J.p rfl (Q.ext rfl rfl) <| J.p rfl (Q.asg rfl) <| J.p rfl (Q.asg rfl) <| J.nil <| J.then_n <| J.seq <| J.seq <| J.region <| J.m rfl <| J.p rfl (Q.not rfl) <| J.nil <| J.then_n ?_
   refine J.cases 38 rfl (fun hc38 => ?_) (fun hc38 => ?_)
   ·
    replace hc38 := X.nm hc38
    refine J.cond_t rfl <| J.seq <| J.region ?_
    refine J.call Try.call35 (status_spec 400) [] rfl rfl rfl rfl ?_
    rintro _ _ ⟨y, rfl, hy, rfl⟩
    refine J.norm rfl ?_
    refine J.stAI (vs := [_, _, _, _, _]) rfl Try.sizeOf34 rfl rfl (by exact rfl) (by exact rfl) (by exact rfl) ?_
    refine J.nil <| J.then_n <| J.cret <| J.then_r <| J.blk_r <| J.then_r <| J.lp_r <| J.blk_r <| J.then_r ?_
    have hno : sget v u.parts = none := by
      rw [hq.get]
      rcases X.G.elook v q.1 with ⟨_, h2, _⟩ | ⟨j, e, _, _, h3, _⟩
      · exact h2
      · rw [h3] at hc38; cases hc38
    rw [collect_none hv hno]
    refine J.shut [2, 3] (MapAt (Value.int .i64) datRep z2.2 u.parts) rfl (fun h s => ⟨q, hq, s⟩) ?_
    refine J.shut [3, 0] (uRep x.o.upload u (.pointer (some ⟨z2.1, 0, none⟩))) rfl (fun h s => ⟨z2, rfl, s⟩) ?_
    refine J.mapSame 0 3 ord3_nat hM.us hU rfl ?_
    refine J.shut [3, 4, 0, 5] (BktAt m M) rfl (fun h s => ⟨z, s⟩) ?_
    refine J.retC [0, 1, 5, 6] (vs := [_, _, _, _, _]) rfl rfl Try.isAgg34 Try.sizeOf34 (ReadsN.pt 3 rfl) rfl (B := [_, _, _]) ⟨_, rfl, hy, rfl⟩
   replace hc38 := X.nm hc38
   refine J.cond_f rfl <| J.cskip <| J.then_n ?_
   obtain ⟨j, e, hj, hek, hmg, hsg⟩ : ∃ (j : Nat) (e : Ent Int (List UInt8)), q.1[j]? = some e ∧ e.key = v ∧ X.G.mget v (q.1.map Ent.m) = some e.val ∧ sget v u.parts = some e.v := by
     rcases X.G.elook v q.1 with ⟨h1, _, _⟩ | ⟨j, e, h1, h2, h3, h4, _⟩
     · rw [h1] at hc38; cases hc38
     · exact ⟨j, e, h1, h2, h3, by rw [hq.get]; exact h4⟩
   obtain ⟨ek, d, eval, eb⟩ := e
   have hd16 : d.length ≤ 16777216 := hP.2.2 _ _ hsg
   have hacc := hfl (x.o.parts.take i)
   have hil : (x.o.parts.take i).length ≤ 10000 := by rw [List.length_take]; omega
   have hacc2 : (List.flatMap (partOf u.parts) (List.take (i, p6, c6).fst x.o.parts)).length ≤ 167772160000 := by show (List.flatMap (partOf u.parts) (List.take i x.o.parts)).length ≤ _; omega
   refine J.focus 2 j rfl hj ?_
   refine J.norm rfl ?_
   refine J.conv (Y := datRep ek d eval) 0 rfl (fun _ h => h) ?_
   refine J.open_ 0 rfl rfl (fun _ h => h) fun z3 hz3 => ?_
   subst hz3
   refine J.norm rfl ?_
   refine J.slr1 0 rfl fun hs9 => ?_
   refine J.slot 9 (.slice z3.1 d.length z3.2) rfl (by rw [hmg]; rfl) ?_
   refine J.region <| J.m rfl <| J.m rfl ?_
   refine J.c rfl rfl (C.app (i := 2) Try.runUnderlying25 Try.runUnderlying25 Try.typeInfo5 Try.sizeOf5 Try.zeroValue5 rfl rfl rfl (hs9.within (i := 0) rfl) (bytesV_one _) (by rw [show Try.t5.bytes = 1 from rfl]; omega) (by decide)) ?_
   rintro _ _ ⟨p42, c42, rfl, rfl⟩
   refine J.norm rfl <| J.p rfl (Q.asg rfl) <| J.nil <| J.blk_n <| J.then_n <| J.region <| J.p rfl (Q.add64 rfl rfl (by omega)) <| J.m rfl <| J.nil ?_
   have hfs := flat_take_succ hv hsg
   dsimp only at hfs
   refine J.shut [0] (datRep ek d (.slice z3.1 d.length z3.2)) rfl (fun h s => ⟨z3, rfl, s⟩) ?_
   refine J.refocus (f := Ent.asn datRep) 0 1 j ⟨ek, d, .slice z3.1 d.length z3.2, eb⟩ rfl hj ?_
   refine J.keep [1, 2, 0, 3, 4, 5, 6, 7, 8, 9, 10, 11] rfl ?_
   refine J.again (i + 1, p42, c42) ⟨by show i + 1 ≤ _; omega, all_take_some hv hall (by rw [hsg]; rfl)⟩ (by show x.o.parts.length - (i + 1) < x.o.parts.length - i; omega) ⟨rfl, rfl, rfl, rfl, (by show _ = some (Value.slice p42 _ c42); rw [hfs, List.length_append]; rfl), (by show _ = some (Value.slice x.pp _ _); rw [hpp]; rfl), rfl, rfl, trivial⟩ ?_
   show _ = [own 5 1 (.slice p42 ((x.o.parts.take (i + 1)).flatMap (partOf u.parts)).length c42) (bytesV ((x.o.parts.take (i + 1)).flatMap (partOf u.parts))), _, _, _, _, _, _, _, _, _, _, _]
   rw [hfs, List.length_append, ← bytesV_append]
  replace hc25 := X.nm hc25
  refine J.cond_f rfl <| J.exit <| J.then_x <| J.lp_x <| J.blk_x <| J.then_n <| J.seq ?_
  have hin : i = x.o.parts.length := by omega
  subst hin
  rw [List.take_length] at hall ⊢
  have hcs : collect u.parts x.o.parts = some (x.o.parts.flatMap (partOf u.parts)) := by unfold collect; rw [if_pos hall]
  rw [hcs, hB]
  obtain ⟨acc, hac⟩ : ∃ acc, acc = x.o.parts.flatMap (partOf u.parts) := ⟨_, rfl⟩
  rw [← hac]
  refine J.shut [1, 2] (MapAt (Value.int .i64) datRep z2.2 u.parts) rfl (fun h s => ⟨q, hq, s⟩) ?_
  refine J.mapFocus 5 hB rfl fun val => ?_
  refine J.norm rfl ?_
  refine J.open_ 0 rfl rfl (fun _ h => h) fun r hr => ?_
  subst hr
  refine J.norm rfl ?_
  refine J.draw [14] Try.mixed (by kernel_rfl) fun hR => ?_
  refine RG.p 0 hR rfl (Q.mv rfl) <| RG.p 1 hR rfl (Q.nil_ rfl) <| RG.p 2 hR rfl (Q.fa (n := 0) Try.runUnderlying102 rfl rfl Try.sizeOf98 rfl) ?_
  refine RG.p 3 hR rfl (Q.ld Try.isAgg98 rfl (rdI (by exact rfl))) ?_
  refine RG.p 4 hR rfl (Q.mv rfl) <| RG.p 5 hR rfl (Q.nil_ rfl) <| RG.p 6 hR rfl (Q.fa (n := 0) Try.runUnderlying127 rfl rfl Try.sizeOf9 rfl) ?_
  refine RG.p 7 hR rfl (Q.ld Try.isAgg9 rfl (rdI (by exact rfl))) ?_
  refine RG.p 8 hR rfl (X.G.Q.lkYes (i := 1) Try.runUnderlying98 keyS Try.zeroValue123 rfl rfl rfl) ?_
  refine RG.p 9 hR rfl (Q.mv rfl) <| RG.p 10 hR rfl (Q.nil_ rfl) <| RG.p 11 hR rfl (Q.fa (n := 1) Try.runUnderlying127 rfl rfl Try.sizeOf9 rfl) ?_
  refine RG.p 12 hR rfl (Q.ld Try.isAgg9 rfl (rdI (by exact rfl))) ?_
  refine RG.p 13 hR rfl (Q.mv rfl) ?_
  refine RG.bar 14 hR rfl rfl rfl rfl rfl rfl (X.G.C.mapPut 0 acc ord3_str hO.1 Try.runUnderlying123 keyS rfl rfl rfl rfl) ?_
  rintro _ _ ⟨rfl, rfl⟩
  refine RG.norm rfl ?_
  refine RG.fin hR rfl ?_
  refine J.norm rfl <| J.then_n <| J.seq ?_
  refine J.shut [4, 2] (uRep x.o.upload u (.pointer (some ⟨z2.1, 0, none⟩))) rfl (fun h s => ⟨z2, rfl, s⟩) ?_
  refine J.mapSame 0 4 ord3_nat hM.us hU rfl ?_
  refine J.draw [6] Try.mixed (by kernel_rfl) fun hR => ?_
  refine RG.p 0 hR rfl (Q.mv rfl) <| RG.p 1 hR rfl (Q.nil_ rfl) <| RG.p 2 hR rfl (Q.fa (n := 1) Try.runUnderlying102 rfl rfl Try.sizeOf99 rfl) ?_
  refine RG.p 3 hR rfl (Q.ld Try.isAgg99 rfl (rdI (by exact rfl))) ?_
  refine RG.p 4 hR rfl (Q.fa (n := 6) Try.runUnderlying27 rfl rfl Try.sizeOf23 rfl) ?_
  refine RG.p 5 hR rfl (Q.ld Try.isAgg23 rfl (rdI (by exact rfl))) ?_
  refine RG.bar 6 hR rfl rfl rfl rfl rfl rfl (X.G.C.mapDel 0 Try.runUnderlying99 keyU rfl rfl) ?_
  rintro _ _ ⟨rfl, rfl⟩
  refine RG.norm rfl ?_
  refine RG.fin hR rfl ?_
  refine J.norm rfl <| J.then_n <| J.seq <| J.region ?_
  refine J.call Try.call35 (status_spec 200) [] rfl rfl rfl rfl ?_
  rintro _ _ ⟨y, rfl, hy, rfl⟩
  refine J.norm rfl ?_
  refine J.stAI (vs := [_, _, _, _, _]) rfl Try.sizeOf34 rfl rfl (by exact rfl) (by exact rfl) (by exact rfl) ?_
  refine J.nil <| J.then_n <| J.cret ?_
  refine J.shut [4] (datRep u.key acc (.slice p6 acc.length c6)) rfl (fun h s => ⟨(p6, c6), rfl, s⟩) ?_
  refine J.mapBack 0 3 acc ord3_str (X.G.srtd_put ord3_str hO.1 _ _) rfl ?_
  rw [X.G.sput_put ord3_str hO.1]
  refine J.shut [0] (bRep u.bucket (sput ltB u.key acc objs) (.map (some r))) rfl (fun h s => ⟨r, rfl, s⟩) ?_
  refine J.mapBack 0 3 (sput ltB u.key acc objs) ord3_str hM.bs rfl ?_
  refine J.shut [3, 0, 2, 4] (BktAt m { M with buckets := sput ltB u.bucket (sput ltB u.key acc objs) M.buckets, uploads := sdel x.o.upload M.uploads }) rfl (fun h s => ⟨z, s⟩) ?_
  refine J.retC [0, 1, 4, 5] (vs := [_, _, _, _, _]) rfl rfl Try.isAgg34 Try.sizeOf34 (ReadsN.pt 2 rfl) rfl (B := [_, _, _]) ⟨_, rfl, hy, rfl⟩
theorem complete_spec (hpl : x.o.parts.length ≤ 10000) : FSpec Try.prog 58 [.pointer (some ⟨m, 0, none⟩), .agg x.cells.toArray] [BktAt m M, G] (ActR m G (M.complete x.o)) := by
  unfold BM.complete
  split
  · rename_i hU; exact complete_no m M hM x G hx hU
  · rename_i hU; exact complete_yes m M hM x G hx hpl hU
end
end Go.Proofs.Ytidbcaimgahllaa
namespace Go.Proofs.Ytidbcaimgahllaa
set_option linter.unusedSectionVars false
set_option linter.unusedSimpArgs false
set_option linter.unusedVariables false
open Go.X
open Go.X.G (Ord3 ord3_nat ord3_int ord3_str ltB sget sput sdel Srtd MapAt MapHole)

def beg (s p : ByteArray) : Bool := decide (p.size ≤ s.size) && decide ((s.extract 0 p.size).data.toList = p.data.toList)
def listed (o : OM) (objs : Objs) : List ByteArray := (objs.map (·.1)).filter fun a => beg a o.key && ltB o.after a
def BM.list (M : BM) (o : OM) : RM × BM :=
  match sget o.bucket M.buckets with
  | none => (st 404, M)
  | some objs => (⟨200, 0, (listed o objs).take o.n.toNat, decide (o.n.toNat < (listed o objs).length), []⟩, M)

def BM.act (M : BM) (o : OM) : RM × BM :=
  if o.kind = 1 then M.make o else if o.kind = 2 then M.unmake o else if o.kind = 3 then M.put o else if o.kind = 4 then M.get o else if o.kind = 5 then M.delete o
  else if o.kind = 6 then M.list o else if o.kind = 7 then M.begin o else if o.kind = 8 then M.part o else if o.kind = 9 then M.complete o else M.abort o
def readsK (k : Int) : Bool := decide (k = 4) || decide (k = 6)
def BM.run (M : BM) (o : OM) : RM × BM :=
  if o.chkB = true then
    if readsK o.kind = true then M.act o
    else match sget o.id M.done with
      | some r => (r, M)
      | none => ((M.act o).1, { (M.act o).2 with done := sput ltN o.id (M.act o).1 M.done })
  else (st 400, M)

theorem sput_len {κ ν : Type} [DecidableEq κ] {lt : κ → κ → Bool} (o : Ord3 lt) {l : List (κ × ν)} (h : Srtd lt l) (k : κ) (v : ν) : (sput lt k v l).length ≤ l.length + 1 := by
  rw [(X.G.sput_perm o (h.nodup o) k v).length_eq, List.length_cons]
  have : (sdel k l).length ≤ l.length := List.length_filter_le _ _
  omega
theorem sdel_len {κ ν : Type} [DecidableEq κ] (k : κ) (l : List (κ × ν)) : (sdel k l).length ≤ l.length := List.length_filter_le _ _

theorem chk_9 {o : OM} (h : o.chkB = true) (hk : o.kind = 9) : o.parts.length ≤ 10000 := by
  rw [chk_eq] at h
  unfold OM.chkR at h
  simp only [hk] at h
  simp [partsOK] at h
  omega
theorem chk_len {o : OM} (h : o.chkB = true) : o.data.length ≤ 16777216 := by
  rw [chk_eq] at h
  unfold OM.chkR at h
  split at h
  · simp only [Bool.and_eq_true, decide_eq_true_eq] at h; omega
  split at h
  · simp only [Bool.and_eq_true, decide_eq_true_eq] at h; omega
  split at h
  · simp only [Bool.and_eq_true, decide_eq_true_eq] at h; omega
  split at h
  · simp only [Bool.and_eq_true, decide_eq_true_eq] at h; omega
  split at h
  · simp only [Bool.and_eq_true, decide_eq_true_eq] at h; omega
  split at h
  · simp only [Bool.and_eq_true, decide_eq_true_eq] at h; omega
  split at h
  · simp only [Bool.and_eq_true, decide_eq_true_eq] at h; omega
  · cases h
theorem chk_kind {o : OM} (h : o.chkB = true) : 1 ≤ o.kind ∧ o.kind ≤ 10 := by
  rw [chk_eq] at h
  unfold OM.chkR at h
  split at h
  · omega
  split at h
  · omega
  split at h
  · omega
  split at h
  · omega
  split at h
  · omega
  split at h
  · omega
  split at h
  · omega
  · cases h
theorem chk_6 {o : OM} (h : o.chkB = true) (hk : o.kind = 6) : 1 ≤ o.n ∧ o.n ≤ 1000 := by
  rw [chk_eq] at h
  unfold OM.chkR at h
  simp only [hk] at h
  simp only [show ¬ ((6 : Int) = 1 ∨ (6 : Int) = 2) by omega, show ¬ (6 : Int) = 3 by omega, show ¬ ((6 : Int) = 4 ∨ (6 : Int) = 5 ∨ (6 : Int) = 7) by omega, if_false, if_true, Bool.and_eq_true, decide_eq_true_eq] at h
  omega

theorem BM.ok.mono {k j : Nat} {M : BM} (h : M.ok k) (hk : k ≤ j) : M.ok j :=
  ⟨h.bs, fun n o e => ⟨(h.os n o e).1, Nat.le_trans (h.os n o e).2.1 hk, (h.os n o e).2.2⟩, h.us, h.ps, h.ds, h.rs, by have := h.len; omega⟩

theorem BM.ok.objs {k : Nat} {M : BM} (h : M.ok k) {b : ByteArray} {o o' : Objs} (hb : sget b M.buckets = some o) (h1 : Srtd ltB o') (h2 : o'.length ≤ k + 1) (h3 : ∀ a d, sget a o' = some d → d.length ≤ 274877906944) (us : List (Nat × UM)) (hus : Srtd ltN us) (hul : us.length ≤ k + 1)
    (hps : ∀ n u, sget n us = some u → sget n M.uploads = some u) : BM.ok (k + 1) ⟨sput ltB b o' M.buckets, us, M.done⟩ := by
  have hl := h.len
  refine ⟨X.G.srtd_put ord3_str h.bs _ _, ?_, hus, ?_, h.ds, h.rs, ?_, hul, by show M.done.length ≤ _; omega⟩
  · intro n q hq
    rw [X.G.sget_put ord3_str] at hq
    split at hq
    · cases hq; exact ⟨h1, h2, h3⟩
    · have := h.os n q hq; exact ⟨this.1, by omega, this.2.2⟩
  · intro n u hu
    obtain ⟨p1, p2, p3⟩ := h.ps n u (hps n u hu)
    refine ⟨p1, ?_, p3⟩
    show (sget u.bucket (sput ltB b o' M.buckets)).isSome = true
    rw [X.G.sget_put ord3_str]
    split
    · rfl
    · exact p2
  · have := sput_len ord3_str h.bs b o'
    show (sput ltB b o' M.buckets).length ≤ k + 1
    omega

theorem act_done (M : BM) (o : OM) : (M.act o).2.done = M.done := by
  unfold BM.act BM.make BM.unmake BM.put BM.get BM.delete BM.list BM.begin BM.part BM.complete BM.abort
  repeat' split
  all_goals rfl
theorem act_small {k : Nat} {M : BM} (h : M.ok k) {o : OM} (hc : o.chkB = true) : (M.act o).1.keys.length ≤ 1000 ∧ (M.act o).1.data.length ≤ 274877906944 := by
  have h6 := chk_6 hc
  unfold BM.act BM.make BM.unmake BM.put BM.get BM.delete BM.list BM.begin BM.part BM.complete BM.abort
  repeat' split
  all_goals first
    | (refine ⟨?_, ?_⟩ <;> simp [st] <;> done)
    | skip
  · rename_i h1 _ d h2
    exact ⟨by simp, (h.os _ _ h1).2.2 _ _ h2⟩
  · rename_i hk _ _ _
    have := h6 hk
    exact ⟨by simp only [List.length_take]; omega, by simp⟩

theorem act_ok {k : Nat} {M : BM} (h : M.ok k) {o : OM} (hc : o.chkB = true) : (M.act o).2.ok (k + 1) := by
  have hl := h.len
  have hd := chk_len hc
  unfold BM.act
  split
  · unfold BM.make
    split
    · exact h.mono (Nat.le_succ k)
    · rename_i hb
      refine ⟨X.G.srtd_put ord3_str h.bs _ _, ?_, h.us, ?_, h.ds, h.rs, ?_, by show M.uploads.length ≤ _; omega, by show M.done.length ≤ _; omega⟩
      · intro n q hq
        rw [X.G.sget_put ord3_str] at hq
        split at hq
        · cases hq; exact ⟨List.Pairwise.nil, by simp, by simp [sget]⟩
        · have := h.os n q hq; exact ⟨this.1, by omega, this.2.2⟩
      · intro n u hu
        obtain ⟨p1, p2, p3⟩ := h.ps n u hu
        refine ⟨p1, ?_, p3⟩
        show (sget u.bucket (sput ltB o.bucket [] M.buckets)).isSome = true
        rw [X.G.sget_put ord3_str]
        split
        · rfl
        · exact p2
      · have := sput_len ord3_str h.bs o.bucket []
        show (sput ltB o.bucket [] M.buckets).length ≤ k + 1
        omega
  split
  · unfold BM.unmake
    split
    · exact h.mono (Nat.le_succ k)
    · split
      · exact h.mono (Nat.le_succ k)
      · rename_i hu
        refine ⟨X.G.srtd_del h.bs _, ?_, h.us, ?_, h.ds, h.rs, ?_, by show M.uploads.length ≤ _; omega, by show M.done.length ≤ _; omega⟩
        · intro n q hq
          rw [X.G.sget_del] at hq
          split at hq
          · cases hq
          · have := h.os n q hq; exact ⟨this.1, by omega, this.2.2⟩
        · intro n u hu'
          obtain ⟨p1, p2, p3⟩ := h.ps n u hu'
          refine ⟨p1, ?_, p3⟩
          show (sget u.bucket (sdel o.bucket M.buckets)).isSome = true
          rw [X.G.sget_del]
          split
          · rename_i e
            exfalso
            apply hu
            rw [Bool.or_eq_true]; right
            unfold BM.uses
            rw [List.any_eq_true]
            exact ⟨_, X.G.sget_mem hu', by simpa using e⟩
          · exact p2
        · have := sdel_len o.bucket M.buckets
          show (sdel o.bucket M.buckets).length ≤ k + 1
          omega
  split
  · unfold BM.put
    split
    · exact h.mono (Nat.le_succ k)
    · rename_i objs hb
      have ho := h.os _ _ hb
      refine h.objs hb (X.G.srtd_put ord3_str ho.1 _ _) (by have := sput_len ord3_str ho.1 o.key o.data; omega) ?_ M.uploads h.us (by omega) (fun _ _ e => e)
      intro a d hq
      rw [X.G.sget_put ord3_str] at hq
      split at hq
      · cases hq; omega
      · exact ho.2.2 a d hq
  split
  · unfold BM.get
    repeat' split
    all_goals exact h.mono (Nat.le_succ k)
  split
  · unfold BM.delete
    split
    · exact h.mono (Nat.le_succ k)
    · rename_i objs hb
      split
      · exact h.mono (Nat.le_succ k)
      · have ho := h.os _ _ hb
        refine h.objs hb (X.G.srtd_del ho.1 _) (by have := sdel_len o.key objs; omega) ?_ M.uploads h.us (by omega) (fun _ _ e => e)
        intro a d hq
        rw [X.G.sget_del] at hq
        split at hq
        · cases hq
        · exact ho.2.2 a d hq
  split
  · unfold BM.list
    repeat' split
    all_goals exact h.mono (Nat.le_succ k)
  split
  · unfold BM.begin
    split
    · exact h.mono (Nat.le_succ k)
    · rename_i objs hb
      refine ⟨h.bs, fun n q hq => ⟨(h.os n q hq).1, by have := (h.os n q hq).2.1; omega, (h.os n q hq).2.2⟩, X.G.srtd_put ord3_nat h.us _ _, ?_, h.ds, h.rs, by show M.buckets.length ≤ _; omega, ?_, by show M.done.length ≤ _; omega⟩
      · intro n u hu
        rw [X.G.sget_put ord3_nat] at hu
        split at hu
        · cases hu; exact ⟨List.Pairwise.nil, by show (sget o.bucket M.buckets).isSome = true; rw [hb]; rfl, by simp [sget]⟩
        · exact h.ps n u hu
      · have := sput_len (lt := ltN) ord3_nat h.us o.id ⟨o.bucket, o.key, []⟩
        show (sput ltN o.id _ M.uploads).length ≤ k + 1
        omega
  split
  · unfold BM.part
    split
    · exact h.mono (Nat.le_succ k)
    · rename_i u hu
      obtain ⟨p1, p2, p3⟩ := h.ps _ _ hu
      refine ⟨h.bs, fun n q hq => ⟨(h.os n q hq).1, by have := (h.os n q hq).2.1; omega, (h.os n q hq).2.2⟩, X.G.srtd_put ord3_nat h.us _ _, ?_, h.ds, h.rs, by show M.buckets.length ≤ _; omega, ?_, by show M.done.length ≤ _; omega⟩
      · intro n v hv
        rw [X.G.sget_put ord3_nat] at hv
        split at hv
        · cases hv
          refine ⟨X.G.srtd_put ord3_int p1 _ _, p2, ?_⟩
          intro a d hq
          rw [X.G.sget_put ord3_int] at hq
          split at hq
          · cases hq; exact hd
          · exact p3 a d hq
        · exact h.ps n v hv
      · have := sput_len (lt := ltN) ord3_nat h.us o.upload ⟨u.bucket, u.key, sput ltI o.n o.data u.parts⟩
        show (sput ltN o.upload _ M.uploads).length ≤ k + 1
        omega
  split
  · rename_i hk
    have h9 := chk_9 hc hk
    unfold BM.complete
    split
    · exact h.mono (Nat.le_succ k)
    · rename_i u hu
      obtain ⟨p1, p2, p3⟩ := h.ps _ _ hu
      obtain ⟨objs, hb⟩ := Option.isSome_iff_exists.1 p2
      split
      · exact h.mono (Nat.le_succ k)
      · rename_i d hcd
        rw [hb]
        have ho := h.os _ _ hb
        have hdl : d.length ≤ 274877906944 := by
          unfold collect at hcd
          split at hcd
          · cases hcd
            have := flat_len p3 o.parts
            omega
          · cases hcd
        refine h.objs hb (X.G.srtd_put ord3_str ho.1 _ _) (by have := sput_len ord3_str ho.1 u.key d; show (sput ltB u.key d objs).length ≤ _; omega) ?_ (sdel o.upload M.uploads) (X.G.srtd_del h.us _) (by have := sdel_len o.upload M.uploads; omega) ?_
        · intro a e hq
          have hq : sget a (sput ltB u.key d objs) = some e := hq
          rw [X.G.sget_put ord3_str] at hq
          split at hq
          · cases hq; exact hdl
          · exact ho.2.2 a e hq
        · intro n v hv
          rw [X.G.sget_del] at hv
          split at hv
          · cases hv
          · exact hv
  · unfold BM.abort
    split
    · exact h.mono (Nat.le_succ k)
    · refine ⟨h.bs, fun n q hq => ⟨(h.os n q hq).1, by have := (h.os n q hq).2.1; omega, (h.os n q hq).2.2⟩, X.G.srtd_del h.us _, ?_, h.ds, h.rs, by show M.buckets.length ≤ _; omega, by have := sdel_len o.upload M.uploads; show (sdel o.upload M.uploads).length ≤ _; omega, by show M.done.length ≤ _; omega⟩
      intro n v hv
      rw [X.G.sget_del] at hv
      split at hv
      · cases hv
      · exact h.ps n v hv

theorem run_ok {k : Nat} {M : BM} (h : M.ok k) (o : OM) : (M.run o).2.ok (k + 1) := by
  unfold BM.run
  split
  · rename_i hc
    have h1 := act_ok h hc
    have h2 := act_small h hc
    split
    · exact h1
    · split
      · exact h.mono (Nat.le_succ k)
      · refine ⟨h1.bs, h1.os, h1.us, h1.ps, X.G.srtd_put ord3_nat h.ds _ _, ?_, h1.len.1, h1.len.2.1, ?_⟩
        · intro n r hr
          rw [X.G.sget_put ord3_nat] at hr
          split at hr
          · cases hr; exact h2
          · exact h.rs n r hr
        · have := sput_len (lt := ltN) ord3_nat h.ds o.id (M.act o).1
          have := h.len
          show (sput ltN o.id _ M.done).length ≤ k + 1
          omega
  · exact h.mono (Nat.le_succ k)
theorem run_small {k : Nat} {M : BM} (h : M.ok k) (o : OM) : (M.run o).1.keys.length ≤ 1000 ∧ (M.run o).1.data.length ≤ 274877906944 := by
  unfold BM.run
  split
  · rename_i hc
    have h2 := act_small h hc
    split
    · exact h2
    · split
      · rename_i r hr; exact h.rs _ _ hr
      · exact h2
  · exact ⟨by simp [st], by simp [st]⟩
end Go.Proofs.Ytidbcaimgahllaa
namespace Go.Proofs.Ytidbcaimgahllaa
set_option linter.unusedSectionVars false
set_option linter.unusedSimpArgs false
set_option linter.unusedVariables false
open Go.X
open Go.X.G (Ord3 ord3_nat ord3_int ord3_str ltB sget sput sdel Srtd MapAt MapHole plainRep)

theorem check_yes (G : Assn) (x : OW) (hx : x.ok G) (hc : x.o.chkB = true) : FSpec Try.prog 30 [.agg x.cells.toArray] [G] (fun v B => v = .int .i64 0 ∧ B = [G]) := by
  have := check_spec G x hx
  rw [hc] at this; exact this
theorem check_no (G : Assn) (x : OW) (hx : x.ok G) (hc : x.o.chkB = false) : FSpec Try.prog 30 [.agg x.cells.toArray] [G] (fun v B => v = .int .i64 1 ∧ B = [G]) := by
  have := check_spec G x hx
  rw [hc] at this; exact this
theorem reads_at {n : Int} {b : Bool} (h : readsK n = b) : FSpec Try.prog 36 [.int .i64 n] [] (fun v B => v = .bool b ∧ B = []) := by
  subst h; exact reads_spec n

theorem asn_ok {x : RW} (hs : x.r.keys.length ≤ 1099511627776 ∧ x.r.data.length ≤ 1099511627776) : ∀ h, x.asn h → x.ok x.asn := by
  intro h hh
  have hh' : HSat h x.asns := hh
  obtain ⟨h1, h2, a, ⟨k1, k2, b, _, _, _, _⟩, _, _, _⟩ := hh'
  exact ⟨(own.slr (i := 0) rfl ⟨h1, X.G.HSat.one a⟩ : SlR [own 9 1 _ _] 1 _ _).into 0 rfl, (own.slr (i := 0) rfl ⟨k1, X.G.HSat.one b⟩ : SlR [own 5 1 _ _] 1 _ _).into 1 rfl, hs⟩

theorem tab_srt (m : Nat) : Srtd ltI (tabM m) := by simp [Srtd, tabM]

def HasAct (m : Nat) (M : BM) (x : OW) (G : Assn) : Prop := ∃ fid, sget x.o.kind (tabM m) = some (.func (.func fid) ([.pointer (some ⟨m, 0, none⟩)] : List Value).toArray ([] : List Value).toArray) ∧ (∀ (args : Array Value) (w : World), (callFunc fid args).run Try.prog w = .ok (.enter fid args) w) ∧
  FSpec Try.prog fid ([.pointer (some ⟨m, 0, none⟩)] ++ [.agg x.cells.toArray] ++ []) [BktAt m M, G] (ActR m G (M.act x.o))

section
variable {k : Nat} (m : Nat) (M : BM) (hM : M.ok k) (x : OW) (G : Assn) (hx : x.ok G)
include hM hx

theorem do_bad_all : (∀ (hc : x.o.chkB = false), FSpec Try.prog 20 [.pointer (some ⟨m, 0, none⟩), .agg x.cells.toArray] [BktAt m M, G] (ActR m G (st 400, M))) ∧ (∀ (hc : x.o.chkB = true) {r : RM} (hD : sget x.o.id M.done = some r) (hrd : readsK x.o.kind = false), FSpec Try.prog 20 [.pointer (some ⟨m, 0, none⟩), .agg x.cells.toArray] [BktAt m M, G] (ActR m G (r, M))) := by
  refine ⟨fun hc => ?_, fun hc {r} hD hrd => ?_⟩
  all_goals
   refine FSpec.of Try.func20 rfl Try.ntmps20 rfl fun W0 F => ?_
   refine J.seq <| J.region ?_
   refine J.c rfl rfl (C.box (l := [_, _, _, _, _, _, _, _, _]) rfl rfl) ?_
   rintro _ _ ⟨b3, rfl, rfl⟩
   refine J.norm rfl ?_
   refine J.c rfl rfl (C.alloc (l := [_, _, _, _, _]) Try.zeroValue34 rfl) ?_
   rintro _ _ ⟨b4, rfl, rfl⟩
   refine J.norm rfl <| J.nil <| J.then_n <| J.seq <| J.seq <| J.region ?_
   refine J.p rfl (Q.ldN (vs := [_, _, _, _, _, _, _, _, _]) Try.isAgg27 Try.sizeOf27 rfl rnI) ?_
   refine J.call Try.call30 ((by first | exact check_yes G x hx hc | exact check_no G x hx hc)) [3] rfl rfl rfl rfl ?_
   rintro _ _ ⟨rfl, rfl⟩
   refine J.norm rfl <| J.p rfl (Q.neq rfl rfl) <| J.nil <| J.then_n ?_
   refine J.cases 10 rfl (fun hc10 => ?_) (fun hc10 => ?_)
   ·
    replace hc10 := X.nm hc10
    try (first | (cases hc10; done) | (exfalso; simp at hc10; done))
    all_goals
     refine J.cond_t rfl <| J.seq <| J.region ?_
     refine J.call Try.call35 (status_spec 400) [] rfl rfl rfl rfl ?_
     rintro _ _ ⟨y, rfl, hy, rfl⟩
     refine J.norm rfl ?_
     refine J.stAI (vs := [_, _, _, _, _]) rfl Try.sizeOf34 rfl rfl (by exact rfl) (by exact rfl) (by exact rfl) ?_
     refine J.nil <| J.then_n <| J.cret <| J.then_r ?_
     refine J.retC [4, 0, 1, 5] (vs := [_, _, _, _, _]) rfl rfl Try.isAgg34 Try.sizeOf34 (ReadsN.pt 2 rfl) rfl (B := [_, _, _]) ⟨_, rfl, hy, rfl⟩
   replace hc10 := X.nm hc10
   try (first | (cases hc10; done) | (exfalso; simp at hc10; done))
   all_goals
    refine J.cond_f rfl <| J.cskip <| J.then_n ?_
    refine J.cut (fun _ : Unit => False) (fun _ => []) (fun _ => []) ?_ fun _ hF => ?_
    ·
     refine J.seq ?_
     refine J.open1 3 rfl (fun _ h => h) fun z => ?_
     refine J.norm rfl ?_
     first
       | (refine J.mapFocus 3 hD rfl fun val => ?_
          refine J.norm rfl ?_
          refine J.open_ 0 rfl rfl (fun _ h => h) fun y0 hy0 => ?_
          obtain ⟨hyr, hyv⟩ := hy0
          subst hyv
          subst hyr
          refine J.norm rfl ?_
          have hrs := hM.rs _ _ hD
          refine J.tells 0 rfl (asn_ok ⟨by omega, by omega⟩) fun hy0 => ?_)
       | skip
     refine J.draw [10, 11, 12] Try.mixed (by kernel_rfl) fun hR => ?_
     refine RG.p 0 hR rfl (Q.mv rfl) <| RG.p 1 hR rfl (Q.nil_ rfl) <| RG.p 2 hR rfl (Q.fa (n := 2) Try.runUnderlying102 rfl rfl Try.sizeOf100 rfl) ?_
     refine RG.p 3 hR rfl (Q.ld Try.isAgg100 rfl (rdI (by exact rfl))) ?_
     refine RG.p 4 hR rfl (Q.fa (n := 0) Try.runUnderlying27 rfl rfl Try.sizeOf23 rfl) ?_
     refine RG.p 5 hR rfl (Q.ld Try.isAgg23 rfl (rdI (by exact rfl))) ?_
     refine RG.p 6 hR rfl (by first | exact X.G.Q.lk2No (i := 3) Try.runUnderlying100 keyU Try.zeroValue34 rfl rfl rfl hD | exact X.G.Q.lk2Yes (i := 1) Try.runUnderlying100 keyU Try.zeroValue34 rfl rfl rfl) ?_
     refine RG.p 7 hR rfl (Q.mv rfl) <| RG.p 8 hR rfl (Q.ext rfl rfl) <| RG.p 9 hR rfl (Q.ext rfl rfl) ?_
     refine RG.made 10 hR rfl rfl rfl rfl rfl (C.alloc (l := [_, _, _, _, _]) Try.zeroValue34 rfl) ?_
     rintro b5
     refine RG.stAkI (vs := [_, _, _, _, _]) 11 hR rfl rfl rfl rfl Try.sizeOf34 rfl rfl (by exact rfl) (by exact rfl) (by exact rfl) ?_
     refine RG.bar 12 hR rfl rfl rfl rfl rfl rfl (Q.asg rfl).toC ?_
     rintro _ _ ⟨rfl, rfl⟩
     refine RG.norm rfl ?_
     refine RG.fin hR rfl ?_
     refine J.norm rfl <| J.then_n <| J.seq <| J.region <| J.m rfl <| J.m rfl ?_
     refine J.cases 23 rfl (fun hb23 => ?_) (fun hb23 => ?_)
     ·
      replace hb23 := X.nm hb23
      try (first | (cases hb23; done) | (exfalso; simp at hb23; done))
      all_goals
       refine J.p rfl (Q.fa (n := 1) Try.runUnderlying27 rfl rfl Try.sizeOf3 rfl) ?_
       refine J.p rfl (Q.ld Try.isAgg3 rfl (rdI (by exact rfl))) ?_
       refine J.call Try.call36 (reads_at hrd) [] rfl rfl rfl rfl ?_
       rintro _ _ ⟨rfl, rfl⟩
       refine J.norm rfl <| J.p rfl (Q.not rfl) <| J.p rfl (Q.pick_t rfl rfl) <| J.nil <| J.then_n ?_
       refine J.cases 28 rfl (fun hc28 => ?_) (fun hc28 => ?_)
       ·
        replace hc28 := X.nm hc28
        try (first | (cases hc28; done) | (exfalso; simp at hc28; done))
        all_goals
         refine J.cond_t rfl <| J.seq <| J.region ?_
         refine J.p rfl (Q.ldN (vs := [_, _, _, _, _]) Try.isAgg34 Try.sizeOf34 rfl rnI) ?_
         refine J.call Try.call37 (apart_spec y0.asn y0 hy0) [0] rfl rfl rfl rfl ?_
         rintro _ _ ⟨y, rfl, hy, rfl⟩
         refine J.norm rfl ?_
         refine J.stAI (vs := [_, _, _, _, _]) rfl Try.sizeOf34 rfl rfl (by exact rfl) (by exact rfl) (by exact rfl) ?_
         refine J.nil <| J.then_n <| J.cret <| J.cut_r ?_
         refine J.shut [1] (dRep x.o.id y0.r (.agg y0.cells.toArray)) rfl (fun h s => ⟨y0, ⟨rfl, rfl⟩, s⟩) ?_
         refine J.mapSame 0 2 ord3_nat hM.ds hD rfl ?_
         refine J.shut [2, 3, 4, 0] (BktAt m M) rfl (fun h s => ⟨z, s⟩) ?_
         refine J.retC [0, 1, 2, 5] (vs := [_, _, _, _, _]) rfl rfl Try.isAgg34 Try.sizeOf34 (ReadsN.pt 3 rfl) rfl (B := [_, _, _]) ⟨_, rfl, hy, rfl⟩
       replace hc28 := X.nm hc28
       try (first | (cases hc28; done) | (exfalso; simp at hc28; done))
       all_goals
        refine J.cond_f rfl <| J.cskip ?_
        skip
     replace hb23 := X.nm hb23
     try (first | (cases hb23; done) | (exfalso; simp at hb23; done))
     all_goals
      refine J.skip rfl rfl <| J.skip rfl rfl <| J.skip rfl rfl <| J.skip rfl rfl <| J.p rfl (Q.pick_f rfl rfl) <| J.nil <| J.then_n <| J.cond_f rfl <| J.cskip ?_
      skip
    exact hF.elim
theorem do_bad (hc : x.o.chkB = false) : FSpec Try.prog 20 [.pointer (some ⟨m, 0, none⟩), .agg x.cells.toArray] [BktAt m M, G] (ActR m G (st 400, M)) := (do_bad_all m M hM x G hx).1 hc
theorem do_kept (hc : x.o.chkB = true) {r : RM} (hD : sget x.o.id M.done = some r) (hrd : readsK x.o.kind = false) : FSpec Try.prog 20 [.pointer (some ⟨m, 0, none⟩), .agg x.cells.toArray] [BktAt m M, G] (ActR m G (r, M)) := (do_bad_all m M hM x G hx).2 hc hD hrd
theorem do_read0_all : (∀ (hA : HasAct m M x G) (hc : x.o.chkB = true) (hD : sget x.o.id M.done = none) (hrd : readsK x.o.kind = true), FSpec Try.prog 20 [.pointer (some ⟨m, 0, none⟩), .agg x.cells.toArray] [BktAt m M, G] (ActR m G (M.act x.o))) ∧ (∀ (hA : HasAct m M x G) (hc : x.o.chkB = true) {r : RM} (hD : sget x.o.id M.done = some r) (hrd : readsK x.o.kind = true), FSpec Try.prog 20 [.pointer (some ⟨m, 0, none⟩), .agg x.cells.toArray] [BktAt m M, G] (ActR m G (M.act x.o))) ∧ (∀ (hA : HasAct m M x G) (hc : x.o.chkB = true) (hD : sget x.o.id M.done = none) (hrd : readsK x.o.kind = false), FSpec Try.prog 20 [.pointer (some ⟨m, 0, none⟩), .agg x.cells.toArray] [BktAt m M, G] (ActR m G ((M.act x.o).1, { (M.act x.o).2 with done := sput ltN x.o.id (M.act x.o).1 M.done }))) := by
  refine ⟨fun hA hc hD hrd => ?_, fun hA hc {r} hD hrd => ?_, fun hA hc hD hrd => ?_⟩
  all_goals
   refine FSpec.of Try.func20 rfl Try.ntmps20 rfl fun W0 F => ?_
   refine J.seq <| J.region ?_
   refine J.c rfl rfl (C.box (l := [_, _, _, _, _, _, _, _, _]) rfl rfl) ?_
   rintro _ _ ⟨b3, rfl, rfl⟩
   refine J.norm rfl ?_
   refine J.c rfl rfl (C.alloc (l := [_, _, _, _, _]) Try.zeroValue34 rfl) ?_
   rintro _ _ ⟨b4, rfl, rfl⟩
   refine J.norm rfl <| J.nil <| J.then_n <| J.seq <| J.seq <| J.region ?_
   refine J.p rfl (Q.ldN (vs := [_, _, _, _, _, _, _, _, _]) Try.isAgg27 Try.sizeOf27 rfl rnI) ?_
   refine J.call Try.call30 ((by first | exact check_yes G x hx hc | exact check_no G x hx hc)) [3] rfl rfl rfl rfl ?_
   rintro _ _ ⟨rfl, rfl⟩
   refine J.norm rfl <| J.p rfl (Q.neq rfl rfl) <| J.nil <| J.then_n ?_
   refine J.cases 10 rfl (fun hc10 => ?_) (fun hc10 => ?_)
   ·
    replace hc10 := X.nm hc10
    try (first | (cases hc10; done) | (exfalso; simp at hc10; done))
    all_goals
     refine J.cond_t rfl <| J.seq <| J.region ?_
     refine J.call Try.call35 (status_spec 400) [] rfl rfl rfl rfl ?_
     rintro _ _ ⟨y, rfl, hy, rfl⟩
     refine J.norm rfl ?_
     refine J.stAI (vs := [_, _, _, _, _]) rfl Try.sizeOf34 rfl rfl (by exact rfl) (by exact rfl) (by exact rfl) ?_
     refine J.nil <| J.then_n <| J.cret <| J.then_r ?_
     refine J.retC [4, 0, 1, 5] (vs := [_, _, _, _, _]) rfl rfl Try.isAgg34 Try.sizeOf34 (ReadsN.pt 2 rfl) rfl (B := [_, _, _]) ⟨_, rfl, hy, rfl⟩
   replace hc10 := X.nm hc10
   try (first | (cases hc10; done) | (exfalso; simp at hc10; done))
   all_goals
    refine J.cond_f rfl <| J.cskip <| J.then_n ?_
    refine J.cut (fun _ : Unit => True) (fun _ => [(0, .pointer (some ⟨m, 0, none⟩)), (3, .pointer (some ⟨b3, 0, none⟩)), (4, .pointer (some ⟨b4, 0, none⟩))]) (fun _ => [pt b3 (.cells x.cells.toArray 27 (0, 0)), BktAt m M, G, pt b4 (.cells [Value.int .i64 0, .int .u64 0, .slice none 0 0, .bool false, .slice none 0 0].toArray 34 (0, 0)), F]) ?_ fun _ _ => ?_
    ·
     refine J.seq ?_
     refine J.open1 3 rfl (fun _ h => h) fun z => ?_
     refine J.norm rfl ?_
     first
       | (refine J.mapFocus 3 hD rfl fun val => ?_
          refine J.norm rfl ?_
          refine J.open_ 0 rfl rfl (fun _ h => h) fun y0 hy0 => ?_
          obtain ⟨hyr, hyv⟩ := hy0
          subst hyv
          subst hyr
          refine J.norm rfl ?_
          have hrs := hM.rs _ _ hD
          refine J.tells 0 rfl (asn_ok ⟨by omega, by omega⟩) fun hy0 => ?_)
       | skip
     refine J.draw [10, 11, 12] Try.mixed (by kernel_rfl) fun hR => ?_
     refine RG.p 0 hR rfl (Q.mv rfl) <| RG.p 1 hR rfl (Q.nil_ rfl) <| RG.p 2 hR rfl (Q.fa (n := 2) Try.runUnderlying102 rfl rfl Try.sizeOf100 rfl) ?_
     refine RG.p 3 hR rfl (Q.ld Try.isAgg100 rfl (rdI (by exact rfl))) ?_
     refine RG.p 4 hR rfl (Q.fa (n := 0) Try.runUnderlying27 rfl rfl Try.sizeOf23 rfl) ?_
     refine RG.p 5 hR rfl (Q.ld Try.isAgg23 rfl (rdI (by exact rfl))) ?_
     refine RG.p 6 hR rfl (by first | exact X.G.Q.lk2No (i := 3) Try.runUnderlying100 keyU Try.zeroValue34 rfl rfl rfl hD | exact X.G.Q.lk2Yes (i := 1) Try.runUnderlying100 keyU Try.zeroValue34 rfl rfl rfl) ?_
     refine RG.p 7 hR rfl (Q.mv rfl) <| RG.p 8 hR rfl (Q.ext rfl rfl) <| RG.p 9 hR rfl (Q.ext rfl rfl) ?_
     refine RG.made 10 hR rfl rfl rfl rfl rfl (C.alloc (l := [_, _, _, _, _]) Try.zeroValue34 rfl) ?_
     rintro b5
     refine RG.stAkI (vs := [_, _, _, _, _]) 11 hR rfl rfl rfl rfl Try.sizeOf34 rfl rfl (by exact rfl) (by exact rfl) (by exact rfl) ?_
     refine RG.bar 12 hR rfl rfl rfl rfl rfl rfl (Q.asg rfl).toC ?_
     rintro _ _ ⟨rfl, rfl⟩
     refine RG.norm rfl ?_
     refine RG.fin hR rfl ?_
     refine J.norm rfl <| J.then_n <| J.seq <| J.region <| J.m rfl <| J.m rfl ?_
     refine J.cases 23 rfl (fun hb23 => ?_) (fun hb23 => ?_)
     ·
      replace hb23 := X.nm hb23
      try (first | (cases hb23; done) | (exfalso; simp at hb23; done))
      all_goals
       refine J.p rfl (Q.fa (n := 1) Try.runUnderlying27 rfl rfl Try.sizeOf3 rfl) ?_
       refine J.p rfl (Q.ld Try.isAgg3 rfl (rdI (by exact rfl))) ?_
       refine J.call Try.call36 (reads_at hrd) [] rfl rfl rfl rfl ?_
       rintro _ _ ⟨rfl, rfl⟩
       refine J.norm rfl <| J.p rfl (Q.not rfl) <| J.p rfl (Q.pick_t rfl rfl) <| J.nil <| J.then_n ?_
       refine J.cases 28 rfl (fun hc28 => ?_) (fun hc28 => ?_)
       ·
        replace hc28 := X.nm hc28
        try (first | (cases hc28; done) | (exfalso; simp at hc28; done))
        all_goals
         refine J.cond_t rfl <| J.seq <| J.region ?_
         refine J.p rfl (Q.ldN (vs := [_, _, _, _, _]) Try.isAgg34 Try.sizeOf34 rfl rnI) ?_
         refine J.call Try.call37 (apart_spec y0.asn y0 hy0) [0] rfl rfl rfl rfl ?_
         rintro _ _ ⟨y, rfl, hy, rfl⟩
         refine J.norm rfl ?_
         refine J.stAI (vs := [_, _, _, _, _]) rfl Try.sizeOf34 rfl rfl (by exact rfl) (by exact rfl) (by exact rfl) ?_
         refine J.nil <| J.then_n <| J.cret <| J.cut_r ?_
         refine J.shut [1] (dRep x.o.id y0.r (.agg y0.cells.toArray)) rfl (fun h s => ⟨y0, ⟨rfl, rfl⟩, s⟩) ?_
         refine J.mapSame 0 2 ord3_nat hM.ds hD rfl ?_
         refine J.shut [2, 3, 4, 0] (BktAt m M) rfl (fun h s => ⟨z, s⟩) ?_
         refine J.retC [0, 1, 2, 5] (vs := [_, _, _, _, _]) rfl rfl Try.isAgg34 Try.sizeOf34 (ReadsN.pt 3 rfl) rfl (B := [_, _, _]) ⟨_, rfl, hy, rfl⟩
       replace hc28 := X.nm hc28
       try (first | (cases hc28; done) | (exfalso; simp at hc28; done))
       all_goals
        refine J.cond_f rfl <| J.cskip ?_
        first
          | (refine J.shut [0] (dRep x.o.id y0.r (.agg y0.cells.toArray)) rfl (fun h s => ⟨y0, ⟨rfl, rfl⟩, s⟩) ?_
             refine J.mapSame 0 1 ord3_nat hM.ds hD rfl ?_
             refine J.shut [1, 2, 3, 0] (BktAt m M) rfl (fun h s => ⟨z, s⟩) ?_)
          | refine J.shut [0, 1, 2, 3] (BktAt m M) rfl (fun h s => ⟨z, s⟩) ?_
        refine J.keep [3, 0, 1, 2, 4] rfl ?_
        refine J.meet () trivial ⟨rfl, rfl, rfl, trivial⟩ rfl
     replace hb23 := X.nm hb23
     try (first | (cases hb23; done) | (exfalso; simp at hb23; done))
     all_goals
      refine J.skip rfl rfl <| J.skip rfl rfl <| J.skip rfl rfl <| J.skip rfl rfl <| J.p rfl (Q.pick_f rfl rfl) <| J.nil <| J.then_n <| J.cond_f rfl <| J.cskip ?_
      first
        | (refine J.shut [0] (dRep x.o.id y0.r (.agg y0.cells.toArray)) rfl (fun h s => ⟨y0, ⟨rfl, rfl⟩, s⟩) ?_
           refine J.mapSame 0 1 ord3_nat hM.ds hD rfl ?_
           refine J.shut [1, 2, 3, 0] (BktAt m M) rfl (fun h s => ⟨z, s⟩) ?_)
        | refine J.shut [0, 1, 2, 3] (BktAt m M) rfl (fun h s => ⟨z, s⟩) ?_
      refine J.keep [3, 0, 1, 2, 4] rfl ?_
      refine J.meet () trivial ⟨rfl, rfl, rfl, trivial⟩ rfl
    refine J.cut (fun w : Nat × RW => w.2.r = (M.act x.o).1) (fun w => [(0, .pointer (some ⟨m, 0, none⟩)), (3, .pointer (some ⟨b3, 0, none⟩)), (4, .pointer (some ⟨b4, 0, none⟩)), (7, .pointer (some ⟨w.1, 0, none⟩))]) (fun w => [pt b3 (.cells x.cells.toArray 27 (0, 0)), BktAt m (M.act x.o).2, w.2.asn, G, pt b4 (.cells [Value.int .i64 0, .int .u64 0, .slice none 0 0, .bool false, .slice none 0 0].toArray 34 (0, 0)), F, pt w.1 (.cells w.2.cells.toArray 34 (0, 0))]) ?_ fun w hw => ?_
    ·
     obtain ⟨fid, hf1, hf2, hf3⟩ := hA
     refine J.drawE [1, 6, 7, 8] 1 Try.mixed (by kernel_rfl) rfl rfl fun hR => ?_
     refine RG.p 0 hR rfl (Q.mv rfl) <| RG.p 2 hR rfl (Q.fa (n := 1) Try.runUnderlying27 rfl rfl Try.sizeOf3 rfl) ?_
     refine RG.p 3 hR rfl (Q.ld Try.isAgg3 rfl (rdI (by exact rfl))) ?_
     refine RG.p 5 hR rfl (Q.ldN (vs := [_, _, _, _, _, _, _, _, _]) Try.isAgg27 Try.sizeOf27 rfl rnI) ?_
     refine RG.many hR 1 [7] rfl ⟨?_, ⟨?_, trivial⟩⟩
     ·
      refine RGi.callk rfl rfl rfl rfl Try.call38 (table_spec m) [] rfl rfl ?_
      rintro _ _ ⟨rt, rfl, rfl⟩
      refine ⟨_, X.pick_perm (is := [1]) rfl, ?_⟩
      refine RG.hold ?_
      refine RG.norm rfl ?_
      refine RG.p 4 hR rfl (X.G.Q.lkPlain (i := 1) ord3_int (tab_srt m) Try.runUnderlying106 keyI Try.zeroValue77 rfl rfl rfl hf1) ?_
      refine RG.many hR 6 [7] rfl ⟨?_, ⟨?_, trivial⟩⟩
      ·
       refine RGi.one rfl rfl rfl rfl (OpC.callv hf2 rfl rfl hf3 [2, 3] rfl) ?_
       rintro _ _ ⟨_, ⟨y, rfl, hy, rfl⟩, rfl⟩
       refine ⟨_, X.pick_perm (is := [3, 4]) rfl, ?_⟩
       refine RG.made 7 hR rfl rfl rfl rfl rfl (C.alloc (l := [_, _, _, _, _]) Try.zeroValue34 rfl) ?_
       rintro b7
       refine RG.rot ?_
       refine RG.normE rfl ?_
       refine RG.stAI (vs := [_, _, _, _, _]) 8 hR rfl rfl rfl rfl rfl Try.sizeOf34 rfl rfl (by exact rfl) (by exact rfl) (by exact rfl) ?_
       refine RG.fin hR rfl ?_
       refine J.norm rfl ?_
       refine J.keep [0, 2, 3, 4, 5, 6, 7] rfl ?_
       refine J.meet (b7, y) hy ⟨rfl, rfl, rfl, rfl, trivial⟩ rfl
      ·
       refine RGi.made rfl rfl rfl rfl (C.alloc (l := [_, _, _, _, _]) Try.zeroValue34 rfl) ?_
       rintro b7
       refine RG.rot ?_
       refine RG.normE rfl ?_
       refine RG.many hR 6 [] rfl ⟨?_, trivial⟩
       ·
        refine RGi.one rfl rfl rfl rfl (OpC.callv hf2 rfl rfl hf3 [2, 3] rfl) ?_
        rintro _ _ ⟨_, ⟨y, rfl, hy, rfl⟩, rfl⟩
        refine ⟨_, X.pick_perm (is := [3, 4]) rfl, ?_⟩
        refine RG.stAI (vs := [_, _, _, _, _]) 8 hR rfl rfl rfl rfl rfl Try.sizeOf34 rfl rfl (by exact rfl) (by exact rfl) (by exact rfl) ?_
        refine RG.fin hR rfl ?_
        refine J.norm rfl ?_
        refine J.keep [0, 2, 3, 4, 5, 6, 7] rfl ?_
        refine J.meet (b7, y) hy ⟨rfl, rfl, rfl, rfl, trivial⟩ rfl
     ·
      refine RGi.made rfl rfl rfl rfl (C.alloc (l := [_, _, _, _, _]) Try.zeroValue34 rfl) ?_
      rintro b7
      refine RG.rot ?_
      refine RG.normE rfl ?_
      refine RG.callk 1 hR rfl rfl rfl rfl rfl Try.call38 (table_spec m) [] rfl rfl ?_
      rintro _ _ ⟨rt, rfl, rfl⟩
      refine ⟨_, X.pick_perm (is := [1]) rfl, ?_⟩
      refine RG.hold ?_
      refine RG.norm rfl ?_
      refine RG.p 4 hR rfl (X.G.Q.lkPlain (i := 1) ord3_int (tab_srt m) Try.runUnderlying106 keyI Try.zeroValue77 rfl rfl rfl hf1) ?_
      refine RG.many hR 6 [] rfl ⟨?_, trivial⟩
      ·
       refine RGi.one rfl rfl rfl rfl (OpC.callv hf2 rfl rfl hf3 [2, 3] rfl) ?_
       rintro _ _ ⟨_, ⟨y, rfl, hy, rfl⟩, rfl⟩
       refine ⟨_, X.pick_perm (is := [3, 4]) rfl, ?_⟩
       refine RG.stAI (vs := [_, _, _, _, _]) 8 hR rfl rfl rfl rfl rfl Try.sizeOf34 rfl rfl (by exact rfl) (by exact rfl) (by exact rfl) ?_
       refine RG.fin hR rfl ?_
       refine J.norm rfl ?_
       refine J.keep [0, 2, 3, 4, 5, 6, 7] rfl ?_
       refine J.meet (b7, y) hy ⟨rfl, rfl, rfl, rfl, trivial⟩ rfl
    obtain ⟨b7, y⟩ := w
    dsimp only at hw
    have hys : y.r.keys.length ≤ 1099511627776 ∧ y.r.data.length ≤ 1099511627776 := by rw [hw]; have := act_small hM hc; omega
    refine J.tells 2 rfl (asn_ok hys) fun hyo => ?_
    refine J.seq <| J.seq <| J.region <| J.p rfl (Q.fa (n := 1) Try.runUnderlying27 rfl rfl Try.sizeOf3 rfl) ?_
    refine J.p rfl (Q.ld Try.isAgg3 rfl (rdI (by exact rfl))) ?_
    refine J.call Try.call36 (reads_at hrd) [] rfl rfl rfl rfl ?_
    rintro _ _ ⟨rfl, rfl⟩
    refine J.norm rfl <| J.p rfl (Q.not rfl) <| J.nil <| J.then_n ?_
    refine J.cases 41 rfl (fun hc41 => ?_) (fun hc41 => ?_)
    ·
     replace hc41 := X.nm hc41
     try (first | (cases hc41; done) | (exfalso; simp at hc41; done))
     all_goals
      refine J.cond_t rfl ?_
      refine J.open1 1 rfl (fun _ h => h) fun z => ?_
      refine J.norm rfl ?_
      refine J.keep [0, 4, 9, 1, 2, 3, 5, 6, 7, 8] rfl ?_
      refine J.drawE [7, 8] 3 Try.mixed (by kernel_rfl) rfl rfl fun hR => ?_
      refine RG.p 0 hR rfl (Q.mv rfl) <| RG.p 1 hR rfl (Q.nil_ rfl) <| RG.p 2 hR rfl (Q.fa (n := 2) Try.runUnderlying102 rfl rfl Try.sizeOf100 rfl) ?_
      refine RG.p 3 hR rfl (Q.ld Try.isAgg100 rfl (rdI (by exact rfl))) ?_
      refine RG.p 4 hR rfl (Q.fa (n := 0) Try.runUnderlying27 rfl rfl Try.sizeOf23 rfl) ?_
      refine RG.p 5 hR rfl (Q.ld Try.isAgg23 rfl (rdI (by exact rfl))) ?_
      refine RG.p 6 hR rfl (Q.ldN (vs := [_, _, _, _, _]) Try.isAgg34 Try.sizeOf34 rfl rnI) ?_
      refine RG.callk 7 hR rfl rfl rfl rfl rfl Try.call37 (apart_spec y.asn y hyo) [6] rfl rfl ?_
      rintro _ _ ⟨y2, rfl, hy2, rfl⟩
      refine ⟨_, X.pick_perm (is := [2, 3, 4]) rfl, ?_⟩
      refine RG.bar 8 hR rfl rfl rfl rfl rfl rfl (X.G.C.mapPut (rep := dRep) 7 (M.act x.o).1 ord3_nat (by rw [act_done]; exact hM.ds) Try.runUnderlying100 keyU rfl rfl rfl rfl) ?_
      rintro _ _ ⟨rfl, rfl⟩
      refine RG.norm rfl ?_
      refine RG.fin hR rfl ?_
      refine J.norm rfl <| J.then_n <| J.seq <| J.region ?_
      refine J.p rfl (Q.ldN (vs := [_, _, _, _, _]) Try.isAgg34 Try.sizeOf34 rfl rnI) ?_
      refine J.stAI (vs := [_, _, _, _, _]) rfl Try.sizeOf34 rfl rfl (by exact rfl) (by exact rfl) (by exact rfl) ?_
      refine J.nil <| J.then_n <| J.cret ?_
      refine J.shut [3] (dRep x.o.id (M.act x.o).1 (.agg y2.cells.toArray)) rfl (fun h s => ⟨y2, ⟨hy2.trans hw, rfl⟩, s⟩) ?_
      refine J.mapBack (lt := ltN) 0 7 (M.act x.o).1 ord3_nat (X.G.srtd_put ord3_nat (by rw [act_done]; exact hM.ds) _ _) rfl ?_
      rw [X.G.sput_put ord3_nat (by rw [act_done]; exact hM.ds), act_done]
      refine J.shut [1, 5, 6, 0] (BktAt m { (M.act x.o).2 with done := sput ltN x.o.id (M.act x.o).1 M.done }) rfl (fun h s => ⟨z, s⟩) ?_
      refine J.retC [0, 3, 4, 6] (vs := [_, _, _, _, _]) rfl rfl Try.isAgg34 Try.sizeOf34 (ReadsN.pt 5 rfl) rfl (B := [_, _, _]) ⟨y, rfl, hw, rfl⟩
    replace hc41 := X.nm hc41
    try (first | (cases hc41; done) | (exfalso; simp at hc41; done))
    all_goals
     refine J.cond_f rfl <| J.cskip <| J.then_n <| J.seq <| J.region ?_
     refine J.p rfl (Q.ldN (vs := [_, _, _, _, _]) Try.isAgg34 Try.sizeOf34 rfl rnI) ?_
     refine J.stAI (vs := [_, _, _, _, _]) rfl Try.sizeOf34 rfl rfl (by exact rfl) (by exact rfl) (by exact rfl) ?_
     refine J.nil <| J.then_n <| J.cret ?_
     refine J.retC [1, 2, 3, 5] (vs := [_, _, _, _, _]) rfl rfl Try.isAgg34 Try.sizeOf34 (ReadsN.pt 4 rfl) rfl (B := [_, _, _]) ⟨y, rfl, hw, rfl⟩
theorem do_read0 (hA : HasAct m M x G) (hc : x.o.chkB = true) (hD : sget x.o.id M.done = none) (hrd : readsK x.o.kind = true) : FSpec Try.prog 20 [.pointer (some ⟨m, 0, none⟩), .agg x.cells.toArray] [BktAt m M, G] (ActR m G (M.act x.o)) := (do_read0_all m M hM x G hx).1 hA hc hD hrd
theorem do_read1 (hA : HasAct m M x G) (hc : x.o.chkB = true) {r : RM} (hD : sget x.o.id M.done = some r) (hrd : readsK x.o.kind = true) : FSpec Try.prog 20 [.pointer (some ⟨m, 0, none⟩), .agg x.cells.toArray] [BktAt m M, G] (ActR m G (M.act x.o)) := (do_read0_all m M hM x G hx).2.1 hA hc hD hrd
theorem do_new (hA : HasAct m M x G) (hc : x.o.chkB = true) (hD : sget x.o.id M.done = none) (hrd : readsK x.o.kind = false) : FSpec Try.prog 20 [.pointer (some ⟨m, 0, none⟩), .agg x.cells.toArray] [BktAt m M, G] (ActR m G ((M.act x.o).1, { (M.act x.o).2 with done := sput ltN x.o.id (M.act x.o).1 M.done })) := (do_read0_all m M hM x G hx).2.2 hA hc hD hrd
theorem do_spec (hA : x.o.chkB = true → HasAct m M x G) : FSpec Try.prog 20 [.pointer (some ⟨m, 0, none⟩), .agg x.cells.toArray] [BktAt m M, G] (ActR m G (M.run x.o)) := by
  unfold BM.run
  by_cases hc : x.o.chkB = true
  · rw [if_pos hc]
    have hA := hA hc
    by_cases hr : readsK x.o.kind = true
    · rw [if_pos hr]
      cases hD : sget x.o.id M.done with
      | none => exact do_read0 m M hM x G hx hA hc hD hr
      | some r => exact do_read1 m M hM x G hx hA hc hD hr
    · rw [if_neg hr]
      have hr : readsK x.o.kind = false := by simpa using hr
      cases hD : sget x.o.id M.done with
      | none => exact do_new m M hM x G hx hA hc hD hr
      | some r => exact do_kept m M hM x G hx hc hD hr
  · rw [if_neg hc]; exact do_bad m M hM x G hx (by simpa using hc)

theorem hasAct (hc : x.o.chkB = true) (h6 : x.o.kind = 6 → FSpec Try.prog 55 [.pointer (some ⟨m, 0, none⟩), .agg x.cells.toArray] [BktAt m M, G] (ActR m G (M.list x.o))) : HasAct m M x G := by
  obtain ⟨k1, k2⟩ := chk_kind hc
  have h9 := chk_9 hc
  by_cases e1 : x.o.kind = 1
  · exact ⟨50, by rw [e1]; rfl, Try.call50, by unfold BM.act; rw [if_pos e1]; exact make_spec m M hM x G hx⟩
  by_cases e2 : x.o.kind = 2
  · exact ⟨51, by rw [e2]; rfl, Try.call51, by unfold BM.act; rw [if_neg e1, if_pos e2]; exact unmake_spec m M hM x G hx⟩
  by_cases e3 : x.o.kind = 3
  · exact ⟨52, by rw [e3]; rfl, Try.call52, by unfold BM.act; rw [if_neg e1, if_neg e2, if_pos e3]; exact put_spec m M hM x G hx (chk_len hc)⟩
  by_cases e4 : x.o.kind = 4
  · exact ⟨53, by rw [e4]; rfl, Try.call53, by unfold BM.act; rw [if_neg e1, if_neg e2, if_neg e3, if_pos e4]; exact get_spec m M hM x G hx⟩
  by_cases e5 : x.o.kind = 5
  · exact ⟨54, by rw [e5]; rfl, Try.call54, by unfold BM.act; rw [if_neg e1, if_neg e2, if_neg e3, if_neg e4, if_pos e5]; exact delete_spec m M hM x G hx⟩
  by_cases e6 : x.o.kind = 6
  · exact ⟨55, by rw [e6]; rfl, Try.call55, by unfold BM.act; rw [if_neg e1, if_neg e2, if_neg e3, if_neg e4, if_neg e5, if_pos e6]; exact h6 e6⟩
  by_cases e7 : x.o.kind = 7
  · exact ⟨56, by rw [e7]; rfl, Try.call56, by unfold BM.act; rw [if_neg e1, if_neg e2, if_neg e3, if_neg e4, if_neg e5, if_neg e6, if_pos e7]; exact begin_spec m M hM x G hx⟩
  by_cases e8 : x.o.kind = 8
  · exact ⟨57, by rw [e8]; rfl, Try.call57, by unfold BM.act; rw [if_neg e1, if_neg e2, if_neg e3, if_neg e4, if_neg e5, if_neg e6, if_neg e7, if_pos e8]; exact part_spec m M hM x G hx (chk_len hc)⟩
  by_cases e9 : x.o.kind = 9
  · exact ⟨58, by rw [e9]; rfl, Try.call58, by unfold BM.act; rw [if_neg e1, if_neg e2, if_neg e3, if_neg e4, if_neg e5, if_neg e6, if_neg e7, if_neg e8, if_pos e9]; exact complete_spec m M hM x G hx (h9 e9)⟩
  · have e10 : x.o.kind = 10 := by omega
    exact ⟨59, by rw [e10]; rfl, Try.call59, by unfold BM.act; rw [if_neg e1, if_neg e2, if_neg e3, if_neg e4, if_neg e5, if_neg e6, if_neg e7, if_neg e8, if_neg e9]; exact abort_spec m M hM x G hx⟩
end
end Go.Proofs.Ytidbcaimgahllaa
namespace Go.Proofs.Ytidbcaimgahllaa
set_option linter.unusedSectionVars false
set_option linter.unusedSimpArgs false
set_option linter.unusedVariables false
open Go.X
open Go.X.G (Ord3 ord3_nat ord3_int ord3_str ltB sget sput sdel Srtd MapAt MapHole)

theorem RW.cells_length (x : RW) : x.cells.length = 5 := rfl
theorem RW.cells_one {l : List RW} : ∀ v, v ∈ l.flatMap RW.cells → oneC v = true := by
  intro v hv
  obtain ⟨x, _, hx⟩ := List.mem_flatMap.1 hv
  simp only [RW.cells, List.mem_cons, List.not_mem_nil, or_false] at hx
  rcases hx with rfl | rfl | rfl | rfl | rfl <;> rfl

end Go.Proofs.Ytidbcaimgahllaa
namespace Go.Proofs.Ytidbcaimgahllaa
set_option linter.unusedSectionVars false
set_option linter.unusedSimpArgs false
set_option linter.unusedVariables false
open Go.X
open Go.X.G (Ord3 ord3_nat ord3_int ord3_str ltB sget sput sdel Srtd MapAt MapHole)

def bt (l : List UInt8) : ByteArray := ⟨l.toArray⟩
end Go.Proofs.Ytidbcaimgahllaa
namespace Go.Proofs.Ytidbcaimgahllaa
set_option linter.unusedSectionVars false
set_option linter.unusedSimpArgs false
set_option linter.unusedVariables false
open Go.X

def rdGo : Nat → Nat → List UInt8 → Nat × Nat × Nat
  | _, _, [] => (0, 0, 11)
  | i, v, c :: cs =>
    if i = 9 ∧ 1 < c.toNat then (0, 0, 12)
    else if c.toNat < 128 then (if c.toNat = 0 ∧ 0 < i then (0, 0, 12) else (v + 2 ^ (7 * i) * c.toNat, i + 1, 0))
    else rdGo (i + 1) (v + 2 ^ (7 * i) * (c.toNat % 128)) cs
def rdN (bs : List UInt8) : Nat × Nat × Nat := rdGo 0 0 bs

theorem rdGo_numB : ∀ (n w i acc : Nat) (rest : List UInt8), w ≤ n → (0 < i → 1 ≤ w) → (i = 9 → w ≤ 1) → acc + 2 ^ (7 * i) * w < 18446744073709551616 → rdGo i acc (numB w ++ rest) = (acc + 2 ^ (7 * i) * w, i + (numB w).length, 0) := by
  intro n
  induction n with
  | zero =>
    intro w i acc rest hn h1 _ _
    obtain rfl : w = 0 := by omega
    obtain rfl : i = 0 := by omega
    rw [numB_small (by decide)]
    simp [rdGo]
  | succ n ih =>
    intro w i acc rest hn h1 h9 hb
    by_cases hw : w < 128
    · rw [numB_small hw]
      have e : (UInt8.ofNat w).toNat = w := by simp; omega
      simp only [List.cons_append, List.nil_append, rdGo, e, List.length_cons, List.length_nil]
      rw [if_neg (by omega), if_pos hw, if_neg (by omega)]
    · rw [numB_step hw]
      have e : (UInt8.ofNat (w % 128 + 128)).toNat = w % 128 + 128 := by simp; omega
      have hi9 : i ≠ 9 := fun h => by have := h9 h; omega
      simp only [List.cons_append, rdGo, e, List.length_cons]
      rw [if_neg (by omega), if_neg (by omega), show (w % 128 + 128) % 128 = w % 128 by omega]
      have hp7 : (2 : Nat) ^ (7 * (i + 1)) = 2 ^ (7 * i) * 128 := by rw [show 7 * (i + 1) = 7 * i + 7 by omega, Nat.pow_add]
      have hmd : 2 ^ (7 * i) * w = 2 ^ (7 * i) * (w % 128) + 2 ^ (7 * i) * 128 * (w / 128) := by rw [Nat.mul_assoc, ← Nat.mul_add]; congr 1; omega
      have h90 : i + 1 = 9 → w / 128 ≤ 1 := fun h => by
        rw [← hp7, h, show (2 : Nat) ^ (7 * 9) = 9223372036854775808 by decide] at hmd
        omega
      rw [ih (w / 128) (i + 1) _ rest (by omega) (fun _ => by omega) h90 (by rw [hp7]; omega), hp7]
      congr 1
      · omega
      · congr 1; omega
theorem rdN_numB {v : Nat} (h : v ≤ 18446744073709551615) (rest : List UInt8) : rdN (numB v ++ rest) = (v, (numB v).length, 0) := by
  unfold rdN
  rw [rdGo_numB v v 0 0 rest (Nat.le_refl _) (fun h => absurd h (Nat.lt_irrefl 0)) (by omega) (by simp; omega)]
  simp

theorem rdGo_bd : ∀ (bs : List UInt8) (i v : Nat), i ≤ 9 → v < 2 ^ (7 * i) → (rdGo i v bs).1 ≤ 18446744073709551615 ∧ (rdGo i v bs).2.1 ≤ i + bs.length ∧ ((rdGo i v bs).2.2 = 0 → 1 ≤ (rdGo i v bs).2.1)
  | [], i, v, _, _ => by simp [rdGo]
  | c :: cs, i, v, hi, hv => by
    have hc : c.toNat < 256 := c.toNat_lt
    have h63 : (2 : Nat) ^ (7 * i) ≤ 9223372036854775808 := by
      have := Nat.pow_le_pow_right (n := 2) (by decide) (show 7 * i ≤ 63 by omega)
      rwa [show (2 : Nat) ^ 63 = 9223372036854775808 by decide] at this
    simp only [rdGo, List.length_cons]
    split
    · simp
    · split
      · split
        · simp
        · refine ⟨?_, by show i + 1 ≤ _; omega, fun _ => by show 1 ≤ i + 1; omega⟩
          show v + 2 ^ (7 * i) * c.toNat ≤ _
          by_cases h9 : i = 9
          · subst h9
            have : c.toNat ≤ 1 := by omega
            have := Nat.mul_le_mul_left (2 ^ (7 * 9)) this
            omega
          · have h56 : (2 : Nat) ^ (7 * i) ≤ 72057594037927936 := by
              have := Nat.pow_le_pow_right (n := 2) (by decide) (show 7 * i ≤ 56 by omega)
              rwa [show (2 : Nat) ^ 56 = 72057594037927936 by decide] at this
            have h1 := Nat.mul_le_mul h56 (show c.toNat ≤ 127 by omega)
            omega
      · have hi' : i ≠ 9 := by omega
        have hp7 : (2 : Nat) ^ (7 * (i + 1)) = 2 ^ (7 * i) * 128 := by rw [show 7 * (i + 1) = 7 * i + 7 by omega, Nat.pow_add]
        have h1 : 2 ^ (7 * i) * (c.toNat % 128) ≤ 2 ^ (7 * i) * 127 := Nat.mul_le_mul_left _ (by omega)
        obtain ⟨a, b, d⟩ := rdGo_bd cs (i + 1) (v + 2 ^ (7 * i) * (c.toNat % 128)) (by omega) (by rw [hp7]; omega)
        exact ⟨a, by omega, d⟩
theorem rdN_bd (bs : List UInt8) : (rdN bs).1 ≤ 18446744073709551615 ∧ (rdN bs).2.1 ≤ bs.length ∧ ((rdN bs).2.2 = 0 → 1 ≤ (rdN bs).2.1) := by
  have := rdGo_bd bs 0 0 (by omega) (by simp)
  rwa [Nat.zero_add] at this

def rdB (bs : List UInt8) (most : Nat) : List UInt8 × Nat × Nat :=
  if (rdN bs).2.2 ≠ 0 then ([], 0, (rdN bs).2.2)
  else if most < (rdN bs).1 then ([], 0, 3)
  else if bs.length - (rdN bs).2.1 < (rdN bs).1 then ([], 0, 11)
  else ((bs.drop (rdN bs).2.1).take (rdN bs).1, (rdN bs).2.1 + (rdN bs).1, 0)
theorem rdB_bd (bs : List UInt8) (most : Nat) : (rdB bs most).1.length ≤ bs.length ∧ (rdB bs most).2.1 ≤ bs.length := by
  have := rdN_bd bs
  unfold rdB
  split
  · simp
  · split
    · simp
    · split
      · simp
      · simp only [List.length_take, List.length_drop]; omega
theorem rdB_encB {d : List UInt8} (h : d.length ≤ 18446744073709551615) (rest : List UInt8) {most : Nat} (hm : d.length ≤ most) : rdB (encB d ++ rest) most = (d, (encB d).length, 0) := by
  unfold rdB encB
  rw [List.append_assoc, rdN_numB h, if_neg (by simp), if_neg (by show ¬ most < d.length; omega), if_neg (by simp only [List.length_append]; omega)]
  dsimp only
  rw [List.drop_left, List.take_left, List.length_append]

structure RS where
  b : List UInt8
  bad : Bool
def RS.num (s : RS) : Nat × RS := ((rdN s.b).1, ⟨s.b.drop (rdN s.b).2.1, s.bad || decide ((rdN s.b).2.2 ≠ 0)⟩)
def RS.int (s : RS) : Nat × RS := if 1099511627776 < s.num.1 then (0, ⟨s.num.2.b, true⟩) else s.num
def RS.bytes (s : RS) : List UInt8 × RS := ((rdB s.b s.b.length).1, ⟨s.b.drop (rdB s.b s.b.length).2.1, s.bad || decide ((rdB s.b s.b.length).2.2 ≠ 0)⟩)
def RS.text (s : RS) : ByteArray × RS := (bt s.bytes.1, s.bytes.2)
def RS.intsGo : Nat → RS → List Nat × RS
  | 0, s => ([], s)
  | n + 1, s => if s.bad then ([], s) else (s.int.1 :: (RS.intsGo n s.int.2).1, (RS.intsGo n s.int.2).2)
def RS.ints (s : RS) : List Nat × RS := RS.intsGo s.int.1 s.int.2

theorem RS.num_len (s : RS) : s.num.2.b.length ≤ s.b.length := by simp [RS.num]
theorem RS.num_bd (s : RS) : s.num.1 ≤ 18446744073709551615 := (rdN_bd s.b).1
theorem RS.num_less (s : RS) (h : s.num.2.bad = false) : s.num.2.b.length + 1 ≤ s.b.length := by
  simp only [RS.num, Bool.or_eq_false_iff, decide_eq_false_iff_not, Decidable.not_not] at h
  have := rdN_bd s.b
  have h1 := this.2.2 (by omega)
  simp only [RS.num, List.length_drop]; omega
theorem RS.int_len (s : RS) : s.int.2.b.length ≤ s.b.length := by
  have := s.num_len
  unfold RS.int; split <;> exact this
theorem RS.int_bd (s : RS) : s.int.1 ≤ 1099511627776 := by
  unfold RS.int; split
  · simp
  · omega
theorem RS.int_less (s : RS) (h : s.int.2.bad = false) : s.int.2.b.length + 1 ≤ s.b.length := by
  unfold RS.int at h ⊢; split at h
  · cases h
  · rename_i hc; rw [if_neg hc]; exact s.num_less h
theorem num_at {v : Nat} (h : v ≤ 18446744073709551615) (rest : List UInt8) (bad : Bool) : RS.num ⟨numB v ++ rest, bad⟩ = (v, ⟨rest, bad⟩) := by
  simp [RS.num, rdN_numB h]
theorem int_at {v : Nat} (h : v ≤ 1099511627776) (rest : List UInt8) (bad : Bool) : RS.int ⟨numB v ++ rest, bad⟩ = (v, ⟨rest, bad⟩) := by
  unfold RS.int
  rw [num_at (by omega), if_neg (by show ¬ 1099511627776 < v; omega)]
theorem bytes_at {d : List UInt8} (h : d.length ≤ 18446744073709551615) (rest : List UInt8) (bad : Bool) : RS.bytes ⟨encB d ++ rest, bad⟩ = (d, ⟨rest, bad⟩) := by
  unfold RS.bytes
  rw [rdB_encB h rest (most := (encB d ++ rest).length) (by simp [encB]; omega)]
  simp
theorem intsGo_at : ∀ (l : List Nat) (rest : List UInt8), (∀ v, v ∈ l → v ≤ 1099511627776) → RS.intsGo l.length ⟨l.flatMap numB ++ rest, false⟩ = (l, ⟨rest, false⟩)
  | [], rest, _ => rfl
  | v :: l, rest, h => by
    simp only [List.length_cons, RS.intsGo, Bool.false_eq_true, if_false, List.flatMap_cons, List.append_assoc]
    rw [int_at (h v (by simp)), intsGo_at l rest fun u hu => h u (by simp [hu])]
theorem ints_at {l : List Nat} (h : ∀ v, v ∈ l → v ≤ 1099511627776) (hl : l.length ≤ 1099511627776) (rest : List UInt8) : RS.ints ⟨numB l.length ++ (l.flatMap numB ++ rest), false⟩ = (l, ⟨rest, false⟩) := by
  unfold RS.ints
  rw [int_at hl]
  exact intsGo_at l rest h

def opB (o : OM) : List UInt8 :=
  [1, o.id, o.kind.toNat].flatMap numB ++ [o.bucket, o.key, o.after].flatMap (fun s => encB s.data.toList) ++ [o.n.toNat, o.upload, o.parts.length].flatMap numB ++ (o.parts.map Int.toNat).flatMap numB ++ encB o.data
def RS.op (s : RS) : OM × RS :=
  let a := s.num
  let b := a.2.int
  let c := b.2.text
  let d := c.2.text
  let e := d.2.text
  let f := e.2.int
  let g := f.2.num
  let h := g.2.ints
  let i := h.2.bytes
  (⟨a.1, b.1, c.1, d.1, e.1, f.1, g.1, h.1.map Int.ofNat, i.1⟩, i.2)
structure OM.fine (o : OM) : Prop where
  id : o.id ≤ 18446744073709551615
  kind : 0 ≤ o.kind ∧ o.kind ≤ 10
  n : 0 ≤ o.n ∧ o.n ≤ 10000
  up : o.upload ≤ 18446744073709551615
  parts : o.parts.length ≤ 10000 ∧ ∀ p, p ∈ o.parts → 0 ≤ p ∧ p ≤ 10000
  texts : o.bucket.size ≤ 1024 ∧ o.key.size ≤ 1024 ∧ o.after.size ≤ 1024
  data : o.data.length ≤ 16777216
theorem bt_self (s : ByteArray) : bt s.data.toList = s := by cases s; simp [bt]
theorem text_at {d : ByteArray} (h : d.size ≤ 1024) (rest : List UInt8) (bad : Bool) : RS.text ⟨encB d.data.toList ++ rest, bad⟩ = (d, ⟨rest, bad⟩) := by
  unfold RS.text
  rw [bytes_at (by have : d.data.toList.length = d.size := by simp
                   omega)]
  simp only [bt_self]
theorem op_at {o : OM} (h : o.fine) : (RS.num ⟨opB o, false⟩).1 = 1 ∧ RS.op (RS.num ⟨opB o, false⟩).2 = (o, ⟨[], false⟩) := by
  have e : opB o = numB 1 ++ (numB o.id ++ (numB o.kind.toNat ++ (encB o.bucket.data.toList ++ (encB o.key.data.toList ++ (encB o.after.data.toList ++ (numB o.n.toNat ++ (numB o.upload ++ (numB (o.parts.map Int.toNat).length ++ ((o.parts.map Int.toNat).flatMap numB ++ (encB o.data ++ [])))))))))) := by
    simp [opB]
  have h1 := h.kind
  have h2 := h.n
  have h3 := h.parts
  rw [e, num_at (by omega)]
  refine ⟨rfl, ?_⟩
  unfold RS.op
  dsimp only
  rw [num_at h.id, int_at (by omega), text_at h.texts.1, text_at h.texts.2.1, text_at h.texts.2.2, int_at (by omega), num_at h.up, ints_at (by
    intro v hv
    obtain ⟨p, hp, rfl⟩ := List.mem_map.1 hv
    have := h3.2 p hp
    omega) (by rw [List.length_map]; omega), bytes_at (by have := h.data; omega)]
  dsimp only
  have e1 : (o.parts.map Int.toNat).map Int.ofNat = o.parts := by
    rw [List.map_map]
    conv => rhs; rw [← List.map_id o.parts]
    refine List.map_congr_left fun p hp => ?_
    have := h3.2 p hp
    show ((p.toNat : Nat) : Int) = p
    omega
  rw [e1, show ((o.kind.toNat : Nat) : Int) = o.kind by omega, show ((o.n.toNat : Nat) : Int) = o.n by omega]

theorem emp_size {s : ByteArray} (h : emp s = true) : s.size = 0 := by
  have e : s.data.toList.length = s.size := by simp
  have h1 : s.data.toList = [] := by simpa [emp] using h
  rw [h1] at e; exact e.symm
theorem name_size {s : ByteArray} (h : nameOK s.data.toList = true) : s.size ≤ 64 := by
  have e : s.data.toList.length = s.size := by simp
  simp only [nameOK, Bool.and_eq_true, decide_eq_true_eq] at h; omega
theorem parts_in {l : List Int} (h : partsOK l = true) : l.length ≤ 10000 ∧ ∀ p, p ∈ l → 0 ≤ p ∧ p ≤ 10000 := by
  simp only [partsOK, Bool.and_eq_true, decide_eq_true_eq] at h
  refine ⟨h.1.2, fun p hp => ?_⟩
  have hr := h.2
  unfold rises at hr
  rw [List.all_eq_true] at hr
  obtain ⟨i, hi, rfl⟩ := List.mem_iff_getElem.1 hp
  have := hr i (List.mem_range.2 hi)
  have hg : l.getD i 0 = l[i] := by rw [List.getD_eq_getElem?_getD, List.getElem?_eq_getElem hi]; rfl
  simp only [rise1, Bool.and_eq_true, decide_eq_true_eq, hg] at this
  omega
theorem no_parts {l : List Int} (h : l.length = 0) : l.length ≤ 10000 ∧ ∀ p, p ∈ l → 0 ≤ p ∧ p ≤ 10000 := by
  obtain rfl := List.eq_nil_of_length_eq_zero h
  exact ⟨by simp, by simp⟩
theorem chk_fine {o : OM} (hc : o.chkB = true) (hid : o.id ≤ 18446744073709551615) (hu : o.upload ≤ 18446744073709551615) : o.fine := by
  have hk := chk_kind hc
  have hl := chk_len hc
  have key : (0 ≤ o.n ∧ o.n ≤ 10000) ∧ (o.parts.length ≤ 10000 ∧ ∀ p, p ∈ o.parts → 0 ≤ p ∧ p ≤ 10000) ∧ (o.bucket.size ≤ 1024 ∧ o.key.size ≤ 1024 ∧ o.after.size ≤ 1024) := by
    rw [chk_eq] at hc
    unfold OM.chkR at hc
    split at hc
    · simp only [Bool.and_eq_true, decide_eq_true_eq] at hc
      obtain ⟨⟨⟨⟨⟨⟨a, b⟩, c⟩, d⟩, e⟩, f⟩, g⟩ := hc
      have := name_size a; have := emp_size b; have := emp_size c
      exact ⟨by omega, no_parts f, by omega⟩
    split at hc
    · simp only [Bool.and_eq_true, decide_eq_true_eq, longB] at hc
      obtain ⟨⟨⟨⟨⟨⟨a, b⟩, c⟩, d⟩, e⟩, f⟩, g⟩ := hc
      have := name_size a; have := emp_size c
      exact ⟨by omega, no_parts f, by omega⟩
    split at hc
    · simp only [Bool.and_eq_true, decide_eq_true_eq, longB] at hc
      obtain ⟨⟨⟨⟨⟨⟨a, b⟩, c⟩, d⟩, e⟩, f⟩, g⟩ := hc
      have := name_size a; have := emp_size c
      exact ⟨by omega, no_parts f, by omega⟩
    split at hc
    · simp only [Bool.and_eq_true, decide_eq_true_eq] at hc
      obtain ⟨⟨⟨⟨⟨⟨⟨a, b⟩, c⟩, d⟩, d2⟩, e⟩, f⟩, g⟩ := hc
      have := name_size a
      exact ⟨by omega, no_parts f, by omega⟩
    split at hc
    · simp only [Bool.and_eq_true, decide_eq_true_eq] at hc
      obtain ⟨⟨⟨⟨⟨⟨a, b⟩, c⟩, d⟩, d2⟩, f⟩, g⟩ := hc
      have := emp_size a; have := emp_size b; have := emp_size c
      exact ⟨by omega, no_parts f, by omega⟩
    split at hc
    · simp only [Bool.and_eq_true, decide_eq_true_eq] at hc
      obtain ⟨⟨⟨⟨⟨a, b⟩, c⟩, d⟩, f⟩, g⟩ := hc
      have := emp_size a; have := emp_size b; have := emp_size c
      exact ⟨by omega, parts_in f, by omega⟩
    split at hc
    · simp only [Bool.and_eq_true, decide_eq_true_eq] at hc
      obtain ⟨⟨⟨⟨⟨a, b⟩, c⟩, d⟩, f⟩, g⟩ := hc
      have := emp_size a; have := emp_size b; have := emp_size c
      exact ⟨by omega, no_parts f, by omega⟩
    · cases hc
  exact ⟨hid, ⟨by omega, hk.2⟩, key.1, hu, key.2.1, key.2.2, hl⟩
end Go.Proofs.Ytidbcaimgahllaa
namespace Go.X
set_option linter.unusedSectionVars false
set_option linter.unusedSimpArgs false
set_option linter.unusedVariables false

class OwnB (A : List Assn) (b : Nat) (E sz off n c : outParam Nat) (xs : outParam (List Value)) (D : outParam (List Assn)) : Prop where
  perm : A.Perm (own E sz (.slice (some ⟨b, off, none⟩) n c) xs :: D)
instance OwnB.head {A : List Assn} {b E sz off n c : Nat} {xs : List Value} : OwnB (own E sz (.slice (some ⟨b, off, none⟩) n c) xs :: A) b E sz off n c xs A := ⟨List.Perm.refl _⟩
instance (priority := 900) OwnB.tail {A D : List Assn} {Y : Assn} {b E sz off n c : Nat} {xs : List Value} [h : OwnB A b E sz off n c xs D] : OwnB (Y :: A) b E sz off n c xs (Y :: D) := ⟨(h.perm.cons Y).trans (List.Perm.swap _ _ _)⟩
section
variable {P : Program} {L : Slots} {A D : List Assn} {ty T : TypeId} {x y : Operand}
theorem C.st1O {E sz b off n c o : Nat} (j : Nat) {xs : List Value} {v : Value} (hs : ∀ w, (sizeOf T).run P w = .ok 1 w) (ex : ev L x = some (.pointer (some ⟨b, o, none⟩))) (ey : ev L y = some v) (hv : oneC v = true) [h : OwnB A b E sz off n c xs D]
    (hoj : o = off + j) (hj : j + 1 ≤ xs.length) : OpC P (.store T x y) ty L A (fun u B => u = undef ∧ B = own E sz (.slice (some ⟨b, off, none⟩) n c) (xs.set j v) :: D) :=
  (C.stO (A := own E sz (.slice (some ⟨b, off, none⟩) n c) xs :: D) 0 hs ex ey hv rfl hoj hj).imp fun _ s => s.perm h.perm
end

class OwnAt (A : List Assn) (v : Value) (E sz : Nat) (xs : outParam (List Value)) (D : outParam (List Assn)) : Prop where
  imp : ∀ h, HSat h A → HSat h (own E sz v xs :: D)
instance OwnAt.head {A : List Assn} {v : Value} {E sz : Nat} {xs : List Value} : OwnAt (own E sz v xs :: A) v E sz xs A := ⟨fun _ s => s⟩
instance (priority := 900) OwnAt.tail {A D : List Assn} {Y : Assn} {v : Value} {E sz : Nat} {xs : List Value} [h : OwnAt A v E sz xs D] : OwnAt (Y :: A) v E sz xs (Y :: D) :=
  ⟨fun _ s => (HSat.under s fun k q => h.imp k q).perm (List.Perm.swap _ _ _)⟩
section
variable {P : Program} {L : Slots} {A D : List Assn} {W0 : World} {N : Nat} {l : List Oper} {NQ : List Nat} {Q : Exit → Act → World → Prop} {S : List Nat} {Dm Em : List Assn}
theorem C.appI {E sz n c m c2 : Nat} {T T' E2 : TypeId} {ti : TypeInfo} {zv : Value} {p p2 : Option Addr} {xs ys : List Value} {x y : Operand} {ty : TypeId}
    (ht : ∀ w, (underlying T).run P w = .ok (.slice E) w) (ht2 : ∀ w, (underlying T').run P w = .ok (.slice E2) w)
    (hi : ∀ w, (typeInfo E).run P w = .ok ti w) (hs : ∀ w, (sizeOf E).run P w = .ok sz w) (hz : ∀ w, (zeroValue E).run P w = .ok zv w) (hzs : zv.cells.size = sz)
    (ex : evs L [x, y] = some [.slice p n c, .slice p2 m c2]) [h : OwnAt A (.slice p n c) E sz xs D]
    (hsrc : SlR (own E sz (.slice p n c) xs :: D) sz (.slice p2 m c2) ys) (hone : ∀ v, v ∈ ys → oneC v = true)
    (hfit : (n + m) * ti.bytes ≤ 140737488355328) (hb0 : ti.bytes ≠ 0) :
    OpC P (.call { callee := .builtin .append, args := #[x, y], argTypes := #[T, T'] }) ty L A (fun v B => ∃ p' c', v = .slice p' (n + m) c' ∧ B = own E sz (.slice p' (n + m) c') (xs ++ ys) :: D) :=
  (C.app (A := own E sz (.slice p n c) xs :: D) (i := 0) ht ht2 hi hs hz hzs ex rfl hsrc hone hfit hb0).imp h.imp
theorem RGi.appI {i : Nat} {d E sz n c m c2 : Nat} {T T' E2 : TypeId} {ti : TypeInfo} {zv : Value} {p p2 : Option Addr} {xs ys : List Value} {x y : Operand} {ty : TypeId} {pos : String} {aft : Array Edge} {g : Option (Nat × Bool)}
    (ho : l[i]? = some ⟨some d, .call { callee := .builtin .append, args := #[x, y], argTypes := #[T, T'] }, ty, pos, aft, g⟩)
    (hi : memN i NQ = true) (hN : Nat.blt d N = true) (hg : guardL l.toArray g L = some true)
    (ht : ∀ w, (underlying T).run P w = .ok (.slice E) w) (ht2 : ∀ w, (underlying T').run P w = .ok (.slice E2) w)
    (hti : ∀ w, (typeInfo E).run P w = .ok ti w) (hs : ∀ w, (sizeOf E).run P w = .ok sz w) (hz : ∀ w, (zeroValue E).run P w = .ok zv w) (hzs : zv.cells.size = sz)
    (ex : evs L [x, y] = some [.slice p n c, .slice p2 m c2]) [h : OwnAt Em (.slice p n c) E sz xs D]
    (hsrc : SlR (own E sz (.slice p n c) xs :: (Dm ++ D)) sz (.slice p2 m c2) ys) (hone : ∀ v, v ∈ ys → oneC v = true)
    (hfit : (n + m) * ti.bytes ≤ 140737488355328) (hb0 : ti.bytes ≠ 0)
    (k : ∀ p' c', RG P W0 N l NQ Q (i :: S) ((d, .slice p' (n + m) c') :: L) Dm (own E sz (.slice p' (n + m) c') (xs ++ ys) :: D)) : RGi P W0 N l NQ Q S L Dm Em i := by
  have im : ∀ k, HSat k (Dm ++ Em) → HSat k (own E sz (.slice p n c) xs :: (Dm ++ D)) := by
    intro k s
    obtain ⟨h1, h2, a, b, d, u, v⟩ := s.append
    exact (HSat.of_append a (h.imp _ b) d u v).perm List.perm_middle
  refine RGi.one ho hi hN hg ((C.app (A := own E sz (.slice p n c) xs :: (Dm ++ D)) (i := 0) ht ht2 hti hs hz hzs ex rfl hsrc hone hfit hb0).imp im) ?_
  rintro v B ⟨p', c', rfl, rfl⟩
  exact ⟨_, List.perm_middle.symm, k p' c'⟩
end

section
variable {P : Program} {fn : Func} {N : Nat} {W0 : World} {L : Slots} {A B D : List Assn} {F : Assn} {R : Value → List Assn → Prop} {s t : Nat} {T : TypeId} {b : Nat} {vs : List Value} {u : Value} {G : Act → World → Prop}
theorem J.unpackI (Bs : List Assn) [h : PickO A (star Bs) D] (j : J W0 N L (Bs ++ D) G) : J W0 N L A G := (j.imp fun _ s => HSat.unpack s).perm h.perm
theorem J.openI {α : Type} (U : Assn) {Bs : α → List Assn} {p : α → Prop} (f : ∀ h, U h → ∃ x, p x ∧ HSat h (Bs x)) [h : PickO A U D] (j : ∀ x, p x → J W0 N L (Bs x ++ D) G) : J W0 N L A G :=
  by
  refine ⟨fun a w u s => ?_⟩
  obtain ⟨h1, h2, hb, hd, d, s1, s2⟩ := s.heap.perm h.perm
  obtain ⟨x, px, hx⟩ := f h1 hb
  exact (j x px).run a w u ⟨s.os, s.tape, s.out, HSat.of_append hx hd d s1 s2⟩
end
end Go.X
namespace Go.X
theorem SlR.ptI {D : List Assn} {b n c sz : Nat} {l : List Value} {e : TypeId} {z : Nat × Nat} {KK : Obj → List Assn} [h : AtPt D b (.cells l.toArray e z) KK] (hl : l.length = n * sz) : SlR D sz (.slice (some ⟨b, 0, none⟩) n c) l := by
  obtain ⟨i, h1, _⟩ := h.at_
  exact SlR.pt i h1 hl (fun j u hj => by rw [Nat.zero_add]; exact hj)
end Go.X
namespace Go.X
theorem Reads.inI {D F : List Assn} {X : Assn} {b o : Nat} {v : Value} (h : Reads [X] b o v) [k : PickO D X F] : Reads D b o v := by
  obtain ⟨i, hi⟩ := List.getElem?_of_mem (k.perm.mem_iff.2 List.mem_cons_self)
  exact h.within hi
end Go.X
namespace Go.X.G
set_option linter.unusedSectionVars false
set_option linter.unusedSimpArgs false
set_option linter.unusedVariables false
variable {κ ν : Type} [DecidableEq κ]
section ops
variable {P : Program} {L : Slots} {A D F : List Assn} {ty T K E : TypeId} {x y z : Operand} {enc : κ → Value} {rep : κ → ν → Value → Assn} {S : List (κ × ν)} {es : List (Ent κ ν)} {c : Nat} {K1 K2 : Obj → List Assn}
theorem C.mapPutI {lt : κ → κ → Bool} {r : Nat} {k : κ} {val : Value} (rep : κ → ν → Value → Assn) (S : List (κ × ν)) (v : ν) (o : Ord3 lt) (hS : Srtd lt S) (hT : ∀ w, (underlying T).run P w = .ok (.map K E) w) (hk : Keyed P K enc) (ex : ev L x = some (.map (some r))) (ey : ev L y = some (enc k)) (ez : ev L z = some val)
    [h : PickO A (MapAt enc rep r S) D] : OpC P (.mapUpdate T x y z) ty L A (fun u B => u = undef ∧ B = MapHole enc rep r (sput lt k v S) k val :: D) :=
  (C.mapPut (A := MapAt enc rep r S :: D) (rep := rep) 0 v o hS hT hk ex ey ez rfl).imp fun _ s => s.perm h.perm
end ops
section
variable {W0 : World} {N : Nat} {L : Slots} {A D : List Assn} {Gl : Act → World → Prop} {enc : κ → Value} {rep : κ → ν → Value → Assn} {r : Nat} {S : List (κ × ν)} {k : κ} {val : Value} {lt : κ → κ → Bool}
end
variable {lt : κ → κ → Bool} {S T : List (κ × ν)} {es : List (Ent κ ν)} {c : Nat} {seen : List Nat} {e : Ent κ ν}
end Go.X.G
namespace Go.X
theorem J.tellsI {W0 : World} {N : Nat} {L : Slots} {A D : List Assn} {G : Act → World → Prop} (X : Assn) {p : Prop} [k : PickO A X D] (f : ∀ h, X h → p) (h : p → J W0 N L A G) : J W0 N L A G := by
  obtain ⟨i, hi⟩ := List.getElem?_of_mem (k.perm.mem_iff.2 List.mem_cons_self)
  exact J.tells i hi f h
end Go.X
namespace Go.X
set_option linter.unusedSectionVars false
set_option linter.unusedSimpArgs false
set_option linter.unusedVariables false
section
variable {P : Program} {L : Slots} {D A F Ain : List Assn} {ty : TypeId} {x y : Operand} {k : IntKind} {a : Int} {R : Value → List Assn → Prop} {f : FuncId} {argTypes : Array TypeId}
theorem Q.maxI {m : Int} {ts : Array TypeId} (e : evs L [x, y] = some [.int k a, .int k m]) : OpQ P (.call { callee := .builtin .max, args := #[x, y], argTypes := ts }) ty L D (.int k (if m > a then m else a)) :=
  OpQ.built (xs := [x, y]) e fun w cs => by simp [builtin, Builtin.max_, Builtin.max2]
theorem Q.slL0 {T E len cap sz : Nat} {p : Option Addr} {l : Operand} (hu : ∀ w, (underlying T).run P w = .ok (.slice E) w) (hs : ∀ w, (sizeOf E).run P w = .ok sz w) (ex : ev L x = some (.slice p len cap)) (el : ev L l = some (.int k 0)) :
    OpQ P (.slice T x (some l) none none) ty L D (.slice p len cap) :=
  .pure_ fun _ _ _ _ a w ag => by
    have e1 := ag.at_ ex (by simp [Op.operands])
    have e2 := ag.at_ el (by simp [Op.operands])
    simp [execOp, e1, e2, Instr.sliceAt, Instr.slice, hu, Instr.sliceBounds, Instr.sliceBound, asIntOf, hs]
    by_cases hc : cap = 0 <;> cases p <;> simp [hc, Addr.add]
theorem slr_tail {T E : TypeId} (hu : ∀ w, (underlying T).run P w = .ok (.slice E) w) (hs : ∀ w, (sizeOf E).run P w = .ok 1 w) {D0 : List Assn} {p : Option Addr} {n c j : Nat} {xs : List Value} (h : SlR D0 1 (.slice p n c) xs) (hk : j ≤ n) (hc : n ≤ c) :
    ∃ p' c', SlR D0 1 (.slice p' (n - j) c') (xs.drop j) ∧ n - j ≤ c' ∧ ∀ {L : Slots} {D : List Assn} {ty : TypeId} {x l : Operand} {ik : IntKind}, ev L x = some (.slice p n c) → ev L l = some (.int ik (j : Int)) → OpQ P (.slice T x (some l) none none) ty L D (.slice p' (n - j) c') := by
  by_cases e : n = 0
  · subst e
    obtain rfl : j = 0 := by omega
    exact ⟨p, c, h, hc, fun ex el => Q.slL0 hu hs ex el⟩
  · have hl := h.len
    obtain ⟨b, off, rfl, hrd⟩ := h.some_ (by omega)
    refine ⟨some ⟨b, off + (if c = j then 0 else j) * 1, none⟩, c - j, ?_, by omega, fun ex el => by
      rename_i L D ty x l ik
      have := Q.slL (P := P) (D := D) (ty := ty) hu hs ex el (by omega) (by omega)
      simpa using this⟩
    by_cases e2 : n = j
    · refine .inl ⟨_, c - j, by rw [show n - j = 0 by omega], ?_⟩
      exact List.drop_eq_nil_of_le (by omega)
    · rw [if_neg (by omega), Nat.mul_one]
      refine .inr ⟨b, off + j, n - j, c - j, rfl, by rw [List.length_drop]; omega, fun i u hu => ?_⟩
      rw [List.getElem?_drop] at hu
      have := hrd (j + i) u hu
      rwa [← Nat.add_assoc] at this
theorem OpC.callvP {t : Tmp} {xs : List Operand} {args first cap : List Value} (hc : ∀ (args : Array Value) (w : World), (callFunc f args).run P w = .ok (.enter f args) w)
    (hv : find t L = some (.func (.func f) first.toArray cap.toArray)) (he : evs L xs = some args) (hs : FSpec P f (first ++ args ++ cap) Ain R) [hp : PickL A Ain F] :
    OpC P (.call { callee := .value (.tmp t), args := xs.toArray, argTypes }) ty L A (fun v B => ∃ B1, R v B1 ∧ B = B1 ++ F) := by
  refine ⟨fun dst pos aft g a W0 w ag s K Q k => ?_⟩
  have hx : xs.map a.eval = args := evs_map (fun x hx => ag x (by simp [Op.operands, Call.operands, hx])) he
  have ha : (xs.toArray).map a.eval = args.toArray := by simp [hx]
  have hf : a.eval (.tmp t) = .func (.func f) first.toArray cap.toArray := ag _ (by simp [Op.operands, Call.operands]) _ hv
  unfold Oper.wp
  have hrun : (execOp a.eval ⟨dst, .call { callee := .value (.tmp t), args := xs.toArray, argTypes }, ty, pos, aft, g⟩).run P w = .ok (.enter f (first ++ args ++ cap).toArray) w := by
    simp only [execOp, resolve, hf, Deferred.ofValue, invoke, Sem.run_bind, Sem.run_pure, Result.andThen_ok, ha]
    simpa using hc (first ++ args ++ cap).toArray w
  rw [hrun, Oper.upon_enter]
  have s' : Sat W0 w (Ain ++ [star F]) := by
    refine (s.perm hp.perm).imp fun k t => ?_
    obtain ⟨h1, h2, p, q, d, u, v⟩ := t.append
    exact HSat.of_append p (Bs := [star F]) ⟨h2, fun _ => none, q, trivial, fun _ => Or.inr rfl, Sub.refl _, fun _ _ e => nomatch e⟩ d u v
  refine (hs.call W0 w (star F) s').mono ?_
  rintro e w' ⟨v, B, rfl, r, t⟩
  refine k v (B ++ F) w' ⟨B, r, rfl⟩ (t.imp fun k t => ?_)
  obtain ⟨h1, h2, p, ⟨k1, k2, q, _, _, s1, _⟩, d, u, v⟩ := t.append
  exact HSat.of_append p (HSat.mono q s1) d u v
end

theorem Q.eql2 {P : Program} {L : Slots} {D : List Assn} {ty T T' : TypeId} {x y : Operand} {f g : Field} {k1 k2 : IntKind} {a b c d : Int} (hT : P.underlying T = some (.struct #[f, g])) (hs : P.stoodInHeld T = false) (hg : P.eqGuardType P.depth T = false)
    (h1 : P.underlying f.type = some (.int k1)) (h2 : P.underlying g.type = some (.int k2)) (a1 : ∀ w, (isAgg f.type).run P w = .ok false w) (a2 : ∀ w, (isAgg g.type).run P w = .ok false w) (n1 : (f.name == "_") = false) (n2 : (g.name == "_") = false) (o1 : f.offset = 0) (o2 : g.offset = 1)
    (ex : ev L x = some (.agg #[.int k1 a, .int k2 b])) (ey : ev L y = some (.agg #[.int k1 c, .int k2 d])) : OpQ P (.binOp .eql T x y T') ty L D (.bool (decide (a = c) && decide (b = d))) :=
  Q.bin ex ey fun w => by
    have hf : P.fieldsOf T = #[f, g] := by unfold Program.fieldsOf; rw [hT]
    have m1 : f.name ≠ "_" := by simpa using n1
    have m2 : g.name ≠ "_" := by simpa using n2
    rw [Sem.run_bind, run_eqGuard_agg w .eql T x y _ _ hg, Result.andThen_ok, run_eql_struct, run_equalIn_struct w 9999 T _ _ (by rw [hf]; exact hT) hs, hf]
    have e1 : (Op.equalIn 9999 f.type (.int k1 a) (.int k1 c)).run P w = .ok (a == c) w := run_equalIn_int (P := P) w 9998 f.type k1 k1 a c h1
    have e2 : (Op.equalIn 9999 g.type (.int k2 b) (.int k2 d)).run P w = .ok (b == d) w := run_equalIn_int (P := P) w 9998 g.type k2 k2 b d h2
    simp [Op.eqFields, m1, m2, part, a1, a2, o1, o2, e1, e2]
    by_cases hac : a = c <;> by_cases hbd : b = d <;> simp [hac, hbd]

section
variable {P : Program} {fn : Func} {N : Nat} {W0 : World} {L : Slots} {A B D : List Assn} {F : Assn} {R : Value → List Assn → Prop} {s s2 t t2 : Nat} {T T2 : TypeId} {b b2 : Nat} {vs vs2 : List Value} {u u2 : Value}
theorem J.retC4I (B : List Assn) (hr : fn.results = #[.cell s T, .cell s2 T2, .tmp t, .tmp t2]) (hv : find s L = some (.pointer (some ⟨b, 0, none⟩))) (hv2 : find s2 L = some (.pointer (some ⟨b2, 0, none⟩))) (ht : find t L = some u) (ht2 : find t2 L = some u2)
    (ha : ∀ w, (isAgg T).run P w = .ok true w) (hs : ∀ w, (sizeOf T).run P w = .ok vs.length w) (hrd : ReadsN A b 0 vs) (ha2 : ∀ w, (isAgg T2).run P w = .ok true w) (hs2 : ∀ w, (sizeOf T2).run P w = .ok vs2.length w) (hrd2 : ReadsN A b2 0 vs2)
    (hR : R (.tuple #[.agg vs.toArray, .agg vs2.toArray, u, u2]) B) [h : PickL A (B ++ [F]) D] : J W0 N L A (bodyPost P fn (RetQ W0 R F) .ret) := by
  refine ⟨fun a w f q => ?_⟩
  have hg : (a.tmps[s]?).getD undef = .pointer (some ⟨b, 0, none⟩) := by rw [f.get s _ hv]; rfl
  have hg2 : (a.tmps[s2]?).getD undef = .pointer (some ⟨b2, 0, none⟩) := by rw [f.get s2 _ hv2]; rfl
  have hg3 : (a.tmps[t]?).getD undef = u := by rw [f.get t _ ht]; rfl
  have hg4 : (a.tmps[t2]?).getD undef = u2 := by rw [f.get t2 _ ht2]; rfl
  have hres : (results fn a.tmps).run P w = .ok (.tuple #[.agg vs.toArray, .agg vs2.toArray, u, u2]) w := by
    simp [results, hr, hg, hg2, hg3, hg4, asAddr, run_loadAgg ha hs hrd q, run_loadAgg ha2 hs2 hrd2 q]
  exact bodyPost_ret hres f.defers ⟨_, B, rfl, hR, q.imp fun k q => HSat.keepI (A := A) (F := D) q⟩
end

section
variable {D F : List Assn} {b o : Nat} {X : Assn} {vs l : List Value} {e : TypeId} {z : Nat × Nat} {KK : Obj → List Assn}
theorem ReadsN.inI (h : ReadsN [X] b o vs) [k : PickO D X F] : ReadsN D b o vs := by
  obtain ⟨i, hi⟩ := List.getElem?_of_mem (k.perm.mem_iff.2 List.mem_cons_self)
  exact h.within hi
theorem rnSub (k : Nat) [h : AtPt D b (.cells l.toArray e z) KK] (hv : (l.drop k).take vs.length = vs) : ReadsN D b k vs := by
  intro j u hu
  have hj := (List.getElem?_eq_some_iff.1 hu).1
  have : l[k + j]? = some u := by
    rw [← List.getElem?_drop, ← List.getElem?_take_of_lt hj, hv]; exact hu
  exact rdI this
theorem star_snoc {α : Type} {f : α → Assn} {l : List α} (x : α) : ∀ h, HSat h [f x, star (l.map f)] → star ((l ++ [x]).map f) h := by
  intro h s
  have := star_ins1 (f := f) (l := l) l.length x h s
  simpa using this
end

section
variable {P : Program} {W0 : World} {N : Nat} {l : List Oper} {NQ : List Nat} {Q : Exit → Act → World → Prop} {S : List Nat} {L : Slots} {D E : List Assn}
variable {ty : TypeId} {pos : String} {aft : Array Edge} {g : Option (Nat × Bool)} {T : TypeId} {x y : Operand} {b off : Nat} {m m' : List Value} {e : TypeId} {z : Nat × Nat} {v : Value} {B : List Assn} {KK : Obj → List Assn}
theorem RG.stkI (i : Nat) (hR : RegOK l NQ) (hf : front l S = [i]) (ho : l[i]? = some ⟨none, .store T x y, ty, pos, aft, g⟩) (hi : memN i NQ = true) (hg : guardL l.toArray g L = some true)
    (hs : ∀ w, (sizeOf T).run P w = .ok 1 w) (ex : ev L x = some (.pointer (some ⟨b, off, none⟩))) (ey : ev L y = some v) (hv : oneC v = true) [h : AtPt E b (.cells m.toArray e z) KK]
    (hl : setV off v m = some m') (hz : (decide (z.1 ≤ off) && decide (off < z.2)) = false) (hB : normA (KK (.cells m'.toArray e z)) = some B) (k : RG P W0 N l NQ Q (i :: S) L D B) : RG P W0 N l NQ Q S L D E := by
  have hop := C.stI (P := P) (L := L) (ty := ty) (A := D ++ E) (KK := fun n => D ++ KK n) (h := AtPt.right) hs ex ey hv hl hz (normA_some _)
  refine RG.one i hR hf ho hi rfl hg hop ?_
  rintro _ _ ⟨rfl, rfl⟩
  have e : KK (.cells m'.toArray e z) = B := by
    rw [normA_some] at hB; exact Option.some.inj hB
  exact ⟨B, by rw [e], k⟩
end

namespace G
variable {κ ν : Type} [DecidableEq κ]
def valRep (f : ν → Value) (_ : κ) (v : ν) (val : Value) : Assn := fun _ => val = f v
section
variable {P : Program} {L : Slots} {A D F : List Assn} {ty : TypeId} {T K E : TypeId} {x y z : Operand} {enc : κ → Value} {lt : κ → κ → Bool} {r : Nat} {k : κ} {f : ν → Value}
theorem val_shut {S : List (κ × ν)} {v : ν} (o : Ord3 lt) (hS : Srtd lt S) : ∀ h, MapHole enc (valRep f) r S k (f v) h → MapAt enc (valRep f) r (sput lt k v S) h := fun h hh =>
  MapHole.back (rep := valRep f) (v' := v) o hS h (HSat.two (h1 := fun _ => none) (show valRep f k v (f v) (fun _ => none) from rfl) hh (fun _ => Or.inl rfl) (fun _ _ e => nomatch e) (Sub.refl _))
theorem val_focus {S : List (κ × ν)} {v : ν} (hv : sget k S = some v) : ∀ h, MapAt enc (valRep f) r S h → ∃ x : Unit, True ∧ HSat h [MapHole enc (valRep f) r S k (f v)] := by
  intro h hh
  obtain ⟨val, h1, h2, e, ⟨k1, k2, q, _, _, s1, _⟩, d, s, t⟩ := MapAt.focus hv h hh
  have e' : val = f v := e
  subst e'
  exact ⟨(), trivial, HSat.mono (HSat.one q) (s1.trans t)⟩
theorem val_back {S : List (κ × ν)} {v : ν} (o : Ord3 lt) (hS : Srtd lt S) (hv : sget k S = some v) : ∀ (x : Unit), True → ∀ h, HSat h [MapHole enc (valRep f) r S k (f v)] → MapAt enc (valRep f) r S h := by
  rintro _ _ h ⟨k1, k2, q, _, _, s1, _⟩
  have h1 : HSat h [MapHole enc (valRep f) r S k (f v)] := HSat.mono (HSat.one q) s1
  obtain ⟨j1, j2, a, b, c, e, g⟩ := h1
  have := val_shut o hS j1 a
  rw [sput_same o hS hv] at this
  obtain ⟨x, p1, p2⟩ := this
  exact ⟨x, p1, p2.mono e⟩
theorem Q.lkV (S : List (κ × ν)) {zv : Value} (o : Ord3 lt) (hS : Srtd lt S) (hT : ∀ w, (underlying T).run P w = .ok (.map K E) w) (hk : Keyed P K enc) (hz : ∀ w, (zeroValue E).run P w = .ok zv w) (ex : ev L x = some (.map (some r))) (ey : ev L y = some (enc k))
    [h : PickO D (MapAt enc (valRep f) r S) F] : OpQ P (.lookup T x y false) ty L D (((sget k S).map f).getD zv) := by
  obtain ⟨i, hi⟩ := List.getElem?_of_mem (h.perm.mem_iff.2 List.mem_cons_self)
  cases hv : sget k S with
  | none => exact Q.lkNo hT hk hz ex ey hi hv
  | some v => exact OpQ.opened (α := Unit) (Bs := fun _ => [MapHole enc (valRep f) r S k (f v)]) (p := fun _ => True) hi (val_focus hv) (val_back o hS hv) (fun _ _ => Q.lkYes (i := 0) hT hk hz ex ey rfl)
theorem Q.lk2V (S : List (κ × ν)) {zv : Value} (o : Ord3 lt) (hS : Srtd lt S) (hT : ∀ w, (underlying T).run P w = .ok (.map K E) w) (hk : Keyed P K enc) (hz : ∀ w, (zeroValue E).run P w = .ok zv w) (ex : ev L x = some (.map (some r))) (ey : ev L y = some (enc k))
    [h : PickO D (MapAt enc (valRep f) r S) F] : OpQ P (.lookup T x y true) ty L D (.tuple #[((sget k S).map f).getD zv, .bool (sget k S).isSome]) := by
  obtain ⟨i, hi⟩ := List.getElem?_of_mem (h.perm.mem_iff.2 List.mem_cons_self)
  cases hv : sget k S with
  | none => exact Q.lk2No hT hk hz ex ey hi hv
  | some v => exact OpQ.opened (α := Unit) (Bs := fun _ => [MapHole enc (valRep f) r S k (f v)]) (p := fun _ => True) hi (val_focus hv) (val_back o hS hv) (fun _ _ => Q.lk2Yes (i := 0) hT hk hz ex ey rfl)
theorem C.putV (f : ν → Value) (S : List (κ × ν)) (v : ν) (o : Ord3 lt) (hS : Srtd lt S) (hT : ∀ w, (underlying T).run P w = .ok (.map K E) w) (hk : Keyed P K enc) (ex : ev L x = some (.map (some r))) (ey : ev L y = some (enc k)) (ez : ev L z = some (f v))
    [h : PickO A (MapAt enc (valRep f) r S) D] : OpC P (.mapUpdate T x y z) ty L A (fun u B => u = undef ∧ B = MapAt enc (valRep f) r (sput lt k v S) :: D) := by
  refine (C.mapPutI (rep := valRep f) S v o hS hT hk ex ey ez).shutTo ?_
  rintro u B ⟨rfl, rfl⟩
  refine ⟨_, ⟨rfl, rfl⟩, fun h s => HSat.imp s fun h hh => ?_⟩
  have := val_shut (v := v) o (srtd_put o hS k v) h hh
  rwa [sput_put o hS] at this
end
end G
end Go.X
namespace Go.Proofs.Ytidbcaimgahllaa
set_option linter.unusedSectionVars false
set_option linter.unusedSimpArgs false
set_option linter.unusedVariables false
open Go.X

def smallB (w : Nat) : Bool := decide (w < 128)

theorem readNumber_spec (G : Assn) (p : Option Addr) (n c : Nat) (bs : List UInt8) (hr : SlR [G] 1 (.slice p n c) (bytesV bs)) (hn : n ≤ 1099511627776) :
    FSpec Try.prog 41 [.slice p n c] [G] (fun u B => u = .tuple #[.int .u64 (rdN bs).1, .int .i64 (rdN bs).2.1, .int .i64 (rdN bs).2.2] ∧ B = [G]) := by
  have hlen : bs.length = n := by have := hr.len; simp [bytesV] at this; omega
  refine FSpec.of Try.func41 rfl Try.ntmps41 rfl fun W0 F => ?_
  refine J.seq <| J.region <| J.p rfl (Q.asg rfl) <| J.p rfl (Q.asg rfl) <| J.p rfl (Q.asg rfl) <| J.nil <| J.then_n <| J.seq <| J.region <| J.p rfl (Q.asg rfl) <| J.nil <| J.then_n <| J.seq <| J.seq <| J.region <| J.m rfl <| J.p rfl (Q.lenSl Try.runUnderlying25 rfl) <| J.m rfl <| J.nil <| J.then_n <| J.block ?_
  refine J.loop (fun z : Nat × Nat => z.1 ≤ n ∧ z.1 ≤ 9 ∧ rdGo z.1 z.2 (bs.drop z.1) = rdN bs ∧ z.2 < 2 ^ (7 * z.1)) (fun z => n - z.1) (fun z => [(0, .slice p n c), (5, .int .u64 z.2), (8, .slice p n c), (9, .int .i64 n), (10, .int .i64 z.1)]) (fun _ => [G, F]) (0, 0) ⟨Nat.zero_le _, Nat.zero_le _, rfl, by show 0 < 2 ^ 0; decide⟩ ⟨rfl, rfl, rfl, rfl, rfl, trivial⟩ rfl fun z hz => ?_
  obtain ⟨i, acc⟩ := z
  obtain ⟨h1, h2, h3, h4⟩ := hz
  dsimp only at h1 h2 h3 h4
  refine J.seq <| J.region <| J.p rfl (Q.lss rfl rfl) <| J.nil <| J.then_n <| J.seq ?_
  refine J.cases 11 rfl (fun hc11 => ?_) (fun hc11 => ?_)
  ·
   replace hc11 := X.nm hc11
   refine J.cond_t rfl <| J.cskip <| J.then_n <| J.seq <| J.block <| J.seq ?_
   have hil : i < n := by omega
   obtain ⟨b, off, hp, hrd⟩ := hr.some_ (by omega)
   obtain ⟨u8, hu8⟩ : ∃ u8, bs[i]? = some u8 := ⟨_, List.getElem?_eq_getElem (by omega)⟩
   have hd : bs.drop i = u8 :: bs.drop (i + 1) := by
    obtain ⟨q1, q2⟩ := List.getElem?_eq_some_iff.1 hu8
    rw [List.drop_eq_getElem_cons q1, q2]
   obtain ⟨c0, hc0⟩ : ∃ c0, c0 = u8.toNat := ⟨_, rfl⟩
   have f2 : c0 < 256 := hc0 ▸ u8.toNat_lt
   have hst := h3
   rw [hd] at hst
   simp only [rdGo] at hst
   rw [← hc0] at hst
   refine J.slot 8 (.slice (some ⟨b, off, none⟩) n c) rfl (by rw [hp]) ?_
   refine J.region <| J.m rfl <| J.p rfl (Q.ia Try.runUnderlying25 Try.sizeOf5 rfl rfl (by omega) (by omega)) ?_
   refine J.p rfl (Q.ld Try.isAgg5 rfl (((hrd i (.int .u8 c0) (by simp [bytesV, byteV, hu8, hc0])).within (i := 0) rfl).cast (by simp))) ?_
   refine J.p rfl (Q.asg rfl) <| J.p rfl (Q.asg rfl) <| J.nil <| J.then_n <| J.seq <| J.seq <| J.region <| J.m rfl <| J.p rfl (Q.eql rfl rfl) <| J.m rfl ?_
   refine J.cases 17 rfl (fun hb17 => ?_) (fun hb17 => ?_)
   ·
    replace hb17 := X.nm hb17
    refine J.m rfl <| J.p rfl (Q.gtr rfl rfl) <| J.p rfl (Q.pick_t rfl rfl) <| J.nil <| J.then_n ?_
    refine J.cases 20 rfl (fun hc20 => ?_) (fun hc20 => ?_)
    ·
     replace hc20 := X.nm hc20
     refine J.cond_t rfl <| J.seq <| J.region <| J.p rfl (Q.asg rfl) <| J.p rfl (Q.asg rfl) <| J.p rfl (Q.asg rfl) <| J.nil <| J.then_n <| J.cret <| J.then_r <| J.blk_r <| J.then_r <| J.lp_r <| J.blk_r <| J.then_r ?_
     rw [if_pos (by omega)] at hst
     refine J.ret3 (B := [G]) rfl rfl rfl rfl ⟨by rw [← hst]; rfl, rfl⟩ rfl
    replace hc20 := X.nm hc20
    refine J.cond_f rfl <| J.cskip <| J.then_n <| J.seq ?_
    have h9 : i = 9 → c0 ≤ 1 := by intro e9; omega
    rw [if_neg (by omega)] at hst
    have hb64 : acc + 2 ^ (7 * i) * (c0 % 128) < 18446744073709551616 := by
     by_cases e9 : i = 9
     · have := h9 e9
       subst e9
       have q : 2 ^ (7 * 9) * (c0 % 128) ≤ 2 ^ (7 * 9) * 1 := Nat.mul_le_mul_left _ (by omega)
       have e3 : (2 : Nat) ^ (7 * 9) = 9223372036854775808 := by decide
       rw [e3] at q h4 ⊢
       omega
     · have h56 : (2 : Nat) ^ (7 * i) ≤ 72057594037927936 := by
        have := Nat.pow_le_pow_right (n := 2) (by decide) (show 7 * i ≤ 56 by omega)
        rwa [show (2 : Nat) ^ 56 = 72057594037927936 by decide] at this
       have := Nat.mul_le_mul h56 (show c0 % 128 ≤ 127 by omega)
       omega
    refine J.region <| J.m rfl <| J.m rfl <| J.p rfl (Q.and rfl rfl) ?_
    refine J.slot 23 (.int .u8 ((c0 % 128 : Nat) : Int)) rfl (by show Value.int .u8 _ = _; rw [and127 f2]) ?_
    refine J.p rfl (Q.conv Try.runUnderlying5 Try.runUnderlying23 rfl) ?_
    refine J.slot 24 (.int .u64 ((c0 % 128 : Nat) : Int)) rfl (by rw [wrap64 (by omega)]) ?_
    refine J.m rfl <| J.p rfl (Q.mul64 rfl rfl (by omega)) ?_
    refine J.slot 26 (.int .i64 ((7 * i : Nat) : Int)) rfl (by rw [Int.natCast_mul]; rfl) ?_
    refine J.p rfl (Q.shl rfl rfl (by omega)) ?_
    refine J.slot 27 (.int .u64 ((2 ^ (7 * i) * (c0 % 128) : Nat) : Int)) rfl (by
      have hmin : min (((7 * i : Nat) : Int).toNat) IntKind.u64.bits = 7 * i := by show min _ 64 = _; omega
      have e : ((c0 % 128 : Nat) : Int) * 2 ^ (7 * i) = ((2 ^ (7 * i) * (c0 % 128) : Nat) : Int) := by rw [Int.natCast_mul, Int.mul_comm, Int.natCast_pow]; rfl
      rw [hmin, e, wrap64 (by omega)]) ?_
    refine J.p rfl (Q.or rfl rfl) ?_
    refine J.slot 28 (.int .u64 ((acc + 2 ^ (7 * i) * (c0 % 128) : Nat) : Int)) rfl (by show Value.int .u64 _ = _; rw [or64 h4 hb64]) ?_
    refine J.p rfl (Q.asg rfl) <| J.nil <| J.then_n <| J.seq <| J.region <| J.m rfl <| J.p rfl (Q.lss rfl rfl) ?_
    refine J.slot 30 (.bool (smallB c0)) rfl (by show Value.bool (decide ((c0 : Int) < 128)) = _; unfold smallB; rw [decide_eq_decide.2 (show (c0 : Int) < 128 ↔ c0 < 128 by omega)]) ?_
    refine J.nil <| J.then_n ?_
    refine J.cases 30 rfl (fun hc30 => ?_) (fun hc30 => ?_)
    ·
     replace hc30 := X.nm hc30
     refine J.cond_t rfl <| J.seq <| J.seq ?_
     have hw : c0 < 128 := of_decide_eq_true hc30
     rw [if_pos hw] at hst
     refine J.region <| J.m rfl <| J.p rfl (Q.eql rfl rfl) <| J.m rfl ?_
     refine J.cases 33 rfl (fun hb33 => ?_) (fun hb33 => ?_)
     ·
      replace hb33 := X.nm hb33
      refine J.m rfl <| J.p rfl (Q.gtr rfl rfl) <| J.p rfl (Q.pick_t rfl rfl) <| J.nil <| J.then_n ?_
      refine J.cases 36 rfl (fun hc36 => ?_) (fun hc36 => ?_)
      ·
       replace hc36 := X.nm hc36
       refine J.cond_t rfl <| J.seq <| J.region <| J.p rfl (Q.asg rfl) <| J.p rfl (Q.asg rfl) <| J.p rfl (Q.asg rfl) <| J.nil <| J.then_n <| J.cret <| J.then_r <| J.blk_r <| J.then_r <| J.lp_r <| J.blk_r <| J.then_r ?_
       first
        | (refine J.ret3 (B := [G]) rfl rfl rfl rfl ⟨?_, rfl⟩ rfl
           rw [← h3, List.drop_eq_nil_of_le (by omega)]; rfl)
        | (rw [if_pos (by omega)] at hst
           refine J.ret3 (B := [G]) rfl rfl rfl rfl ⟨by rw [← hst]; rfl, rfl⟩ rfl)
        | (rw [if_neg (by omega)] at hst
           refine J.ret3 (B := [G]) rfl rfl rfl rfl ⟨by rw [← hst, Nat.mod_eq_of_lt hw]; rfl, rfl⟩ rfl)
      replace hc36 := X.nm hc36
      refine J.cond_f rfl <| J.cskip <| J.then_n <| J.seq <| J.region <| J.m rfl <| J.m rfl <| J.p rfl (Q.add64 rfl rfl (by omega)) <| J.p rfl (Q.asg rfl) <| J.p rfl (Q.asg rfl) <| J.p rfl (Q.asg rfl) <| J.nil <| J.then_n <| J.cret <| J.blk_r <| J.then_r <| J.lp_r <| J.blk_r <| J.then_r ?_
      first
       | (refine J.ret3 (B := [G]) rfl rfl rfl rfl ⟨?_, rfl⟩ rfl
          rw [← h3, List.drop_eq_nil_of_le (by omega)]; rfl)
       | (rw [if_pos (by omega)] at hst
          refine J.ret3 (B := [G]) rfl rfl rfl rfl ⟨by rw [← hst]; rfl, rfl⟩ rfl)
       | (rw [if_neg (by omega)] at hst
          refine J.ret3 (B := [G]) rfl rfl rfl rfl ⟨by rw [← hst, Nat.mod_eq_of_lt hw]; rfl, rfl⟩ rfl)
     replace hb33 := X.nm hb33
     refine J.skip rfl rfl <| J.skip rfl rfl <| J.p rfl (Q.pick_f rfl rfl) <| J.nil <| J.then_n <| J.cond_f rfl <| J.cskip <| J.then_n <| J.seq <| J.region <| J.m rfl <| J.m rfl <| J.p rfl (Q.add64 rfl rfl (by omega)) <| J.p rfl (Q.asg rfl) <| J.p rfl (Q.asg rfl) <| J.p rfl (Q.asg rfl) <| J.nil <| J.then_n <| J.cret <| J.blk_r <| J.then_r <| J.lp_r <| J.blk_r <| J.then_r ?_
     first
      | (refine J.ret3 (B := [G]) rfl rfl rfl rfl ⟨?_, rfl⟩ rfl
         rw [← h3, List.drop_eq_nil_of_le (by omega)]; rfl)
      | (rw [if_pos (by omega)] at hst
         refine J.ret3 (B := [G]) rfl rfl rfl rfl ⟨by rw [← hst]; rfl, rfl⟩ rfl)
      | (rw [if_neg (by omega)] at hst
         refine J.ret3 (B := [G]) rfl rfl rfl rfl ⟨by rw [← hst, Nat.mod_eq_of_lt hw]; rfl, rfl⟩ rfl)
    replace hc30 := X.nm hc30
    refine J.cond_f rfl <| J.cskip <| J.blk_n <| J.then_n <| J.region <| J.p rfl (Q.add64 rfl rfl (by omega)) <| J.m rfl <| J.nil ?_
    have hw : ¬ c0 < 128 := of_decide_eq_false hc30
    rw [if_neg hw] at hst
    have hp7 : (2 : Nat) ^ (7 * (i + 1)) = 2 ^ (7 * i) * 128 := by rw [show 7 * (i + 1) = 7 * i + 7 by omega, Nat.pow_add]
    have hlt : 2 ^ (7 * i) * (c0 % 128) + 2 ^ (7 * i) ≤ 2 ^ (7 * i) * 128 := by rw [← Nat.mul_succ]; exact Nat.mul_le_mul_left _ (by omega)
    refine J.again (i + 1, acc + 2 ^ (7 * i) * (c0 % 128)) ⟨by show i + 1 ≤ n; omega, by show i + 1 ≤ 9; omega, hst, ?_⟩ (by show n - (i + 1) < n - i; omega) ⟨rfl, rfl, (by show _ = some (Value.slice p n c); rw [hp]; rfl), rfl, rfl, trivial⟩ rfl
    show acc + 2 ^ (7 * i) * (c0 % 128) < 2 ^ (7 * (i + 1))
    rw [hp7]; omega
   replace hb17 := X.nm hb17
   refine J.skip rfl rfl <| J.skip rfl rfl <| J.p rfl (Q.pick_f rfl rfl) <| J.nil <| J.then_n <| J.cond_f rfl <| J.cskip <| J.then_n <| J.seq ?_
   have h9 : i = 9 → c0 ≤ 1 := by intro e9; omega
   rw [if_neg (by omega)] at hst
   have hb64 : acc + 2 ^ (7 * i) * (c0 % 128) < 18446744073709551616 := by
    by_cases e9 : i = 9
    · have := h9 e9
      subst e9
      have q : 2 ^ (7 * 9) * (c0 % 128) ≤ 2 ^ (7 * 9) * 1 := Nat.mul_le_mul_left _ (by omega)
      have e3 : (2 : Nat) ^ (7 * 9) = 9223372036854775808 := by decide
      rw [e3] at q h4 ⊢
      omega
    · have h56 : (2 : Nat) ^ (7 * i) ≤ 72057594037927936 := by
       have := Nat.pow_le_pow_right (n := 2) (by decide) (show 7 * i ≤ 56 by omega)
       rwa [show (2 : Nat) ^ 56 = 72057594037927936 by decide] at this
      have := Nat.mul_le_mul h56 (show c0 % 128 ≤ 127 by omega)
      omega
   refine J.region <| J.m rfl <| J.m rfl <| J.p rfl (Q.and rfl rfl) ?_
   refine J.slot 23 (.int .u8 ((c0 % 128 : Nat) : Int)) rfl (by show Value.int .u8 _ = _; rw [and127 f2]) ?_
   refine J.p rfl (Q.conv Try.runUnderlying5 Try.runUnderlying23 rfl) ?_
   refine J.slot 24 (.int .u64 ((c0 % 128 : Nat) : Int)) rfl (by rw [wrap64 (by omega)]) ?_
   refine J.m rfl <| J.p rfl (Q.mul64 rfl rfl (by omega)) ?_
   refine J.slot 26 (.int .i64 ((7 * i : Nat) : Int)) rfl (by rw [Int.natCast_mul]; rfl) ?_
   refine J.p rfl (Q.shl rfl rfl (by omega)) ?_
   refine J.slot 27 (.int .u64 ((2 ^ (7 * i) * (c0 % 128) : Nat) : Int)) rfl (by
     have hmin : min (((7 * i : Nat) : Int).toNat) IntKind.u64.bits = 7 * i := by show min _ 64 = _; omega
     have e : ((c0 % 128 : Nat) : Int) * 2 ^ (7 * i) = ((2 ^ (7 * i) * (c0 % 128) : Nat) : Int) := by rw [Int.natCast_mul, Int.mul_comm, Int.natCast_pow]; rfl
     rw [hmin, e, wrap64 (by omega)]) ?_
   refine J.p rfl (Q.or rfl rfl) ?_
   refine J.slot 28 (.int .u64 ((acc + 2 ^ (7 * i) * (c0 % 128) : Nat) : Int)) rfl (by show Value.int .u64 _ = _; rw [or64 h4 hb64]) ?_
   refine J.p rfl (Q.asg rfl) <| J.nil <| J.then_n <| J.seq <| J.region <| J.m rfl <| J.p rfl (Q.lss rfl rfl) ?_
   refine J.slot 30 (.bool (smallB c0)) rfl (by show Value.bool (decide ((c0 : Int) < 128)) = _; unfold smallB; rw [decide_eq_decide.2 (show (c0 : Int) < 128 ↔ c0 < 128 by omega)]) ?_
   refine J.nil <| J.then_n ?_
   refine J.cases 30 rfl (fun hc30 => ?_) (fun hc30 => ?_)
   ·
    replace hc30 := X.nm hc30
    refine J.cond_t rfl <| J.seq <| J.seq ?_
    have hw : c0 < 128 := of_decide_eq_true hc30
    rw [if_pos hw] at hst
    refine J.region <| J.m rfl <| J.p rfl (Q.eql rfl rfl) <| J.m rfl ?_
    refine J.cases 33 rfl (fun hb33 => ?_) (fun hb33 => ?_)
    ·
     replace hb33 := X.nm hb33
     refine J.m rfl <| J.p rfl (Q.gtr rfl rfl) <| J.p rfl (Q.pick_t rfl rfl) <| J.nil <| J.then_n ?_
     refine J.cases 36 rfl (fun hc36 => ?_) (fun hc36 => ?_)
     ·
      replace hc36 := X.nm hc36
      refine J.cond_t rfl <| J.seq <| J.region <| J.p rfl (Q.asg rfl) <| J.p rfl (Q.asg rfl) <| J.p rfl (Q.asg rfl) <| J.nil <| J.then_n <| J.cret <| J.then_r <| J.blk_r <| J.then_r <| J.lp_r <| J.blk_r <| J.then_r ?_
      first
       | (refine J.ret3 (B := [G]) rfl rfl rfl rfl ⟨?_, rfl⟩ rfl
          rw [← h3, List.drop_eq_nil_of_le (by omega)]; rfl)
       | (rw [if_pos (by omega)] at hst
          refine J.ret3 (B := [G]) rfl rfl rfl rfl ⟨by rw [← hst]; rfl, rfl⟩ rfl)
       | (rw [if_neg (by omega)] at hst
          refine J.ret3 (B := [G]) rfl rfl rfl rfl ⟨by rw [← hst, Nat.mod_eq_of_lt hw]; rfl, rfl⟩ rfl)
     replace hc36 := X.nm hc36
     refine J.cond_f rfl <| J.cskip <| J.then_n <| J.seq <| J.region <| J.m rfl <| J.m rfl <| J.p rfl (Q.add64 rfl rfl (by omega)) <| J.p rfl (Q.asg rfl) <| J.p rfl (Q.asg rfl) <| J.p rfl (Q.asg rfl) <| J.nil <| J.then_n <| J.cret <| J.blk_r <| J.then_r <| J.lp_r <| J.blk_r <| J.then_r ?_
     first
      | (refine J.ret3 (B := [G]) rfl rfl rfl rfl ⟨?_, rfl⟩ rfl
         rw [← h3, List.drop_eq_nil_of_le (by omega)]; rfl)
      | (rw [if_pos (by omega)] at hst
         refine J.ret3 (B := [G]) rfl rfl rfl rfl ⟨by rw [← hst]; rfl, rfl⟩ rfl)
      | (rw [if_neg (by omega)] at hst
         refine J.ret3 (B := [G]) rfl rfl rfl rfl ⟨by rw [← hst, Nat.mod_eq_of_lt hw]; rfl, rfl⟩ rfl)
    replace hb33 := X.nm hb33
    refine J.skip rfl rfl <| J.skip rfl rfl <| J.p rfl (Q.pick_f rfl rfl) <| J.nil <| J.then_n <| J.cond_f rfl <| J.cskip <| J.then_n <| J.seq <| J.region <| J.m rfl <| J.m rfl <| J.p rfl (Q.add64 rfl rfl (by omega)) <| J.p rfl (Q.asg rfl) <| J.p rfl (Q.asg rfl) <| J.p rfl (Q.asg rfl) <| J.nil <| J.then_n <| J.cret <| J.blk_r <| J.then_r <| J.lp_r <| J.blk_r <| J.then_r ?_
    first
     | (refine J.ret3 (B := [G]) rfl rfl rfl rfl ⟨?_, rfl⟩ rfl
        rw [← h3, List.drop_eq_nil_of_le (by omega)]; rfl)
     | (rw [if_pos (by omega)] at hst
        refine J.ret3 (B := [G]) rfl rfl rfl rfl ⟨by rw [← hst]; rfl, rfl⟩ rfl)
     | (rw [if_neg (by omega)] at hst
        refine J.ret3 (B := [G]) rfl rfl rfl rfl ⟨by rw [← hst, Nat.mod_eq_of_lt hw]; rfl, rfl⟩ rfl)
   replace hc30 := X.nm hc30
   refine J.cond_f rfl <| J.cskip <| J.blk_n <| J.then_n <| J.region <| J.p rfl (Q.add64 rfl rfl (by omega)) <| J.m rfl <| J.nil ?_
   have hw : ¬ c0 < 128 := of_decide_eq_false hc30
   rw [if_neg hw] at hst
   have hp7 : (2 : Nat) ^ (7 * (i + 1)) = 2 ^ (7 * i) * 128 := by rw [show 7 * (i + 1) = 7 * i + 7 by omega, Nat.pow_add]
   have hlt : 2 ^ (7 * i) * (c0 % 128) + 2 ^ (7 * i) ≤ 2 ^ (7 * i) * 128 := by rw [← Nat.mul_succ]; exact Nat.mul_le_mul_left _ (by omega)
   refine J.again (i + 1, acc + 2 ^ (7 * i) * (c0 % 128)) ⟨by show i + 1 ≤ n; omega, by show i + 1 ≤ 9; omega, hst, ?_⟩ (by show n - (i + 1) < n - i; omega) ⟨rfl, rfl, (by show _ = some (Value.slice p n c); rw [hp]; rfl), rfl, rfl, trivial⟩ rfl
   show acc + 2 ^ (7 * i) * (c0 % 128) < 2 ^ (7 * (i + 1))
   rw [hp7]; omega
  replace hc11 := X.nm hc11
  refine J.cond_f rfl <| J.exit <| J.then_x <| J.lp_x <| J.blk_x <| J.then_n <| J.seq <| J.region <| J.p rfl (Q.asg rfl) <| J.p rfl (Q.asg rfl) <| J.p rfl (Q.asg rfl) <| J.nil <| J.then_n <| J.cret ?_
  first
   | (refine J.ret3 (B := [G]) rfl rfl rfl rfl ⟨?_, rfl⟩ rfl
      rw [← h3, List.drop_eq_nil_of_le (by omega)]; rfl)
   | (rw [if_pos (by omega)] at hst
      refine J.ret3 (B := [G]) rfl rfl rfl rfl ⟨by rw [← hst]; rfl, rfl⟩ rfl)
   | (rw [if_neg (by omega)] at hst
      refine J.ret3 (B := [G]) rfl rfl rfl rfl ⟨by rw [← hst, Nat.mod_eq_of_lt hw]; rfl, rfl⟩ rfl)

theorem slr_part {D : List Assn} {b off n c k m : Nat} {xs : List Value} (h : ReadsN D b off xs) (hl : xs.length = n) (hk : k + m ≤ n) (hc : n ≤ c) :
    ∃ (o2 : Option Addr) (d2 : Nat), SlR D 1 (.slice o2 m d2) ((xs.drop k).take m) ∧ Value.slice (some ⟨b, off + (if c = k then 0 else k) * 1, none⟩) (k + m - k) (c - k) = .slice o2 m d2 := by
  refine ⟨_, _, ?_, by rw [Nat.add_sub_cancel_left]⟩
  by_cases e : m = 0
  · subst e
    exact .inl ⟨_, c - k, rfl, rfl⟩
  · rw [if_neg (by omega), Nat.mul_one]
    refine .inr ⟨b, off + k, m, c - k, rfl, by rw [List.length_take, List.length_drop]; omega, fun j u hu => ?_⟩
    have hj : j < m := by
      have := (List.getElem?_eq_some_iff.1 hu).1
      rw [List.length_take] at this; omega
    rw [List.getElem?_take_of_lt hj, List.getElem?_drop] at hu
    have := h (k + j) u hu
    rwa [← Nat.add_assoc] at this
theorem bytesV_part (bs : List UInt8) (k m : Nat) : bytesV ((bs.drop k).take m) = ((bytesV bs).drop k).take m := by simp [bytesV]

theorem readBytes_spec (G : Assn) (p : Option Addr) (c : Nat) (bs : List UInt8) (most : Nat) (hr : SlR [G] 1 (.slice p bs.length c) (bytesV bs)) (hn : bs.length ≤ 1099511627776) (hm : most ≤ 1099511627776) (hc : bs.length ≤ c) :
    FSpec Try.prog 42 [.slice p bs.length c, .int .i64 most] [G] (fun u B => ∃ q d, u = .tuple #[.slice q (rdB bs most).1.length d, .int .i64 (rdB bs most).2.1, .int .i64 (rdB bs most).2.2] ∧ B = [own 5 1 (.slice q (rdB bs most).1.length d) (bytesV (rdB bs most).1), G]) := by
  have hbd := rdN_bd bs
  refine FSpec.of Try.func42 rfl Try.ntmps42 rfl fun W0 F => ?_
  refine J.seq <| J.region <| J.p rfl (Q.asg rfl) <| J.p rfl (Q.asg rfl) <| J.p rfl (Q.asg rfl) <| J.nil <| J.then_n <| J.seq <| J.region <| J.m rfl ?_
  refine J.callI Try.call41 (readNumber_spec G p bs.length c bs hr hn) rfl rfl rfl ?_
  rintro _ _ ⟨rfl, rfl⟩
  refine J.norm rfl <| J.m rfl <| J.p rfl (Q.ext rfl rfl) <| J.p rfl (Q.ext rfl rfl) <| J.p rfl (Q.ext rfl rfl) <| J.p rfl (Q.asg rfl) <| J.p rfl (Q.asg rfl) <| J.p rfl (Q.asg rfl) <| J.nil <| J.then_n <| J.seq <| J.block <| J.seq <| J.region <| J.m rfl <| J.p rfl (Q.neq rfl rfl) <| J.p rfl (Q.asg rfl) <| J.nil <| J.then_n ?_
  refine J.cases 17 rfl (fun hc17 => ?_) (fun hc17 => ?_)
  ·
   replace hc17 := X.nm hc17
   try (first | (cases hc17; done) | (exfalso; simp at hc17; done))
   all_goals
    refine J.cond_t rfl <| J.seq <| J.region <| J.m rfl <| J.p rfl (Q.asg rfl) <| J.p rfl (Q.asg rfl) <| J.p rfl (Q.asg rfl) <| J.nil <| J.then_n <| J.cret <| J.blk_r <| J.then_r ?_
    have he : (rdN bs).2.2 ≠ 0 := by omega
    have e : rdB bs most = ([], 0, (rdN bs).2.2) := by unfold rdB; rw [if_pos he]
    rw [e]
    refine J.give (X := own 5 1 (.slice none 0 0) (bytesV [])) (own.nil _ _ _) ?_
    refine J.keepI ([own 5 1 (.slice none 0 0) (bytesV []), G] ++ [F]) ?_
    refine J.ret3 (B := [own 5 1 (.slice none 0 0) (bytesV []), G]) rfl rfl rfl rfl ⟨none, 0, rfl, rfl⟩ rfl
  replace hc17 := X.nm hc17
  try (first | (cases hc17; done) | (exfalso; simp at hc17; done))
  all_goals
   refine J.cond_f rfl <| J.seq <| J.region <| J.m rfl <| J.m rfl <| J.p rfl (Q.maxI rfl) ?_
   refine J.slot 24 (.int .i64 (most : Int)) rfl (by rw [show (if (0 : Int) > (most : Int) then (0 : Int) else most) = most from if_neg (by omega)]) ?_
   refine J.p rfl (Q.conv Try.runUnderlying3 Try.runUnderlying23 rfl) ?_
   refine J.slot 25 (.int .u64 (most : Int)) rfl (by rw [wrap64 (by omega)]) ?_
   refine J.p rfl (Q.gtr rfl rfl) <| J.p rfl (Q.asg rfl) <| J.nil <| J.then_n ?_
   refine J.cases 21 rfl (fun hc21 => ?_) (fun hc21 => ?_)
   ·
    replace hc21 := X.nm hc21
    try (first | (cases hc21; done) | (exfalso; simp at hc21; done))
    all_goals
     refine J.cond_t rfl <| J.seq <| J.region <| J.p rfl (Q.asg rfl) <| J.p rfl (Q.asg rfl) <| J.p rfl (Q.asg rfl) <| J.nil <| J.then_n <| J.cret <| J.blk_r <| J.then_r ?_
     have he : ¬ (rdN bs).2.2 ≠ 0 := by omega
     have e : rdB bs most = ([], 0, 3) := by unfold rdB; rw [if_neg he, if_pos (by omega)]
     rw [e]
     refine J.give (X := own 5 1 (.slice none 0 0) (bytesV [])) (own.nil _ _ _) ?_
     refine J.keepI ([own 5 1 (.slice none 0 0) (bytesV []), G] ++ [F]) ?_
     refine J.ret3 (B := [own 5 1 (.slice none 0 0) (bytesV []), G]) rfl rfl rfl rfl ⟨none, 0, rfl, rfl⟩ rfl
   replace hc21 := X.nm hc21
   try (first | (cases hc21; done) | (exfalso; simp at hc21; done))
   all_goals
    refine J.cond_f rfl <| J.seq <| J.region <| J.m rfl <| J.m rfl <| J.p rfl (Q.lenSl Try.runUnderlying25 rfl) <| J.m rfl <| J.p rfl (Q.sub64 rfl rfl (by omega)) <| J.p rfl (Q.conv Try.runUnderlying3 Try.runUnderlying23 rfl) ?_
    refine J.slot 33 (.int .u64 ((bs.length - (rdN bs).2.1 : Nat) : Int)) rfl (by
      rw [show (bs.length : Int) - ((rdN bs).2.1 : Int) = ((bs.length - (rdN bs).2.1 : Nat) : Int) by omega, wrap64 (by omega)]) ?_
    refine J.p rfl (Q.gtr rfl rfl) <| J.p rfl (Q.asg rfl) <| J.nil <| J.then_n ?_
    refine J.cases 27 rfl (fun hc27 => ?_) (fun hc27 => ?_)
    ·
     replace hc27 := X.nm hc27
     try (first | (cases hc27; done) | (exfalso; simp at hc27; done))
     all_goals
      refine J.cond_t rfl <| J.seq <| J.region <| J.p rfl (Q.asg rfl) <| J.p rfl (Q.asg rfl) <| J.p rfl (Q.asg rfl) <| J.nil <| J.then_n <| J.cret <| J.blk_r <| J.then_r ?_
      have he : ¬ (rdN bs).2.2 ≠ 0 := by omega
      have e : rdB bs most = ([], 0, 11) := by unfold rdB; rw [if_neg he, if_neg (by omega), if_pos (by omega)]
      rw [e]
      refine J.give (X := own 5 1 (.slice none 0 0) (bytesV [])) (own.nil _ _ _) ?_
      refine J.keepI ([own 5 1 (.slice none 0 0) (bytesV []), G] ++ [F]) ?_
      refine J.ret3 (B := [own 5 1 (.slice none 0 0) (bytesV []), G]) rfl rfl rfl rfl ⟨none, 0, rfl, rfl⟩ rfl
    replace hc27 := X.nm hc27
    try (first | (cases hc27; done) | (exfalso; simp at hc27; done))
    all_goals
     refine J.cond_f rfl <| J.cskip <| J.blk_n <| J.then_n <| J.seq ?_
     have he : ¬ (rdN bs).2.2 ≠ 0 := by omega
     have e : rdB bs most = ((bs.drop (rdN bs).2.1).take (rdN bs).1, (rdN bs).2.1 + (rdN bs).1, 0) := by unfold rdB; rw [if_neg he, if_neg (by omega), if_neg (by omega)]
     have h1 : 1 ≤ (rdN bs).2.1 := hbd.2.2 (by omega)
     have hlen : ((bs.drop (rdN bs).2.1).take (rdN bs).1).length = (rdN bs).1 := by rw [List.length_take, List.length_drop]; omega
     obtain ⟨b, off, rfl, hrd⟩ := hr.some_ (by omega)
     refine J.region <| J.m rfl <| J.m rfl <| J.p rfl (Q.conv64 Try.runUnderlying23 Try.runUnderlying3 rfl (by omega)) <| J.p rfl (Q.add64 rfl rfl (by omega)) ?_
     refine J.slot 38 (.int .i64 (((rdN bs).2.1 + (rdN bs).1 : Nat) : Int)) rfl (by rw [Int.natCast_add]) ?_
     refine J.p rfl (Q.asg rfl) <| J.nil <| J.then_n <| J.seq <| J.region <| J.m rfl <| J.m rfl <| J.m rfl <| J.p rfl (Q.slLH Try.runUnderlying25 Try.sizeOf5 rfl rfl rfl (by omega) (by omega) (by omega)) ?_
     obtain ⟨o2, d2, hsl, hval⟩ := slr_part hrd (show (bytesV bs).length = bs.length by simp [bytesV]) (show (rdN bs).2.1 + (rdN bs).1 ≤ bs.length by omega) hc
     refine J.slot 42 (.slice o2 ((bs.drop (rdN bs).2.1).take (rdN bs).1).length d2) rfl (by rw [hlen, ← hval]; simp; omega) ?_
     refine J.callI Try.call49 (clone_spec G o2 d2 ((bs.drop (rdN bs).2.1).take (rdN bs).1) (by rw [hlen, bytesV_part]; exact hsl) (by omega)) rfl rfl rfl ?_
     rintro _ _ ⟨q, d, rfl, rfl⟩
     refine J.norm rfl <| J.m rfl <| J.p rfl (Q.asg rfl) <| J.p rfl (Q.asg rfl) <| J.p rfl (Q.asg rfl) <| J.nil <| J.then_n <| J.cret ?_
     rw [e]
     refine J.keepI ([own 5 1 (.slice q ((bs.drop (rdN bs).2.1).take (rdN bs).1).length d) (bytesV ((bs.drop (rdN bs).2.1).take (rdN bs).1)), G] ++ [F]) ?_
     refine J.ret3 (B := [own 5 1 (.slice q ((bs.drop (rdN bs).2.1).take (rdN bs).1).length d) (bytesV ((bs.drop (rdN bs).2.1).take (rdN bs).1)), G]) rfl rfl rfl rfl ⟨q, d, rfl, rfl⟩ rfl
end Go.Proofs.Ytidbcaimgahllaa
namespace Go.Proofs.Ytidbcaimgahllaa
set_option linter.unusedSectionVars false
set_option linter.unusedSimpArgs false
set_option linter.unusedVariables false
open Go.X

structure SlP (G : Assn) (p : Option Addr) (c : Nat) (bs : List UInt8) : Prop where
  sl : SlR [G] 1 (.slice p bs.length c) (bytesV bs)
  n : bs.length ≤ 1099511627776
  c : bs.length ≤ c
abbrev rdA (r : Nat) (p : Option Addr) (c : Nat) (s : RS) : Assn := pt r (.cells [Value.slice p s.b.length c, .bool s.bad].toArray 87 (0, 0))

section
variable (G : Assn) (r : Nat) (p : Option Addr) (c : Nat) (s : RS) (hs : SlP G p c s.b)
include hs
theorem rnumber_spec : FSpec Try.prog 25 [.pointer (some ⟨r, 0, none⟩)] [rdA r p c s, G] (fun u B => ∃ p' c', u = .int .u64 s.num.1 ∧ SlP G p' c' s.num.2.b ∧ B = [rdA r p' c' s.num.2, G]) := by
  have hbd := rdN_bd s.b
  have hn := hs.n
  have hc := hs.c
  have hnum : s.num.2.b = s.b.drop (rdN s.b).2.1 := rfl
  obtain ⟨p', c', hsl, hc', hq⟩ := slr_tail Try.runUnderlying25 Try.sizeOf5 hs.sl (j := (rdN s.b).2.1) hbd.2.1 hs.c
  have hl2 : s.num.2.b.length = s.b.length - (rdN s.b).2.1 := by rw [hnum, List.length_drop]
  have hsp : SlP G p' c' s.num.2.b := ⟨by rw [hl2, hnum, show bytesV (s.b.drop (rdN s.b).2.1) = (bytesV s.b).drop (rdN s.b).2.1 by simp [bytesV]]; exact hsl, by omega, by omega⟩
  refine FSpec.of Try.func25 rfl Try.ntmps25 rfl fun W0 F => ?_
  refine J.seq <| J.region <| J.p rfl (Q.asg rfl) <| J.nil <| J.then_n <| J.seq <| J.region <| J.m rfl <| J.p rfl (Q.nil_ rfl) <| J.p rfl (Q.fa (n := 0) Try.runUnderlying87 rfl rfl Try.sizeOf25 rfl) ?_
  refine J.p rfl (Q.ld Try.isAgg25 rfl (rdI (by exact rfl))) ?_
  refine J.callI Try.call41 (readNumber_spec G p s.b.length c s.b hs.sl hn) rfl rfl rfl ?_
  rintro _ _ ⟨rfl, rfl⟩
  refine J.norm rfl <| J.m rfl <| J.p rfl (Q.ext rfl rfl) <| J.p rfl (Q.ext rfl rfl) <| J.p rfl (Q.ext rfl rfl) <| J.p rfl (Q.asg rfl) <| J.p rfl (Q.asg rfl) <| J.p rfl (Q.asg rfl) <| J.nil <| J.then_n <| J.seq <| J.region <| J.m rfl <| J.m rfl <| J.p rfl (Q.nil_ rfl) <| J.p rfl (Q.fa (n := 1) Try.runUnderlying87 rfl rfl Try.sizeOf4 rfl) ?_
  refine J.p rfl (Q.ld Try.isAgg4 rfl (rdI (by exact rfl))) ?_
  refine J.m rfl ?_
  refine J.cases 20 rfl (fun hb20 => ?_) (fun hb20 => ?_)
  ·
   replace hb20 := X.nm hb20
   try (first | (cases hb20; done) | (exfalso; simp at hb20; done))
   all_goals
    refine J.skip rfl rfl <| J.skip rfl rfl <| J.p rfl (Q.pick_t rfl rfl) <| J.p rfl (Q.nil_ rfl) <| J.p rfl (Q.fa (n := 1) Try.runUnderlying87 rfl rfl Try.sizeOf4 rfl) ?_
    refine J.stI rfl Try.sizeOf4 rfl rfl rfl (by exact rfl) (by exact rfl) (by exact rfl) ?_
    refine J.nil <| J.then_n <| J.seq <| J.region <| J.m rfl <| J.m rfl <| J.p rfl (Q.nil_ rfl) <| J.p rfl (Q.fa (n := 0) Try.runUnderlying87 rfl rfl Try.sizeOf25 rfl) ?_
    refine J.p rfl (Q.ld Try.isAgg25 rfl (rdI (by exact rfl))) ?_
    refine J.m rfl ?_
    refine J.p rfl (hq rfl rfl) ?_
    refine J.p rfl (Q.nil_ rfl) <| J.p rfl (Q.fa (n := 0) Try.runUnderlying87 rfl rfl Try.sizeOf25 rfl) ?_
    refine J.stI rfl Try.sizeOf25 rfl rfl rfl (by exact rfl) (by exact rfl) (by exact rfl) ?_
    refine J.nil <| J.then_n <| J.seq <| J.region <| J.m rfl <| J.p rfl (Q.asg rfl) <| J.nil <| J.then_n <| J.cret ?_
    have hbad : s.num.2.bad = (s.bad || decide ((rdN s.b).2.2 ≠ 0)) := rfl
    first
     | (have e : s.num.2.bad = true := by rw [hbad, hb20]; rfl
        refine J.convI (pt r (.cells [Value.slice p' (s.b.length - (rdN s.b).2.1) c', .bool true].toArray 87 (0, 0))) (rdA r p' c' s.num.2) (fun _ h => by unfold rdA; rw [hl2, e]; exact h) ?_
        refine J.ret1I [rdA r p' c' s.num.2, G] rfl rfl ⟨p', c', rfl, hsp, rfl⟩)
     | (have e : s.num.2.bad = !decide (((rdN s.b).2.2 : Int) = 0) := by
          rw [hbad, hb20, Bool.false_or, Bool.eq_iff_iff]; simp
        refine J.convI (pt r (.cells [Value.slice p' (s.b.length - (rdN s.b).2.1) c', .bool (!decide (((rdN s.b).2.2 : Int) = 0))].toArray 87 (0, 0))) (rdA r p' c' s.num.2) (fun _ h => by unfold rdA; rw [hl2, e]; exact h) ?_
        refine J.ret1I [rdA r p' c' s.num.2, G] rfl rfl ⟨p', c', rfl, hsp, rfl⟩)
  replace hb20 := X.nm hb20
  try (first | (cases hb20; done) | (exfalso; simp at hb20; done))
  all_goals
   refine J.m rfl <| J.p rfl (Q.neq rfl rfl) <| J.p rfl (Q.pick_f rfl rfl) <| J.p rfl (Q.nil_ rfl) <| J.p rfl (Q.fa (n := 1) Try.runUnderlying87 rfl rfl Try.sizeOf4 rfl) ?_
   refine J.stI rfl Try.sizeOf4 rfl rfl rfl (by exact rfl) (by exact rfl) (by exact rfl) ?_
   refine J.nil <| J.then_n <| J.seq <| J.region <| J.m rfl <| J.m rfl <| J.p rfl (Q.nil_ rfl) <| J.p rfl (Q.fa (n := 0) Try.runUnderlying87 rfl rfl Try.sizeOf25 rfl) ?_
   refine J.p rfl (Q.ld Try.isAgg25 rfl (rdI (by exact rfl))) ?_
   refine J.m rfl ?_
   refine J.p rfl (hq rfl rfl) ?_
   refine J.p rfl (Q.nil_ rfl) <| J.p rfl (Q.fa (n := 0) Try.runUnderlying87 rfl rfl Try.sizeOf25 rfl) ?_
   refine J.stI rfl Try.sizeOf25 rfl rfl rfl (by exact rfl) (by exact rfl) (by exact rfl) ?_
   refine J.nil <| J.then_n <| J.seq <| J.region <| J.m rfl <| J.p rfl (Q.asg rfl) <| J.nil <| J.then_n <| J.cret ?_
   have hbad : s.num.2.bad = (s.bad || decide ((rdN s.b).2.2 ≠ 0)) := rfl
   first
    | (have e : s.num.2.bad = true := by rw [hbad, hb20]; rfl
       refine J.convI (pt r (.cells [Value.slice p' (s.b.length - (rdN s.b).2.1) c', .bool true].toArray 87 (0, 0))) (rdA r p' c' s.num.2) (fun _ h => by unfold rdA; rw [hl2, e]; exact h) ?_
       refine J.ret1I [rdA r p' c' s.num.2, G] rfl rfl ⟨p', c', rfl, hsp, rfl⟩)
    | (have e : s.num.2.bad = !decide (((rdN s.b).2.2 : Int) = 0) := by
         rw [hbad, hb20, Bool.false_or, Bool.eq_iff_iff]; simp
       refine J.convI (pt r (.cells [Value.slice p' (s.b.length - (rdN s.b).2.1) c', .bool (!decide (((rdN s.b).2.2 : Int) = 0))].toArray 87 (0, 0))) (rdA r p' c' s.num.2) (fun _ h => by unfold rdA; rw [hl2, e]; exact h) ?_
       refine J.ret1I [rdA r p' c' s.num.2, G] rfl rfl ⟨p', c', rfl, hsp, rfl⟩)
theorem rint_spec : FSpec Try.prog 26 [.pointer (some ⟨r, 0, none⟩)] [rdA r p c s, G] (fun u B => ∃ p' c', u = .int .i64 s.int.1 ∧ SlP G p' c' s.int.2.b ∧ B = [rdA r p' c' s.int.2, G]) := by
  have hbd := s.num_bd
  refine FSpec.of Try.func26 rfl Try.ntmps26 rfl fun W0 F => ?_
  refine J.seq <| J.region <| J.p rfl (Q.asg rfl) <| J.nil <| J.then_n <| J.seq <| J.region <| J.m rfl ?_
  refine J.callI Try.call25 (rnumber_spec G r p c s hs) rfl rfl rfl ?_
  rintro _ _ ⟨p', c', rfl, hs', rfl⟩
  refine J.norm rfl <| J.p rfl (Q.asg rfl) <| J.nil <| J.then_n <| J.seq <| J.seq <| J.region <| J.m rfl <| J.p rfl (Q.gtr rfl rfl) <| J.nil <| J.then_n ?_
  refine J.cases 7 rfl (fun hc7 => ?_) (fun hc7 => ?_)
  ·
   replace hc7 := X.nm hc7
   refine J.cond_t rfl <| J.seq <| J.region <| J.m rfl <| J.p rfl (Q.nil_ rfl) <| J.p rfl (Q.fa (n := 1) Try.runUnderlying87 rfl rfl Try.sizeOf4 rfl) ?_
   refine J.stI rfl Try.sizeOf4 rfl rfl rfl (by exact rfl) (by exact rfl) (by exact rfl) ?_
   refine J.nil <| J.then_n <| J.seq <| J.region <| J.p rfl (Q.asg rfl) <| J.nil <| J.then_n <| J.cret <| J.then_r ?_
   have e : s.int = (0, ⟨s.num.2.b, true⟩) := by unfold RS.int; rw [if_pos (by omega)]
   refine J.convI (pt r (.cells [Value.slice p' s.num.2.b.length c', .bool true].toArray 87 (0, 0))) (rdA r p' c' s.int.2) (fun _ h => by rw [e]; exact h) ?_
   refine J.ret1I [rdA r p' c' s.int.2, G] rfl rfl ⟨p', c', by rw [e]; rfl, by rw [e]; exact hs', rfl⟩
  replace hc7 := X.nm hc7
  refine J.cond_f rfl <| J.cskip <| J.then_n <| J.seq <| J.region <| J.m rfl <| J.p rfl (Q.conv64 Try.runUnderlying23 Try.runUnderlying3 rfl (by omega)) <| J.p rfl (Q.asg rfl) <| J.nil <| J.then_n <| J.cret ?_
  have e : s.int = s.num := by unfold RS.int; rw [if_neg (by omega)]
  rw [← e]
  refine J.ret1I [rdA r p' c' s.int.2, G] rfl rfl ⟨p', c', by rw [e], by rw [e]; exact hs', rfl⟩
theorem rbytes_spec : FSpec Try.prog 29 [.pointer (some ⟨r, 0, none⟩)] [rdA r p c s, G] (fun u B => ∃ p' c' q d, u = .slice q s.bytes.1.length d ∧ SlP G p' c' s.bytes.2.b ∧ B = [rdA r p' c' s.bytes.2, own 5 1 (.slice q s.bytes.1.length d) (bytesV s.bytes.1), G]) := by
  have hbd := rdB_bd s.b s.b.length
  have hn := hs.n
  have hc := hs.c
  have hnum : s.bytes.2.b = s.b.drop (rdB s.b s.b.length).2.1 := rfl
  obtain ⟨p', c', hsl, hc', hq⟩ := slr_tail Try.runUnderlying25 Try.sizeOf5 hs.sl (j := (rdB s.b s.b.length).2.1) hbd.2 hs.c
  have hl2 : s.bytes.2.b.length = s.b.length - (rdB s.b s.b.length).2.1 := by rw [hnum, List.length_drop]
  have hsp : SlP G p' c' s.bytes.2.b := ⟨by rw [hl2, hnum, show bytesV (s.b.drop (rdB s.b s.b.length).2.1) = (bytesV s.b).drop (rdB s.b s.b.length).2.1 by simp [bytesV]]; exact hsl, by omega, by omega⟩
  refine FSpec.of Try.func29 rfl Try.ntmps29 rfl fun W0 F => ?_
  refine J.seq <| J.region <| J.p rfl (Q.asg rfl) <| J.nil <| J.then_n <| J.seq ?_
  refine J.draw [9, 14, 15, 16] Try.mixed (by kernel_rfl) fun hR => ?_
  refine RG.p 0 hR rfl (Q.mv rfl) <| RG.p 1 hR rfl (Q.nil_ rfl) <| RG.p 2 hR rfl (Q.fa (n := 0) Try.runUnderlying87 rfl rfl Try.sizeOf25 rfl) ?_
  refine RG.p 3 hR rfl (Q.ld Try.isAgg25 rfl (rdI (by exact rfl))) ?_
  refine RG.p 4 hR rfl (Q.mv rfl) <| RG.p 5 hR rfl (Q.nil_ rfl) <| RG.p 6 hR rfl (Q.fa (n := 0) Try.runUnderlying87 rfl rfl Try.sizeOf25 rfl) ?_
  refine RG.p 7 hR rfl (Q.ld Try.isAgg25 rfl (rdI (by exact rfl))) ?_
  refine RG.p 8 hR rfl (Q.lenSl Try.runUnderlying25 rfl) ?_
  refine RG.callI 9 hR rfl rfl rfl rfl rfl rfl Try.call42 (readBytes_spec G p c s.b s.b.length hs.sl hn hn hc) rfl ?_
  rintro _ _ ⟨q, d, rfl, rfl⟩
  refine RG.norm rfl <| RG.p 10 hR rfl (Q.mv rfl) <| RG.p 11 hR rfl (Q.ext rfl rfl) <| RG.p 12 hR rfl (Q.ext rfl rfl) <| RG.p 13 hR rfl (Q.ext rfl rfl) ?_
  refine RG.keep 14 hR rfl rfl rfl rfl rfl (Q.asg rfl) ?_
  refine RG.keep 15 hR rfl rfl rfl rfl rfl (Q.asg rfl) ?_
  refine RG.bar 16 hR rfl rfl rfl rfl rfl rfl (Q.asg rfl).toC ?_
  rintro _ _ ⟨rfl, rfl⟩
  refine RG.norm rfl ?_
  refine RG.fin hR rfl ?_
  refine J.norm rfl <| J.then_n <| J.seq <| J.region <| J.m rfl <| J.m rfl <| J.p rfl (Q.nil_ rfl) <| J.p rfl (Q.fa (n := 1) Try.runUnderlying87 rfl rfl Try.sizeOf4 rfl) ?_
  refine J.p rfl (Q.ld Try.isAgg4 rfl (rdI (by exact rfl))) ?_
  refine J.m rfl ?_
  refine J.cases 25 rfl (fun hb25 => ?_) (fun hb25 => ?_)
  ·
   replace hb25 := X.nm hb25
   try (first | (cases hb25; done) | (exfalso; simp at hb25; done))
   all_goals
    refine J.skip rfl rfl <| J.skip rfl rfl <| J.p rfl (Q.pick_t rfl rfl) <| J.p rfl (Q.nil_ rfl) <| J.p rfl (Q.fa (n := 1) Try.runUnderlying87 rfl rfl Try.sizeOf4 rfl) ?_
    refine J.stI rfl Try.sizeOf4 rfl rfl rfl (by exact rfl) (by exact rfl) (by exact rfl) ?_
    refine J.nil <| J.then_n <| J.seq <| J.region <| J.m rfl <| J.m rfl <| J.p rfl (Q.nil_ rfl) <| J.p rfl (Q.fa (n := 0) Try.runUnderlying87 rfl rfl Try.sizeOf25 rfl) ?_
    refine J.p rfl (Q.ld Try.isAgg25 rfl (rdI (by exact rfl))) ?_
    refine J.m rfl ?_
    refine J.p rfl (hq rfl rfl) ?_
    refine J.p rfl (Q.nil_ rfl) <| J.p rfl (Q.fa (n := 0) Try.runUnderlying87 rfl rfl Try.sizeOf25 rfl) ?_
    refine J.stI rfl Try.sizeOf25 rfl rfl rfl (by exact rfl) (by exact rfl) (by exact rfl) ?_
    refine J.nil <| J.then_n <| J.seq <| J.region <| J.m rfl <| J.p rfl (Q.asg rfl) <| J.nil <| J.then_n <| J.cret ?_
    have hbad : s.bytes.2.bad = (s.bad || decide ((rdB s.b s.b.length).2.2 ≠ 0)) := rfl
    first
     | (have e : s.bytes.2.bad = true := by rw [hbad, hb25]; rfl
        refine J.convI (pt r (.cells [Value.slice p' (s.b.length - (rdB s.b s.b.length).2.1) c', .bool true].toArray 87 (0, 0))) (rdA r p' c' s.bytes.2) (fun _ h => by unfold rdA; rw [hl2, e]; exact h) ?_
        refine J.ret1I [rdA r p' c' s.bytes.2, own 5 1 (.slice q (rdB s.b s.b.length).1.length d) (bytesV (rdB s.b s.b.length).1), G] rfl rfl ⟨p', c', q, d, rfl, hsp, rfl⟩)
     | (have e : s.bytes.2.bad = !decide (((rdB s.b s.b.length).2.2 : Int) = 0) := by
          rw [hbad, hb25, Bool.false_or, Bool.eq_iff_iff]; simp
        refine J.convI (pt r (.cells [Value.slice p' (s.b.length - (rdB s.b s.b.length).2.1) c', .bool (!decide (((rdB s.b s.b.length).2.2 : Int) = 0))].toArray 87 (0, 0))) (rdA r p' c' s.bytes.2) (fun _ h => by unfold rdA; rw [hl2, e]; exact h) ?_
        refine J.ret1I [rdA r p' c' s.bytes.2, own 5 1 (.slice q (rdB s.b s.b.length).1.length d) (bytesV (rdB s.b s.b.length).1), G] rfl rfl ⟨p', c', q, d, rfl, hsp, rfl⟩)
  replace hb25 := X.nm hb25
  try (first | (cases hb25; done) | (exfalso; simp at hb25; done))
  all_goals
   refine J.m rfl <| J.p rfl (Q.neq rfl rfl) <| J.p rfl (Q.pick_f rfl rfl) <| J.p rfl (Q.nil_ rfl) <| J.p rfl (Q.fa (n := 1) Try.runUnderlying87 rfl rfl Try.sizeOf4 rfl) ?_
   refine J.stI rfl Try.sizeOf4 rfl rfl rfl (by exact rfl) (by exact rfl) (by exact rfl) ?_
   refine J.nil <| J.then_n <| J.seq <| J.region <| J.m rfl <| J.m rfl <| J.p rfl (Q.nil_ rfl) <| J.p rfl (Q.fa (n := 0) Try.runUnderlying87 rfl rfl Try.sizeOf25 rfl) ?_
   refine J.p rfl (Q.ld Try.isAgg25 rfl (rdI (by exact rfl))) ?_
   refine J.m rfl ?_
   refine J.p rfl (hq rfl rfl) ?_
   refine J.p rfl (Q.nil_ rfl) <| J.p rfl (Q.fa (n := 0) Try.runUnderlying87 rfl rfl Try.sizeOf25 rfl) ?_
   refine J.stI rfl Try.sizeOf25 rfl rfl rfl (by exact rfl) (by exact rfl) (by exact rfl) ?_
   refine J.nil <| J.then_n <| J.seq <| J.region <| J.m rfl <| J.p rfl (Q.asg rfl) <| J.nil <| J.then_n <| J.cret ?_
   have hbad : s.bytes.2.bad = (s.bad || decide ((rdB s.b s.b.length).2.2 ≠ 0)) := rfl
   first
    | (have e : s.bytes.2.bad = true := by rw [hbad, hb25]; rfl
       refine J.convI (pt r (.cells [Value.slice p' (s.b.length - (rdB s.b s.b.length).2.1) c', .bool true].toArray 87 (0, 0))) (rdA r p' c' s.bytes.2) (fun _ h => by unfold rdA; rw [hl2, e]; exact h) ?_
       refine J.ret1I [rdA r p' c' s.bytes.2, own 5 1 (.slice q (rdB s.b s.b.length).1.length d) (bytesV (rdB s.b s.b.length).1), G] rfl rfl ⟨p', c', q, d, rfl, hsp, rfl⟩)
    | (have e : s.bytes.2.bad = !decide (((rdB s.b s.b.length).2.2 : Int) = 0) := by
         rw [hbad, hb25, Bool.false_or, Bool.eq_iff_iff]; simp
       refine J.convI (pt r (.cells [Value.slice p' (s.b.length - (rdB s.b s.b.length).2.1) c', .bool (!decide (((rdB s.b s.b.length).2.2 : Int) = 0))].toArray 87 (0, 0))) (rdA r p' c' s.bytes.2) (fun _ h => by unfold rdA; rw [hl2, e]; exact h) ?_
       refine J.ret1I [rdA r p' c' s.bytes.2, own 5 1 (.slice q (rdB s.b s.b.length).1.length d) (bytesV (rdB s.b s.b.length).1), G] rfl rfl ⟨p', c', q, d, rfl, hsp, rfl⟩)
theorem rtext_spec : FSpec Try.prog 27 [.pointer (some ⟨r, 0, none⟩)] [rdA r p c s, G] (fun u B => ∃ p' c', u = .string s.text.1 ∧ SlP G p' c' s.text.2.b ∧ B = [rdA r p' c' s.text.2, G]) := by
  refine FSpec.of Try.func27 rfl Try.ntmps27 rfl fun W0 F => ?_
  refine J.seq <| J.region <| J.p rfl (Q.asg rfl) <| J.nil <| J.then_n <| J.seq <| J.region <| J.m rfl ?_
  refine J.callI Try.call29 (rbytes_spec G r p c s hs) rfl rfl rfl ?_
  rintro _ _ ⟨p', c', q, d, rfl, hs', rfl⟩
  refine J.norm rfl ?_
  refine J.slrI (E0 := 5) (sz := 1) (p := q) (n := s.bytes.1.length) (c := d) (xs := bytesV s.bytes.1) fun hsq => ?_
  refine J.p rfl (Q.b2s Try.runUnderlying25 Try.runUnderlying9 Try.runUnderlying5 rfl hsq.inI) <| J.p rfl (Q.asg rfl) <| J.nil <| J.then_n <| J.cret ?_
  refine J.ret1I [rdA r p' c' s.bytes.2, G] rfl rfl ⟨p', c', rfl, hs', rfl⟩
theorem rints_spec : FSpec Try.prog 28 [.pointer (some ⟨r, 0, none⟩)] [rdA r p c s, G] (fun u B => ∃ p' c' q d, u = .slice q s.ints.1.length d ∧ SlP G p' c' s.ints.2.b ∧ B = [rdA r p' c' s.ints.2, own 3 1 (.slice q s.ints.1.length d) (s.ints.1.map fun v : Nat => Value.int .i64 (v : Int)), G]) := by
  have hn := hs.n
  have hc := hs.c
  have hil := s.int_len
  have hib := s.int_bd
  refine FSpec.of Try.func28 rfl Try.ntmps28 rfl fun W0 F => ?_
  refine J.seq <| J.region <| J.p rfl (Q.asg rfl) <| J.nil <| J.then_n <| J.seq <| J.region <| J.p rfl (Q.asg rfl) <| J.nil <| J.then_n <| J.seq <| J.seq <| J.region <| J.m rfl ?_
  refine J.callI Try.call26 (rint_spec G r p c s hs) rfl rfl rfl ?_
  rintro _ _ ⟨p1, c1, rfl, hs1, rfl⟩
  refine J.norm rfl <| J.p rfl (Q.asg rfl) <| J.nil <| J.then_n <| J.block ?_
  refine J.give (own.nil 3 1 _) ?_
  refine J.loop (fun z : Nat × List Nat × RS × (Option Addr × Nat) × (Option Addr × Nat) => z.1 ≤ 1099511627776 ∧ (z.2.1 ++ (RS.intsGo z.1 z.2.2.1).1, (RS.intsGo z.1 z.2.2.1).2) = s.ints ∧ SlP G z.2.2.2.1.1 z.2.2.2.1.2 z.2.2.1.b ∧ z.2.1.length + z.2.2.1.b.length ≤ s.b.length + (if z.2.2.1.bad then 1 else 0)) (fun z => z.1)
   (fun z => [(0, .pointer (some ⟨r, 0, none⟩)), (3, .slice z.2.2.2.2.1 z.2.1.length z.2.2.2.2.2), (4, .int .i64 z.1)])
   (fun z => [own 3 1 (.slice z.2.2.2.2.1 z.2.1.length z.2.2.2.2.2) (z.2.1.map fun v : Nat => Value.int .i64 (v : Int)), rdA r z.2.2.2.1.1 z.2.2.2.1.2 z.2.2.1, G, F]) (s.int.1, [], s.int.2, (p1, c1), (none, 0)) ⟨hib, rfl, hs1, by show 0 + s.int.2.b.length ≤ _; omega⟩ ⟨rfl, rfl, rfl, trivial⟩ rfl fun z hz => ?_
  obtain ⟨k, out, t, ⟨p', c'⟩, ⟨q, d⟩⟩ := z
  obtain ⟨h1, h2, hsp, h4⟩ := hz
  dsimp only at h1 h2 hsp h4
  refine J.seq <| J.seq <| J.region <| J.m rfl <| J.p rfl (Q.gtr rfl rfl) <| J.m rfl ?_
  refine J.cases 9 rfl (fun hb9 => ?_) (fun hb9 => ?_)
  ·
   replace hb9 := X.nm hb9
   try (first | (cases hb9; done) | (exfalso; simp at hb9; done))
   all_goals
    refine J.m rfl <| J.p rfl (Q.nil_ rfl) <| J.p rfl (Q.fa (n := 1) Try.runUnderlying87 rfl rfl Try.sizeOf4 rfl) ?_
    refine J.p rfl (Q.ld Try.isAgg4 rfl (rdI (by exact rfl))) ?_
    refine J.p rfl (Q.not rfl) <| J.p rfl (Q.pick_t rfl rfl) <| J.nil <| J.then_n ?_
    refine J.cases 15 rfl (fun hc15 => ?_) (fun hc15 => ?_)
    ·
     replace hc15 := X.nm hc15
     try (first | (cases hc15; done) | (exfalso; simp at hc15; done))
     all_goals
      refine J.cond_t rfl <| J.cskip <| J.then_n <| J.seq <| J.block ?_
      have hbad : t.bad = false := by simpa using hc15
      obtain ⟨k', rfl⟩ : ∃ k', k = k' + 1 := ⟨k - 1, by omega⟩
      simp only [RS.intsGo, hbad, Bool.false_eq_true, if_false] at h2 h4
      have hl1 := t.int_len
      have hl2 := t.int_less
      have hob : out.length ≤ 1099511627776 := by omega
      refine J.region <| J.m rfl <| J.m rfl ?_
      refine J.callI Try.call26 (rint_spec G r p' c' t hsp) rfl rfl rfl ?_
      rintro _ _ ⟨p2, c2, rfl, hsp2, rfl⟩
      refine J.norm rfl ?_
      refine J.c rfl rfl (C.bslG (l := [_]) Try.runUnderlying24 Try.sizeOf3 Try.zeroValue3 (by decide) rfl rfl rfl rfl rfl) ?_
      rintro _ _ ⟨b21, rfl, rfl⟩
      refine J.norm rfl ?_
      refine J.c rfl rfl (C.appI Try.runUnderlying24 Try.runUnderlying24 Try.typeInfo3 Try.sizeOf3 Try.zeroValue3 rfl rfl (SlR.ptI rfl) (by simp [oneC]) (by simp [Try.t3] <;> omega) (by decide)) ?_
      rintro _ _ ⟨p22, c22, rfl, rfl⟩
      refine J.norm rfl <| J.p rfl (Q.asg rfl) <| J.nil <| J.blk_n <| J.then_n <| J.region <| J.m rfl <| J.p rfl (Q.sub64 rfl rfl (by omega)) ?_
      refine J.slot 17 (.int .i64 (k' : Int)) rfl (by congr 1; omega) ?_
      refine J.p rfl (Q.asg rfl) <| J.nil ?_
      have e2 : out.length + 1 = (out ++ [t.int.1]).length := by simp
      have e3 : (out.map fun v : Nat => Value.int .i64 (v : Int)) ++ [Value.int .i64 (t.int.1 : Int)] = (out ++ [t.int.1]).map fun v : Nat => Value.int .i64 (v : Int) := by simp
      rw [e2, e3]
      refine J.againI (k', out ++ [t.int.1], t.int.2, (p2, c2), (p22, c22)) ⟨by show k' ≤ _; omega, by rw [← h2]; simp, hsp2, ?_⟩ (Nat.lt_succ_self _) ⟨rfl, rfl, rfl, trivial⟩
      show (out ++ [t.int.1]).length + t.int.2.b.length ≤ _
      rw [← e2]
      split
      · omega
      · rename_i hx; have := hl2 (by simpa using hx); omega
    replace hc15 := X.nm hc15
    try (first | (cases hc15; done) | (exfalso; simp at hc15; done))
    all_goals
     refine J.cond_f rfl <| J.exit <| J.then_x <| J.lp_x <| J.blk_x <| J.then_n <| J.seq <| J.region <| J.m rfl <| J.p rfl (Q.asg rfl) <| J.nil <| J.then_n <| J.cret ?_
     have hkb : k = 0 ∨ t.bad = true := by
      first
       | exact Or.inl (by omega)
       | exact Or.inr (by simpa using hc15)
     have e : RS.intsGo k t = ([], t) := by
      cases k with
      | zero => rfl
      | succ k =>
       have hb : t.bad = true := hkb.resolve_left (by omega)
       simp [RS.intsGo, hb]
     rw [e, List.append_nil] at h2
     rw [← h2]
     refine J.ret1I [rdA r p' c' t, own 3 1 (.slice q out.length d) (out.map fun v : Nat => Value.int .i64 (v : Int)), G] rfl rfl ⟨p', c', q, d, rfl, hsp, rfl⟩
  replace hb9 := X.nm hb9
  try (first | (cases hb9; done) | (exfalso; simp at hb9; done))
  all_goals
   refine J.skip rfl rfl <| J.skip rfl rfl <| J.skip rfl rfl <| J.skip rfl rfl <| J.skip rfl rfl <| J.p rfl (Q.pick_f rfl rfl) <| J.nil <| J.then_n <| J.cond_f rfl <| J.exit <| J.then_x <| J.lp_x <| J.blk_x <| J.then_n <| J.seq <| J.region <| J.m rfl <| J.p rfl (Q.asg rfl) <| J.nil <| J.then_n <| J.cret ?_
   have hkb : k = 0 ∨ t.bad = true := by
    first
     | exact Or.inl (by omega)
     | exact Or.inr (by simpa using hc15)
   have e : RS.intsGo k t = ([], t) := by
    cases k with
    | zero => rfl
    | succ k =>
     have hb : t.bad = true := hkb.resolve_left (by omega)
     simp [RS.intsGo, hb]
   rw [e, List.append_nil] at h2
   rw [← h2]
   refine J.ret1I [rdA r p' c' t, own 3 1 (.slice q out.length d) (out.map fun v : Nat => Value.int .i64 (v : Int)), G] rfl rfl ⟨p', c', q, d, rfl, hsp, rfl⟩
end
end Go.Proofs.Ytidbcaimgahllaa
namespace Go.Proofs.Ytidbcaimgahllaa
set_option linter.unusedSectionVars false
set_option linter.unusedSimpArgs false
set_option linter.unusedVariables false
open Go.X

abbrev wrA (w : Nat) (p : Option Addr) (c : Nat) (acc : List UInt8) : Assn := pt w (.cells [Value.slice p acc.length c].toArray 46 (0, 0))
abbrev wrO (p : Option Addr) (c : Nat) (acc : List UInt8) : Assn := own 5 1 (.slice p acc.length c) (bytesV acc)

theorem flat_numB : ∀ (vs : List Nat), (∀ v, v ∈ vs → v ≤ 18446744073709551615) → (vs.flatMap numB).length ≤ 10 * vs.length
  | [], _ => by simp
  | v :: vs, h => by
    have := numB_len v (h v (by simp))
    have := flat_numB vs fun u hu => h u (by simp [hu])
    simp only [List.flatMap_cons, List.length_append, List.length_cons]; omega
theorem flat_encB : ∀ (vs : List ByteArray), (∀ v, v ∈ vs → v.size ≤ 1024) → (vs.flatMap fun s => encB s.data.toList).length ≤ 2000 * vs.length
  | [], _ => by simp
  | v :: vs, h => by
    have h1 := h v (by simp)
    have hl : v.data.toList.length = v.size := by simp
    have := numB_len v.data.toList.length (by omega)
    have := flat_encB vs fun u hu => h u (by simp [hu])
    simp only [List.flatMap_cons, List.length_append, List.length_cons, encB] at this ⊢; omega

section
variable (G : Assn) (w : Nat) (p : Option Addr) (c : Nat) (acc : List UInt8)
theorem wnumbers_spec (vp : Option Addr) (vn vc : Nat) (vs : List Nat) (hr : SlR [G] 1 (.slice vp vn vc) (vs.map encU)) (hn : acc.length + 10 * vs.length ≤ 70368744100000) (hv : ∀ v, v ∈ vs → v ≤ 18446744073709551615) :
    FSpec Try.prog 8 [.pointer (some ⟨w, 0, none⟩), .slice vp vn vc] [wrA w p c acc, wrO p c acc, G]
    (fun u B => ∃ p' c', u = .tuple #[] ∧ B = [wrA w p' c' (acc ++ vs.flatMap numB), wrO p' c' (acc ++ vs.flatMap numB), G]) := by
  have hlen : vs.length = vn := by have := hr.len; simp at this; omega
  refine FSpec.of Try.func8 rfl Try.ntmps8 rfl fun W0 F => ?_
  refine J.seq <| J.region <| J.m rfl <| J.p rfl (Q.lenSl Try.runUnderlying65 rfl) <| J.m rfl <| J.nil <| J.then_n <| J.block ?_
  refine J.loop3 (fun (i : Nat) (_ : Option Addr) (_ : Nat) => i ≤ vn ∧ ((vs.take i).flatMap numB).length ≤ 10 * i) (fun i _ _ => vn - i) (fun i p c => [(0, .pointer (some ⟨w, 0, none⟩)), (6, .slice vp vn vc), (7, .int .i64 vn), (8, .int .i64 i)]) (fun i p c => [wrA w p c (acc ++ (vs.take i).flatMap numB), wrO p c (acc ++ (vs.take i).flatMap numB), G, F]) 0 p c ⟨Nat.zero_le _, Nat.le_refl _⟩ ⟨rfl, rfl, rfl, rfl, trivial⟩ (by simp) fun i p c hz => ?_
  obtain ⟨hi, hb⟩ := hz
  refine J.seq <| J.region <| J.p rfl (Q.lss rfl rfl) <| J.nil <| J.then_n <| J.seq ?_
  refine J.cases 9 rfl (fun hc9 => ?_) (fun hc9 => ?_)
  ·
   replace hc9 := X.nm hc9
   refine J.cond_t rfl <| J.cskip <| J.then_n <| J.seq <| J.block <| J.seq ?_
   have hil : i < vn := by omega
   obtain ⟨b, off, hvp, hrd⟩ := hr.some_ (by omega)
   obtain ⟨v, hvi⟩ : ∃ v, vs[i]? = some v := ⟨_, List.getElem?_eq_getElem (by omega)⟩
   have hvb := hv v (List.mem_of_getElem? hvi)
   have hnl := numB_len v hvb
   have hft : (vs.take (i + 1)).flatMap numB = (vs.take i).flatMap numB ++ numB v := by
     obtain ⟨h1, h2⟩ := List.getElem?_eq_some_iff.1 hvi
     rw [List.take_succ_eq_append_getElem h1, List.flatMap_append, h2, List.flatMap_cons, List.flatMap_nil, List.append_nil]
   obtain ⟨ac, hac⟩ : ∃ ac, ac = acc ++ (vs.take i).flatMap numB := ⟨_, rfl⟩
   have hal : ac.length ≤ 70368744100000 := by rw [hac, List.length_append]; omega
   rw [← hac]
   refine J.slot 6 (.slice (some ⟨b, off, none⟩) vn vc) rfl (by rw [hvp]) ?_
   refine J.region <| J.p rfl (Q.ia Try.runUnderlying65 Try.sizeOf23 rfl rfl (by omega) (by omega)) <| J.p rfl (Q.ld Try.isAgg23 rfl ((hrd i (encU v) (by simp [hvi])).cast (by simp)).inI) <| J.p rfl (Q.asg rfl) <| J.nil <| J.then_n <| J.region <| J.m rfl <| J.m rfl <| J.p rfl (Q.nil_ rfl) <| J.p rfl (Q.fa (n := 0) Try.runUnderlying46 rfl rfl Try.sizeOf25 rfl) ?_
   refine J.p rfl (Q.ld Try.isAgg25 rfl (rdI (by exact rfl))) ?_
   refine J.m rfl ?_
   refine J.callI Try.call16 (number_spec p c ac v hal hvb) rfl rfl rfl ?_
   rintro _ _ ⟨p18, c18, rfl, rfl⟩
   refine J.norm rfl <| J.p rfl (Q.nil_ rfl) <| J.p rfl (Q.fa (n := 0) Try.runUnderlying46 rfl rfl Try.sizeOf25 rfl) ?_
   refine J.stI rfl Try.sizeOf25 rfl rfl rfl (by exact rfl) (by exact rfl) (by exact rfl) ?_
   refine J.nil <| J.blk_n <| J.then_n <| J.region <| J.p rfl (Q.add64 rfl rfl (by omega)) <| J.m rfl <| J.nil ?_
   have e1 : acc ++ (vs.take (i + 1)).flatMap numB = ac ++ numB v := by rw [hft, ← List.append_assoc, hac]
   rw [← e1]
   refine J.againI (i + 1, p18, c18) ⟨by show i + 1 ≤ vn; omega, by show ((vs.take (i + 1)).flatMap numB).length ≤ 10 * (i + 1); rw [hft, List.length_append]; omega⟩ (by show vn - (i + 1) < vn - i; omega) ⟨rfl, (by show _ = some (Value.slice vp vn vc); rw [hvp]; rfl), rfl, rfl, trivial⟩
  replace hc9 := X.nm hc9
  refine J.cond_f rfl <| J.exit <| J.then_x <| J.lp_x <| J.blk_x ?_
  have htk : vs.take i = vs := List.take_of_length_le (by omega)
  rw [htk]
  refine J.end0I [wrA w p c (acc ++ vs.flatMap numB), wrO p c (acc ++ vs.flatMap numB), G] rfl ⟨p, c, rfl, rfl⟩
theorem wbytes_spec (q : Option Addr) (e : Nat) (bs : List UInt8) (hs : SlR [G] 1 (.slice q bs.length e) (bytesV bs)) (hn : acc.length + bs.length ≤ 70368744000000) :
    FSpec Try.prog 11 [.pointer (some ⟨w, 0, none⟩), .slice q bs.length e] [wrA w p c acc, wrO p c acc, G]
    (fun u B => ∃ p' c', u = .tuple #[] ∧ B = [wrA w p' c' (acc ++ encB bs), wrO p' c' (acc ++ encB bs), G]) := by
  refine FSpec.of Try.func11 rfl Try.ntmps11 rfl fun W0 F => ?_
  refine J.region <| J.m rfl <| J.m rfl <| J.p rfl (Q.nil_ rfl) <| J.p rfl (Q.fa (n := 0) Try.runUnderlying46 rfl rfl Try.sizeOf25 rfl) ?_
  refine J.p rfl (Q.ld Try.isAgg25 rfl (rdI (by exact rfl))) ?_
  refine J.m rfl ?_
  refine J.c rfl rfl (C.bslG (l := [_]) Try.runUnderlying83 Try.sizeOf25 Try.zeroValue25 (by decide) rfl rfl rfl rfl rfl) ?_
  rintro _ _ ⟨b10, rfl, rfl⟩
  refine J.norm rfl ?_
  refine J.callI Try.call17 (bytes_spec G q e bs hs (by omega) b10 p c acc (by omega)) rfl rfl rfl ?_
  rintro _ _ ⟨p11, c11, rfl, rfl⟩
  refine J.norm rfl <| J.p rfl (Q.nil_ rfl) <| J.p rfl (Q.fa (n := 0) Try.runUnderlying46 rfl rfl Try.sizeOf25 rfl) ?_
  refine J.stI rfl Try.sizeOf25 rfl rfl rfl (by exact rfl) (by exact rfl) (by exact rfl) ?_
  refine J.nil ?_
  refine J.end0I [wrA w p11 c11 (acc ++ encB bs), wrO p11 c11 (acc ++ encB bs), G] rfl ⟨p11, c11, rfl, rfl⟩
theorem wtexts_spec (vp : Option Addr) (vn vc : Nat) (vs : List ByteArray) (hr : SlR [G] 1 (.slice vp vn vc) (vs.map Value.string)) (hn : acc.length + 2000 * vs.length ≤ 70368740000000) (hv : ∀ v, v ∈ vs → v.size ≤ 1024) :
    FSpec Try.prog 9 [.pointer (some ⟨w, 0, none⟩), .slice vp vn vc] [wrA w p c acc, wrO p c acc, G]
    (fun u B => ∃ p' c', u = .tuple #[] ∧ B = [wrA w p' c' (acc ++ vs.flatMap fun s => encB s.data.toList), wrO p' c' (acc ++ vs.flatMap fun s => encB s.data.toList), G]) := by
  have hlen : vs.length = vn := by have := hr.len; simp at this; omega
  refine FSpec.of Try.func9 rfl Try.ntmps9 rfl fun W0 F => ?_
  refine J.seq <| J.region <| J.m rfl <| J.p rfl (Q.lenSl Try.runUnderlying32 rfl) <| J.m rfl <| J.nil <| J.then_n <| J.block ?_
  refine J.loop3 (fun (i : Nat) (_ : Option Addr) (_ : Nat) => i ≤ vn ∧ ((vs.take i).flatMap fun s => encB s.data.toList).length ≤ 2000 * i) (fun i _ _ => vn - i) (fun i p c => [(0, .pointer (some ⟨w, 0, none⟩)), (6, .slice vp vn vc), (7, .int .i64 vn), (8, .int .i64 i)]) (fun i p c => [wrA w p c (acc ++ (vs.take i).flatMap fun s => encB s.data.toList), wrO p c (acc ++ (vs.take i).flatMap fun s => encB s.data.toList), G, F]) 0 p c ⟨Nat.zero_le _, Nat.le_refl _⟩ ⟨rfl, rfl, rfl, rfl, trivial⟩ (by simp) fun i p c hz => ?_
  obtain ⟨hi, hb⟩ := hz
  refine J.seq <| J.region <| J.p rfl (Q.lss rfl rfl) <| J.nil <| J.then_n <| J.seq ?_
  refine J.cases 9 rfl (fun hc9 => ?_) (fun hc9 => ?_)
  ·
   replace hc9 := X.nm hc9
   refine J.cond_t rfl <| J.cskip <| J.then_n <| J.seq <| J.block <| J.seq ?_
   have hil : i < vn := by omega
   obtain ⟨b, off, hvp, hrd⟩ := hr.some_ (by omega)
   obtain ⟨v, hvi⟩ : ∃ v, vs[i]? = some v := ⟨_, List.getElem?_eq_getElem (by omega)⟩
   have hvb := hv v (List.mem_of_getElem? hvi)
   have hvl : v.data.toList.length ≤ 1024 := by have : v.data.toList.length = v.size := by simp
                                                omega
   have hel : (encB v.data.toList).length ≤ 2000 := by unfold encB; rw [List.length_append]; have := numB_len v.data.toList.length (by omega); omega
   have hft : ((vs.take (i + 1)).flatMap fun s => encB s.data.toList) = ((vs.take i).flatMap fun s => encB s.data.toList) ++ encB v.data.toList := by
     obtain ⟨h1, h2⟩ := List.getElem?_eq_some_iff.1 hvi
     rw [List.take_succ_eq_append_getElem h1, List.flatMap_append, h2, List.flatMap_cons, List.flatMap_nil, List.append_nil]
   obtain ⟨ac, hac⟩ : ∃ ac, ac = acc ++ (vs.take i).flatMap fun s => encB s.data.toList := ⟨_, rfl⟩
   have hal : ac.length ≤ 70368740000000 := by rw [hac, List.length_append]; omega
   rw [← hac]
   refine J.slot 6 (.slice (some ⟨b, off, none⟩) vn vc) rfl (by rw [hvp]) ?_
   refine J.region <| J.p rfl (Q.ia Try.runUnderlying32 Try.sizeOf9 rfl rfl (by omega) (by omega)) <| J.p rfl (Q.ld Try.isAgg9 rfl ((hrd i (Value.string v) (by simp [hvi])).cast (by simp)).inI) <| J.p rfl (Q.asg rfl) <| J.nil <| J.then_n <| J.region <| J.m rfl <| J.m rfl ?_
   refine J.c rfl rfl (C.s2bL Try.runUnderlying9 Try.runUnderlying25 Try.runUnderlying5 rfl) ?_
   rintro _ _ ⟨b14, c14, rfl, rfl⟩
   refine J.norm rfl ?_
   refine J.slrI (E0 := 5) (sz := 1) (p := some ⟨b14, 0, none⟩) (n := v.data.toList.length) (c := c14) (xs := bytesV v.data.toList) fun hsq => ?_
   refine J.callI Try.call11 (wbytes_spec _ w p c ac (some ⟨b14, 0, none⟩) c14 v.data.toList hsq (by omega)) rfl rfl rfl ?_
   rintro _ _ ⟨p15, c15, rfl, rfl⟩
   refine J.norm rfl <| J.nil <| J.blk_n <| J.then_n <| J.region <| J.p rfl (Q.add64 rfl rfl (by omega)) <| J.m rfl <| J.nil ?_
   have e1 : (acc ++ (vs.take (i + 1)).flatMap fun s => encB s.data.toList) = ac ++ encB v.data.toList := by rw [hft, ← List.append_assoc, hac]
   rw [← e1]
   refine J.againI (i + 1, p15, c15) ⟨by show i + 1 ≤ vn; omega, by show ((vs.take (i + 1)).flatMap fun s => encB s.data.toList).length ≤ 2000 * (i + 1); rw [hft, List.length_append]; omega⟩ (by show vn - (i + 1) < vn - i; omega) ⟨rfl, (by show _ = some (Value.slice vp vn vc); rw [hvp]; rfl), rfl, rfl, trivial⟩
  replace hc9 := X.nm hc9
  refine J.cond_f rfl <| J.exit <| J.then_x <| J.lp_x <| J.blk_x ?_
  have htk : vs.take i = vs := List.take_of_length_le (by omega)
  rw [htk]
  refine J.end0I [wrA w p c (acc ++ vs.flatMap fun s => encB s.data.toList), wrO p c (acc ++ vs.flatMap fun s => encB s.data.toList), G] rfl ⟨p, c, rfl, rfl⟩
theorem wints_spec (vp : Option Addr) (vn vc : Nat) (vs : List Int) (hr : SlR [G] 1 (.slice vp vn vc) (vs.map (Value.int .i64))) (hn : acc.length + 10 * vs.length ≤ 70368744000000) (hv : ∀ v, v ∈ vs → 0 ≤ v ∧ v ≤ 1099511627776) :
    FSpec Try.prog 10 [.pointer (some ⟨w, 0, none⟩), .slice vp vn vc] [wrA w p c acc, wrO p c acc, G]
    (fun u B => ∃ p' c', u = .tuple #[] ∧ B = [wrA w p' c' (acc ++ (vs.map Int.toNat).flatMap numB), wrO p' c' (acc ++ (vs.map Int.toNat).flatMap numB), G]) := by
  have hlen : vs.length = vn := by have := hr.len; simp at this; omega
  refine FSpec.of Try.func10 rfl Try.ntmps10 rfl fun W0 F => ?_
  refine J.seq <| J.region <| J.m rfl <| J.p rfl (Q.lenSl Try.runUnderlying24 rfl) <| J.m rfl <| J.nil <| J.then_n <| J.block ?_
  refine J.loop3 (fun (i : Nat) (_ : Option Addr) (_ : Nat) => i ≤ vn ∧ (((vs.take i).map Int.toNat).flatMap numB).length ≤ 10 * i) (fun i _ _ => vn - i) (fun i p c => [(0, .pointer (some ⟨w, 0, none⟩)), (6, .slice vp vn vc), (7, .int .i64 vn), (8, .int .i64 i)]) (fun i p c => [wrA w p c (acc ++ ((vs.take i).map Int.toNat).flatMap numB), wrO p c (acc ++ ((vs.take i).map Int.toNat).flatMap numB), G, F]) 0 p c ⟨Nat.zero_le _, Nat.le_refl _⟩ ⟨rfl, rfl, rfl, rfl, trivial⟩ (by simp) fun i p c hz => ?_
  obtain ⟨hi, hb⟩ := hz
  refine J.seq <| J.region <| J.p rfl (Q.lss rfl rfl) <| J.nil <| J.then_n <| J.seq ?_
  refine J.cases 9 rfl (fun hc9 => ?_) (fun hc9 => ?_)
  ·
   replace hc9 := X.nm hc9
   refine J.cond_t rfl <| J.cskip <| J.then_n <| J.seq <| J.block <| J.seq ?_
   have hil : i < vn := by omega
   obtain ⟨b, off, hvp, hrd⟩ := hr.some_ (by omega)
   obtain ⟨v, hvi⟩ : ∃ v, vs[i]? = some v := ⟨_, List.getElem?_eq_getElem (by omega)⟩
   have hvb := hv v (List.mem_of_getElem? hvi)
   have hnl := numB_len v.toNat (by omega)
   have hft : ((vs.take (i + 1)).map Int.toNat).flatMap numB = ((vs.take i).map Int.toNat).flatMap numB ++ numB v.toNat := by
     obtain ⟨h1, h2⟩ := List.getElem?_eq_some_iff.1 hvi
     rw [List.take_succ_eq_append_getElem h1, List.map_append, List.flatMap_append, h2, List.map_cons, List.map_nil, List.flatMap_cons, List.flatMap_nil, List.append_nil]
   obtain ⟨ac, hac⟩ : ∃ ac, ac = acc ++ ((vs.take i).map Int.toNat).flatMap numB := ⟨_, rfl⟩
   have hal : ac.length ≤ 70368744000000 := by rw [hac, List.length_append]; omega
   rw [← hac]
   refine J.slot 6 (.slice (some ⟨b, off, none⟩) vn vc) rfl (by rw [hvp]) ?_
   refine J.region <| J.p rfl (Q.ia Try.runUnderlying24 Try.sizeOf3 rfl rfl (by omega) (by omega)) <| J.p rfl (Q.ld Try.isAgg3 rfl ((hrd i (.int .i64 v) (by simp [hvi])).cast (by simp)).inI) <| J.p rfl (Q.asg rfl) <| J.nil <| J.then_n <| J.region <| J.m rfl <| J.m rfl <| J.p rfl (Q.conv Try.runUnderlying3 Try.runUnderlying23 rfl) ?_
   refine J.slot 14 (encU v.toNat) rfl (by show Value.int .u64 (IntKind.u64.wrap v) = Value.int .u64 ((v.toNat : Nat) : Int); congr 1; rw [show v = ((v.toNat : Nat) : Int) by omega, wrap64 (by omega)]; simp) ?_
   refine J.c rfl rfl (C.bslG (l := [_]) Try.runUnderlying65 Try.sizeOf23 Try.zeroValue23 (by decide) rfl rfl rfl rfl rfl) ?_
   rintro _ _ ⟨b15, rfl, rfl⟩
   refine J.norm rfl ?_
   refine J.callI Try.call8 (wnumbers_spec (pt b15 (.cells [encU v.toNat].toArray 23 (0, 0))) w p c ac (some ⟨b15, 0, none⟩) 1 1 [v.toNat] (SlR.ptI rfl) (by show _ + 10 * 1 ≤ _; omega) (by intro u hu; rw [List.mem_singleton.1 hu]; omega)) rfl rfl rfl ?_
   rintro _ _ ⟨p15, c15, rfl, rfl⟩
   refine J.norm rfl <| J.nil <| J.blk_n <| J.then_n <| J.region <| J.p rfl (Q.add64 rfl rfl (by omega)) <| J.m rfl <| J.nil ?_
   have e1 : acc ++ ((vs.take (i + 1)).map Int.toNat).flatMap numB = ac ++ [v.toNat].flatMap numB := by rw [hft, ← List.append_assoc, hac]; simp
   rw [← e1]
   refine J.againI (i + 1, p15, c15) ⟨by show i + 1 ≤ vn; omega, by show (((vs.take (i + 1)).map Int.toNat).flatMap numB).length ≤ 10 * (i + 1); rw [hft, List.length_append]; omega⟩ (by show vn - (i + 1) < vn - i; omega) ⟨rfl, (by show _ = some (Value.slice vp vn vc); rw [hvp]; rfl), rfl, rfl, trivial⟩
  replace hc9 := X.nm hc9
  refine J.cond_f rfl <| J.exit <| J.then_x <| J.lp_x <| J.blk_x ?_
  have htk : vs.take i = vs := List.take_of_length_le (by omega)
  rw [htk]
  refine J.end0I [wrA w p c (acc ++ (vs.map Int.toNat).flatMap numB), wrO p c (acc ++ (vs.map Int.toNat).flatMap numB), G] rfl ⟨p, c, rfl, rfl⟩
end
theorem opCommand_spec (G : Assn) (x : OW) (hx : x.ok G) (ho : x.o.fine) : FSpec Try.prog 5 [.agg x.cells.toArray] [G] (fun u B => ∃ p c, u = .slice p (opB x.o).length c ∧ B = [wrO p c (opB x.o), G]) := by
  have hk := ho.kind
  have hnn := ho.n
  have hpp := ho.parts
  have htt := ho.texts
  have hdd := ho.data
  have hii := ho.id
  have huu := ho.up
  refine FSpec.of Try.func5 rfl Try.ntmps5 rfl fun W0 F => ?_
  refine J.seq <| J.region ?_
  refine J.c rfl rfl (C.box (l := [_, _, _, _, _, _, _, _, _]) rfl rfl) ?_
  rintro _ _ ⟨b1, rfl, rfl⟩
  refine J.norm rfl <| J.p rfl (Q.asg rfl) <| J.nil <| J.then_n <| J.seq <| J.region <| J.p rfl (Q.bld (l := [_]) Try.runUnderlying46 Try.zeroValue46 Try.places46 rfl rfl) ?_
  refine J.c rfl rfl (C.box (l := [_]) rfl rfl) ?_
  rintro _ _ ⟨b5, rfl, rfl⟩
  refine J.norm rfl ?_
  refine J.conv (Y := wrA b5 none 0 []) 0 rfl (fun _ h => h) ?_
  refine J.give (X := wrO none 0 []) (own.nil _ _ _) ?_
  refine J.p rfl (Q.asg rfl) <| J.nil <| J.then_n <| J.seq <| J.region <| J.m rfl <| J.p rfl (Q.fa (n := 0) Try.runUnderlying27 rfl rfl Try.sizeOf23 rfl) ?_
  refine J.p rfl (Q.ld Try.isAgg23 rfl (rdI (by exact rfl))) ?_
  refine J.p rfl (Q.fa (n := 1) Try.runUnderlying27 rfl rfl Try.sizeOf3 rfl) ?_
  refine J.p rfl (Q.ld Try.isAgg3 rfl (rdI (by exact rfl))) ?_
  refine J.p rfl (Q.conv Try.runUnderlying3 Try.runUnderlying23 rfl) ?_
  refine J.slot 11 (encU x.o.kind.toNat) rfl (by show Value.int .u64 (IntKind.u64.wrap x.o.kind) = Value.int .u64 ((x.o.kind.toNat : Nat) : Int); congr 1; rw [show x.o.kind = ((x.o.kind.toNat : Nat) : Int) by omega, wrap64 (by omega)]; simp) ?_
  refine J.c rfl rfl (C.bslG (l := [_, _, _]) Try.runUnderlying65 Try.sizeOf23 Try.zeroValue23 (by decide) rfl rfl rfl rfl rfl) ?_
  rintro _ _ ⟨b12, rfl, rfl⟩
  refine J.norm rfl ?_
  refine J.conv (Y := pt b12 (.cells ([1, x.o.id, x.o.kind.toNat].map encU).toArray 23 (0, 0))) 0 rfl (fun _ h => h) ?_
  refine J.callI Try.call8 (wnumbers_spec (pt b12 (.cells ([1, x.o.id, x.o.kind.toNat].map encU).toArray 23 (0, 0))) b5 none 0 [] (some ⟨b12, 0, none⟩) 3 3 [1, x.o.id, x.o.kind.toNat] (SlR.ptI rfl) (by show 0 + 10 * 3 ≤ _; omega) (by intro v hv; simp only [List.mem_cons, List.not_mem_nil, or_false] at hv; omega)) rfl rfl rfl ?_
  rintro _ _ ⟨p13, c13, rfl, rfl⟩
  refine J.norm rfl ?_
  obtain ⟨a1, ha1⟩ : ∃ a, a = [] ++ [1, x.o.id, x.o.kind.toNat].flatMap numB := ⟨_, rfl⟩
  have l1 : a1.length ≤ 30 := by rw [ha1, List.nil_append]; exact flat_numB [1, x.o.id, x.o.kind.toNat] (by intro v hv; simp only [List.mem_cons, List.not_mem_nil, or_false] at hv; omega)
  rw [← ha1]
  refine J.nil <| J.then_n <| J.seq <| J.region <| J.m rfl <| J.p rfl (Q.fa (n := 2) Try.runUnderlying27 rfl rfl Try.sizeOf9 rfl) ?_
  refine J.p rfl (Q.ld Try.isAgg9 rfl (rdI (by exact rfl))) ?_
  refine J.p rfl (Q.fa (n := 3) Try.runUnderlying27 rfl rfl Try.sizeOf9 rfl) ?_
  refine J.p rfl (Q.ld Try.isAgg9 rfl (rdI (by exact rfl))) ?_
  refine J.p rfl (Q.fa (n := 4) Try.runUnderlying27 rfl rfl Try.sizeOf9 rfl) ?_
  refine J.p rfl (Q.ld Try.isAgg9 rfl (rdI (by exact rfl))) ?_
  refine J.c rfl rfl (C.bslG (l := [_, _, _]) Try.runUnderlying32 Try.sizeOf9 Try.zeroValue9 (by decide) rfl rfl rfl rfl rfl) ?_
  rintro _ _ ⟨b21, rfl, rfl⟩
  refine J.norm rfl ?_
  refine J.conv (Y := pt b21 (.cells ([x.o.bucket, x.o.key, x.o.after].map Value.string).toArray 9 (0, 0))) 0 rfl (fun _ h => h) ?_
  refine J.callI Try.call9 (wtexts_spec (pt b21 (.cells ([x.o.bucket, x.o.key, x.o.after].map Value.string).toArray 9 (0, 0))) b5 p13 c13 a1 (some ⟨b21, 0, none⟩) 3 3 [x.o.bucket, x.o.key, x.o.after] (SlR.ptI rfl) (by show a1.length + 2000 * 3 ≤ _; omega) (by intro v hv; simp only [List.mem_cons, List.not_mem_nil, or_false] at hv; rcases hv with rfl | rfl | rfl <;> omega)) rfl rfl rfl ?_
  rintro _ _ ⟨p22, c22, rfl, rfl⟩
  refine J.norm rfl ?_
  obtain ⟨a2, ha2⟩ : ∃ a, a = a1 ++ [x.o.bucket, x.o.key, x.o.after].flatMap fun s => encB s.data.toList := ⟨_, rfl⟩
  have l2 : a2.length ≤ 6030 := by rw [ha2, List.length_append]; have := flat_encB [x.o.bucket, x.o.key, x.o.after] (by intro v hv; simp only [List.mem_cons, List.not_mem_nil, or_false] at hv; rcases hv with rfl | rfl | rfl <;> omega)
                                   simp only [List.length_cons, List.length_nil] at this; omega
  rw [← ha2]
  refine J.nil <| J.then_n <| J.seq <| J.region <| J.m rfl <| J.p rfl (Q.fa (n := 5) Try.runUnderlying27 rfl rfl Try.sizeOf3 rfl) ?_
  refine J.p rfl (Q.ld Try.isAgg3 rfl (rdI (by exact rfl))) ?_
  refine J.p rfl (Q.conv Try.runUnderlying3 Try.runUnderlying23 rfl) ?_
  refine J.slot 26 (encU x.o.n.toNat) rfl (by show Value.int .u64 (IntKind.u64.wrap x.o.n) = Value.int .u64 ((x.o.n.toNat : Nat) : Int); congr 1; rw [show x.o.n = ((x.o.n.toNat : Nat) : Int) by omega, wrap64 (by omega)]; simp) ?_
  refine J.p rfl (Q.fa (n := 6) Try.runUnderlying27 rfl rfl Try.sizeOf23 rfl) ?_
  refine J.p rfl (Q.ld Try.isAgg23 rfl (rdI (by exact rfl))) ?_
  refine J.p rfl (Q.fa (n := 7) Try.runUnderlying27 rfl rfl Try.sizeOf24 rfl) ?_
  refine J.p rfl (Q.ld Try.isAgg24 rfl (rdI (by exact rfl))) ?_
  refine J.p rfl (Q.lenSl Try.runUnderlying24 rfl) <| J.p rfl (Q.conv Try.runUnderlying3 Try.runUnderlying23 rfl) ?_
  refine J.slot 32 (encU x.o.parts.length) rfl (by show Value.int .u64 (IntKind.u64.wrap (x.o.parts.length : Int)) = _; rw [wrap64 (by omega)]; rfl) ?_
  refine J.c rfl rfl (C.bslG (l := [_, _, _]) Try.runUnderlying65 Try.sizeOf23 Try.zeroValue23 (by decide) rfl rfl rfl rfl rfl) ?_
  rintro _ _ ⟨b33, rfl, rfl⟩
  refine J.norm rfl ?_
  refine J.conv (Y := pt b33 (.cells ([x.o.n.toNat, x.o.upload, x.o.parts.length].map encU).toArray 23 (0, 0))) 0 rfl (fun _ h => h) ?_
  refine J.callI Try.call8 (wnumbers_spec (pt b33 (.cells ([x.o.n.toNat, x.o.upload, x.o.parts.length].map encU).toArray 23 (0, 0))) b5 p22 c22 a2 (some ⟨b33, 0, none⟩) 3 3 [x.o.n.toNat, x.o.upload, x.o.parts.length] (SlR.ptI rfl) (by show a2.length + 10 * 3 ≤ _; omega) (by intro v hv; simp only [List.mem_cons, List.not_mem_nil, or_false] at hv; omega)) rfl rfl rfl ?_
  rintro _ _ ⟨p34, c34, rfl, rfl⟩
  refine J.norm rfl ?_
  obtain ⟨a3, ha3⟩ : ∃ a, a = a2 ++ [x.o.n.toNat, x.o.upload, x.o.parts.length].flatMap numB := ⟨_, rfl⟩
  have l3 : a3.length ≤ 6060 := by rw [ha3, List.length_append]; have := flat_numB [x.o.n.toNat, x.o.upload, x.o.parts.length] (by intro v hv; simp only [List.mem_cons, List.not_mem_nil, or_false] at hv; omega)
                                   simp only [List.length_cons, List.length_nil] at this; omega
  rw [← ha3]
  refine J.nil <| J.then_n <| J.seq <| J.region <| J.m rfl <| J.p rfl (Q.fa (n := 7) Try.runUnderlying27 rfl rfl Try.sizeOf24 rfl) ?_
  refine J.p rfl (Q.ld Try.isAgg24 rfl (rdI (by exact rfl))) ?_
  refine J.callI Try.call10 (wints_spec G b5 p34 c34 a3 x.pp x.o.parts.length x.pc x.o.parts hx.parts (by omega) (by intro v hv; have := hpp.2 v hv; omega)) rfl rfl rfl ?_
  rintro _ _ ⟨p38, c38, rfl, rfl⟩
  refine J.norm rfl ?_
  obtain ⟨a4, ha4⟩ : ∃ a, a = a3 ++ (x.o.parts.map Int.toNat).flatMap numB := ⟨_, rfl⟩
  have l4 : a4.length ≤ 106060 := by rw [ha4, List.length_append]; have := flat_numB (x.o.parts.map Int.toNat) (by
                                      intro v hv
                                      obtain ⟨u, hu, rfl⟩ := List.mem_map.1 hv
                                      have := hpp.2 u hu; omega)
                                     rw [List.length_map] at this; omega
  rw [← ha4]
  refine J.nil <| J.then_n <| J.seq <| J.region <| J.m rfl <| J.p rfl (Q.fa (n := 8) Try.runUnderlying27 rfl rfl Try.sizeOf25 rfl) ?_
  refine J.p rfl (Q.ld Try.isAgg25 rfl (rdI (by exact rfl))) ?_
  refine J.callI Try.call11 (wbytes_spec G b5 p38 c38 a4 x.dp x.dc x.o.data hx.data (by omega)) rfl rfl rfl ?_
  rintro _ _ ⟨p42, c42, rfl, rfl⟩
  refine J.norm rfl ?_
  have e : a4 ++ encB x.o.data = opB x.o := by rw [ha4, ha3, ha2, ha1]; simp [opB]
  rw [e]
  refine J.nil <| J.then_n <| J.seq <| J.region <| J.m rfl <| J.p rfl (Q.nil_ rfl) <| J.p rfl (Q.fa (n := 0) Try.runUnderlying46 rfl rfl Try.sizeOf25 rfl) ?_
  refine J.p rfl (Q.ld Try.isAgg25 rfl (rdI (by exact rfl))) ?_
  refine J.p rfl (Q.asg rfl) <| J.nil <| J.then_n <| J.cret ?_
  refine J.ret1I [wrO p42 c42 (opB x.o), G] rfl rfl ⟨p42, c42, rfl, rfl⟩
end Go.Proofs.Ytidbcaimgahllaa
namespace Go.Proofs.Ytidbcaimgahllaa
set_option linter.unusedSectionVars false
set_option linter.unusedSimpArgs false
set_option linter.unusedVariables false
open Go.X

theorem bequal_spec (G H : Assn) (p q : Option Addr) (c d : Nat) (bs cs : List UInt8) (hb : SlR [G] 1 (.slice p bs.length c) (bytesV bs)) (hc : SlR [H] 1 (.slice q cs.length d) (bytesV cs)) :
    FSpec Try.prog 31 [.slice p bs.length c, .slice q cs.length d] [G, H] (fun v B => v = .bool (decide (bs = cs)) ∧ B = [G, H]) := by
  refine FSpec.of Try.func31 rfl Try.ntmps31 rfl fun W0 F => ?_
  refine J.seq <| J.region <| J.p rfl (Q.asg rfl) <| J.nil <| J.then_n <| J.seq <| J.region <| J.m rfl <| J.p rfl (Q.b2s Try.runUnderlying25 Try.runUnderlying9 Try.runUnderlying5 rfl hb.inI) <| J.m rfl <| J.p rfl (Q.b2s Try.runUnderlying25 Try.runUnderlying9 Try.runUnderlying5 rfl hc.inI) <| J.p rfl (Q.eqls rfl rfl) <| J.p rfl (Q.asg rfl) <| J.nil <| J.then_n ?_
  refine J.cret ?_
  refine J.ret1I [G, H] rfl rfl ⟨by simp, rfl⟩

def OW.asns (x : OW) : List Assn := [own 3 1 (.slice x.pp x.o.parts.length x.pc) (x.o.parts.map (Value.int .i64)), own 5 1 (.slice x.dp x.o.data.length x.dc) (bytesV x.o.data)]
def OW.asn (x : OW) : Assn := star x.asns
theorem OM.fine.small {o : OM} (h : o.fine) : o.bucket.size ≤ 9223372036854775807 ∧ o.key.size ≤ 9223372036854775807 ∧ o.after.size ≤ 9223372036854775807 ∧ o.parts.length ≤ 9223372036854775807 ∧ o.data.length ≤ 9223372036854775807 := by
  have h1 := h.texts
  have h2 := h.parts
  have h3 := h.data
  omega
theorem oasn_ok {x : OW} (hs : x.o.bucket.size ≤ 9223372036854775807 ∧ x.o.key.size ≤ 9223372036854775807 ∧ x.o.after.size ≤ 9223372036854775807 ∧ x.o.parts.length ≤ 9223372036854775807 ∧ x.o.data.length ≤ 9223372036854775807) : ∀ h, x.asn h → x.ok x.asn := by
  intro h hh
  have hh' : HSat h x.asns := hh
  obtain ⟨h1, h2, a, ⟨k1, k2, b, _, _, _, _⟩, _, _, _⟩ := hh'
  exact ⟨(own.slr (i := 0) rfl ⟨h1, X.G.HSat.one a⟩ : SlR [own 3 1 _ _] 1 _ _).into 0 rfl, (own.slr (i := 0) rfl ⟨k1, X.G.HSat.one b⟩ : SlR [own 5 1 _ _] 1 _ _).into 1 rfl, hs⟩

structure PM where
  bucket : ByteArray
  key : ByteArray
  version : Nat
  stripe : Nat
  k : Int
  m : Int
  size : Int
  sum : Nat
  nodes : List Int
structure PW where
  o : PM
  np : Option Addr
  nc : Nat
abbrev PW.cells (z : PW) : List Value := [.string z.o.bucket, .string z.o.key, .int .u64 z.o.version, .int .u64 z.o.stripe, .int .i64 z.o.k, .int .i64 z.o.m, .int .i64 z.o.size, .int .u32 z.o.sum, .slice z.np z.o.nodes.length z.nc]
def P0 : PW := ⟨⟨bt [], bt [], 0, 0, 0, 0, 0, 0, []⟩, none, 0⟩
def O0 : OM := ⟨0, 0, bt [], bt [], bt [], 0, 0, [], []⟩
structure DM where
  o : OM
  point : Bool
  bad : Bool
def DecR (d : DM) (G : Assn) (u : Value) (B : List Assn) : Prop := ∃ (y : OW) (z : PW), u = .tuple #[.agg y.cells.toArray, .agg z.cells.toArray, .bool d.point, .int .i64 (if d.bad then 14 else 0)] ∧ y.o = d.o ∧ y.ok y.asn ∧ B = [y.asn, G]
def DecIs (bs : List UInt8) (d : DM) : Prop := ∀ (G : Assn) (p : Option Addr) (c : Nat), SlP G p c bs → FSpec Try.prog 18 [.slice p bs.length c] [G] (DecR d G)

set_option maxHeartbeats 400000 in
theorem decode_op {o : OM} (ho : o.fine) (hc : o.chkB = true) : DecIs (opB o) ⟨o, false, false⟩ := by
  intro G p c hs
  obtain ⟨h1, h2⟩ := op_at ho
  obtain ⟨s0, e0⟩ : ∃ s : RS, s = ⟨opB o, false⟩ := ⟨_, rfl⟩
  rw [← e0] at h1 h2
  have hs0 : SlP G p c s0.b := by rw [e0]; exact hs
  have el : (opB o).length = s0.b.length := by rw [e0]
  rw [el]
  refine FSpec.of Try.func18 rfl Try.ntmps18 rfl fun W0 F => ?_
  refine J.seq <| J.region ?_
  refine J.c rfl rfl (C.alloc (l := [_, _, _, _, _, _, _, _, _]) Try.zeroValue27 rfl) ?_
  rintro _ _ ⟨b2, rfl, rfl⟩
  refine J.norm rfl ?_
  refine J.c rfl rfl (C.alloc (l := [_, _, _, _, _, _, _, _, _]) Try.zeroValue70 rfl) ?_
  rintro _ _ ⟨b3, rfl, rfl⟩
  refine J.norm rfl <| J.p rfl (Q.asg rfl) <| J.p rfl (Q.asg rfl) <| J.nil <| J.then_n <| J.seq <| J.region <| J.m rfl <| J.p rfl (Q.bld (l := [_, _]) Try.runUnderlying87 Try.zeroValue87 Try.places87 rfl rfl) ?_
  refine J.c rfl rfl (C.box (l := [_, _]) rfl rfl) ?_
  rintro _ _ ⟨b9, rfl, rfl⟩
  refine J.norm rfl ?_
  refine J.conv (Y := rdA b9 p c s0) 0 rfl (fun _ h => by rw [e0] at h ⊢; exact h) ?_
  refine J.p rfl (Q.asg rfl) <| J.nil <| J.then_n <| J.seq <| J.seq <| J.region <| J.m rfl ?_
  refine J.callI Try.call25 (rnumber_spec G b9 p c s0 hs0) rfl rfl rfl ?_
  rintro _ _ ⟨p1, c1, rfl, hs1, rfl⟩
  refine J.norm rfl ?_
  refine J.slot 11 (.int .u64 1) rfl (by rw [h1]; rfl) ?_
  obtain ⟨s1, e1⟩ : ∃ s, s = s0.num.2 := ⟨_, rfl⟩
  rw [← e1] at hs1 h2 ⊢
  refine J.nil <| J.then_n <| J.block <| J.seq <| J.region <| J.p rfl (Q.eql rfl rfl) <| J.p rfl (Q.asg rfl) <| J.nil <| J.then_n <| J.cond_t rfl <| J.seq <| J.region <| J.m rfl ?_
  refine J.callI Try.call25 (rnumber_spec G b9 p1 c1 s1 hs1) rfl rfl rfl ?_
  rintro _ _ ⟨p2, c2, rfl, hs2, rfl⟩
  refine J.norm rfl ?_
  obtain ⟨s2, e2⟩ : ∃ s, s = s1.num.2 := ⟨_, rfl⟩
  rw [← e2] at hs2 ⊢
  refine J.m rfl ?_
  refine J.callI Try.call26 (rint_spec G b9 p2 c2 s2 hs2) rfl rfl rfl ?_
  rintro _ _ ⟨p3, c3, rfl, hs3, rfl⟩
  refine J.norm rfl ?_
  obtain ⟨s3, e3⟩ : ∃ s, s = s2.int.2 := ⟨_, rfl⟩
  rw [← e3] at hs3 ⊢
  refine J.m rfl ?_
  refine J.callI Try.call27 (rtext_spec G b9 p3 c3 s3 hs3) rfl rfl rfl ?_
  rintro _ _ ⟨p4, c4, rfl, hs4, rfl⟩
  refine J.norm rfl ?_
  obtain ⟨s4, e4⟩ : ∃ s, s = s3.text.2 := ⟨_, rfl⟩
  rw [← e4] at hs4 ⊢
  refine J.m rfl ?_
  refine J.callI Try.call27 (rtext_spec G b9 p4 c4 s4 hs4) rfl rfl rfl ?_
  rintro _ _ ⟨p5, c5, rfl, hs5, rfl⟩
  refine J.norm rfl ?_
  obtain ⟨s5, e5⟩ : ∃ s, s = s4.text.2 := ⟨_, rfl⟩
  rw [← e5] at hs5 ⊢
  refine J.m rfl ?_
  refine J.callI Try.call27 (rtext_spec G b9 p5 c5 s5 hs5) rfl rfl rfl ?_
  rintro _ _ ⟨p6, c6, rfl, hs6, rfl⟩
  refine J.norm rfl ?_
  obtain ⟨s6, e6⟩ : ∃ s, s = s5.text.2 := ⟨_, rfl⟩
  rw [← e6] at hs6 ⊢
  refine J.m rfl ?_
  refine J.callI Try.call26 (rint_spec G b9 p6 c6 s6 hs6) rfl rfl rfl ?_
  rintro _ _ ⟨p7, c7, rfl, hs7, rfl⟩
  refine J.norm rfl ?_
  obtain ⟨s7, e7⟩ : ∃ s, s = s6.int.2 := ⟨_, rfl⟩
  rw [← e7] at hs7 ⊢
  refine J.m rfl ?_
  refine J.callI Try.call25 (rnumber_spec G b9 p7 c7 s7 hs7) rfl rfl rfl ?_
  rintro _ _ ⟨p8, c8, rfl, hs8, rfl⟩
  refine J.norm rfl ?_
  obtain ⟨s8, e8⟩ : ∃ s, s = s7.num.2 := ⟨_, rfl⟩
  rw [← e8] at hs8 ⊢
  refine J.m rfl ?_
  refine J.callI Try.call28 (rints_spec G b9 p8 c8 s8 hs8) rfl rfl rfl ?_
  rintro _ _ ⟨p9, c9, q29, d29, rfl, hs9, rfl⟩
  refine J.norm rfl ?_
  obtain ⟨s9, e9⟩ : ∃ s, s = s8.ints.2 := ⟨_, rfl⟩
  rw [← e9] at hs9 ⊢
  refine J.m rfl ?_
  refine J.callI Try.call29 (rbytes_spec G b9 p9 c9 s9 hs9) rfl rfl rfl ?_
  rintro _ _ ⟨p10, c10, q31, d31, rfl, hs10, rfl⟩
  refine J.norm rfl ?_
  obtain ⟨s10, e10⟩ : ∃ s, s = s9.bytes.2 := ⟨_, rfl⟩
  rw [← e10] at hs10 ⊢
  have hop : RS.op s1 = (⟨s1.num.1, s2.int.1, s3.text.1, s4.text.1, s5.text.1, s6.int.1, s7.num.1, s8.ints.1.map Int.ofNat, s9.bytes.1⟩, s10) := by
   unfold RS.op
   dsimp only
   rw [← e2, ← e3, ← e4, ← e5, ← e6, ← e7, ← e8, ← e9, ← e10]
  rw [h2] at hop
  have ho1 := congrArg Prod.fst hop
  have ho2 := congrArg Prod.snd hop
  dsimp only at ho1 ho2
  obtain ⟨y, hy⟩ : ∃ y : OW, y = ⟨o, q29, d29, q31, d31⟩ := ⟨_, rfl⟩
  have hyo : y.o = o := by rw [hy]
  have hyc : y.cells = [.int .u64 s1.num.1, .int .i64 s2.int.1, .string s3.text.1, .string s4.text.1, .string s5.text.1, .int .i64 s6.int.1, .int .u64 s7.num.1, .slice q29 s8.ints.1.length d29, .slice q31 s9.bytes.1.length d31] := by rw [hy, ho1]; simp [OW.cells]
  have hya : ∀ h, HSat h [own 3 1 (.slice q29 s8.ints.1.length d29) (s8.ints.1.map fun v : Nat => Value.int .i64 (v : Int)), own 5 1 (.slice q31 s9.bytes.1.length d31) (bytesV s9.bytes.1)] → y.asn h := by
   intro h hh
   have e : y.asns = [own 3 1 (.slice q29 s8.ints.1.length d29) (s8.ints.1.map fun v : Nat => Value.int .i64 (v : Int)), own 5 1 (.slice q31 s9.bytes.1.length d31) (bytesV s9.bytes.1)] := by rw [hy, ho1]; simp [OW.asns, Function.comp_def]
   show HSat h y.asns
   rw [e]; exact hh
  refine J.shutI [own 3 1 (.slice q29 s8.ints.1.length d29) (s8.ints.1.map fun v : Nat => Value.int .i64 (v : Int)), own 5 1 (.slice q31 s9.bytes.1.length d31) (bytesV s9.bytes.1)] y.asn hya ?_
  have hbd : s10.bad = false := by rw [← ho2]
  subst hyo
  refine J.p rfl (Q.bld (l := [.int .u64 s1.num.1, .int .i64 s2.int.1, .string s3.text.1, .string s4.text.1, .string s5.text.1, .int .i64 s6.int.1, .int .u64 s7.num.1, .slice q29 s8.ints.1.length d29, .slice q31 s9.bytes.1.length d31]) Try.runUnderlying27 Try.zeroValue27 Try.places27 rfl (by kernel_rfl)) ?_
  refine J.slot 32 (.agg y.cells.toArray) rfl (by rw [hyc]) ?_
  refine J.stAI (vs := [_, _, _, _, _, _, _, _, _]) rfl Try.sizeOf27 rfl rfl (by exact rfl) (by exact rfl) (by exact rfl) ?_
  refine J.nil <| J.then_n <| J.seq ?_
  refine J.tellsI y.asn (oasn_ok ho.small) fun hyk => ?_
  refine J.region <| J.m rfl <| J.p rfl (Q.nil_ rfl) <| J.p rfl (Q.fa (n := 1) Try.runUnderlying87 rfl rfl Try.sizeOf4 rfl) ?_
  refine J.p rfl (Q.ld Try.isAgg4 rfl (rdI (by exact rfl))) ?_
  refine J.slot 36 (.bool false) rfl (by rw [hbd]) ?_
  refine J.p rfl (Q.not rfl) <| J.m rfl ?_
  refine J.cases 38 rfl (fun hb38 => ?_) (fun hb38 => ?_)
  ·
   replace hb38 := X.nm hb38
   try (first | (cases hb38; done) | (exfalso; simp at hb38; done))
   all_goals
    refine J.p rfl (Q.ldN (vs := [_, _, _, _, _, _, _, _, _]) Try.isAgg27 Try.sizeOf27 rfl rnI) ?_
    refine J.callI Try.call30 (check_yes y.asn y hyk hc) rfl rfl rfl ?_
    rintro _ _ ⟨rfl, rfl⟩
    refine J.norm rfl <| J.p rfl (Q.eql rfl rfl) <| J.p rfl (Q.pick_t rfl rfl) <| J.m rfl ?_
    refine J.cases 43 rfl (fun hb43 => ?_) (fun hb43 => ?_)
    ·
     replace hb43 := X.nm hb43
     try (first | (cases hb43; done) | (exfalso; simp at hb43; done))
     all_goals
      refine J.p rfl (Q.ldN (vs := [_, _, _, _, _, _, _, _, _]) Try.isAgg27 Try.sizeOf27 rfl rnI) ?_
      refine J.callI Try.call5 (opCommand_spec y.asn y hyk ho) rfl rfl rfl ?_
      rintro _ _ ⟨q45, d45, rfl, rfl⟩
      refine J.norm rfl ?_
      refine J.slrI (E0 := 5) (sz := 1) (p := q45) (n := (opB y.o).length) (c := d45) (xs := bytesV (opB y.o)) fun hsq => ?_
      refine J.m rfl ?_
      refine J.callI Try.call31 (bequal_spec (wrO q45 d45 (opB y.o)) G q45 p d45 c (opB y.o) s0.b hsq hs0.sl) rfl rfl rfl ?_
      rintro _ _ ⟨rfl, rfl⟩
      refine J.norm rfl ?_
      refine J.slot 47 (.bool true) rfl (by rw [e0]; simp) ?_
      refine J.p rfl (Q.pick_t rfl rfl) <| J.nil <| J.then_n ?_
      refine J.cases 48 rfl (fun hc48 => ?_) (fun hc48 => ?_)
      ·
       replace hc48 := X.nm hc48
       try (first | (cases hc48; done) | (exfalso; simp at hc48; done))
       all_goals
        refine J.cond_t rfl <| J.seq <| J.region ?_
        refine J.p rfl (Q.ldN (vs := [_, _, _, _, _, _, _, _, _]) Try.isAgg27 Try.sizeOf27 rfl rnI) ?_
        refine J.p rfl (Q.bld (l := [_, _, _, _, _, _, _, _, _]) Try.runUnderlying70 Try.zeroValue70 Try.places70 rfl rfl) ?_
        refine J.stAI (vs := [_, _, _, _, _, _, _, _, _]) rfl Try.sizeOf27 rfl rfl (by exact rfl) (by exact rfl) (by exact rfl) ?_
        refine J.stAI (vs := [_, _, _, _, _, _, _, _, _]) rfl Try.sizeOf70 rfl rfl (by exact rfl) (by exact rfl) (by exact rfl) ?_
        refine J.p rfl (Q.asg rfl) <| J.p rfl (Q.asg rfl) <| J.nil <| J.then_n <| J.cret <| J.blk_r <| J.then_r ?_
        refine J.retC4I (vs := y.cells) (vs2 := P0.cells) [y.asn, G] rfl rfl rfl rfl rfl Try.isAgg27 Try.sizeOf27 rnI Try.isAgg70 Try.sizeOf70 rnI ⟨y, P0, rfl, rfl, hyk, rfl⟩
      replace hc48 := X.nm hc48
      try (first | (cases hc48; done) | (exfalso; simp at hc48; done))
      all_goals
       refine J.cond_f rfl <| J.cskip <| J.blk_n <| J.then_n <| J.seq <| J.region <| J.p rfl (Q.bld (l := [_, _, _, _, _, _, _, _, _]) Try.runUnderlying27 Try.zeroValue27 Try.places27 rfl rfl) <| J.p rfl (Q.bld (l := [_, _, _, _, _, _, _, _, _]) Try.runUnderlying70 Try.zeroValue70 Try.places70 rfl rfl) ?_
       refine J.stAI (vs := [_, _, _, _, _, _, _, _, _]) rfl Try.sizeOf27 rfl rfl (by exact rfl) (by exact rfl) (by exact rfl) ?_
       refine J.stAI (vs := [_, _, _, _, _, _, _, _, _]) rfl Try.sizeOf70 rfl rfl (by exact rfl) (by exact rfl) (by exact rfl) ?_
       refine J.p rfl (Q.asg rfl) <| J.p rfl (Q.asg rfl) <| J.nil <| J.then_n <| J.cret ?_
       refine J.retC4I (vs := y.cells) (vs2 := P0.cells) [y.asn, G] rfl rfl rfl rfl rfl Try.isAgg27 Try.sizeOf27 rnI Try.isAgg70 Try.sizeOf70 rnI ⟨y, P0, rfl, rfl, hyk, rfl⟩
    replace hb43 := X.nm hb43
    try (first | (cases hb43; done) | (exfalso; simp at hb43; done))
    all_goals
     refine J.skip rfl rfl <| J.skip rfl rfl <| J.skip rfl rfl <| J.skip rfl rfl <| J.p rfl (Q.pick_f rfl rfl) <| J.nil <| J.then_n <| J.cond_f rfl <| J.cskip <| J.blk_n <| J.then_n <| J.seq <| J.region <| J.p rfl (Q.bld (l := [_, _, _, _, _, _, _, _, _]) Try.runUnderlying27 Try.zeroValue27 Try.places27 rfl rfl) <| J.p rfl (Q.bld (l := [_, _, _, _, _, _, _, _, _]) Try.runUnderlying70 Try.zeroValue70 Try.places70 rfl rfl) ?_
     refine J.stAI (vs := [_, _, _, _, _, _, _, _, _]) rfl Try.sizeOf27 rfl rfl (by exact rfl) (by exact rfl) (by exact rfl) ?_
     refine J.stAI (vs := [_, _, _, _, _, _, _, _, _]) rfl Try.sizeOf70 rfl rfl (by exact rfl) (by exact rfl) (by exact rfl) ?_
     refine J.p rfl (Q.asg rfl) <| J.p rfl (Q.asg rfl) <| J.nil <| J.then_n <| J.cret ?_
     refine J.retC4I (vs := y.cells) (vs2 := P0.cells) [y.asn, G] rfl rfl rfl rfl rfl Try.isAgg27 Try.sizeOf27 rnI Try.isAgg70 Try.sizeOf70 rnI ⟨y, P0, rfl, rfl, hyk, rfl⟩
  replace hb38 := X.nm hb38
  try (first | (cases hb38; done) | (exfalso; simp at hb38; done))
  all_goals
   refine J.skip rfl rfl <| J.skip rfl rfl <| J.skip rfl rfl <| J.p rfl (Q.pick_f rfl rfl) <| J.m rfl <| J.skip rfl rfl <| J.skip rfl rfl <| J.skip rfl rfl <| J.skip rfl rfl <| J.p rfl (Q.pick_f rfl rfl) <| J.nil <| J.then_n <| J.cond_f rfl <| J.cskip <| J.blk_n <| J.then_n <| J.seq <| J.region <| J.p rfl (Q.bld (l := [_, _, _, _, _, _, _, _, _]) Try.runUnderlying27 Try.zeroValue27 Try.places27 rfl rfl) ?_
   refine J.p rfl (Q.bld (l := [_, _, _, _, _, _, _, _, _]) Try.runUnderlying70 Try.zeroValue70 Try.places70 rfl rfl) ?_
   refine J.stAI (vs := [_, _, _, _, _, _, _, _, _]) rfl Try.sizeOf27 rfl rfl (by exact rfl) (by exact rfl) (by exact rfl) ?_
   refine J.stAI (vs := [_, _, _, _, _, _, _, _, _]) rfl Try.sizeOf70 rfl rfl (by exact rfl) (by exact rfl) (by exact rfl) ?_
   refine J.p rfl (Q.asg rfl) <| J.p rfl (Q.asg rfl) <| J.nil <| J.then_n <| J.cret ?_
   refine J.retC4I (vs := y.cells) (vs2 := P0.cells) [y.asn, G] rfl rfl rfl rfl rfl Try.isAgg27 Try.sizeOf27 rnI Try.isAgg70 Try.sizeOf70 rnI ⟨y, P0, rfl, rfl, hyk, rfl⟩
end Go.Proofs.Ytidbcaimgahllaa
namespace Go.Proofs.Ytidbcaimgahllaa
set_option linter.unusedSectionVars false
set_option linter.unusedSimpArgs false
set_option linter.unusedVariables false
open Go.X

def boxOwnS (b : Nat) (xs : List ByteArray) : Assn := fun h => ∃ z : Option Addr × Nat, HSat h [pt b (.cells [.slice z.1 xs.length z.2].toArray 32 (0, 0)), own 9 1 (.slice z.1 xs.length z.2) (xs.map Value.string)]

theorem appendSeqS (gf : FuncId) (lb : List Value) (G : Assn) (S : List ByteArray → Prop) (ok : List ByteArray → ByteArray → Prop) (eg : ∀ (args : Array Value) (w : World), (callFunc gf args).run Try.prog w = .ok (.enter gf args) w)
    (hit : ItSpec Try.prog gf lb (fun x : ByteArray => [Value.string x]) [G] S ok) (hok : ∀ pre x, ok pre x → pre.length < 1099511627776) :
    FSpec Try.prog 69 [.slice none 0 0, .func (.func gf) #[] lb.toArray] [G] (fun v B => ∃ (xs : List ByteArray) (p : Option Addr) (c : Nat), S xs ∧ v = .slice p xs.length c ∧ B = [own 9 1 (.slice p xs.length c) (xs.map Value.string), G]) := by
  refine FSpec.ofM Try.func69 rfl Try.ntmps69 rfl fun W0 F => ?_
  refine JI.seq ?_
  refine JI.region ?_
  refine JI.c rfl rfl (fun _ e => nomatch e) (C.box (l := [_]) rfl rfl) ?_
  rintro _ _ ⟨b2, rfl, rfl⟩
  refine J.norm rfl ?_
  refine JI.q rfl rfl (fun _ e => nomatch e) (Q.asg rfl) ?_
  refine JI.nil ?_
  refine JI.then_n ?_
  refine JI.seq ?_
  refine JI.seq ?_
  refine JI.region ?_
  refine JI.q rfl rfl (fun _ e => nomatch e) (Q.mv rfl) ?_
  refine JI.nil ?_
  refine JI.then_n ?_
  refine JI.block ?_
  refine J.give (own.nil 9 1 _) ?_
  refine J.shut [1, 0] (boxOwnS b2 []) rfl (fun h s => ⟨(none, 0), s⟩) ?_
  refine J.sub [(2, .pointer (some ⟨b2, 0, none⟩)), (6, .func (.func gf) #[] lb.toArray)] ⟨rfl, rfl, trivial⟩ ?_
  refine JI.rangeFunc gf lb (fun x : ByteArray => [Value.string x]) S ok (fun pre => [boxOwnS b2 pre]) (fun x => [(5, Value.string x), (2, .pointer (some ⟨b2, 0, none⟩))]) rfl eg hit (by decide) (fun _ => rfl) [0, 1] rfl ?_ ?_ ?_
  · intro l W1 F1 pre x _
    refine JI.region ?_
    refine JI.q rfl rfl (fun _ e => nomatch e) (Q.asg rfl) ?_
    refine JI.nil ?_
    exact JI.asgEnd ⟨rfl, rfl, trivial⟩ rfl
  · intro l W1 F1 pre x hk
    have hlen := hok pre x hk
    refine JI.block ?_
    refine JI.region ?_
    refine J.open_ 0 (p := fun _ => True) rfl rfl (fun h hh => by obtain ⟨z, hz⟩ := hh; exact ⟨z, trivial, hz⟩) fun z _ => ?_
    refine J.norm rfl ?_
    refine JI.q rfl rfl (fun _ e => nomatch e) (Q.ld Try.isAgg32 rfl (Reads.pt 0 rfl rfl)) ?_
    refine JI.q rfl rfl (fun _ e => nomatch e) (Q.mv rfl) ?_
    refine JI.c rfl rfl (fun _ e => nomatch e) (C.bslG (l := [_]) Try.runUnderlying32 Try.sizeOf9 Try.zeroValue9 (by decide) rfl rfl rfl rfl rfl) ?_
    rintro _ _ ⟨b10, rfl, rfl⟩
    refine J.norm rfl ?_
    refine JI.c rfl rfl (fun _ e => nomatch e) (C.app (i := 2) Try.runUnderlying32 Try.runUnderlying32 Try.typeInfo9 Try.sizeOf9 Try.zeroValue9 rfl rfl rfl (SlR.pt 0 rfl rfl (xs := [Value.string x]) (fun j u h => by rw [Nat.zero_add]; exact h)) (by intro v hv; obtain rfl := List.mem_singleton.1 hv; rfl) (by simp [Try.t9]; omega) (by decide)) ?_
    rintro _ _ ⟨p11, c11, rfl, rfl⟩
    refine J.norm rfl ?_
    refine JI.c0 rfl (fun _ e => nomatch e) (C.stl (i := 1) Try.sizeOf32 rfl rfl rfl rfl rfl rfl rfl) ?_
    rintro _ _ ⟨rfl, rfl⟩
    refine JI.nil ?_
    refine JI.blk_n ?_
    refine J.shut [1, 2] (boxOwnS b2 (pre ++ [x])) rfl (fun h s => ⟨(p11, c11), by simpa [List.length_append] using s⟩) ?_
    refine J.keep [0, 2] rfl ?_
    exact JI.bodyEnd rfl
  · intro D xs hS
    refine J.norm rfl ?_
    refine JI.blk_n ?_
    refine JI.then_n ?_
    refine JI.seq ?_
    refine JI.region ?_
    refine J.open_ 1 (p := fun _ => True) rfl rfl (fun h hh => by obtain ⟨z, hz⟩ := hh; exact ⟨z, trivial, hz⟩) fun z _ => ?_
    refine J.norm rfl ?_
    refine JI.q rfl rfl (fun _ e => nomatch e) (Q.ld Try.isAgg32 rfl (Reads.pt 0 rfl rfl)) ?_
    refine JI.q rfl rfl (fun _ e => nomatch e) (Q.asg rfl) ?_
    refine JI.nil ?_
    refine JI.then_n ?_
    refine JI.ret ?_
    refine J.keep [2, 1, 3, 4] rfl ?_
    exact JI.ret1 rfl rfl ⟨xs, z.1, z.2, hS, rfl, rfl⟩ rfl

theorem collectS (gf : FuncId) (lb : List Value) (G : Assn) (S : List ByteArray → Prop) (ok : List ByteArray → ByteArray → Prop) (eg : ∀ (args : Array Value) (w : World), (callFunc gf args).run Try.prog w = .ok (.enter gf args) w)
    (hit : ItSpec Try.prog gf lb (fun x : ByteArray => [Value.string x]) [G] S ok) (hok : ∀ pre x, ok pre x → pre.length < 1099511627776) :
    FSpec Try.prog 66 [.func (.func gf) #[] lb.toArray] [G] (fun v B => ∃ (xs : List ByteArray) (p : Option Addr) (c : Nat), S xs ∧ v = .slice p xs.length c ∧ B = [own 9 1 (.slice p xs.length c) (xs.map Value.string), G]) := by
  refine FSpec.of Try.func66 rfl Try.ntmps66 rfl fun W0 F => ?_
  refine J.seq <| J.region <| J.p rfl (Q.asg rfl) <| J.nil <| J.then_n <| J.seq <| J.region <| J.m rfl ?_
  refine J.call Try.call69 (appendSeqS gf lb G S ok eg hit hok) [0] rfl rfl rfl rfl ?_
  rintro _ _ ⟨xs, p, c, hS, rfl, rfl⟩
  refine J.norm rfl <| J.p rfl (Q.asg rfl) <| J.nil <| J.then_n <| J.cret ?_
  refine J.ret1 (B := [_, G]) rfl rfl ⟨xs, p, c, hS, rfl, rfl⟩ rfl
end Go.Proofs.Ytidbcaimgahllaa
namespace Go.Proofs
open Go.Shelf
def Try.sort67_ren : Go.Shelf.Ren := ⟨fun | 6 => 67 | 8 => 71 | 9 => 70 | 19 => 81 | 20 => 82 | 21 => 72 | 22 => 73 | 23 => 74 | 24 => 75 | 25 => 76 | 26 => 77 | 27 => 78 | 28 => 79 | 29 => 80 | 36 => 83 | 31 => 84 | 32 => 85 | 37 => 86 | 38 => 87 | 39 => 88 | 41 => 89 | n => n, fun | 27 => 32 | 29 => 9 | 3 => 3 | 32 => 82 | 26 => 32 | 0 => 0 | 44 => 68 | 46 => 23 | 4 => 4 | 36 => 141 | 35 => 140 | 41 => 145 | 5 => 5 | 9 => 9 | 53 => 149 | 57 => 152 | 63 => 154 | 64 => 155 | n => n, fun | n => n⟩
theorem Try.sort67 : Go.Proofs.SlLaysM.n6 Try.prog Try.sort67_ren := {
  mixed := by kernel_rfl
  f6 := ⟨Try.f67.name, by decide, Try.func67.trans (congrArg some (by kernel_rfl))⟩
  f8 := Try.func71.trans (congrArg some (by kernel_rfl))
  f9 := ⟨Try.f70.name, by decide, Try.func70.trans (congrArg some (by kernel_rfl))⟩
  f19 := Try.func81.trans (congrArg some (by kernel_rfl))
  f20 := Try.func82.trans (congrArg some (by kernel_rfl))
  f21 := ⟨Try.f72.name, by decide, Try.func72.trans (congrArg some (by kernel_rfl))⟩
  f22 := ⟨Try.f73.name, by decide, Try.func73.trans (congrArg some (by kernel_rfl))⟩
  f23 := ⟨Try.f74.name, by decide, Try.func74.trans (congrArg some (by kernel_rfl))⟩
  f24 := ⟨Try.f75.name, by decide, Try.func75.trans (congrArg some (by kernel_rfl))⟩
  f25 := ⟨Try.f76.name, by decide, Try.func76.trans (congrArg some (by kernel_rfl))⟩
  f26 := ⟨Try.f77.name, by decide, Try.func77.trans (congrArg some (by kernel_rfl))⟩
  f27 := ⟨Try.f78.name, by decide, Try.func78.trans (congrArg some (by kernel_rfl))⟩
  f28 := ⟨Try.f79.name, by decide, Try.func79.trans (congrArg some (by kernel_rfl))⟩
  f29 := ⟨Try.f80.name, by decide, Try.func80.trans (congrArg some (by kernel_rfl))⟩
  f31 := Try.func84.trans (congrArg some (by kernel_rfl))
  f32 := Try.func85.trans (congrArg some (by kernel_rfl))
  f36 := ⟨Try.f83.name, by decide, Try.func83.trans (congrArg some (by kernel_rfl))⟩
  f37 := ⟨Try.f86.name, by decide, Try.func86.trans (congrArg some (by kernel_rfl))⟩
  f38 := ⟨Try.f87.name, by decide, Try.func87.trans (congrArg some (by kernel_rfl))⟩
  f39 := ⟨Try.f88.name, by decide, Try.func88.trans (congrArg some (by kernel_rfl))⟩
  f41 := ⟨Try.f89.name, by decide, Try.func89.trans (congrArg some (by kernel_rfl))⟩
  t0 := Try.underlying0
  a0 := Try.isAgg0
  z0 := Try.sizeOf0
  v0 := Try.zeroValue0
  t3 := Try.underlying3
  a3 := Try.isAgg3
  z3 := Try.sizeOf3
  v3 := Try.zeroValue3
  t4 := Try.underlying4
  a4 := Try.isAgg4
  z4 := Try.sizeOf4
  v4 := Try.zeroValue4
  t5 := Try.underlying5
  a5 := Try.isAgg5
  z5 := Try.sizeOf5
  v5 := Try.zeroValue5
  t9 := Try.underlying9
  a9 := Try.isAgg9
  z9 := Try.sizeOf9
  v9 := Try.zeroValue9
  t26 := Try.underlying32
  a26 := Try.isAgg32
  z26 := Try.sizeOf32
  v26 := Try.zeroValue32
  t27 := Try.underlying32
  a27 := Try.isAgg32
  z27 := Try.sizeOf32
  v27 := Try.zeroValue32
  t29 := Try.underlying9
  a29 := Try.isAgg9
  z29 := Try.sizeOf9
  v29 := Try.zeroValue9
  t32 := Try.underlying82
  a32 := Try.isAgg82
  z32 := Try.sizeOf82
  v32 := Try.zeroValue82
  t35 := Try.underlying140
  a35 := Try.isAgg140
  z35 := Try.sizeOf140
  v35 := Try.zeroValue140
  t36 := Try.underlying141
  a36 := Try.isAgg141
  z36 := Try.sizeOf141
  v36 := Try.zeroValue141
  t41 := Try.underlying145
  a41 := Try.isAgg145
  z41 := Try.sizeOf145
  v41 := Try.zeroValue145
  t44 := Try.underlying68
  a44 := Try.isAgg68
  z44 := Try.sizeOf68
  v44 := Try.zeroValue68
  t46 := Try.underlying23
  a46 := Try.isAgg23
  z46 := Try.sizeOf23
  v46 := Try.zeroValue23
  t53 := Try.underlying149
  a53 := Try.isAgg149
  z53 := Try.sizeOf149
  v53 := Try.zeroValue149
  t57 := Try.underlying152
  a57 := Try.isAgg152
  z57 := Try.sizeOf152
  v57 := Try.zeroValue152
  t63 := Try.underlying154
  a63 := Try.isAgg154
  z63 := Try.sizeOf154
  v63 := Try.zeroValue154
  t64 := Try.underlying155
  a64 := Try.isAgg155
  z64 := Try.sizeOf155
  v64 := Try.zeroValue155 }
end Go.Proofs
namespace Go.Proofs.Ytidbcaimgahllaa
set_option linter.unusedSectionVars false
set_option linter.unusedSimpArgs false
set_option linter.unusedVariables false
open Go.X
open Go.Sort (Holds putRow putCells grow mapBlock onCells)

section
variable {α : Type} [Inhabited α] {enc : α → Value} {W0 w : World} {E b off n c : Nat} {zs zs' : List α} {F : List Assn}
theorem own_open (s : Sat W0 w (own E 1 (.slice (some ⟨b, off, none⟩) n c) (zs.map enc) :: F)) : ∃ o : Lies, o.ok 1 (.slice (some ⟨b, off, none⟩) n c) (zs.map enc) ∧ o.b = b ∧ o.off = off ∧ Sat W0 w (pt b (.cells o.l.toArray E o.z) :: F) := by
  obtain ⟨h1, h2, a, q, d, x, y⟩ := s.heap
  rcases a with ⟨h, _⟩ | ⟨o, ho, hp⟩
  · cases h
  · have hv := ho.val
    simp only [Value.slice.injEq, Option.some.injEq, Addr.mk.injEq] at hv
    obtain ⟨⟨e1, e2, _⟩, _, _⟩ := hv
    exact ⟨o, ho, e1.symm, e2.symm, s.os, s.tape, s.out, h1, h2, e1 ▸ hp, q, d, x, y⟩
theorem own_holds (s : Sat W0 w (own E 1 (.slice (some ⟨b, off, none⟩) n c) (zs.map enc) :: F)) : Holds enc w b off zs.toArray ∧ b < w.heap.size := by
  obtain ⟨o, ho, rfl, rfl, t⟩ := own_open s
  have hb := t.at_ (i := 0) rfl
  refine ⟨fun j hj => ?_, (Array.getElem?_eq_some_iff.1 hb).1⟩
  have hj' : j < zs.length := by simpa using hj
  have hg := ho.get j (enc zs[j]!) (by simp [hj'])
  have hlt := (List.getElem?_eq_some_iff.1 hg).1
  refine ⟨?_, ?_⟩
  · simp only [World.cell?, hb]
    simpa [hj'] using hg
  · have := ho.free (o.off + j) hlt
    simp only [World.frozen?, hb]
    simpa using this
theorem own_putRow (s : Sat W0 w (own E 1 (.slice (some ⟨b, off, none⟩) n c) (zs.map enc) :: F)) (hl : zs'.length = zs.length) (m : Nat) (os : Array Obj) :
    Sat W0 (grow (putRow enc (Go.Sort.ahead w m) b off zs'.toArray) os) (own E 1 (.slice (some ⟨b, off, none⟩) n c) (zs'.map enc) :: F) := by
  obtain ⟨o, ho, rfl, rfl, t⟩ := own_open s
  have hb : hp w o.b = some (.cells o.l.toArray E o.z) := t.at_ (i := 0) rfl
  have hlen : zs.length = n := by have := ho.len; have hv := ho.val; simp only [Value.slice.injEq] at hv; rw [← hv.2.1] at this; simpa using this
  have e1 : hp (putRow enc (Go.Sort.ahead w m) o.b o.off zs'.toArray) = upd (hp w) o.b (.cells (putCells enc o.off zs'.toArray o.l.toArray) E o.z) := hp_modify w o.b (onCells (putCells enc o.off zs'.toArray)) _ hb
  have hsub : Sub (hp (putRow enc (Go.Sort.ahead w m) o.b o.off zs'.toArray)) (hp (grow (putRow enc (Go.Sort.ahead w m) o.b o.off zs'.toArray) os)) := by
    intro x p hx
    have hlt := (Array.getElem?_eq_some_iff.1 (show (putRow enc (Go.Sort.ahead w m) o.b o.off zs'.toArray).heap[x]? = some p from hx)).1
    show ((putRow enc (Go.Sort.ahead w m) o.b o.off zs'.toArray).heap ++ os)[x]? = some p
    rw [Array.getElem?_append_left hlt]; exact hx
  have hu : HSat (upd (hp w) o.b (.cells (putCells enc o.off zs'.toArray o.l.toArray) E o.z)) (pt o.b (.cells (putCells enc o.off zs'.toArray o.l.toArray) E o.z) :: F) := by
    have := HSat.update (i := 0) (b := o.b) (o := .cells (putCells enc o.off zs'.toArray o.l.toArray) E o.z) (A := pt o.b (.cells o.l.toArray E o.z)) (B := pt o.b (.cells (putCells enc o.off zs'.toArray o.l.toArray) E o.z)) t.heap rfl fun k hk => ⟨⟨_, hk⟩, by simp [pt, upd]⟩
    simpa using this
  refine ⟨t.os, t.tape, t.out, (HSat.mono ?_ (e1 ▸ hsub))⟩
  refine hu.imp fun h hh => .inr ⟨{ o with l := (putCells enc o.off zs'.toArray o.l.toArray).toList }, ⟨ho.val, ?_, ho.cap, ?_, ?_, ?_⟩, hh⟩
  · have := ho.len; simp only [List.length_map] at this ⊢; omega
  · have := ho.fits; simpa [putCells] using this
  · intro j u hj
    have hj' : j < zs'.length := by have := (List.getElem?_eq_some_iff.1 hj).1; simpa using this
    have hg := ho.get j (enc zs[j]!) (by simp [show j < zs.length by omega])
    have hlt := (List.getElem?_eq_some_iff.1 hg).1
    simp only [List.getElem?_map, List.getElem?_eq_getElem hj', Option.map_some, Option.some.injEq] at hj
    subst hj
    simp only [putCells, Array.getElem?_toList, Array.getElem?_mapIdx, List.getElem?_toArray, hg, Option.map_some, List.size_toArray]
    rw [if_pos (by omega)]
    simp [hj']
  · intro k hk
    exact ho.free k (by simpa [putCells] using hk)
end

def leBy (a b : ByteArray) : Bool := decide (a.data.toList ≤ b.data.toList)
def ordS (l : List ByteArray) : List ByteArray := l.mergeSort leBy
theorem ordS_map (l : List ByteArray) : (ordS l).map (·.data.toList) = (l.map (·.data.toList)).mergeSort fun x y => decide (x ≤ y) :=
  List.map_mergeSort fun a _ b _ => rfl
theorem bytes_inj {a b : ByteArray} (h : a.data.toList = b.data.toList) : a = b := by
  cases a; cases b; simp only [ByteArray.mk.injEq] at *; exact Array.toList_inj.1 h
theorem ordS_perm {l m : List ByteArray} (h : l.Perm m) : ordS l = ordS m := by
  unfold ordS
  have t1 : ∀ a b c : ByteArray, leBy a b = true → leBy b c = true → leBy a c = true := fun a b c h1 h2 => by
    simp only [leBy, decide_eq_true_eq] at *; exact List.le_trans h1 h2
  have t2 : ∀ a b : ByteArray, (leBy a b || leBy b a) = true := fun a b => by
    simp only [leBy, Bool.or_eq_true, decide_eq_true_eq]; exact List.le_total _ _
  refine List.Perm.eq_of_pairwise (le := fun a b => leBy a b = true) ?_ (List.pairwise_mergeSort t1 t2 l) (List.pairwise_mergeSort t1 t2 m) (((List.mergeSort_perm l _).trans h).trans (List.mergeSort_perm m _).symm)
  intro a b _ _ h1 h2
  simp only [leBy, decide_eq_true_eq] at h1 h2
  exact bytes_inj (List.le_antisymm h1 h2)
theorem ordS_enc (l : List ByteArray) : l.map Value.string = (l.map (·.data.toList)).map encStr := by
  rw [List.map_map]
  refine List.map_congr_left fun p _ => ?_
  show Value.string p = Value.string ⟨p.data.toList.toArray⟩
  rw [Array.toArray_toList]

theorem sortAnyS (p : Option Addr) (c : Nat) (l : List ByteArray) (hs : l.length ≤ 1099511627776) :
    FSpec Try.prog 67 [.slice p l.length c] [own 9 1 (.slice p l.length c) (l.map Value.string)] (fun v B => v = .tuple #[] ∧ B = [own 9 1 (.slice p l.length c) ((ordS l).map Value.string)]) := by
  refine ⟨fun W0 w F s => ?_⟩
  obtain ⟨k, hk, _⟩ := s.heap.at_ (i := 0) rfl
  rcases hk with ⟨h1, h2⟩ | ⟨o, ho, _⟩
  · have hl : l = [] := by simpa using h2
    subst hl
    refine (AnyM.slices_Sort_string_none Try.sort67 p c w).mono ?_
    rintro e w' ⟨rfl, rfl⟩
    exact ⟨_, _, rfl, ⟨rfl, rfl⟩, by simpa [ordS] using s⟩
  · have hv := ho.val
    simp only [Value.slice.injEq] at hv
    obtain ⟨rfl, _, _⟩ := hv
    rw [ordS_enc] at s
    obtain ⟨q1, q2⟩ := own_holds (F := [F]) s
    have hc := AnyM.slices_Sort_string Try.sort67 o.b o.off c (l.map (·.data.toList)) w q1 q2 (by simp; omega)
    rw [List.length_map] at hc
    refine hc.mono ?_
    rintro e w' ⟨rfl, m, os, rfl⟩
    refine ⟨_, _, rfl, ⟨rfl, rfl⟩, ?_⟩
    rw [ordS_enc, ordS_map]
    exact own_putRow (F := [F]) s (by simp [List.length_mergeSort]) m os

theorem sortedS (gf : FuncId) (lb : List Value) (G : Assn) (M : List ByteArray) (ok : List ByteArray → ByteArray → Prop) (eg : ∀ (args : Array Value) (w : World), (callFunc gf args).run Try.prog w = .ok (.enter gf args) w)
    (hit : ItSpec Try.prog gf lb (fun x : ByteArray => [Value.string x]) [G] (fun xs => xs.Perm M) ok) (hok : ∀ pre x, ok pre x → pre.length < 1099511627776) (hs : M.length ≤ 1099511627776) :
    FSpec Try.prog 63 [.func (.func gf) #[] lb.toArray] [G] (fun v B => ∃ (p : Option Addr) (c : Nat), v = .slice p M.length c ∧ B = [own 9 1 (.slice p M.length c) ((ordS M).map Value.string), G]) := by
  refine FSpec.of Try.func63 rfl Try.ntmps63 rfl fun W0 F => ?_
  refine J.seq <| J.region <| J.p rfl (Q.asg rfl) <| J.nil <| J.then_n <| J.seq <| J.region <| J.m rfl ?_
  refine J.call Try.call66 (collectS gf lb G (fun xs => xs.Perm M) ok eg hit hok) [0] rfl rfl rfl rfl ?_
  rintro _ _ ⟨xs, p, c, hS, rfl, rfl⟩
  refine J.norm rfl ?_
  have hlen : xs.length = M.length := hS.length_eq
  refine J.p rfl (Q.asg rfl) <| J.nil <| J.then_n <| J.seq <| J.region <| J.m rfl ?_
  refine J.call Try.call67 (sortAnyS p c xs (by omega)) [0] rfl rfl rfl rfl ?_
  rintro _ _ ⟨rfl, rfl⟩
  refine J.norm rfl <| J.nil <| J.then_n <| J.seq <| J.region <| J.m rfl <| J.p rfl (Q.asg rfl) <| J.nil <| J.then_n <| J.cret ?_
  rw [ordS_perm hS, hlen]
  refine J.ret1 (B := [_, G]) rfl rfl ⟨p, c, rfl, rfl⟩ rfl
end Go.Proofs.Ytidbcaimgahllaa
namespace Go.Proofs.Ytidbcaimgahllaa
set_option linter.unusedSectionVars false
set_option linter.unusedSimpArgs false
set_option linter.unusedVariables false
open Go.X
open Go.X.G (Ord3 ord3_nat ord3_int ord3_str ltB sget sput sdel Srtd MapAt MapHole Ent Ents)

theorem srtS {ν : Type} {S : List (ByteArray × ν)} (h : Srtd ltB S) : ordS (S.map (·.1)) = S.map (·.1) := by
  refine List.mergeSort_of_pairwise ?_
  rw [List.pairwise_map]
  refine h.imp fun {a b} h => ?_
  simp only [ltB, leBy, decide_eq_true_eq] at h ⊢
  exact List.le_of_lt h
end Go.Proofs.Ytidbcaimgahllaa
namespace Go.Proofs.Ytidbcaimgahllaa
set_option linter.unusedSectionVars false
set_option linter.unusedSimpArgs false
set_option linter.unusedVariables false
open Go.X
open Go.X.G (Ord3 ord3_nat ord3_int ord3_str ltB sget sput sdel Srtd MapAt MapHole Ent Ents edone eleft)

theorem keysItOb (bm r : Nat) (S0 : List (ByteArray × (List UInt8))) : ItSpec Try.prog 68 [.pointer (some ⟨bm, 0, none⟩)] (fun x : ByteArray => [Value.string x]) [star [pt bm (.cells [.map (some r)].toArray 123 (0, 0)), MapAt Value.string datRep r S0]]
    (fun xs => xs.Perm (S0.map (·.1))) (fun pre _ => pre.length < S0.length) := by
  intro l Inv hY
  refine FSpec.of Try.func68 rfl Try.ntmps68 rfl fun W0 F => ?_
  refine J.seq ?_
  refine J.unpack 1 rfl rfl ?_
  refine J.open_ 1 rfl rfl (fun _ h => h) fun q hq => ?_
  refine J.norm rfl <| J.region ?_
  refine J.p rfl (Q.ld Try.isAgg123 rfl (rdI (by exact rfl))) ?_
  refine J.c rfl rfl (X.G.C.range (i := 0) Try.runUnderlying123 rfl rfl) ?_
  rintro _ _ ⟨b5, rfl, rfl⟩
  refine J.norm rfl <| J.nil <| J.then_n <| J.block ?_
  refine J.pick [0, 1, 2, 3, 4, 5] rfl ?_
  refine J.loop (fun z : List Nat × List ByteArray => z.2.Perm ((edone q.1 z.1).map (·.key))) (fun z => (eleft q.1 z.1).length) (fun z => [(0, .func (.yield l) #[] #[]), (5, .pointer (some ⟨b5, 0, none⟩))])
    (fun z => [pt b5 (X.G.miter r q.2 z.1), pt r (X.G.mobj Value.string (q.1.map Ent.m) q.2), star (q.1.map (Ent.asn datRep)), pt bm (.cells [.map (some r)].toArray 123 (0, 0)), Inv z.2, F])
    ([], []) (by simp [X.G.edone_nil]) ⟨rfl, rfl, trivial⟩ rfl fun z hz => ?_
  obtain ⟨seen, pre⟩ := z
  dsimp only at hz
  refine J.seq <| J.region ?_
  refine J.c rfl rfl (X.G.C.nextE (i := 0) (j := 1) hq rfl rfl rfl) ?_
  rintro _ _ ⟨t, rest, seen', rfl, rfl, hst⟩
  refine J.norm rfl <| J.p rfl (Q.ext rfl rfl) <| J.nil <| J.then_n <| J.seq ?_
  refine J.cases 7 rfl (fun hc7 => ?_) (fun hc7 => ?_)
  ·
   replace hc7 := X.nm hc7
   obtain ⟨e, he, rfl⟩ : ∃ e, e ∈ eleft q.1 seen ∧ seen' = seen ++ [e.born] := by rcases hst with ⟨h, _⟩ | ⟨_, h⟩; exact absurd hc7 (by rw [h]; decide); exact h
   refine J.cond_t rfl <| J.cskip <| J.then_n <| J.block <| J.seq <| J.region ?_
   have hstep := X.G.estep hq.born he
   have hlt : pre.length < S0.length := by
     have h1 := hstep.1.length_eq
     have h2 : (edone q.1 (seen ++ [e.born])).length ≤ q.1.length := List.length_filter_le _ _
     have h3 := hz.length_eq
     have h4 := hq.len
     simp only [List.length_cons, List.length_map] at h1 h3
     omega
   have hnx : (pre ++ [e.key]).Perm ((edone q.1 (seen ++ [e.born])).map (·.key)) := by
     refine (List.perm_append_singleton _ _).trans ?_
     refine (hz.cons e.key).trans ?_
     exact (hstep.1.map (·.key)).symm
   refine J.p rfl (X.G.Q.entryE (i := 0) (j := 1) hq he rfl rfl rfl) ?_
   refine J.p rfl (Q.ext rfl rfl) <| J.p rfl (Q.asg rfl) <| J.nil <| J.then_n <| J.seq ?_
   refine J.regionY ?_
   refine JI.q rfl rfl (fun _ e => nomatch e) (Q.mv rfl) ?_
   refine JI.q rfl rfl (fun _ e => nomatch e) (Q.mv rfl) ?_
   refine JI.yield (hY pre e.key hlt) [4] rfl rfl rfl rfl rfl ?_
   rintro _ _ ⟨rfl, rfl⟩
   refine J.norm rfl ?_
   refine JI.q rfl rfl (fun _ e => nomatch e) (Q.not rfl) ?_
   refine JI.nil ?_
   refine JI.out ?_
   refine J.then_n ?_
   refine J.cases 13 rfl (fun hc13 => ?_) (fun hc13 => ?_)
   ·
    cases hc13
   replace hc13 := X.nm hc13
   refine J.cond_f rfl <| J.cskip <| J.blk_n ?_
   refine J.pick [1, 2, 3, 4, 0, 5] rfl ?_
   refine J.again (seen ++ [e.born], pre ++ [e.key]) hnx hstep.2 ⟨rfl, rfl, trivial⟩ rfl
  replace hc7 := X.nm hc7
  obtain ⟨hall, rfl⟩ : edone q.1 seen = q.1 ∧ seen' = seen := by rcases hst with ⟨_, h⟩ | ⟨h, _⟩; exact h; exact absurd hc7 (by rw [h]; decide)
  refine J.cond_f rfl <| J.exit <| J.then_x <| J.lp_x <| J.blk_x ?_
  rw [hall] at hz
  have hfin : pre.Perm (S0.map (·.1)) := by
    refine hz.trans ?_
    have := hq.perm.map (·.1)
    rw [List.map_map] at this
    exact this
  refine J.shut [1, 2] (MapAt Value.string datRep r S0) rfl (fun h s => ⟨q, hq, s⟩) ?_
  refine J.pick [2, 0, 1, 3, 4] rfl ?_
  refine J.pack [0, 1] rfl ?_
  refine J.keep [2, 0, 3] rfl ?_
  refine J.end0 (B := [Inv pre, _]) rfl ⟨pre, hfin, rfl⟩ rfl

theorem keysOb (r : Option Nat) : FSpec Try.prog 64 [.map r] [] (fun v B => ∃ bm, v = .func (.func 68) #[] #[.pointer (some ⟨bm, 0, none⟩)] ∧ B = [pt bm (.cells [.map r].toArray 123 (0, 0))]) := by
  refine FSpec.of Try.func64 rfl Try.ntmps64 rfl fun W0 F => ?_
  refine J.seq <| J.region ?_
  refine J.c rfl rfl (C.box (l := [_]) rfl rfl) ?_
  rintro _ _ ⟨b1, rfl, rfl⟩
  refine J.norm rfl <| J.p rfl (Q.asg rfl) <| J.nil <| J.then_n <| J.seq <| J.region <| J.p rfl (Q.func rfl rfl) <| J.p rfl (Q.asg rfl) <| J.nil <| J.then_n <| J.cret ?_
  refine J.keep [0, 1] rfl ?_
  refine J.ret1 (B := [_]) rfl rfl ⟨_, rfl, rfl⟩ rfl

theorem sortedOb (bm r : Nat) (S0 : List (ByteArray × (List UInt8))) (hS : Srtd ltB S0) (hl : S0.length ≤ 32768) : FSpec Try.prog 63 [.func (.func 68) #[] #[.pointer (some ⟨bm, 0, none⟩)]] [pt bm (.cells [.map (some r)].toArray 123 (0, 0)), MapAt Value.string datRep r S0]
    (fun v B => ∃ (p : Option Addr) (c : Nat), v = .slice p S0.length c ∧ B = [own 9 1 (.slice p S0.length c) ((S0.map (·.1)).map Value.string), pt bm (.cells [.map (some r)].toArray 123 (0, 0)), MapAt Value.string datRep r S0]) := by
  have h := sortedS 68 [.pointer (some ⟨bm, 0, none⟩)] _ (S0.map (·.1)) _ Try.call68 (keysItOb bm r S0) (fun pre _ h => by omega) (by rw [List.length_map]; omega)
  refine h.conv (fun k s => HSat.pack (Bs := []) (by simpa using s)) ?_
  rintro v B' ⟨p, c, rfl, rfl⟩
  rw [List.length_map, srtS hS]
  refine ⟨_, ⟨p, c, rfl, rfl⟩, fun k s => ?_⟩
  exact HSat.under s fun _ s => HSat.unpack (Bs := []) s
end Go.Proofs.Ytidbcaimgahllaa
namespace Go.Proofs.Ytidbcaimgahllaa
set_option linter.unusedSectionVars false
set_option linter.unusedSimpArgs false
set_option linter.unusedVariables false
open Go.X
open Go.X.G (Ord3 ord3_nat ord3_int ord3_str ltB sget sput sdel Srtd MapAt MapHole Ent Ents mobj)

theorem leqs {P : Program} {L : Slots} {D : List Assn} {ty T T' : TypeId} {x y : Operand} {s t : ByteArray} (ex : ev L x = some (.string s)) (ey : ev L y = some (.string t)) : OpQ P (.binOp .leq T x y T') ty L D (.bool (!ltB t s)) :=
  Q.bin ex ey fun w => by
    have h : (Op.bytesLess s.data.toList t.data.toList || decide (s.data.toList = t.data.toList)) = !ltB t s := by
      rw [Bool.eq_iff_iff]
      simp only [Bool.or_eq_true, less_iff, decide_eq_true_eq, Bool.not_eq_true', ltB, decide_eq_false_iff_not, List.not_lt]
      exact ⟨fun h => h.elim List.le_of_lt (fun e => by rw [e]; exact List.le_refl _), fun h => by
        rcases List.le_total t.data.toList s.data.toList with h' | h'
        · exact .inr (List.le_antisymm h h')
        · rcases Classical.em (s.data.toList = t.data.toList) with e | e
          · exact .inr e
          · exact .inl (by
              rcases Classical.em (s.data.toList < t.data.toList) with g | g
              · exact g
              · exact absurd (List.le_antisymm h (List.not_lt.1 g)) e)⟩
    simp only [Sem.run_bind, guard_str, Result.andThen_ok, binOp, Op.stringOp, ByteArray.toList_eq, list_beq, ← h]; rfl

structure BM.kok (M : BM) : Prop where
  ob : ∀ n o, sget n M.buckets = some o → ∀ p, p ∈ o → p.1.size ≤ 1024
  up : ∀ n u, sget n M.uploads = some u → u.key.size ≤ 1024

def keysM (M : BM) (name : ByteArray) : List ByteArray := match sget name M.buckets with | none => [] | some o => o.map (·.1)

theorem keysNil (bm : Nat) : ItSpec Try.prog 68 [.pointer (some ⟨bm, 0, none⟩)] (fun x : ByteArray => [Value.string x]) [pt bm (.cells [.map none].toArray 123 (0, 0))]
    (fun xs => xs.Perm []) (fun _ _ => False) := by
  intro l Inv hY
  refine FSpec.of Try.func68 rfl Try.ntmps68 rfl fun W0 F => ?_
  refine J.seq <| J.region ?_
  refine J.p rfl (Q.ld Try.isAgg123 rfl (rdI (by exact rfl))) ?_
  refine J.c rfl rfl (X.G.C.rangeNil Try.runUnderlying123 rfl) ?_
  rintro _ _ ⟨b5, rfl, rfl⟩
  refine J.norm rfl <| J.nil <| J.then_n <| J.block ?_
  refine J.loop (fun _ : Unit => True) (fun _ => 0) (fun _ => [(5, .pointer (some ⟨b5, 0, none⟩))]) (fun _ => [pt b5 X.G.miterNil, Inv [], pt bm (.cells [.map none].toArray 123 (0, 0)), F]) () trivial ⟨rfl, trivial⟩ rfl fun _ _ => ?_
  refine J.seq <| J.region ?_
  refine J.p rfl (X.G.Q.nextNil (i := 0) rfl rfl) ?_
  refine J.p rfl (Q.ext rfl rfl) <| J.nil <| J.then_n <| J.seq ?_
  refine J.cases 7 rfl (fun hc7 => ?_) (fun hc7 => ?_)
  ·
   exfalso; cases hc7
  replace hc7 := X.nm hc7
  refine J.cond_f rfl <| J.exit <| J.then_x <| J.lp_x <| J.blk_x ?_
  refine J.keep [1, 2, 3] rfl ?_
  refine J.end0 (B := [_, _]) rfl ⟨[], List.Perm.refl _, rfl⟩ rfl

section
variable {k : Nat} (m : Nat) (M : BM) (hM : M.ok k) (hK : M.kok) (hk : k ≤ 32768) (name : ByteArray)
include hM hK hk
theorem objects_no (hB : sget name M.buckets = none) : FSpec Try.prog 61 [.pointer (some ⟨m, 0, none⟩), .string name] [BktAt m M] (fun v B => ∃ p c, v = .slice p (keysM M name).length c ∧ B = [own 9 1 (.slice p (keysM M name).length c) ((keysM M name).map Value.string), BktAt m M]) := by
  have hke : keysM M name = [] := by unfold keysM; rw [hB]
  rw [hke]
  refine FSpec.of Try.func61 rfl Try.ntmps61 rfl fun W0 F => ?_
  refine J.seq <| J.region <| J.p rfl (Q.asg rfl) <| J.nil <| J.then_n <| J.seq ?_
  refine J.open1 0 rfl (fun _ h => h) fun z => ?_
  refine J.norm rfl <| J.region <| J.m rfl <| J.p rfl (Q.nil_ rfl) <| J.p rfl (Q.fa (n := 0) Try.runUnderlying102 rfl rfl Try.sizeOf98 rfl) ?_
  refine J.p rfl (Q.ld Try.isAgg98 rfl (rdI (by exact rfl))) ?_
  refine J.m rfl ?_
  refine J.p rfl (X.G.Q.lkNo (i := 1) Try.runUnderlying98 keyS Try.zeroValue123 rfl rfl rfl hB) ?_
  refine J.call Try.call64 (keysOb none) [] rfl rfl rfl rfl ?_
  rintro _ _ ⟨bk, rfl, rfl⟩
  refine J.norm rfl ?_
  refine J.call Try.call63 (sortedS 68 [.pointer (some ⟨bk, 0, none⟩)] _ [] (fun _ _ => False) Try.call68 (keysNil bk) (fun _ _ h => h.elim) (by decide)) [0] rfl rfl rfl rfl ?_
  rintro _ _ ⟨p12, c12, rfl, rfl⟩
  refine J.norm rfl ?_
  have e0 : ordS [] = [] := by simp [ordS]
  rw [e0]
  refine J.p rfl (Q.asg rfl) <| J.nil <| J.then_n <| J.cret ?_
  refine J.shut [2, 3, 4, 5] (BktAt m M) rfl (fun h s => ⟨z, s⟩) ?_
  refine J.keep [1, 0, 3] rfl ?_
  refine J.ret1 (B := [own 9 1 (.slice p12 0 c12) [], BktAt m M]) rfl rfl ⟨p12, c12, rfl, rfl⟩ rfl
theorem objects_yes {objs : Objs} (hB : sget name M.buckets = some objs) : FSpec Try.prog 61 [.pointer (some ⟨m, 0, none⟩), .string name] [BktAt m M] (fun v B => ∃ p c, v = .slice p (keysM M name).length c ∧ B = [own 9 1 (.slice p (keysM M name).length c) ((keysM M name).map Value.string), BktAt m M]) := by
  have hke : keysM M name = objs.map (·.1) := by unfold keysM; rw [hB]
  have hO := hM.os _ _ hB
  have hob := hK.ob _ _ hB
  rw [hke, List.length_map]
  refine FSpec.of Try.func61 rfl Try.ntmps61 rfl fun W0 F => ?_
  refine J.seq <| J.region <| J.p rfl (Q.asg rfl) <| J.nil <| J.then_n <| J.seq ?_
  refine J.open1 0 rfl (fun _ h => h) fun z => ?_
  refine J.norm rfl ?_
  refine J.mapFocus 1 hB rfl fun val => ?_
  refine J.norm rfl ?_
  refine J.open_ 0 rfl rfl (fun _ h => h) fun r hr => ?_
  subst hr
  refine J.norm rfl <| J.region <| J.m rfl <| J.p rfl (Q.nil_ rfl) <| J.p rfl (Q.fa (n := 0) Try.runUnderlying102 rfl rfl Try.sizeOf98 rfl) ?_
  refine J.p rfl (Q.ld Try.isAgg98 rfl (rdI (by exact rfl))) ?_
  refine J.m rfl ?_
  refine J.p rfl (X.G.Q.lkYes (i := 1) Try.runUnderlying98 keyS Try.zeroValue123 rfl rfl rfl) ?_
  refine J.call Try.call64 (keysOb (some r)) [] rfl rfl rfl rfl ?_
  rintro _ _ ⟨bk, rfl, rfl⟩
  refine J.norm rfl ?_
  refine J.call Try.call63 (sortedOb bk r objs hO.1 (by omega)) [0, 1] rfl rfl rfl rfl ?_
  rintro _ _ ⟨p12, c12, rfl, rfl⟩
  refine J.norm rfl <| J.p rfl (Q.asg rfl) <| J.nil <| J.then_n <| J.cret ?_
  refine J.shut [2] (bRep name objs (.map (some r))) rfl (fun h s => ⟨r, rfl, s⟩) ?_
  refine J.mapSame 0 3 ord3_str hM.bs hB rfl ?_
  refine J.shut [3, 0, 4, 5] (BktAt m M) rfl (fun h s => ⟨z, s⟩) ?_
  refine J.keep [1, 0, 3] rfl ?_
  refine J.ret1 (B := [own 9 1 (.slice p12 objs.length c12) ((objs.map (·.1)).map Value.string), BktAt m M]) rfl rfl ⟨p12, c12, rfl, rfl⟩ rfl
theorem objects_spec : FSpec Try.prog 61 [.pointer (some ⟨m, 0, none⟩), .string name] [BktAt m M] (fun v B => ∃ p c, v = .slice p (keysM M name).length c ∧ B = [own 9 1 (.slice p (keysM M name).length c) ((keysM M name).map Value.string), BktAt m M]) := by
  cases hB : sget name M.buckets with
  | none => exact objects_no m M hM hK hk name hB
  | some objs => exact objects_yes m M hM hK hk name hB
end
end Go.Proofs.Ytidbcaimgahllaa
namespace Go.Proofs.Ytidbcaimgahllaa
set_option linter.unusedSectionVars false
set_option linter.unusedSimpArgs false
set_option linter.unusedVariables false
open Go.X
open Go.X.G (Ord3 ord3_nat ord3_int ord3_str ltB sget sput sdel Srtd MapAt MapHole Ent Ents mobj)

theorem prefix_spec (s p : ByteArray) : FSpec Try.prog 65 [.string s, .string p] [] (fun v B => v = .bool (beg s p) ∧ B = []) := by
  refine FSpec.of Try.func65 rfl Try.ntmps65 rfl fun W0 F => ?_
  refine J.seq <| J.region <| J.p rfl (Q.asg rfl) <| J.nil <| J.then_n <| J.seq <| J.region <| J.m rfl <| J.p rfl (Q.lenS Try.runUnderlying9 rfl) <| J.m rfl <| J.p rfl (Q.lenS Try.runUnderlying9 rfl) <| J.p rfl (Q.geq rfl rfl) <| J.m rfl ?_
  refine J.cases 10 rfl (fun hb10 => ?_) (fun hb10 => ?_)
  ·
   replace hb10 := X.nm hb10
   refine J.m rfl <| J.m rfl <| J.p rfl (Q.lenS Try.runUnderlying9 rfl) <| J.p rfl (Q.strH Try.runUnderlying9 rfl rfl (by omega) (by omega)) <| J.m rfl <| J.p rfl (Q.eqls rfl rfl) <| J.p rfl (Q.pick_t rfl rfl) <| J.p rfl (Q.asg rfl) <| J.nil <| J.then_n <| J.cret ?_
   refine J.ret1 (B := []) rfl rfl ⟨?_, rfl⟩ rfl
   unfold beg
   first
     | (rw [decide_eq_true (show p.size ≤ s.size by omega)]; simp only [Bool.true_and, Int.toNat_natCast]; done)
     | (rw [decide_eq_true (show p.size ≤ s.size by omega)]; rfl)
     | (rw [decide_eq_false (show ¬ p.size ≤ s.size by omega)]; rfl)
  replace hb10 := X.nm hb10
  refine J.skip rfl rfl <| J.skip rfl rfl <| J.skip rfl rfl <| J.skip rfl rfl <| J.skip rfl rfl <| J.skip rfl rfl <| J.p rfl (Q.pick_f rfl rfl) <| J.p rfl (Q.asg rfl) <| J.nil <| J.then_n <| J.cret ?_
  refine J.ret1 (B := []) rfl rfl ⟨?_, rfl⟩ rfl
  unfold beg
  first
    | (rw [decide_eq_true (show p.size ≤ s.size by omega)]; simp only [Bool.true_and, Int.toNat_natCast]; done)
    | (rw [decide_eq_true (show p.size ≤ s.size by omega)]; rfl)
    | (rw [decide_eq_false (show ¬ p.size ≤ s.size by omega)]; rfl)
theorem hasPrefix_spec (s p : ByteArray) : FSpec Try.prog 62 [.string s, .string p] [] (fun v B => v = .bool (beg s p) ∧ B = []) := by
  refine FSpec.of Try.func62 rfl Try.ntmps62 rfl fun W0 F => ?_
  refine J.seq <| J.region <| J.p rfl (Q.asg rfl) <| J.nil <| J.then_n <| J.seq <| J.region <| J.m rfl <| J.m rfl ?_
  refine J.call Try.call65 (prefix_spec s p) [] rfl rfl rfl rfl ?_
  rintro _ _ ⟨rfl, rfl⟩
  refine J.norm rfl <| J.p rfl (Q.asg rfl) <| J.nil <| J.then_n <| J.cret ?_
  refine J.ret1 (B := []) rfl rfl ⟨rfl, rfl⟩ rfl

def lsel (o : OM) (a : ByteArray) : Bool := beg a o.key && ltB o.after a
theorem filter_take {p : ByteArray → Bool} {l : List ByteArray} {j : Nat} {a : ByteArray} (h : l[j]? = some a) : (l.take (j + 1)).filter p = (l.take j).filter p ++ (if p a then [a] else []) := by
  obtain ⟨h1, h2⟩ := List.getElem?_eq_some_iff.1 h
  rw [List.take_succ_eq_append_getElem h1, List.filter_append, h2]
  cases hp : p a <;> simp [List.filter, hp]
theorem filter_more {p : ByteArray → Bool} {l : List ByteArray} {j : Nat} {a : ByteArray} (h : l[j]? = some a) (hp : p a = true) : ∃ r, l.filter p = (l.take j).filter p ++ a :: r := by
  obtain ⟨h1, h2⟩ := List.getElem?_eq_some_iff.1 h
  refine ⟨(l.drop (j + 1)).filter p, ?_⟩
  conv => lhs; rw [← List.take_append_drop j l, List.filter_append, List.drop_eq_getElem_cons h1, h2]
  rw [List.filter_cons, if_pos hp]

section
variable {k : Nat} (m : Nat) (M : BM) (hM : M.ok k) (hK : M.kok) (hk : k ≤ 32768) (x : OW) (G : Assn) (hx : x.ok G) (hc : x.o.chkB = true) (h6 : x.o.kind = 6)
include hM hK hk hx hc h6
theorem list_no_all : (∀ (hB : sget x.o.bucket M.buckets = none), FSpec Try.prog 55 [.pointer (some ⟨m, 0, none⟩), .agg x.cells.toArray] [BktAt m M, G] (ActR m G (st 404, M))) ∧ (∀ {objs : Objs} (hB : sget x.o.bucket M.buckets = some objs), FSpec Try.prog 55 [.pointer (some ⟨m, 0, none⟩), .agg x.cells.toArray] [BktAt m M, G] (ActR m G (⟨200, 0, (listed x.o objs).take x.o.n.toNat, decide (x.o.n.toNat < (listed x.o objs).length), []⟩, M))) := by
  refine ⟨fun hB => ?_, fun {objs} hB => ?_⟩
  all_goals
   have hn := chk_6 hc h6
   try have hO := hM.os _ _ hB
   try have hke : keysM M x.o.bucket = objs.map (·.1) := by unfold keysM; rw [hB]
   refine FSpec.of Try.func55 rfl Try.ntmps55 rfl fun W0 F => ?_
   refine J.seq <| J.region ?_
   refine J.c rfl rfl (C.box (l := [_, _, _, _, _, _, _, _, _]) rfl rfl) ?_
   rintro _ _ ⟨b3, rfl, rfl⟩
   refine J.norm rfl ?_
   refine J.c rfl rfl (C.alloc (l := [_, _, _, _, _]) Try.zeroValue34 rfl) ?_
   rintro _ _ ⟨b4, rfl, rfl⟩
   refine J.norm rfl <| J.nil <| J.then_n <| J.seq <| J.seq <| J.region <| J.m rfl ?_
   refine J.p rfl (Q.ldN (vs := [_, _, _, _, _, _, _, _, _]) Try.isAgg27 Try.sizeOf27 rfl rnI) ?_
   refine J.call Try.call60 ((by first | exact known_no m M x hB | exact known_yes m M hM x hB)) [2] rfl rfl rfl rfl ?_
   rintro _ _ ⟨rfl, rfl⟩
   refine J.norm rfl <| J.p rfl (Q.not rfl) <| J.nil <| J.then_n ?_
   refine J.cases 11 rfl (fun hc11 => ?_) (fun hc11 => ?_)
   ·
    replace hc11 := X.nm hc11
    try (first | (cases hc11; done) | (exfalso; simp at hc11; done))
    all_goals
     refine J.cond_t rfl <| J.seq <| J.region ?_
     refine J.call Try.call35 (status_spec 404) [] rfl rfl rfl rfl ?_
     rintro _ _ ⟨y, rfl, hy, rfl⟩
     refine J.norm rfl ?_
     refine J.stAI (vs := [_, _, _, _, _]) rfl Try.sizeOf34 rfl rfl (by exact rfl) (by exact rfl) (by exact rfl) ?_
     refine J.nil <| J.then_n <| J.cret <| J.then_r ?_
     refine J.retC [1, 0, 4, 5] (vs := [_, _, _, _, _]) rfl rfl Try.isAgg34 Try.sizeOf34 (ReadsN.pt 2 rfl) rfl (B := [_, _, _]) ⟨_, rfl, hy, rfl⟩
   replace hc11 := X.nm hc11
   try (first | (cases hc11; done) | (exfalso; simp at hc11; done))
   all_goals
    refine J.cond_f rfl <| J.cskip <| J.then_n <| J.seq <| J.region ?_
    refine J.call Try.call35 (status_spec 200) [] rfl rfl rfl rfl ?_
    rintro _ _ ⟨y, rfl, hy, rfl⟩
    refine J.norm rfl ?_
    obtain ⟨yr, kp, kc, dp, dc⟩ := y
    dsimp only at hy
    subst hy
    refine J.c rfl rfl (C.alloc (l := [_, _, _, _, _]) Try.zeroValue34 rfl) ?_
    rintro _ _ ⟨b5, rfl, rfl⟩
    refine J.norm rfl ?_
    refine J.stAI (vs := [_, _, _, _, _]) rfl Try.sizeOf34 rfl rfl (by exact rfl) (by exact rfl) (by exact rfl) ?_
    refine J.nil <| J.then_n ?_
    refine J.cut (fun w : List ByteArray × Option Addr × Nat × Bool => w.1 = (listed x.o objs).take x.o.n.toNat ∧ w.2.2.2 = decide (x.o.n.toNat < (listed x.o objs).length)) (fun w => [(4, .pointer (some ⟨b4, 0, none⟩)), (5, .pointer (some ⟨b5, 0, none⟩))]) (fun w => [own 9 1 (.slice w.2.1 w.1.length w.2.2.1) (w.1.map Value.string), own 5 1 (.slice dp 0 dc) [], BktAt m M, pt b5 (.cells [Value.int .i64 200, .int .u64 0, .slice w.2.1 w.1.length w.2.2.1, .bool w.2.2.2, .slice dp 0 dc].toArray 34 (0, 0)), pt b4 (.cells [Value.int .i64 0, .int .u64 0, .slice none 0 0, .bool false, .slice none 0 0].toArray 34 (0, 0)), G, F]) ?_ fun w hw => ?_
    ·
     refine J.seq <| J.region <| J.m rfl <| J.p rfl (Q.fa (n := 2) Try.runUnderlying27 rfl rfl Try.sizeOf9 rfl) ?_
     refine J.p rfl (Q.ld Try.isAgg9 rfl (rdI (by exact rfl))) ?_
     refine J.call Try.call61 (objects_spec m M hM hK hk x.o.bucket) [2] rfl rfl rfl rfl ?_
     rintro _ _ ⟨p17, c17, rfl, rfl⟩
     refine J.norm rfl ?_
     obtain ⟨ks, hks⟩ : ∃ ks, ks = keysM M x.o.bucket := ⟨_, rfl⟩
     rw [← hks]
     have hkl : ks.length ≤ 1048576 := by rw [hks, hke, List.length_map]; omega
     have hlst : listed x.o objs = ks.filter (lsel x.o) := by rw [hks, hke]; rfl
     refine J.unpack 3 rfl rfl ?_
     refine J.norm rfl ?_
     refine J.slr1 2 rfl fun hs17 => ?_
     refine J.p rfl (Q.lenSl Try.runUnderlying32 rfl) <| J.m rfl <| J.nil <| J.then_n <| J.block ?_
     refine J.loop (fun w : Nat × Option Addr × Nat => w.1 ≤ ks.length ∧ ((ks.take w.1).filter (lsel x.o)).length ≤ x.o.n.toNat) (fun w => ks.length - w.1) (fun w => [(3, .pointer (some ⟨b3, 0, none⟩)), (4, .pointer (some ⟨b4, 0, none⟩)), (5, .pointer (some ⟨b5, 0, none⟩)), (17, .slice p17 ks.length c17), (18, .int .i64 ks.length), (19, .int .i64 w.1)])
       (fun w => [own 9 1 (.slice w.2.1 ((ks.take w.1).filter (lsel x.o)).length w.2.2) (((ks.take w.1).filter (lsel x.o)).map Value.string), own 5 1 (.slice dp 0 dc) [], own 9 1 (.slice p17 ks.length c17) (ks.map Value.string), BktAt m M, pt b5 (.cells [Value.int .i64 200, .int .u64 0, .slice w.2.1 ((ks.take w.1).filter (lsel x.o)).length w.2.2, .bool false, .slice dp 0 dc].toArray 34 (0, 0)), pt b4 (.cells [Value.int .i64 0, .int .u64 0, .slice none 0 0, .bool false, .slice none 0 0].toArray 34 (0, 0)), pt b3 (.cells x.cells.toArray 27 (0, 0)), G, F]) (0, kp, kc) ⟨Nat.zero_le _, Nat.zero_le _⟩ ⟨rfl, rfl, rfl, rfl, rfl, rfl, trivial⟩ rfl fun w hw => ?_
     obtain ⟨j, pa, ca⟩ := w
     obtain ⟨hj, ha⟩ := hw
     dsimp only at hj ha
     refine J.seq <| J.region <| J.p rfl (Q.lss rfl rfl) <| J.nil <| J.then_n <| J.seq ?_
     refine J.cases 20 rfl (fun hc20 => ?_) (fun hc20 => ?_)
     ·
      replace hc20 := X.nm hc20
      try (first | (cases hc20; done) | (exfalso; simp at hc20; done))
      all_goals
       refine J.cond_t rfl <| J.cskip <| J.then_n <| J.seq <| J.block <| J.seq ?_
       obtain ⟨bb, ob, hpp, hrd⟩ := hs17.some_ (by omega)
       obtain ⟨a, hka⟩ : ∃ a, ks[j]? = some a := ⟨_, List.getElem?_eq_getElem (by omega)⟩
       have hft := filter_take (p := lsel x.o) hka
       refine J.slot 17 (.slice (some ⟨bb, ob, none⟩) ks.length c17) rfl (by rw [hpp]) ?_
       refine J.region <| J.p rfl (Q.ia Try.runUnderlying32 Try.sizeOf9 rfl rfl (by omega) (by omega)) ?_
       refine J.p rfl (Q.ld Try.isAgg9 rfl (((hrd j (.string a) (by simp [hka])).within (i := 2) rfl).cast (by simp))) ?_
       refine J.p rfl (Q.asg rfl) <| J.nil <| J.then_n <| J.seq <| J.seq <| J.region <| J.m rfl <| J.p rfl (Q.fa (n := 3) Try.runUnderlying27 rfl rfl Try.sizeOf9 rfl) ?_
       refine J.p rfl (Q.ld Try.isAgg9 rfl (rdI (by exact rfl))) ?_
       refine J.call Try.call62 (hasPrefix_spec a x.o.key) [] rfl rfl rfl rfl ?_
       rintro _ _ ⟨rfl, rfl⟩
       refine J.norm rfl <| J.p rfl (Q.not rfl) <| J.m rfl ?_
       refine J.cases 28 rfl (fun hb28 => ?_) (fun hb28 => ?_)
       ·
        replace hb28 := X.nm hb28
        try (first | (cases hb28; done) | (exfalso; simp at hb28; done))
        all_goals
         refine J.skip rfl rfl <| J.skip rfl rfl <| J.skip rfl rfl <| J.skip rfl rfl <| J.p rfl (Q.pick_t rfl rfl) <| J.nil <| J.then_n <| J.cond_t rfl <| J.exit <| J.then_x <| J.blk_x <| J.then_n <| J.region <| J.p rfl (Q.add64 rfl rfl (by omega)) <| J.m rfl <| J.nil ?_
         have hsel : lsel x.o a = false := by unfold lsel; first | (have h1 := hb28; have h2 : ltB x.o.after a = false := (by simpa using hc33); revert h1 h2; cases beg a x.o.key <;> cases ltB x.o.after a <;> decide) | (have h1 := hb28; revert h1; cases beg a x.o.key <;> cases ltB x.o.after a <;> decide)
         rw [hsel] at hft
         simp only [Bool.false_eq_true, if_false, List.append_nil] at hft
         refine J.again (j + 1, pa, ca) ⟨by show j + 1 ≤ _; omega, by show ((ks.take (j + 1)).filter (lsel x.o)).length ≤ _; rw [hft]; exact ha⟩ (by show ks.length - (j + 1) < ks.length - j; omega) ⟨rfl, rfl, rfl, (by show _ = some (Value.slice p17 _ _); rw [hpp]; rfl), rfl, rfl, trivial⟩ ?_
         show _ = [own 9 1 (.slice pa ((ks.take (j + 1)).filter (lsel x.o)).length ca) (((ks.take (j + 1)).filter (lsel x.o)).map Value.string), _, _, _, pt b5 (.cells [Value.int .i64 200, .int .u64 0, .slice pa ((ks.take (j + 1)).filter (lsel x.o)).length ca, .bool false, .slice dp 0 dc].toArray 34 (0, 0)), _, _, _, _]
         rw [hft]
       replace hb28 := X.nm hb28
       try (first | (cases hb28; done) | (exfalso; simp at hb28; done))
       all_goals
        refine J.m rfl <| J.p rfl (Q.fa (n := 4) Try.runUnderlying27 rfl rfl Try.sizeOf9 rfl) ?_
        refine J.p rfl (Q.ld Try.isAgg9 rfl (rdI (by exact rfl))) ?_
        refine J.p rfl (leqs rfl rfl) ?_
        refine J.p rfl (Q.pick_f rfl rfl) <| J.nil <| J.then_n ?_
        refine J.cases 33 rfl (fun hc33 => ?_) (fun hc33 => ?_)
        ·
         replace hc33 := X.nm hc33
         try (first | (cases hc33; done) | (exfalso; simp at hc33; done))
         all_goals
          refine J.cond_t rfl <| J.exit <| J.then_x <| J.blk_x <| J.then_n <| J.region <| J.p rfl (Q.add64 rfl rfl (by omega)) <| J.m rfl <| J.nil ?_
          have hsel : lsel x.o a = false := by unfold lsel; first | (have h1 := hb28; have h2 : ltB x.o.after a = false := (by simpa using hc33); revert h1 h2; cases beg a x.o.key <;> cases ltB x.o.after a <;> decide) | (have h1 := hb28; revert h1; cases beg a x.o.key <;> cases ltB x.o.after a <;> decide)
          rw [hsel] at hft
          simp only [Bool.false_eq_true, if_false, List.append_nil] at hft
          refine J.again (j + 1, pa, ca) ⟨by show j + 1 ≤ _; omega, by show ((ks.take (j + 1)).filter (lsel x.o)).length ≤ _; rw [hft]; exact ha⟩ (by show ks.length - (j + 1) < ks.length - j; omega) ⟨rfl, rfl, rfl, (by show _ = some (Value.slice p17 _ _); rw [hpp]; rfl), rfl, rfl, trivial⟩ ?_
          show _ = [own 9 1 (.slice pa ((ks.take (j + 1)).filter (lsel x.o)).length ca) (((ks.take (j + 1)).filter (lsel x.o)).map Value.string), _, _, _, pt b5 (.cells [Value.int .i64 200, .int .u64 0, .slice pa ((ks.take (j + 1)).filter (lsel x.o)).length ca, .bool false, .slice dp 0 dc].toArray 34 (0, 0)), _, _, _, _]
          rw [hft]
        replace hc33 := X.nm hc33
        try (first | (cases hc33; done) | (exfalso; simp at hc33; done))
        all_goals
         refine J.cond_f rfl <| J.cskip <| J.then_n <| J.seq <| J.seq <| J.region <| J.p rfl (Q.fa (n := 2) Try.runUnderlying34 rfl rfl Try.sizeOf32 rfl) ?_
         refine J.p rfl (Q.ld Try.isAgg32 rfl (rdI (by exact rfl))) ?_
         refine J.p rfl (Q.lenSl Try.runUnderlying32 rfl) <| J.p rfl (Q.fa (n := 5) Try.runUnderlying27 rfl rfl Try.sizeOf3 rfl) ?_
         refine J.p rfl (Q.ld Try.isAgg3 rfl (rdI (by exact rfl))) ?_
         refine J.p rfl (Q.eql rfl rfl) <| J.p rfl (Q.fa (n := 3) Try.runUnderlying34 rfl rfl Try.sizeOf4 rfl) ?_
         refine J.stI rfl Try.sizeOf4 rfl rfl rfl (by exact rfl) (by exact rfl) (by exact rfl) ?_
         refine J.nil <| J.then_n <| J.seq <| J.region <| J.p rfl (Q.fa (n := 3) Try.runUnderlying34 rfl rfl Try.sizeOf4 rfl) ?_
         refine J.p rfl (Q.ld Try.isAgg4 rfl (rdI (by exact rfl))) ?_
         refine J.nil <| J.then_n ?_
         refine J.cases 42 rfl (fun hc42 => ?_) (fun hc42 => ?_)
         ·
          replace hc42 := X.nm hc42
          try (first | (cases hc42; done) | (exfalso; simp at hc42; done))
          all_goals
           refine J.cond_t rfl <| J.exit <| J.then_x <| J.blk_o rfl <| J.then_x <| J.lp_x <| J.blk_x ?_
           have hsel : lsel x.o a = true := by unfold lsel; first | (have h1 := hb28; have h2 : ltB x.o.after a = true := (by simpa using hc33); revert h1 h2; cases beg a x.o.key <;> cases ltB x.o.after a <;> decide) | (have h1 := hb28; revert h1; cases beg a x.o.key <;> cases ltB x.o.after a <;> decide)
           obtain ⟨r, hr⟩ := filter_more hka hsel
           have hdt := decide_eq_true hc42
           dsimp only at hc42
           have hal : ((ks.take j).filter (lsel x.o)).length = x.o.n.toNat := by omega
           refine J.keep [0, 1, 3, 4, 5, 7, 8] rfl ?_
           refine J.meet ((ks.take j).filter (lsel x.o), pa, ca, true) ⟨?_, ?_⟩ ⟨rfl, rfl, trivial⟩ ?_
           · show _ = List.take _ _
             rw [hlst, hr, ← hal, List.take_left]
           · show true = _
             rw [hlst, hr, ← hal, List.length_append, List.length_cons]
             simp
           · rw [hdt]
         replace hc42 := X.nm hc42
         try (first | (cases hc42; done) | (exfalso; simp at hc42; done))
         all_goals
          refine J.cond_f rfl <| J.cskip <| J.then_n <| J.region <| J.p rfl (Q.fa (n := 2) Try.runUnderlying34 rfl rfl Try.sizeOf32 rfl) ?_
          refine J.p rfl (Q.ld Try.isAgg32 rfl (rdI (by exact rfl))) ?_
          refine J.m rfl ?_
          refine J.c rfl rfl (C.bslG (l := [_]) Try.runUnderlying32 Try.sizeOf9 Try.zeroValue9 (by decide) rfl rfl rfl rfl rfl) ?_
          rintro _ _ ⟨b46, rfl, rfl⟩
          refine J.norm rfl ?_
          refine J.conv (Y := own 9 1 (.slice (some ⟨b46, 0, none⟩) 1 1) [.string a]) 0 rfl (own_of_block rfl) ?_
          refine J.slr1 0 rfl fun hs46 => ?_
          refine J.c rfl rfl (C.app (i := 1) Try.runUnderlying32 Try.runUnderlying32 Try.typeInfo9 Try.sizeOf9 Try.zeroValue9 rfl rfl rfl (hs46.within (i := 0) rfl) (by intro v hv; simp at hv; subst hv; rfl) (by rw [show Try.t9.bytes = 16 from rfl]; show (_ + 1) * 16 ≤ _; dsimp only; omega) (by decide)) ?_
          rintro _ _ ⟨p47, c47, rfl, rfl⟩
          refine J.norm rfl <| J.p rfl (Q.fa (n := 2) Try.runUnderlying34 rfl rfl Try.sizeOf32 rfl) ?_
          refine J.stI rfl Try.sizeOf32 rfl rfl rfl (by exact rfl) (by exact rfl) (by exact rfl) ?_
          refine J.nil <| J.blk_n <| J.then_n <| J.region <| J.p rfl (Q.add64 rfl rfl (by omega)) <| J.m rfl <| J.nil ?_
          have hsel : lsel x.o a = true := by unfold lsel; first | (have h1 := hb28; have h2 : ltB x.o.after a = true := (by simpa using hc33); revert h1 h2; cases beg a x.o.key <;> cases ltB x.o.after a <;> decide) | (have h1 := hb28; revert h1; cases beg a x.o.key <;> cases ltB x.o.after a <;> decide)
          have e1 : (ks.take (j + 1)).filter (lsel x.o) = (ks.take j).filter (lsel x.o) ++ [a] := by rw [hft, hsel]; rfl
          have hdf := decide_eq_false hc42
          refine J.keep [1, 2, 3, 4, 5, 6, 7, 8, 9] rfl ?_
          refine J.again (j + 1, p47, c47) ⟨by show j + 1 ≤ _; omega, by show ((ks.take (j + 1)).filter (lsel x.o)).length ≤ _; rw [e1, List.length_append]; dsimp only at hc42; simp only [List.length_cons, List.length_nil]; omega⟩ (by show ks.length - (j + 1) < ks.length - j; omega) ⟨rfl, rfl, rfl, (by show _ = some (Value.slice p17 _ _); rw [hpp]; rfl), rfl, rfl, trivial⟩ ?_
          show _ = [own 9 1 (.slice p47 ((ks.take (j + 1)).filter (lsel x.o)).length c47) (((ks.take (j + 1)).filter (lsel x.o)).map Value.string), _, _, _, pt b5 (.cells [Value.int .i64 200, .int .u64 0, .slice p47 ((ks.take (j + 1)).filter (lsel x.o)).length c47, .bool false, .slice dp 0 dc].toArray 34 (0, 0)), _, _, _, _]
          rw [e1, List.length_append, List.map_append, hdf]
          rfl
     replace hc20 := X.nm hc20
     try (first | (cases hc20; done) | (exfalso; simp at hc20; done))
     all_goals
      refine J.cond_f rfl <| J.exit <| J.then_x <| J.lp_x <| J.blk_x ?_
      have hjn : j = ks.length := by omega
      subst hjn
      rw [List.take_length] at ha ⊢
      refine J.keep [0, 1, 3, 4, 5, 7, 8] rfl ?_
      refine J.meet (ks.filter (lsel x.o), pa, ca, false) ⟨?_, ?_⟩ ⟨rfl, rfl, trivial⟩ rfl
      · show _ = List.take _ _
        rw [hlst, List.take_of_length_le ha]
      · show false = _
        rw [hlst]
        simp; omega
    obtain ⟨kl, pk, ck, more⟩ := w
    obtain ⟨h1, h2⟩ := hw
    dsimp only at h1 h2
    refine J.seq <| J.region ?_
    refine J.p rfl (Q.ldN (vs := [_, _, _, _, _]) Try.isAgg34 Try.sizeOf34 rfl rnI) ?_
    refine J.stAI (vs := [_, _, _, _, _]) rfl Try.sizeOf34 rfl rfl (by exact rfl) (by exact rfl) (by exact rfl) ?_
    refine J.nil <| J.then_n <| J.cret ?_
    refine J.pack [0, 1] rfl ?_
    refine J.retC [1, 0, 4, 5] (vs := [_, _, _, _, _]) rfl rfl Try.isAgg34 Try.sizeOf34 (ReadsN.pt 3 rfl) rfl (B := [_, _, _]) ⟨⟨⟨200, 0, kl, more, []⟩, pk, ck, dp, dc⟩, rfl, ?_, rfl⟩
    rw [h1, h2]
theorem list_no (hB : sget x.o.bucket M.buckets = none) : FSpec Try.prog 55 [.pointer (some ⟨m, 0, none⟩), .agg x.cells.toArray] [BktAt m M, G] (ActR m G (st 404, M)) := (list_no_all m M hM hK hk x G hx hc h6).1 hB
theorem list_yes {objs : Objs} (hB : sget x.o.bucket M.buckets = some objs) : FSpec Try.prog 55 [.pointer (some ⟨m, 0, none⟩), .agg x.cells.toArray] [BktAt m M, G] (ActR m G (⟨200, 0, (listed x.o objs).take x.o.n.toNat, decide (x.o.n.toNat < (listed x.o objs).length), []⟩, M)) := (list_no_all m M hM hK hk x G hx hc h6).2 hB
theorem list_spec : FSpec Try.prog 55 [.pointer (some ⟨m, 0, none⟩), .agg x.cells.toArray] [BktAt m M, G] (ActR m G (M.list x.o)) := by
  unfold BM.list
  cases hB : sget x.o.bucket M.buckets with
  | none => exact list_no m M hM hK hk x G hx hc h6 hB
  | some objs => exact list_yes m M hM hK hk x G hx hc h6 hB
end

theorem do_all {k : Nat} (m : Nat) (M : BM) (hM : M.ok k) (hK : M.kok) (hk : k ≤ 32768) (x : OW) (G : Assn) (hx : x.ok G) : FSpec Try.prog 20 [.pointer (some ⟨m, 0, none⟩), .agg x.cells.toArray] [BktAt m M, G] (ActR m G (M.run x.o)) :=
  do_spec m M hM x G hx fun hc => hasAct m M hM x G hx hc fun h6 => list_spec m M hM hK hk x G hx hc h6
end Go.Proofs.Ytidbcaimgahllaa
namespace Go.Proofs.Ytidbcaimgahllaa
set_option linter.unusedSectionVars false
set_option linter.unusedSimpArgs false
set_option linter.unusedVariables false
open Go.X

theorem definite_spec (n : Int) : FSpec Try.prog 7 [.int .i64 n] [] (fun v B => v = .bool (decide (n = 200) || decide (n = 400) || decide (n = 404) || decide (n = 409) || decide (n = 413)) ∧ B = []) := by
  refine FSpec.of Try.func7 rfl Try.ntmps7 rfl fun W0 F => ?_
  refine J.seq <| J.region <| J.p rfl (Q.asg rfl) <| J.nil <| J.then_n <| J.seq <| J.seq <| J.region <| J.m rfl <| J.nil <| J.then_n <| J.block <| J.seq <| J.seq <| J.region <| J.p rfl (Q.eql rfl rfl) <| J.p rfl (Q.asg rfl) <| J.nil <| J.then_n ?_
  refine J.cases 4 rfl (fun hc4 => ?_) (fun hc4 => ?_)
  ·
   replace hc4 := X.nm hc4
   try (first | (cases hc4; done) | (exfalso; simp at hc4; done))
   all_goals
    refine J.cond_t rfl <| J.cskip <| J.then_n <| J.cond_t rfl <| J.seq <| J.region <| J.p rfl (Q.asg rfl) <| J.nil <| J.then_n <| J.cret <| J.blk_r <| J.then_r ?_
    first
     | (have e : (decide (n = 200) || decide (n = 400) || decide (n = 404) || decide (n = 409) || decide (n = 413)) = true := by simp; omega
        refine J.ret1I [] rfl rfl ⟨by rw [e], rfl⟩)
     | (have e : (decide (n = 200) || decide (n = 400) || decide (n = 404) || decide (n = 409) || decide (n = 413)) = false := by simp; omega
        refine J.ret1I [] rfl rfl ⟨by rw [e], rfl⟩)
  replace hc4 := X.nm hc4
  try (first | (cases hc4; done) | (exfalso; simp at hc4; done))
  all_goals
   refine J.cond_f rfl <| J.seq <| J.region <| J.p rfl (Q.eql rfl rfl) <| J.p rfl (Q.asg rfl) <| J.nil <| J.then_n ?_
   refine J.cases 4 rfl (fun hc4 => ?_) (fun hc4 => ?_)
   ·
    replace hc4 := X.nm hc4
    try (first | (cases hc4; done) | (exfalso; simp at hc4; done))
    all_goals
     refine J.cond_t rfl <| J.cskip <| J.then_n <| J.cond_t rfl <| J.seq <| J.region <| J.p rfl (Q.asg rfl) <| J.nil <| J.then_n <| J.cret <| J.blk_r <| J.then_r ?_
     first
      | (have e : (decide (n = 200) || decide (n = 400) || decide (n = 404) || decide (n = 409) || decide (n = 413)) = true := by simp; omega
         refine J.ret1I [] rfl rfl ⟨by rw [e], rfl⟩)
      | (have e : (decide (n = 200) || decide (n = 400) || decide (n = 404) || decide (n = 409) || decide (n = 413)) = false := by simp; omega
         refine J.ret1I [] rfl rfl ⟨by rw [e], rfl⟩)
   replace hc4 := X.nm hc4
   try (first | (cases hc4; done) | (exfalso; simp at hc4; done))
   all_goals
    refine J.cond_f rfl <| J.seq <| J.region <| J.p rfl (Q.eql rfl rfl) <| J.p rfl (Q.asg rfl) <| J.nil <| J.then_n ?_
    refine J.cases 4 rfl (fun hc4 => ?_) (fun hc4 => ?_)
    ·
     replace hc4 := X.nm hc4
     try (first | (cases hc4; done) | (exfalso; simp at hc4; done))
     all_goals
      refine J.cond_t rfl <| J.cskip <| J.then_n <| J.cond_t rfl <| J.seq <| J.region <| J.p rfl (Q.asg rfl) <| J.nil <| J.then_n <| J.cret <| J.blk_r <| J.then_r ?_
      first
       | (have e : (decide (n = 200) || decide (n = 400) || decide (n = 404) || decide (n = 409) || decide (n = 413)) = true := by simp; omega
          refine J.ret1I [] rfl rfl ⟨by rw [e], rfl⟩)
       | (have e : (decide (n = 200) || decide (n = 400) || decide (n = 404) || decide (n = 409) || decide (n = 413)) = false := by simp; omega
          refine J.ret1I [] rfl rfl ⟨by rw [e], rfl⟩)
    replace hc4 := X.nm hc4
    try (first | (cases hc4; done) | (exfalso; simp at hc4; done))
    all_goals
     refine J.cond_f rfl <| J.seq <| J.region <| J.p rfl (Q.eql rfl rfl) <| J.p rfl (Q.asg rfl) <| J.nil <| J.then_n ?_
     refine J.cases 4 rfl (fun hc4 => ?_) (fun hc4 => ?_)
     ·
      replace hc4 := X.nm hc4
      try (first | (cases hc4; done) | (exfalso; simp at hc4; done))
      all_goals
       refine J.cond_t rfl <| J.cskip <| J.then_n <| J.cond_t rfl <| J.seq <| J.region <| J.p rfl (Q.asg rfl) <| J.nil <| J.then_n <| J.cret <| J.blk_r <| J.then_r ?_
       first
        | (have e : (decide (n = 200) || decide (n = 400) || decide (n = 404) || decide (n = 409) || decide (n = 413)) = true := by simp; omega
           refine J.ret1I [] rfl rfl ⟨by rw [e], rfl⟩)
        | (have e : (decide (n = 200) || decide (n = 400) || decide (n = 404) || decide (n = 409) || decide (n = 413)) = false := by simp; omega
           refine J.ret1I [] rfl rfl ⟨by rw [e], rfl⟩)
     replace hc4 := X.nm hc4
     try (first | (cases hc4; done) | (exfalso; simp at hc4; done))
     all_goals
      refine J.cond_f rfl <| J.region <| J.p rfl (Q.eql rfl rfl) <| J.p rfl (Q.asg rfl) <| J.nil <| J.then_n ?_
      refine J.cases 4 rfl (fun hc4 => ?_) (fun hc4 => ?_)
      ·
       replace hc4 := X.nm hc4
       try (first | (cases hc4; done) | (exfalso; simp at hc4; done))
       all_goals
        refine J.cond_t rfl <| J.seq <| J.region <| J.p rfl (Q.asg rfl) <| J.nil <| J.then_n <| J.cret <| J.blk_r <| J.then_r ?_
        first
         | (have e : (decide (n = 200) || decide (n = 400) || decide (n = 404) || decide (n = 409) || decide (n = 413)) = true := by simp; omega
            refine J.ret1I [] rfl rfl ⟨by rw [e], rfl⟩)
         | (have e : (decide (n = 200) || decide (n = 400) || decide (n = 404) || decide (n = 409) || decide (n = 413)) = false := by simp; omega
            refine J.ret1I [] rfl rfl ⟨by rw [e], rfl⟩)
      replace hc4 := X.nm hc4
      try (first | (cases hc4; done) | (exfalso; simp at hc4; done))
      all_goals
       refine J.cond_f rfl <| J.cskip <| J.blk_n <| J.then_n <| J.seq <| J.region <| J.p rfl (Q.asg rfl) <| J.nil <| J.then_n <| J.cret ?_
       first
        | (have e : (decide (n = 200) || decide (n = 400) || decide (n = 404) || decide (n = 409) || decide (n = 413)) = true := by simp; omega
           refine J.ret1I [] rfl rfl ⟨by rw [e], rfl⟩)
        | (have e : (decide (n = 200) || decide (n = 400) || decide (n = 404) || decide (n = 409) || decide (n = 413)) = false := by simp; omega
           refine J.ret1I [] rfl rfl ⟨by rw [e], rfl⟩)

structure CW where
  index : Nat
  bs : List UInt8
  p : Option Addr
  c : Nat
abbrev CW.cells (x : CW) : List Value := [.int .u64 x.index, .slice x.p x.bs.length x.c]
theorem CW.len (x : CW) : x.cells.length = 2 := rfl
structure Coms (G : Assn) (lp : Option Addr) (lc : Nat) (l : List CW) (ds : List DM) : Prop where
  rd : SlR [G] 2 (.slice lp l.length lc) (l.flatMap CW.cells)
  ok : ∀ x, x ∈ l → SlP G x.p x.c x.bs
  small : l.length ≤ 32768
  dec : ∀ (i : Nat) (x : CW), l[i]? = some x → ∃ d, ds[i]? = some d ∧ DecIs x.bs d
  dl : ds.length = l.length

structure SM where
  o : OM
  point : Bool
def DM.m (d : DM) : SM := ⟨d.o, d.point⟩
structure SW where
  y : OW
  point : Bool
def SW.m (w : SW) : SM := ⟨w.y.o, w.point⟩
abbrev SW.cells (w : SW) : List Value := [.int .u64 w.y.o.id, .int .i64 w.y.o.kind, .string w.y.o.bucket, .string w.y.o.key, .string w.y.o.after, .int .i64 w.y.o.n, .int .u64 w.y.o.upload, .slice w.y.pp w.y.o.parts.length w.y.pc, .slice w.y.dp w.y.o.data.length w.y.dc, .bool w.point]
theorem SW.len (x : SW) : x.cells.length = 10 := rfl
theorem SW.one (x : SW) : ∀ v, v ∈ x.cells → oneC v = true := by
  intro v hv
  simp only [SW.cells, List.mem_cons, List.not_mem_nil, or_false] at hv
  rcases hv with rfl | rfl | rfl | rfl | rfl | rfl | rfl | rfl | rfl | rfl <;> rfl
def SW.asn (w : SW) : Assn := w.y.asn

section
variable (G : Assn) (lp : Option Addr) (lc : Nat) (l : List CW) (ds : List DM) (hl : Coms G lp lc l ds)
include hl
theorem read_ok (hi : ∀ (i : Nat) (x : CW), l[i]? = some x → x.index = i + 1) (hb : ∀ d, d ∈ ds → d.bad = false) : FSpec Try.prog 12 [.slice lp l.length lc] [G]
    (fun u B => ∃ (ws : List SW) (p : Option Addr) (c : Nat), u = .tuple #[.slice p ws.length c, .int .i64 0] ∧ ws.map SW.m = ds.map DM.m ∧ (∀ w, w ∈ ws → w.y.ok w.asn) ∧ B = [own 74 10 (.slice p ws.length c) (ws.flatMap SW.cells), star (ws.map SW.asn), G]) := by
  have hsml := hl.small
  have hdl := hl.dl
  refine FSpec.of Try.func12 rfl Try.ntmps12 rfl fun W0 F => ?_
  refine J.seq <| J.region <| J.p rfl (Q.asg rfl) <| J.p rfl (Q.asg rfl) <| J.nil <| J.then_n <| J.seq <| J.region <| J.p rfl (Q.asg rfl) <| J.nil <| J.then_n <| J.seq <| J.seq <| J.region <| J.m rfl <| J.p rfl (Q.lenSl Try.runUnderlying31 rfl) <| J.m rfl <| J.nil <| J.then_n <| J.block ?_
  refine J.loop (fun i : Nat => i ≤ l.length) (fun i => l.length - i) (fun i => [(0, .slice lp l.length lc), (4, .slice none 0 0), (13, .slice lp l.length lc), (14, .int .i64 l.length), (15, .int .i64 i)]) (fun _ => [G, F]) 0 (Nat.zero_le _) ⟨rfl, rfl, rfl, rfl, rfl, trivial⟩ rfl fun i hil => ?_
  refine J.seq <| J.region <| J.p rfl (Q.lss rfl rfl) <| J.nil <| J.then_n <| J.seq ?_
  refine J.cases 16 rfl (fun hc16 => ?_) (fun hc16 => ?_)
  ·
   replace hc16 := X.nm hc16
   try (first | (cases hc16; done) | (exfalso; simp at hc16; done))
   all_goals
    refine J.cond_t rfl <| J.cskip <| J.then_n <| J.seq <| J.block <| J.seq ?_
    have hlt : i < l.length := by omega
    obtain ⟨b, off, hlp, hrd⟩ := hl.rd.some_ (by omega)
    obtain ⟨x, hx⟩ : ∃ x, l[i]? = some x := ⟨_, List.getElem?_eq_getElem (by omega)⟩
    have hix := hi i x hx
    refine J.slot 13 (.slice (some ⟨b, off, none⟩) l.length lc) rfl (by rw [hlp]) ?_
    refine J.region <| J.m rfl <| J.p rfl (Q.ia Try.runUnderlying31 Try.sizeOf30 rfl rfl (by omega) (by omega)) <| J.p rfl (Q.ldN (vs := [_, _]) Try.isAgg30 Try.sizeOf30 rfl ((rd_elem CW.len hrd hx (by simp)).inI)) ?_
    refine J.c rfl rfl (C.alloc (l := [_, _]) Try.zeroValue30 rfl) ?_
    rintro _ _ ⟨b6, rfl, rfl⟩
    refine J.norm rfl <| J.p rfl (Q.asg rfl) ?_
    refine J.stAI (vs := [_, _]) rfl Try.sizeOf30 rfl rfl (by exact rfl) (by exact rfl) (by exact rfl) ?_
    refine J.nil <| J.then_n <| J.seq <| J.region <| J.p rfl (Q.fa (n := 0) Try.runUnderlying30 rfl rfl Try.sizeOf23 rfl) ?_
    refine J.p rfl (Q.ld Try.isAgg23 rfl (rdI (by exact rfl))) ?_
    refine J.m rfl <| J.p rfl (Q.add64 rfl rfl (by omega)) <| J.p rfl (Q.conv Try.runUnderlying3 Try.runUnderlying23 rfl) ?_
    refine J.slot 24 (.int .u64 ((i + 1 : Nat) : Int)) rfl (by rw [show ((i : Int) + 1) = ((i + 1 : Nat) : Int) by omega, wrap64 (by omega)]) ?_
    refine J.p rfl (Q.neq rfl rfl) <| J.nil <| J.then_n ?_
    refine J.cases 25 rfl (fun hc25 => ?_) (fun hc25 => ?_)
    ·
     (exfalso; have hq := X.nm hc25; rw [hix] at hq; exact hq rfl)
    replace hc25 := X.nm hc25
    try (first | (cases hc25; done) | (exfalso; simp at hc25; done))
    all_goals
     refine J.cond_f rfl <| J.cskip <| J.blk_n <| J.then_n <| J.region <| J.p rfl (Q.add64 rfl rfl (by omega)) <| J.m rfl <| J.nil ?_
     refine J.againI (i + 1) (by show i + 1 ≤ _; omega) (by show l.length - (i + 1) < l.length - i; omega) ⟨rfl, rfl, (by show _ = some (Value.slice lp l.length lc); rw [hlp]; rfl), rfl, rfl, trivial⟩
  replace hc16 := X.nm hc16
  try (first | (cases hc16; done) | (exfalso; simp at hc16; done))
  all_goals
   refine J.cond_f rfl <| J.exit <| J.then_x <| J.lp_x <| J.blk_x <| J.then_n <| J.seq <| J.seq <| J.region <| J.m rfl <| J.p rfl (Q.lenSl Try.runUnderlying31 rfl) <| J.m rfl <| J.nil <| J.then_n <| J.block ?_
   refine J.give (own.nil 74 10 _) ?_
   refine J.give (X := star (([] : List SW).map SW.asn)) trivial ?_
   refine J.keepI [own 74 10 (.slice none 0 0) [], star (([] : List SW).map SW.asn), G, F] ?_
   refine J.loop4 (fun (j : Nat) (ws : List SW) (_ : Option Addr) (_ : Nat) => j ≤ l.length ∧ ws.length = j ∧ ws.map SW.m = (ds.take j).map DM.m ∧ ∀ w, w ∈ ws → w.y.ok w.asn) (fun j _ _ _ => l.length - j)
    (fun j ws p c => [(4, .slice p ws.length c), (27, .slice lp l.length lc), (28, .int .i64 l.length), (29, .int .i64 j)])
    (fun j ws p c => [own 74 10 (.slice p ws.length c) (ws.flatMap SW.cells), star (ws.map SW.asn), G, F]) 0 [] none 0 ⟨Nat.zero_le _, rfl, rfl, by simp⟩ ⟨rfl, rfl, rfl, rfl, trivial⟩ rfl fun j ws p c hz => ?_
   obtain ⟨hj, hwl, hwm, hwo⟩ := hz
   refine J.seq <| J.region <| J.p rfl (Q.lss rfl rfl) <| J.nil <| J.then_n <| J.seq ?_
   refine J.cases 30 rfl (fun hc30 => ?_) (fun hc30 => ?_)
   ·
    replace hc30 := X.nm hc30
    try (first | (cases hc30; done) | (exfalso; simp at hc30; done))
    all_goals
     refine J.cond_t rfl <| J.cskip <| J.then_n <| J.seq <| J.block <| J.seq ?_
     have hlt : j < l.length := by omega
     obtain ⟨b, off, hlp, hrd⟩ := hl.rd.some_ (by omega)
     obtain ⟨x, hx⟩ : ∃ x, l[j]? = some x := ⟨_, List.getElem?_eq_getElem (by omega)⟩
     obtain ⟨d, hd, hdec⟩ := hl.dec j x hx
     have hdb := hb d (List.mem_of_getElem? hd)
     refine J.slot 27 (.slice (some ⟨b, off, none⟩) l.length lc) rfl (by rw [hlp]) ?_
     refine J.region <| J.p rfl (Q.ia Try.runUnderlying31 Try.sizeOf30 rfl rfl (by omega) (by omega)) <| J.p rfl (Q.ldN (vs := [_, _]) Try.isAgg30 Try.sizeOf30 rfl ((rd_elem CW.len hrd hx (by simp)).inI)) ?_
     refine J.c rfl rfl (C.alloc (l := [_, _]) Try.zeroValue30 rfl) ?_
     rintro _ _ ⟨b8, rfl, rfl⟩
     refine J.norm rfl ?_
     refine J.stAI (vs := [_, _]) rfl Try.sizeOf30 rfl rfl (by exact rfl) (by exact rfl) (by exact rfl) ?_
     refine J.nil <| J.then_n <| J.seq <| J.region <| J.p rfl (Q.fa (n := 1) Try.runUnderlying30 rfl rfl Try.sizeOf25 rfl) ?_
     refine J.p rfl (Q.ld Try.isAgg25 rfl (rdI (by exact rfl))) ?_
     refine J.callI Try.call18 (hdec G x.p x.c (hl.ok x (List.mem_of_getElem? hx))) rfl rfl rfl ?_
     rintro _ _ ⟨y, zp, rfl, hyo, hyk, rfl⟩
     refine J.norm rfl ?_
     refine J.slot 36 (.tuple #[.agg y.cells.toArray, .agg zp.cells.toArray, .bool d.point, .int .i64 0]) rfl (by rw [hdb]; rfl) ?_
     refine J.m rfl <| J.p rfl (Q.ext rfl rfl) <| J.p rfl (Q.ext rfl rfl) <| J.p rfl (Q.ext rfl rfl) <| J.p rfl (Q.ext rfl rfl) ?_
     refine J.c rfl rfl (C.alloc (l := [_, _, _, _, _, _, _, _, _]) Try.zeroValue27 rfl) ?_
     rintro _ _ ⟨b9, rfl, rfl⟩
     refine J.norm rfl ?_
     refine J.c rfl rfl (C.alloc (l := [_, _, _, _, _, _, _, _, _]) Try.zeroValue70 rfl) ?_
     rintro _ _ ⟨b10, rfl, rfl⟩
     refine J.norm rfl ?_
     refine J.stAI (vs := [_, _, _, _, _, _, _, _, _]) rfl Try.sizeOf27 rfl rfl (by exact rfl) (by exact rfl) (by exact rfl) ?_
     refine J.stAI (vs := [_, _, _, _, _, _, _, _, _]) rfl Try.sizeOf70 rfl rfl (by exact rfl) (by exact rfl) (by exact rfl) ?_
     refine J.p rfl (Q.asg rfl) <| J.p rfl (Q.asg rfl) <| J.nil <| J.then_n <| J.seq <| J.seq <| J.region <| J.m rfl <| J.p rfl (Q.neq rfl rfl) <| J.nil <| J.then_n ?_
     refine J.cases 42 rfl (fun hc42 => ?_) (fun hc42 => ?_)
     ·
      replace hc42 := X.nm hc42
      try (first | (cases hc42; done) | (exfalso; simp at hc42; done))
      all_goals
       refine J.cond_t rfl <| J.seq <| J.region <| J.p rfl (Q.asg rfl) <| J.p rfl (Q.asg rfl) <| J.nil <| J.then_n <| J.cret <| J.then_r <| J.blk_r <| J.then_r <| J.lp_r <| J.blk_r <| J.then_r ?_
       have htk : ds.take j = ds := List.take_of_length_le (by omega)
       rw [htk] at hwm
       refine J.ret2I [own 74 10 (.slice p ws.length c) (ws.flatMap SW.cells), star (ws.map SW.asn), G] rfl rfl rfl ⟨ws, p, c, rfl, hwm, hwo, rfl⟩
     replace hc42 := X.nm hc42
     try (first | (cases hc42; done) | (exfalso; simp at hc42; done))
     all_goals
      refine J.cond_f rfl <| J.cskip <| J.then_n <| J.region <| J.m rfl ?_
      refine J.p rfl (Q.ldN (vs := [_, _, _, _, _, _, _, _, _]) Try.isAgg27 Try.sizeOf27 rfl rnI) ?_
      refine J.m rfl <| J.p rfl (Q.bld (l := SW.cells ⟨y, d.point⟩) Try.runUnderlying74 Try.zeroValue74 Try.places74 rfl (by kernel_rfl)) ?_
      refine J.c rfl rfl (C.bslG (l := [_, _, _, _, _, _, _, _, _, _]) Try.runUnderlying51 Try.sizeOf74 Try.zeroValue74 (by decide) rfl rfl rfl rfl rfl) ?_
      rintro _ _ ⟨b47, rfl, rfl⟩
      refine J.norm rfl ?_
      refine J.c rfl rfl (C.appI Try.runUnderlying51 Try.runUnderlying51 Try.typeInfo74 Try.sizeOf74 Try.zeroValue74 rfl rfl (SlR.ptI rfl) (SW.one ⟨y, d.point⟩) (by simp [Try.t74] <;> omega) (by decide)) ?_
      rintro _ _ ⟨p48, c48, rfl, rfl⟩
      refine J.norm rfl <| J.p rfl (Q.asg rfl) <| J.nil <| J.blk_n <| J.then_n <| J.region <| J.p rfl (Q.add64 rfl rfl (by omega)) <| J.m rfl <| J.nil ?_
      refine J.convI y.asn (SW.asn ⟨y, d.point⟩) (fun _ h => h) ?_
      refine J.shutI [SW.asn ⟨y, d.point⟩, star (ws.map SW.asn)] (star ((ws ++ [(⟨y, d.point⟩ : SW)]).map SW.asn)) (star_snoc _) ?_
      have e1 : ws.length + 1 = (ws ++ [(⟨y, d.point⟩ : SW)]).length := by simp
      have e2 : ws.flatMap SW.cells ++ SW.cells ⟨y, d.point⟩ = (ws ++ [(⟨y, d.point⟩ : SW)]).flatMap SW.cells := by simp
      have e3 : ds.take (j + 1) = ds.take j ++ [d] := by
       obtain ⟨q1, q2⟩ := List.getElem?_eq_some_iff.1 hd
       rw [List.take_succ_eq_append_getElem q1, q2]
      rw [e1, e2]
      refine J.againI (j + 1, ws ++ [(⟨y, d.point⟩ : SW)], p48, c48) ⟨by show j + 1 ≤ _; omega, by show (ws ++ [(⟨y, d.point⟩ : SW)]).length = j + 1; rw [← e1, hwl], ?_, ?_⟩ (by show l.length - (j + 1) < l.length - j; omega) ⟨rfl, (by show _ = some (Value.slice lp l.length lc); rw [hlp]; rfl), rfl, rfl, trivial⟩
      · show (ws ++ [(⟨y, d.point⟩ : SW)]).map SW.m = (ds.take (j + 1)).map DM.m
        rw [e3, List.map_append, List.map_append, hwm, List.map_singleton, List.map_singleton]
        show _ ++ [SM.mk y.o d.point] = _ ++ [SM.mk d.o d.point]
        rw [hyo]
      · intro w hw
        rcases List.mem_append.1 hw with h | h
        · exact hwo w h
        · rw [List.mem_singleton.1 h]; exact hyk
   replace hc30 := X.nm hc30
   try (first | (cases hc30; done) | (exfalso; simp at hc30; done))
   all_goals
    refine J.cond_f rfl <| J.exit <| J.then_x <| J.lp_x <| J.blk_x <| J.then_n <| J.seq <| J.region <| J.m rfl <| J.p rfl (Q.asg rfl) <| J.p rfl (Q.asg rfl) <| J.nil <| J.then_n <| J.cret ?_
    have htk : ds.take j = ds := List.take_of_length_le (by omega)
    rw [htk] at hwm
    refine J.ret2I [own 74 10 (.slice p ws.length c) (ws.flatMap SW.cells), star (ws.map SW.asn), G] rfl rfl rfl ⟨ws, p, c, rfl, hwm, hwo, rfl⟩
end
end Go.Proofs.Ytidbcaimgahllaa

