/-
  The document's disk in memory: its table of files; names, places.
-/
import Derived.Test.YtkekcdcmmggbaaaDiskI
import Derived.Test.YtkekcdcmmggbaaaXm
namespace Go.Proofs.Ytkekcdcmmggbaaa
open Go.X

structure RFile where
  f : FM
  sp : Option Addr
  sc : Nat

def RFile.cells (x : RFile) : List Value := [.string x.f.name, .slice x.sp x.f.bs.length x.sc, .int .i64 x.f.sy]
theorem RFile.cells_length (x : RFile) : x.cells.length = 3 := rfl
def RFile.asn (x : RFile) : Assn := own 5 1 (.slice x.sp x.f.bs.length x.sc) (bytesV x.f.bs)
abbrev fms (fs : List RFile) : List FM := fs.map (·.f)

def RTab (q size born : Nat) (fs : List RFile) : Assn := fun h => ∃ z : Option Addr × Nat, HSat h [pt q (.cells [.int .i64 size, .slice z.1 fs.length z.2, .int .i64 born].toArray 56 (0, 0)), own 82 3 (.slice z.1 fs.length z.2) (fs.flatMap RFile.cells)]

def place (n : ByteArray) : List FM → Nat
  | [] => 0
  | f :: l => if Op.bytesLess f.name.data.toList n.data.toList = true then place n l + 1 else 0
def isAt (n : ByteArray) (l : List FM) : Bool := match l[place n l]? with | some f => decide (f.name.data.toList = n.data.toList) | none => false

theorem place_le (n : ByteArray) : ∀ l : List FM, place n l ≤ l.length
  | [] => Nat.le_refl _
  | f :: l => by simp only [place]; split <;> simp [place_le n l]
theorem place_step {n : ByteArray} : ∀ {l : List FM} {k : Nat}, k ≤ place n l → ∀ {f : FM}, l[k]? = some f → (k < place n l ↔ Op.bytesLess f.name.data.toList n.data.toList = true)
  | [], k, _, f, h => by simp at h
  | g :: l, 0, _, f, h => by
    simp at h; subst h
    simp only [place]
    split
    · rename_i hl; simp [hl]
    · rename_i hl; simp [hl]
  | g :: l, k + 1, hk, f, h => by
    simp only [place] at hk ⊢
    split at hk
    · rename_i hl
      rw [if_pos hl]
      have := place_step (n := n) (l := l) (k := k) (by omega) (f := f) (by simpa using h)
      rw [← this]; omega
    · omega

theorem find_spec (q size born : Nat) (fs : List RFile) (hn : fs.length ≤ 9223372036854775807) (n : ByteArray) : FSpec Try.prog 49 [.pointer (some ⟨q, 0, none⟩), .string n] [RTab q size born fs]
    (fun v B => v = .tuple #[.int .i64 (place n (fms fs)), .bool (isAt n (fms fs))] ∧ B = [RTab q size born fs]) := by
  refine FSpec.of Try.func49 rfl Try.ntmps49 rfl fun W0 F => ?_
  refine J.seq ?_
  refine J.open1 0 rfl (fun _ h => h) fun z => ?_
  refine J.norm rfl ?_
  obtain ⟨p, c⟩ := z
  refine J.slr1 1 rfl fun hsl => ?_
  have hpl := place_le n (fms fs)
  simp only [List.length_map] at hpl
  refine J.region ?_
  refine J.q rfl rfl (Q.asg rfl) ?_
  refine J.q rfl rfl (Q.asg rfl) ?_
  refine J.nil ?_
  refine J.then_n ?_
  refine J.seq ?_
  refine J.region ?_
  refine J.q rfl rfl (Q.asg rfl) ?_
  refine J.nil ?_
  refine J.then_n ?_
  refine J.cut (fun _ : Unit => True) (fun _ => [(0, .pointer (some ⟨q, 0, none⟩)), (1, .string n), (6, .int .i64 (place n (fms fs)))]) (fun _ => [pt q (.cells [.int .i64 size, .slice p fs.length c, .int .i64 born].toArray 56 (0, 0)), own 82 3 (.slice p fs.length c) (fs.flatMap RFile.cells), F]) ?_ fun _ _ => ?_
  ·
    refine J.block ?_
    refine J.loop (fun k : Nat => k ≤ place n (fms fs)) (fun k => fs.length - k) (fun k => [(0, .pointer (some ⟨q, 0, none⟩)), (1, .string n), (6, .int .i64 k)]) (fun _ => [pt q (.cells [.int .i64 size, .slice p fs.length c, .int .i64 born].toArray 56 (0, 0)), own 82 3 (.slice p fs.length c) (fs.flatMap RFile.cells), F]) 0
      (Nat.zero_le _) ⟨rfl, rfl, rfl, trivial⟩ rfl fun k hk => ?_
    refine J.seq ?_
    refine J.seq ?_
    refine J.region ?_
    refine J.q rfl rfl (Q.mv rfl) ?_
    refine J.q rfl rfl (Q.mv rfl) ?_
    refine J.q rfl rfl (Q.nil_ rfl) ?_
    refine J.q rfl rfl (Q.fa (n := 1) Try.runUnderlying56 rfl rfl Try.sizeOf54 rfl) ?_
    refine J.q rfl rfl (Q.ld Try.isAgg54 rfl (by first | exact Reads.pt 0 rfl rfl | exact Reads.pt 1 rfl rfl | exact Reads.pt 2 rfl rfl | exact Reads.pt 3 rfl rfl | exact Reads.pt 4 rfl rfl | exact Reads.pt 5 rfl rfl | exact Reads.pt 6 rfl rfl | exact Reads.pt 7 rfl rfl)) ?_
    refine J.q rfl rfl (Q.lenSl Try.runUnderlying54 rfl) ?_
    refine J.q rfl rfl (Q.lss rfl rfl) ?_
    refine J.q rfl rfl (Q.mv rfl) ?_
    refine J.cases 14 rfl (fun hb14 => ?_) (fun hb14 => ?_)
    ·
      first | replace hb14 := X.tt_dec hb14 | replace hb14 := X.tt_not hb14 | replace hb14 := X.ff_dec hb14 | replace hb14 := X.ff_not hb14 | skip
      refine J.q rfl rfl (Q.mv rfl) ?_
      refine J.q rfl rfl (Q.nil_ rfl) ?_
      refine J.q rfl rfl (Q.fa (n := 1) Try.runUnderlying56 rfl rfl Try.sizeOf54 rfl) ?_
      refine J.q rfl rfl (Q.ld Try.isAgg54 rfl (by first | exact Reads.pt 0 rfl rfl | exact Reads.pt 1 rfl rfl | exact Reads.pt 2 rfl rfl | exact Reads.pt 3 rfl rfl | exact Reads.pt 4 rfl rfl | exact Reads.pt 5 rfl rfl | exact Reads.pt 6 rfl rfl | exact Reads.pt 7 rfl rfl)) ?_
      obtain ⟨b, off, rfl, hrd⟩ := hsl.some_ (by omega)
      obtain ⟨x, hx⟩ : ∃ x, fs[k]? = some x := ⟨_, List.getElem?_eq_getElem (by omega)⟩
      have hst := place_step hk (f := x.f) (by simp [fms, hx])
      refine J.q rfl rfl (Q.mv rfl) ?_
      refine J.q rfl rfl (Q.ia Try.runUnderlying54 Try.sizeOf82 rfl rfl (by omega) (by omega)) ?_
      refine J.q rfl rfl (Q.fa (n := 0) Try.runUnderlying82 rfl rfl Try.sizeOf9 rfl) ?_
      refine J.q rfl rfl (Q.ld Try.isAgg9 rfl ((rd_field RFile.cells_length hrd hx (k := 0) rfl (by simp)).within (i := 1) rfl)) ?_
      refine J.q rfl rfl (Q.mv rfl) ?_
      refine J.q rfl rfl (Q.lsss rfl rfl) ?_
      refine J.q rfl rfl (Q.pick_t rfl rfl) ?_
      refine J.nil ?_
      refine J.then_n ?_
      refine J.cond rfl (fun hc25 => ?_) (fun hc25 => ?_)
      ·
        first | replace hc25 := X.tt_dec hc25 | replace hc25 := X.tt_not hc25 | replace hc25 := X.ff_dec hc25 | replace hc25 := X.ff_not hc25 | skip
        refine J.cskip ?_
        refine J.then_n ?_
        refine J.block ?_
        refine J.region ?_
        refine J.q rfl rfl (Q.mv rfl) ?_
        refine J.q rfl rfl (Q.add64 rfl rfl (by omega)) ?_
        refine J.q rfl rfl (Q.asg rfl) ?_
        refine J.nil ?_
        refine J.blk_n ?_
        refine J.again (k + 1) (by rw [← hst] at hc25; show k + 1 ≤ _; omega) (by show fs.length - (k + 1) < fs.length - k; omega) ⟨rfl, rfl, rfl, trivial⟩ rfl
      ·
        first | replace hc25 := X.tt_dec hc25 | replace hc25 := X.tt_not hc25 | replace hc25 := X.ff_dec hc25 | replace hc25 := X.ff_not hc25 | skip
        refine J.exit ?_
        refine J.then_x ?_
        refine J.lp_x ?_
        refine J.blk_x ?_
        have hge : ¬ k < place n (fms fs) := by rw [hst, hc25]; exact Bool.false_ne_true
        refine J.meet () trivial ⟨rfl, rfl, congrArg some (congrArg (Value.int .i64) (by omega)), trivial⟩ rfl
    ·
      first | replace hb14 := X.tt_dec hb14 | replace hb14 := X.tt_not hb14 | replace hb14 := X.ff_dec hb14 | replace hb14 := X.ff_not hb14 | skip
      refine J.skip rfl rfl ?_
      refine J.skip rfl rfl ?_
      refine J.skip rfl rfl ?_
      refine J.skip rfl rfl ?_
      refine J.skip rfl rfl ?_
      refine J.skip rfl rfl ?_
      refine J.skip rfl rfl ?_
      refine J.skip rfl rfl ?_
      refine J.skip rfl rfl ?_
      refine J.skip rfl rfl ?_
      refine J.q rfl rfl (Q.pick_f rfl rfl) ?_
      refine J.nil ?_
      refine J.then_n ?_
      refine J.cond_f rfl ?_
      refine J.exit ?_
      refine J.then_x ?_
      refine J.lp_x ?_
      refine J.blk_x ?_
      refine J.meet () trivial ⟨rfl, rfl, congrArg some (congrArg (Value.int .i64) (by omega)), trivial⟩ rfl
  ·
    refine J.seq ?_
    refine J.draw [20, 21] Try.mixed (by kernel_rfl) fun hR => ?_
    refine RG.q 0 hR rfl rfl rfl rfl rfl rfl (Q.mv rfl) ?_
    refine RG.q 1 hR rfl rfl rfl rfl rfl rfl (Q.mv rfl) ?_
    refine RG.q 2 hR rfl rfl rfl rfl rfl rfl (Q.mv rfl) ?_
    refine RG.q 3 hR rfl rfl rfl rfl rfl rfl (Q.nil_ rfl) ?_
    refine RG.q 4 hR rfl rfl rfl rfl rfl rfl (Q.fa (n := 1) Try.runUnderlying56 rfl rfl Try.sizeOf54 rfl) ?_
    refine RG.q 5 hR rfl rfl rfl rfl rfl rfl (Q.ld Try.isAgg54 rfl (by first | exact Reads.pt 0 rfl rfl | exact Reads.pt 1 rfl rfl | exact Reads.pt 2 rfl rfl | exact Reads.pt 3 rfl rfl | exact Reads.pt 4 rfl rfl | exact Reads.pt 5 rfl rfl | exact Reads.pt 6 rfl rfl | exact Reads.pt 7 rfl rfl)) ?_
    refine RG.q 6 hR rfl rfl rfl rfl rfl rfl (Q.lenSl Try.runUnderlying54 rfl) ?_
    refine RG.q 7 hR rfl rfl rfl rfl rfl rfl (Q.lss rfl rfl) ?_
    refine RG.q 8 hR rfl rfl rfl rfl rfl rfl (Q.mv rfl) ?_
    refine RG.cases 36 rfl (fun hb36 => ?_) (fun hb36 => ?_)
    ·
      first | replace hb36 := X.tt_dec hb36 | replace hb36 := X.tt_not hb36 | replace hb36 := X.ff_dec hb36 | replace hb36 := X.ff_not hb36 | skip
      refine RG.q 9 hR rfl rfl rfl rfl rfl rfl (Q.mv rfl) ?_
      refine RG.q 10 hR rfl rfl rfl rfl rfl rfl (Q.nil_ rfl) ?_
      refine RG.q 11 hR rfl rfl rfl rfl rfl rfl (Q.fa (n := 1) Try.runUnderlying56 rfl rfl Try.sizeOf54 rfl) ?_
      refine RG.q 12 hR rfl rfl rfl rfl rfl rfl (Q.ld Try.isAgg54 rfl (by first | exact Reads.pt 0 rfl rfl | exact Reads.pt 1 rfl rfl | exact Reads.pt 2 rfl rfl | exact Reads.pt 3 rfl rfl | exact Reads.pt 4 rfl rfl | exact Reads.pt 5 rfl rfl | exact Reads.pt 6 rfl rfl | exact Reads.pt 7 rfl rfl)) ?_
      obtain ⟨b, off, rfl, hrd⟩ := hsl.some_ (by omega)
      obtain ⟨x, hx⟩ : ∃ x, fs[place n (fms fs)]? = some x := ⟨_, List.getElem?_eq_getElem (by omega)⟩
      have hat : isAt n (fms fs) = decide (x.f.name.data.toList = n.data.toList) := by unfold isAt; rw [show (fms fs)[place n (fms fs)]? = some x.f from by rw [List.getElem?_map, hx]; rfl]
      refine RG.q 13 hR rfl rfl rfl rfl rfl rfl (Q.mv rfl) ?_
      refine RG.q 14 hR rfl rfl rfl rfl rfl rfl (Q.ia Try.runUnderlying54 Try.sizeOf82 rfl rfl (by omega) (by omega)) ?_
      refine RG.q 15 hR rfl rfl rfl rfl rfl rfl (Q.fa (n := 0) Try.runUnderlying82 rfl rfl Try.sizeOf9 rfl) ?_
      refine RG.q 16 hR rfl rfl rfl rfl rfl rfl (Q.ld Try.isAgg9 rfl ((rd_field RFile.cells_length hrd hx (k := 0) rfl (by simp)).within (i := 1) rfl)) ?_
      refine RG.q 17 hR rfl rfl rfl rfl rfl rfl (Q.mv rfl) ?_
      refine RG.q 18 hR rfl rfl rfl rfl rfl rfl (Q.eqls rfl rfl) ?_
      refine RG.q 19 hR rfl rfl rfl rfl rfl rfl (Q.pick_t rfl rfl) ?_
      refine RG.keep 20 hR rfl rfl rfl rfl rfl (Q.asg rfl) ?_
      refine RG.bar 21 hR rfl rfl rfl rfl rfl rfl (Q.asg rfl).toC ?_
      rintro _ _ ⟨rfl, rfl⟩
      refine RG.norm rfl ?_
      refine RG.fin hR rfl ?_
      refine J.norm rfl ?_
      refine J.then_n ?_
      refine J.cret ?_
      refine J.shut [0, 1] (RTab q size born fs) rfl (fun h s => ⟨(some ⟨b, off, none⟩, c), s⟩) ?_
      refine J.ret2 (B := [RTab q size born fs]) rfl rfl rfl ⟨by rw [hat], rfl⟩ rfl
    ·
      first | replace hb36 := X.tt_dec hb36 | replace hb36 := X.tt_not hb36 | replace hb36 := X.ff_dec hb36 | replace hb36 := X.ff_not hb36 | skip
      refine RG.skip 9 hR rfl rfl rfl rfl rfl rfl ?_
      refine RG.skip 10 hR rfl rfl rfl rfl rfl rfl ?_
      refine RG.skip 11 hR rfl rfl rfl rfl rfl rfl ?_
      refine RG.skip 12 hR rfl rfl rfl rfl rfl rfl ?_
      refine RG.skip 13 hR rfl rfl rfl rfl rfl rfl ?_
      refine RG.skip 14 hR rfl rfl rfl rfl rfl rfl ?_
      refine RG.skip 15 hR rfl rfl rfl rfl rfl rfl ?_
      refine RG.skip 16 hR rfl rfl rfl rfl rfl rfl ?_
      refine RG.skip 17 hR rfl rfl rfl rfl rfl rfl ?_
      refine RG.skip 18 hR rfl rfl rfl rfl rfl rfl ?_
      refine RG.q 19 hR rfl rfl rfl rfl rfl rfl (Q.pick_f rfl rfl) ?_
      refine RG.keep 20 hR rfl rfl rfl rfl rfl (Q.asg rfl) ?_
      refine RG.bar 21 hR rfl rfl rfl rfl rfl rfl (Q.asg rfl).toC ?_
      rintro _ _ ⟨rfl, rfl⟩
      refine RG.norm rfl ?_
      refine RG.fin hR rfl ?_
      refine J.norm rfl ?_
      refine J.then_n ?_
      refine J.cret ?_
      have hat : isAt n (fms fs) = false := by unfold isAt; rw [show (fms fs)[place n (fms fs)]? = none from List.getElem?_eq_none (by rw [List.length_map]; omega)]
      refine J.shut [0, 1] (RTab q size born fs) rfl (fun h s => ⟨(p, c), s⟩) ?_
      refine J.ret2 (B := [RTab q size born fs]) rfl rfl rfl ⟨by rw [hat], rfl⟩ rfl

end Go.Proofs.Ytkekcdcmmggbaaa
