/-
  Few acts; a play; two disks alike.
-/
import Derived.Test.YtkekcdcmmggbaaaLawA
namespace Go.Proofs.Ytkekcdcmmggbaaa
open Go.X

def namesSum (l : List ByteArray) : Nat := (l.map (·.size)).sum
def actSum (a : AM) : Nat := a.bytes.length + a.names.length + a.picks.length + a.name.size + a.to_.size + namesSum a.names
def tot (l : List AW) : Nat := (l.map fun x => actSum x.a).sum
def fewV (l : List AW) : Bool := decide (l.length ≤ 500) && decide (tot l ≤ 65536)

theorem sum_take {α : Type} {f : α → Nat} {l : List α} {k : Nat} {x : α} (h : l[k]? = some x) : ((l.take (k + 1)).map f).sum = ((l.take k).map f).sum + f x := by
  obtain ⟨h1, h2⟩ := List.getElem?_eq_some_iff.1 h
  rw [List.take_succ_eq_append_getElem h1, List.map_append, List.sum_append, h2]; simp
theorem sum_le {α : Type} {f : α → Nat} {m : Nat} : ∀ {l : List α}, (∀ x, x ∈ l → f x ≤ m) → (l.map f).sum ≤ l.length * m
  | [], _ => by simp
  | x :: l, h => by
    have h1 := sum_le (f := f) (m := m) (l := l) (fun y hy => h y (List.mem_cons_of_mem _ hy))
    have h2 := h x (by simp)
    simp only [List.map_cons, List.sum_cons, List.length_cons, Nat.add_mul]; omega

/-- The acts that are handed in. -/
structure Acts (G : Assn) (lp : Option Addr) (ln lc : Nat) (l : List AW) : Prop where
  rd : SlR [G] 6 (.slice lp ln lc) (l.flatMap AW.cells)
  ok : ∀ x, x ∈ l → x.ok G
  small : ln ≤ 1048576

theorem Acts.len {G : Assn} {lp : Option Addr} {ln lc : Nat} {l : List AW} (h : Acts G lp ln lc l) : l.length = ln := by
  have := h.rd.len
  rw [flat_length AW.cells_length] at this; omega

theorem few_spec (G : Assn) (lp : Option Addr) (ln lc : Nat) (l : List AW) (hl : Acts G lp ln lc l) : FSpec Try.prog 17 [.slice lp ln lc] [G] (fun v B => v = .bool (fewV l) ∧ B = [G]) := by
  refine FSpec.of Try.func17 rfl Try.ntmps17 rfl fun W0 F => ?_
  refine J.seq ?_
  refine J.region ?_
  refine J.q rfl rfl (Q.asg rfl) ?_
  refine J.nil ?_
  refine J.then_n ?_
  refine J.seq ?_
  refine J.region ?_
  refine J.q rfl rfl (Q.asg rfl) ?_
  refine J.nil ?_
  refine J.then_n ?_
  refine J.seq ?_
  refine J.seq ?_
  refine J.region ?_
  refine J.q rfl rfl (Q.asg rfl) ?_
  refine J.nil ?_
  refine J.then_n ?_
  refine J.block ?_
  have hlen := hl.len
  have hsm := hl.small
  have hbig : ∀ k, tot (l.take k) ≤ k * 1099516870656 := by
    intro k
    refine Nat.le_trans (sum_le (m := 1099516870656) ?_) (Nat.mul_le_mul_right _ (List.length_take_le _ _))
    intro x hx
    have hx' := hl.ok x (List.mem_of_mem_take hx)
    have h1 := hx'.small
    have h2 := sum_le (f := fun s : ByteArray => s.size) (m := 1048576) hx'.nsmall
    unfold actSum namesSum
    omega
  refine J.loop (fun k : Nat => k ≤ ln) (fun k => ln - k) (fun k => [(0, .slice lp ln lc), (3, .int .i64 (tot (l.take k))), (4, .int .i64 k)]) (fun _ => [G, F]) 0 (Nat.zero_le _) ⟨rfl, rfl, rfl, trivial⟩ rfl fun k hk => ?_
  have hbk := hbig k
  refine J.seq ?_
  refine J.seq ?_
  refine J.region ?_
  refine J.q rfl rfl (Q.mv rfl) ?_
  refine J.q rfl rfl (Q.mv rfl) ?_
  refine J.q rfl rfl (Q.lenSl Try.runUnderlying39 rfl) ?_
  refine J.q rfl rfl (Q.lss rfl rfl) ?_
  refine J.nil ?_
  refine J.then_n ?_
  refine J.cond rfl (fun hc9 => ?_) (fun hc9 => ?_)
  ·
    first | replace hc9 := X.tt_dec hc9 | replace hc9 := X.tt_not hc9 | replace hc9 := X.ff_dec hc9 | replace hc9 := X.ff_not hc9 | skip
    refine J.cskip ?_
    refine J.then_n ?_
    refine J.seq ?_
    refine J.block ?_
    refine J.seq ?_
    obtain ⟨b, off, rfl, hrd⟩ := hl.rd.some_ (by omega)
    obtain ⟨x, hx⟩ : ∃ x, l[k]? = some x := ⟨_, List.getElem?_eq_getElem (by omega)⟩
    have hxo := hl.ok x (List.mem_of_getElem? hx)
    have hxs := hxo.small
    refine J.draw [36] Try.mixed (by kernel_rfl) fun hR => ?_
    refine RG.q 0 hR rfl rfl rfl rfl rfl rfl (Q.mv rfl) ?_
    refine RG.q 1 hR rfl rfl rfl rfl rfl rfl (Q.mv rfl) ?_
    refine RG.q 2 hR rfl rfl rfl rfl rfl rfl (Q.mv rfl) ?_
    refine RG.q 3 hR rfl rfl rfl rfl rfl rfl (Q.ia Try.runUnderlying39 Try.sizeOf46 rfl rfl (by omega) (by omega)) ?_
    refine RG.q 4 hR rfl rfl rfl rfl rfl rfl (Q.fa (n := 4) Try.runUnderlying46 rfl rfl Try.sizeOf30 rfl) ?_
    refine RG.q 5 hR rfl rfl rfl rfl rfl rfl (Q.ld Try.isAgg30 rfl ((rd_field AW.cells_length hrd hx (k := 4) rfl (by simp; omega)).within (i := 0) rfl)) ?_
    refine RG.q 6 hR rfl rfl rfl rfl rfl rfl (Q.lenSl Try.runUnderlying30 rfl) ?_
    refine RG.q 7 hR rfl rfl rfl rfl rfl rfl (Q.add64 rfl rfl (by omega)) ?_
    refine RG.q 8 hR rfl rfl rfl rfl rfl rfl (Q.mv rfl) ?_
    refine RG.q 9 hR rfl rfl rfl rfl rfl rfl (Q.mv rfl) ?_
    refine RG.q 10 hR rfl rfl rfl rfl rfl rfl (Q.ia Try.runUnderlying39 Try.sizeOf46 rfl rfl (by omega) (by omega)) ?_
    refine RG.q 11 hR rfl rfl rfl rfl rfl rfl (Q.fa (n := 3) Try.runUnderlying46 rfl rfl Try.sizeOf28 rfl) ?_
    refine RG.q 12 hR rfl rfl rfl rfl rfl rfl (Q.ld Try.isAgg28 rfl ((rd_field AW.cells_length hrd hx (k := 3) rfl (by simp; omega)).within (i := 0) rfl)) ?_
    refine RG.q 13 hR rfl rfl rfl rfl rfl rfl (Q.lenSl Try.runUnderlying28 rfl) ?_
    refine RG.q 14 hR rfl rfl rfl rfl rfl rfl (Q.add64 rfl rfl (by omega)) ?_
    refine RG.q 15 hR rfl rfl rfl rfl rfl rfl (Q.mv rfl) ?_
    refine RG.q 16 hR rfl rfl rfl rfl rfl rfl (Q.mv rfl) ?_
    refine RG.q 17 hR rfl rfl rfl rfl rfl rfl (Q.ia Try.runUnderlying39 Try.sizeOf46 rfl rfl (by omega) (by omega)) ?_
    refine RG.q 18 hR rfl rfl rfl rfl rfl rfl (Q.fa (n := 5) Try.runUnderlying46 rfl rfl Try.sizeOf22 rfl) ?_
    refine RG.q 19 hR rfl rfl rfl rfl rfl rfl (Q.ld Try.isAgg22 rfl ((rd_field AW.cells_length hrd hx (k := 5) rfl (by simp; omega)).within (i := 0) rfl)) ?_
    refine RG.q 20 hR rfl rfl rfl rfl rfl rfl (Q.lenSl Try.runUnderlying22 rfl) ?_
    refine RG.q 21 hR rfl rfl rfl rfl rfl rfl (Q.add64 rfl rfl (by omega)) ?_
    refine RG.q 22 hR rfl rfl rfl rfl rfl rfl (Q.mv rfl) ?_
    refine RG.q 23 hR rfl rfl rfl rfl rfl rfl (Q.mv rfl) ?_
    refine RG.q 24 hR rfl rfl rfl rfl rfl rfl (Q.ia Try.runUnderlying39 Try.sizeOf46 rfl rfl (by omega) (by omega)) ?_
    refine RG.q 25 hR rfl rfl rfl rfl rfl rfl (Q.fa (n := 1) Try.runUnderlying46 rfl rfl Try.sizeOf9 rfl) ?_
    refine RG.q 26 hR rfl rfl rfl rfl rfl rfl (Q.ld Try.isAgg9 rfl ((rd_field AW.cells_length hrd hx (k := 1) rfl (by simp; omega)).within (i := 0) rfl)) ?_
    refine RG.q 27 hR rfl rfl rfl rfl rfl rfl (Q.lenS Try.runUnderlying9 rfl) ?_
    refine RG.q 28 hR rfl rfl rfl rfl rfl rfl (Q.add64 rfl rfl (by omega)) ?_
    refine RG.q 29 hR rfl rfl rfl rfl rfl rfl (Q.mv rfl) ?_
    refine RG.q 30 hR rfl rfl rfl rfl rfl rfl (Q.mv rfl) ?_
    refine RG.q 31 hR rfl rfl rfl rfl rfl rfl (Q.ia Try.runUnderlying39 Try.sizeOf46 rfl rfl (by omega) (by omega)) ?_
    refine RG.q 32 hR rfl rfl rfl rfl rfl rfl (Q.fa (n := 2) Try.runUnderlying46 rfl rfl Try.sizeOf9 rfl) ?_
    refine RG.q 33 hR rfl rfl rfl rfl rfl rfl (Q.ld Try.isAgg9 rfl ((rd_field AW.cells_length hrd hx (k := 2) rfl (by simp; omega)).within (i := 0) rfl)) ?_
    refine RG.q 34 hR rfl rfl rfl rfl rfl rfl (Q.lenS Try.runUnderlying9 rfl) ?_
    refine RG.q 35 hR rfl rfl rfl rfl rfl rfl (Q.add64 rfl rfl (by omega)) ?_
    refine RG.bar 36 hR rfl rfl rfl rfl rfl rfl (Q.asg rfl).toC ?_
    rintro _ _ ⟨rfl, rfl⟩
    refine RG.norm rfl ?_
    refine RG.fin hR rfl ?_
    refine J.norm rfl ?_
    refine J.then_n ?_
    refine J.seq ?_
    refine J.region ?_
    refine J.q rfl rfl (Q.asg rfl) ?_
    refine J.nil ?_
    refine J.then_n ?_
    refine J.block ?_
    have hnb : ∀ j, namesSum (x.a.names.take j) ≤ j * 1048576 := fun j => Nat.le_trans (sum_le (m := 1048576) fun s hs => hxo.nsmall s (List.mem_of_mem_take hs)) (Nat.mul_le_mul_right _ (List.length_take_le _ _))
    refine J.loop (fun j : Nat => j ≤ x.a.names.length) (fun j => x.a.names.length - j) (fun j => [(0, .slice (some ⟨b, off, none⟩) ln lc), (3, .int .i64 (tot (l.take k) + x.a.bytes.length + x.a.names.length + x.a.picks.length + x.a.name.size + x.a.to_.size + namesSum (x.a.names.take j))), (4, .int .i64 k), (5, .int .i64 j)]) (fun _ => [G, F]) 0 (Nat.zero_le _)
      ⟨rfl, congrArg some (congrArg (Value.int .i64) (by simp [namesSum])), rfl, rfl, trivial⟩ rfl fun j hj => ?_
    have hnj := hnb j
    refine J.seq ?_
    refine J.seq ?_
    refine J.region ?_
    refine J.q rfl rfl (Q.mv rfl) ?_
    refine J.q rfl rfl (Q.mv rfl) ?_
    refine J.q rfl rfl (Q.mv rfl) ?_
    refine J.q rfl rfl (Q.ia Try.runUnderlying39 Try.sizeOf46 rfl rfl (by omega) (by omega)) ?_
    refine J.q rfl rfl (Q.fa (n := 3) Try.runUnderlying46 rfl rfl Try.sizeOf28 rfl) ?_
    refine J.q rfl rfl (Q.ld Try.isAgg28 rfl ((rd_field AW.cells_length hrd hx (k := 3) rfl (by simp; omega)).within (i := 0) rfl)) ?_
    refine J.q rfl rfl (Q.lenSl Try.runUnderlying28 rfl) ?_
    refine J.q rfl rfl (Q.lss rfl rfl) ?_
    refine J.nil ?_
    refine J.then_n ?_
    refine J.cond rfl (fun hc55 => ?_) (fun hc55 => ?_)
    ·
      first | replace hc55 := X.tt_dec hc55 | replace hc55 := X.tt_not hc55 | replace hc55 := X.ff_dec hc55 | replace hc55 := X.ff_not hc55 | skip
      refine J.cskip ?_
      refine J.then_n ?_
      refine J.seq ?_
      refine J.block ?_
      refine J.region ?_
      refine J.q rfl rfl (Q.mv rfl) ?_
      refine J.q rfl rfl (Q.mv rfl) ?_
      refine J.q rfl rfl (Q.mv rfl) ?_
      refine J.q rfl rfl (Q.ia Try.runUnderlying39 Try.sizeOf46 rfl rfl (by omega) (by omega)) ?_
      refine J.q rfl rfl (Q.fa (n := 3) Try.runUnderlying46 rfl rfl Try.sizeOf28 rfl) ?_
      refine J.q rfl rfl (Q.ld Try.isAgg28 rfl ((rd_field AW.cells_length hrd hx (k := 3) rfl (by simp; omega)).within (i := 0) rfl)) ?_
      obtain ⟨b2, off2, hb2, hrd2⟩ := hxo.names.some_ (by omega)
      refine J.slot 63 (.slice (some ⟨b2, off2, none⟩) x.a.names.length x.nc) rfl (by rw [← hb2]) ?_
      obtain ⟨s, hs⟩ : ∃ s, x.a.names[j]? = some s := ⟨_, List.getElem?_eq_getElem (by omega)⟩
      have hss := hxo.nsmall s (List.mem_of_getElem? hs)
      refine J.q rfl rfl (Q.mv rfl) ?_
      refine J.q rfl rfl (Q.ia Try.runUnderlying28 Try.sizeOf9 rfl rfl (by omega) (by omega)) ?_
      refine J.q rfl rfl (Q.ld Try.isAgg9 rfl (((hrd2 j (.string s) (by simp [hs])).within (i := 0) rfl).cast (by simp))) ?_
      refine J.q rfl rfl (Q.lenS Try.runUnderlying9 rfl) ?_
      refine J.q rfl rfl (Q.add64 rfl rfl (by omega)) ?_
      refine J.q rfl rfl (Q.asg rfl) ?_
      refine J.nil ?_
      refine J.blk_n ?_
      refine J.then_n ?_
      refine J.region ?_
      refine J.q rfl rfl (Q.mv rfl) ?_
      refine J.q rfl rfl (Q.add64 rfl rfl (by omega)) ?_
      refine J.q rfl rfl (Q.asg rfl) ?_
      refine J.nil ?_
      have hst := sum_take (f := fun s : ByteArray => s.size) hs
      refine J.again (j + 1) (by show j + 1 ≤ _; omega) (by show x.a.names.length - (j + 1) < x.a.names.length - j; omega) ⟨rfl, congrArg some (congrArg (Value.int .i64) (by unfold namesSum at *; rw [hst]; omega)), rfl, rfl, trivial⟩ rfl
    ·
      first | replace hc55 := X.tt_dec hc55 | replace hc55 := X.tt_not hc55 | replace hc55 := X.ff_dec hc55 | replace hc55 := X.ff_not hc55 | skip
      refine J.exit ?_
      refine J.then_x ?_
      refine J.lp_x ?_
      refine J.blk_x ?_
      refine J.blk_n ?_
      refine J.then_n ?_
      refine J.region ?_
      refine J.q rfl rfl (Q.mv rfl) ?_
      refine J.q rfl rfl (Q.add64 rfl rfl (by omega)) ?_
      refine J.q rfl rfl (Q.asg rfl) ?_
      refine J.nil ?_
      have hst := sum_take (f := fun y : AW => actSum y.a) hx
      have hje : x.a.names.take j = x.a.names := List.take_of_length_le (by omega)
      rw [hje]
      refine J.again (k + 1) (by show k + 1 ≤ _; omega) (by show ln - (k + 1) < ln - k; omega) ⟨rfl, congrArg some (congrArg (Value.int .i64) (by unfold tot; rw [hst]; unfold actSum; omega)), rfl, trivial⟩ rfl
  ·
    first | replace hc9 := X.tt_dec hc9 | replace hc9 := X.tt_not hc9 | replace hc9 := X.ff_dec hc9 | replace hc9 := X.ff_not hc9 | skip
    refine J.exit ?_
    refine J.then_x ?_
    refine J.lp_x ?_
    refine J.blk_x ?_
    refine J.then_n ?_
    refine J.seq ?_
    refine J.region ?_
    refine J.q rfl rfl (Q.mv rfl) ?_
    refine J.q rfl rfl (Q.lenSl Try.runUnderlying39 rfl) ?_
    refine J.q rfl rfl (Q.leq rfl rfl) ?_
    refine J.q rfl rfl (Q.mv rfl) ?_
    refine J.cases 72 rfl (fun hb72 => ?_) (fun hb72 => ?_)
    ·
      first | replace hb72 := X.tt_dec hb72 | replace hb72 := X.tt_not hb72 | replace hb72 := X.ff_dec hb72 | replace hb72 := X.ff_not hb72 | skip
      refine J.q rfl rfl (Q.mv rfl) ?_
      refine J.q rfl rfl (Q.leq rfl rfl) ?_
      refine J.q rfl rfl (Q.pick_t rfl rfl) ?_
      refine J.q rfl rfl (Q.asg rfl) ?_
      refine J.nil ?_
      refine J.then_n ?_
      refine J.cret ?_
      rw [show l.take k = l from List.take_of_length_le (by omega)]
      refine J.ret1 (B := [G]) rfl rfl ⟨congrArg Value.bool (by unfold fewV; rw [decide_eq_true (show l.length ≤ 500 by omega), Bool.true_and]; exact decide_eq_decide.2 (by omega)), rfl⟩ rfl
    ·
      first | replace hb72 := X.tt_dec hb72 | replace hb72 := X.tt_not hb72 | replace hb72 := X.ff_dec hb72 | replace hb72 := X.ff_not hb72 | skip
      refine J.skip rfl rfl ?_
      refine J.skip rfl rfl ?_
      refine J.q rfl rfl (Q.pick_f rfl rfl) ?_
      refine J.q rfl rfl (Q.asg rfl) ?_
      refine J.nil ?_
      refine J.then_n ?_
      refine J.cret ?_
      refine J.ret1 (B := [G]) rfl rfl ⟨congrArg Value.bool (by unfold fewV; rw [decide_eq_false (show ¬ l.length ≤ 500 by omega), Bool.false_and]), rfl⟩ rfl

end Go.Proofs.Ytkekcdcmmggbaaa
