/-
  The disk's List.
-/
import Derived.Test.YtkekcdcmmggbaaaDiskD
import Derived.Test.YtkekcdcmmggbaaaSort
namespace Go.Proofs.Ytkekcdcmmggbaaa
open Go.X

/-- Does a text begin with another one? -/
def beg (s p : ByteArray) : Bool := decide (p.size ≤ s.size) && decide ((s.extract 0 p.size).data.toList = p.data.toList)

theorem hasPrefix_spec (s p : ByteArray) : FSpec Try.prog 55 [.string s, .string p] [] (fun v B => v = .bool (beg s p) ∧ B = []) := by
  refine FSpec.of Try.func55 rfl Try.ntmps55 rfl fun W0 F => ?_
  refine J.seq ?_
  refine J.region ?_
  refine J.q rfl rfl (Q.asg rfl) ?_
  refine J.nil ?_
  refine J.then_n ?_
  refine J.seq ?_
  refine J.region ?_
  refine J.q rfl rfl (Q.mv rfl) ?_
  refine J.q rfl rfl (Q.lenS Try.runUnderlying9 rfl) ?_
  refine J.q rfl rfl (Q.mv rfl) ?_
  refine J.q rfl rfl (Q.lenS Try.runUnderlying9 rfl) ?_
  refine J.q rfl rfl (Q.geq rfl rfl) ?_
  refine J.q rfl rfl (Q.mv rfl) ?_
  refine J.cases 10 rfl (fun hb10 => ?_) (fun hb10 => ?_)
  ·
    first | replace hb10 := X.tt_dec hb10 | replace hb10 := X.tt_not hb10 | replace hb10 := X.ff_dec hb10 | replace hb10 := X.ff_not hb10 | skip
    refine J.q rfl rfl (Q.mv rfl) ?_
    refine J.q rfl rfl (Q.mv rfl) ?_
    refine J.q rfl rfl (Q.lenS Try.runUnderlying9 rfl) ?_
    refine J.q rfl rfl (Q.strH Try.runUnderlying9 rfl rfl (by omega) (by omega)) ?_
    refine J.q rfl rfl (Q.mv rfl) ?_
    refine J.q rfl rfl (Q.eqls rfl rfl) ?_
    refine J.q rfl rfl (Q.pick_t rfl rfl) ?_
    refine J.q rfl rfl (Q.asg rfl) ?_
    refine J.nil ?_
    refine J.then_n ?_
    refine J.cret ?_
    refine J.ret1 (B := []) rfl rfl ⟨?_, rfl⟩ rfl
    unfold beg
    first
      | (rw [decide_eq_true (show p.size ≤ s.size by omega)]; simp only [Bool.true_and, Int.toNat_natCast]; done)
      | (rw [decide_eq_true (show p.size ≤ s.size by omega)]; rfl)
      | (rw [decide_eq_false (show ¬ p.size ≤ s.size by omega)]; rfl)
  ·
    first | replace hb10 := X.tt_dec hb10 | replace hb10 := X.tt_not hb10 | replace hb10 := X.ff_dec hb10 | replace hb10 := X.ff_not hb10 | skip
    refine J.skip rfl rfl ?_
    refine J.skip rfl rfl ?_
    refine J.skip rfl rfl ?_
    refine J.skip rfl rfl ?_
    refine J.skip rfl rfl ?_
    refine J.skip rfl rfl ?_
    refine J.q rfl rfl (Q.pick_f rfl rfl) ?_
    refine J.q rfl rfl (Q.asg rfl) ?_
    refine J.nil ?_
    refine J.then_n ?_
    refine J.cret ?_
    refine J.ret1 (B := []) rfl rfl ⟨?_, rfl⟩ rfl
    unfold beg
    first
      | (rw [decide_eq_true (show p.size ≤ s.size by omega)]; simp only [Bool.true_and, Int.toNat_natCast]; done)
      | (rw [decide_eq_true (show p.size ≤ s.size by omega)]; rfl)
      | (rw [decide_eq_false (show ¬ p.size ≤ s.size by omega)]; rfl)

theorem hasPrefix_spec' (s p : ByteArray) : FSpec Try.prog 44 [.string s, .string p] [] (fun v B => v = .bool (beg s p) ∧ B = []) := by
  refine FSpec.of Try.func44 rfl Try.ntmps44 rfl fun W0 F => ?_
  refine J.seq ?_
  refine J.region ?_
  refine J.q rfl rfl (Q.asg rfl) ?_
  refine J.nil ?_
  refine J.then_n ?_
  refine J.seq ?_
  refine J.region ?_
  refine J.q rfl rfl (Q.mv rfl) ?_
  refine J.q rfl rfl (Q.mv rfl) ?_
  refine J.call Try.call55 (hasPrefix_spec s p) [] rfl rfl rfl rfl ?_
  rintro _ _ ⟨rfl, rfl⟩
  refine J.norm rfl ?_
  refine J.q rfl rfl (Q.asg rfl) ?_
  refine J.nil ?_
  refine J.then_n ?_
  refine J.cret ?_
  refine J.ret1 (B := []) rfl rfl ⟨rfl, rfl⟩ rfl

/-- The closure of 'List': does its name begin with p? -/
theorem list1_spec (b : Nat) (s p : ByteArray) :
    FSpec Try.prog 43 [.string p, .pointer (some ⟨b, 0, none⟩)] [pt b (.cells [Value.string s].toArray 9 (0, 0))] (fun v B => v = .bool (beg s p) ∧ B = [pt b (.cells [Value.string s].toArray 9 (0, 0))]) := by
  refine FSpec.of Try.func43 rfl Try.ntmps43 rfl fun W0 F => ?_
  refine J.seq ?_
  refine J.region ?_
  refine J.q rfl rfl (Q.asg rfl) ?_
  refine J.nil ?_
  refine J.then_n ?_
  refine J.seq ?_
  refine J.region ?_
  refine J.q rfl rfl (Q.ld Try.isAgg9 rfl (by first | exact Reads.pt 0 rfl rfl | exact Reads.pt 1 rfl rfl | exact Reads.pt 2 rfl rfl | exact Reads.pt 3 rfl rfl | exact Reads.pt 4 rfl rfl | exact Reads.pt 5 rfl rfl | exact Reads.pt 6 rfl rfl | exact Reads.pt 7 rfl rfl)) ?_
  refine J.q rfl rfl (Q.mv rfl) ?_
  refine J.call Try.call44 (hasPrefix_spec' s p) [] rfl rfl rfl rfl ?_
  rintro _ _ ⟨rfl, rfl⟩
  refine J.norm rfl ?_
  refine J.q rfl rfl (Q.asg rfl) ?_
  refine J.nil ?_
  refine J.then_n ?_
  refine J.cret ?_
  refine J.ret1 (B := [pt b (.cells [Value.string s].toArray 9 (0, 0))]) rfl rfl ⟨rfl, rfl⟩ rfl

def nmOf (y : FW) : List UInt8 := y.f.name.data.toList
def doneOf (fs : List FW) (seen : List Nat) : List FW := fs.filter fun y => seen.contains y.born
def leftOf (fs : List FW) (seen : List Nat) : List FW := fs.filter fun y => !seen.contains y.born
def selB (pre : List ByteArray) (n : ByteArray) : Bool := pre.isEmpty || pre.any (beg n)
def DM.list (d : DM) (pre : List ByteArray) : List (List UInt8) := sortN (((d.files.map (·.name)).filter (selB pre)).map (·.data.toList))

theorem mleft_fs (fs : List FW) (seen : List Nat) : mleft (fs.map FW.ent) seen = (leftOf fs seen).map FW.ent := by
  unfold mleft leftOf; rw [List.filter_map]; rfl

theorem done_step {fs : List FW} {seen : List Nat} {y : FW} (hn : (fs.map (·.born)).Nodup) (hy : y ∈ leftOf fs seen) :
    (doneOf fs (seen ++ [y.born])).Perm (y :: doneOf fs seen) ∧ (leftOf fs (seen ++ [y.born])).length < (leftOf fs seen).length := by
  induction fs with
  | nil => cases hy
  | cons x fs ih =>
    simp only [List.map_cons, List.nodup_cons] at hn
    by_cases hxy : x.born = y.born
    · -- x is y
      have hyx : y = x := by
        unfold leftOf at hy
        rw [List.mem_filter] at hy
        rcases List.mem_cons.1 hy.1 with h | h
        · exact h
        · exact absurd (hxy ▸ List.mem_map_of_mem h) hn.1
      subst hyx
      have hns : seen.contains y.born = false := by
        unfold leftOf at hy; rw [List.mem_filter] at hy; simpa using hy.2
      have hrest : ∀ z, z ∈ fs → (seen ++ [y.born]).contains z.born = seen.contains z.born := by
        intro z hz
        have : z.born ≠ y.born := fun e => hn.1 (e ▸ List.mem_map_of_mem hz)
        simp [this]
      have e1 : doneOf fs (seen ++ [y.born]) = doneOf fs seen := List.filter_congr hrest
      have e2 : leftOf fs (seen ++ [y.born]) = leftOf fs seen := List.filter_congr fun z hz => by rw [hrest z hz]
      have h1 : (seen ++ [y.born]).contains y.born = true := by simp
      refine ⟨?_, ?_⟩
      · unfold doneOf at e1 ⊢; rw [List.filter_cons, List.filter_cons, h1, hns, if_pos rfl, e1]; simp
      · unfold leftOf at e2 ⊢; rw [List.filter_cons, List.filter_cons, h1, hns, e2]; simp
    · have hy' : y ∈ leftOf fs seen := by
        unfold leftOf at hy ⊢
        rw [List.mem_filter] at hy ⊢
        rcases List.mem_cons.1 hy.1 with h | h
        · exact absurd (by rw [h]) hxy
        · exact ⟨h, hy.2⟩
      obtain ⟨i1, i2⟩ := ih hn.2 hy'
      have hc : (seen ++ [y.born]).contains x.born = seen.contains x.born := by simp [hxy]
      unfold doneOf leftOf at *
      rw [List.filter_cons, List.filter_cons, List.filter_cons, List.filter_cons, hc]
      cases seen.contains x.born with
      | true => exact ⟨by simp only [if_true]; exact (i1.cons x).trans (List.Perm.swap _ _ _), by simpa using i2⟩
      | false => exact ⟨by simpa using i1, by simpa using i2⟩

theorem sortN_congr {l m : List (List UInt8)} (h : l.Perm m) : sortN l = sortN m := by
  unfold sortN
  have tot : ∀ a b : List UInt8, (decide (a ≤ b) || decide (b ≤ a)) = true := by intro a b; simpa using List.le_total a b
  have tr : ∀ a b c : List UInt8, decide (a ≤ b) = true → decide (b ≤ c) = true → decide (a ≤ c) = true := by
    intro a b c h1 h2; simp only [decide_eq_true_eq] at *; exact List.le_trans h1 h2
  refine List.Perm.eq_of_pairwise (le := fun x y : List UInt8 => decide (x ≤ y) = true) ?_ (List.pairwise_mergeSort tr tot l) (List.pairwise_mergeSort tr tot m) (((List.mergeSort_perm l _).trans h).trans (List.mergeSort_perm m _).symm)
  intro a b _ _ h1 h2
  simp only [decide_eq_true_eq] at h1 h2
  exact List.le_antisymm h1 h2

theorem acc_len {fs : List FW} {seen : List Nat} {pre : List ByteArray} {acc : List (List UInt8)} (h : acc.Perm (((doneOf fs seen).filter fun y => selB pre y.f.name).map nmOf)) : acc.length ≤ fs.length := by
  rw [h.length_eq, List.length_map]
  exact Nat.le_trans (List.length_filter_le _ _) (List.length_filter_le _ _)
theorem acc_yes {fs : List FW} {seen : List Nat} {pre : List ByteArray} {acc : List (List UInt8)} {y : FW} (hn : (fs.map (·.born)).Nodup) (hy : y ∈ leftOf fs seen) (hs : selB pre y.f.name = true) (h : acc.Perm (((doneOf fs seen).filter fun y => selB pre y.f.name).map nmOf)) :
    (acc ++ [nmOf y]).Perm (((doneOf fs (seen ++ [y.born])).filter fun y => selB pre y.f.name).map nmOf) := by
  have h1 := (((done_step hn hy).1.filter fun y => selB pre y.f.name).map nmOf).symm
  rw [List.filter_cons, if_pos hs, List.map_cons] at h1
  exact (List.perm_append_singleton _ _).trans ((h.cons _).trans h1)
theorem acc_no {fs : List FW} {seen : List Nat} {pre : List ByteArray} {acc : List (List UInt8)} {y : FW} (hn : (fs.map (·.born)).Nodup) (hy : y ∈ leftOf fs seen) (hs : selB pre y.f.name = false) (h : acc.Perm (((doneOf fs seen).filter fun y => selB pre y.f.name).map nmOf)) :
    acc.Perm (((doneOf fs (seen ++ [y.born])).filter fun y => selB pre y.f.name).map nmOf) := by
  have h1 := (((done_step hn hy).1.filter fun y => selB pre y.f.name).map nmOf).symm
  rw [List.filter_cons, if_neg (by rw [hs]; exact Bool.false_ne_true)] at h1
  exact h.trans h1
theorem acc_all {fs : List FW} {seen : List Nat} (h : (leftOf fs seen).map FW.ent = []) : doneOf fs seen = fs := by
  have h1 : leftOf fs seen = [] := List.map_eq_nil_iff.1 h
  unfold leftOf at h1
  unfold doneOf
  rw [List.filter_eq_self]
  intro y hy
  rw [List.filter_eq_nil_iff] at h1
  have := h1 y hy
  simpa using this

theorem list_spec (p : Nat) (d : DM) (G : Assn) (pp : Option Addr) (pn pc : Nat) (pre : List ByteArray) (hp : SlR [G] 1 (.slice pp pn pc) (pre.map Value.string)) (hpn : pn ≤ 140737488355328)
    (hfl : d.files.length ≤ 1073741824) :
    FSpec Try.prog 21 [.pointer (some ⟨p, 0, none⟩), .slice pp pn pc] [DiskAt p d, G] (fun v B => ∃ sp sc, v = .slice sp (d.list pre).length sc ∧ B = [own 9 1 (.slice sp (d.list pre).length sc) ((d.list pre).map encStr), DiskAt p d, G]) := by
  refine FSpec.of Try.func21 rfl Try.ntmps21 rfl fun W0 F => ?_
  refine J.seq ?_
  refine J.region ?_
  refine J.q rfl rfl (Q.asg rfl) ?_
  refine J.nil ?_
  refine J.then_n ?_
  refine J.seq ?_
  refine J.region ?_
  refine J.q rfl rfl (Q.asg rfl) ?_
  refine J.nil ?_
  refine J.then_n ?_
  refine J.seq ?_
  refine J.seq ?_
  refine J.open_ 0 rfl rfl DiskAt.open_ fun x hx => ?_
  refine J.norm rfl ?_
  refine J.region ?_
  refine J.q rfl rfl (Q.mv rfl) ?_
  refine J.q rfl rfl (Q.nil_ rfl) ?_
  refine J.q rfl rfl (Q.fa (n := 3) Try.runUnderlying67 rfl rfl Try.sizeOf65 rfl) ?_
  refine J.q rfl rfl (Q.ld Try.isAgg65 rfl (by first | exact Reads.pt 0 rfl rfl | exact Reads.pt 1 rfl rfl | exact Reads.pt 2 rfl rfl | exact Reads.pt 3 rfl rfl | exact Reads.pt 4 rfl rfl | exact Reads.pt 5 rfl rfl | exact Reads.pt 6 rfl rfl | exact Reads.pt 7 rfl rfl)) ?_
  refine J.c rfl rfl (C.range (i := 1) Try.runUnderlying65 rfl rfl) ?_
  rintro _ _ ⟨b11, rfl, rfl⟩
  refine J.norm rfl ?_
  refine J.nil ?_
  refine J.then_n ?_
  refine J.block ?_
  have hnd : ((x.fs.map FW.ent).map (·.born)).Nodup := by rw [List.map_map]; exact hx.nodup
  have hbn : ∀ e, e ∈ x.fs.map FW.ent → e.born < x.c := by
    intro e he
    simp only [List.mem_map] at he
    obtain ⟨y, hy, rfl⟩ := he
    exact hx.born y hy
  have hplen : pre.length = pn := by have := hp.len; simpa using this
  refine J.give (own.nil 9 1 _) ?_
  refine J.loop (fun z : List Nat × Option Addr × Nat × List (List UInt8) => z.2.2.2.Perm (((doneOf x.fs z.1).filter fun y => selB pre y.f.name).map nmOf)) (fun z => (leftOf x.fs z.1).length) (fun z => [(0, .pointer (some ⟨p, 0, none⟩)), (1, .slice pp pn pc), (5, .slice z.2.1 z.2.2.2.length z.2.2.1), (11, .pointer (some ⟨b11, 0, none⟩))])
    (fun z => [own 9 1 (.slice z.2.1 z.2.2.2.length z.2.2.1) (z.2.2.2.map encStr), pt b11 (miter x.r x.c z.1), pt p (.cells [.int .i64 d.size, .int .i64 d.used, .int .i64 d.born, .map (some x.r)].toArray 67 (0, 0)), pt x.r (mobj (x.fs.map FW.ent) x.c), star (x.fs.map FW.asn), G, F])
    ([], none, 0, []) (by simp [doneOf]) ⟨rfl, rfl, rfl, rfl, trivial⟩ rfl fun z hz => ?_
  refine J.seq ?_
  refine J.region ?_
  refine J.c rfl rfl (C.next1 (i := 1) (j := 3) rfl rfl rfl hbn) ?_
  rintro _ _ ⟨t, rest, seen', rfl, rfl, hst⟩
  refine J.norm rfl ?_
  refine J.q rfl rfl (Q.ext rfl rfl) ?_
  refine J.nil ?_
  refine J.then_n ?_
  refine J.seq ?_
  refine J.cond rfl (fun hc13 => ?_) (fun hc13 => ?_)
  ·
    first | replace hc13 := X.tt_dec hc13 | replace hc13 := X.tt_not hc13 | replace hc13 := X.ff_dec hc13 | replace hc13 := X.ff_not hc13 | skip
    obtain ⟨e, he, rfl⟩ : ∃ e, e ∈ mleft (x.fs.map FW.ent) z.1 ∧ seen' = z.1 ++ [e.born] := by rcases hst with ⟨h, _⟩ | ⟨_, h⟩; exact absurd hc13 (by rw [h]; decide); exact h
    refine J.cskip ?_
    refine J.then_n ?_
    refine J.block ?_
    refine J.seq ?_
    refine J.region ?_
    rw [mleft_fs] at he
    simp only [List.mem_map] at he
    obtain ⟨y, hy, rfl⟩ := he
    have hym : y ∈ x.fs := (List.mem_filter.1 hy).1
    refine J.q rfl rfl (Q.entry (i := 1) (j := 3) rfl rfl rfl (List.mem_map_of_mem hym) hnd) ?_
    refine J.q rfl rfl (Q.ext rfl rfl) ?_
    refine J.c rfl rfl (C.alloc (l := [_]) Try.zeroValue9 rfl) ?_
    rintro _ _ ⟨b6, rfl, rfl⟩
    refine J.norm rfl ?_
    first | refine J.st (i := 0) rfl Try.sizeOf9 rfl rfl rfl rfl rfl rfl rfl ?_ | refine J.st (i := 1) rfl Try.sizeOf9 rfl rfl rfl rfl rfl rfl rfl ?_ | refine J.st (i := 2) rfl Try.sizeOf9 rfl rfl rfl rfl rfl rfl rfl ?_ | refine J.st (i := 3) rfl Try.sizeOf9 rfl rfl rfl rfl rfl rfl rfl ?_ | refine J.st (i := 4) rfl Try.sizeOf9 rfl rfl rfl rfl rfl rfl rfl ?_ | refine J.st (i := 5) rfl Try.sizeOf9 rfl rfl rfl rfl rfl rfl rfl ?_
    refine J.nil ?_
    refine J.then_n ?_
    refine J.seq ?_
    refine J.region ?_
    refine J.q rfl rfl (Q.mv rfl) ?_
    refine J.q rfl rfl (Q.lenSl Try.runUnderlying28 rfl) ?_
    refine J.q rfl rfl (Q.eql rfl rfl) ?_
    refine J.q rfl rfl (Q.mv rfl) ?_
    refine J.cases 19 rfl (fun hb19 => ?_) (fun hb19 => ?_)
    ·
      first | replace hb19 := X.tt_dec hb19 | replace hb19 := X.tt_not hb19 | replace hb19 := X.ff_dec hb19 | replace hb19 := X.ff_not hb19 | skip
      refine J.skip rfl rfl ?_
      refine J.skip rfl rfl ?_
      refine J.skip rfl rfl ?_
      refine J.q rfl rfl (Q.pick_t rfl rfl) ?_
      refine J.nil ?_
      refine J.then_n ?_
      refine J.cond_t rfl ?_
      refine J.region ?_
      refine J.q rfl rfl (Q.mv rfl) ?_
      refine J.q rfl rfl (Q.ld Try.isAgg9 rfl (by first | exact Reads.pt 0 rfl rfl | exact Reads.pt 1 rfl rfl | exact Reads.pt 2 rfl rfl | exact Reads.pt 3 rfl rfl | exact Reads.pt 4 rfl rfl | exact Reads.pt 5 rfl rfl | exact Reads.pt 6 rfl rfl | exact Reads.pt 7 rfl rfl)) ?_
      refine J.c rfl rfl (C.bslG (l := [_]) Try.runUnderlying28 Try.sizeOf9 Try.zeroValue9 (by decide) rfl rfl rfl rfl rfl) ?_
      rintro _ _ ⟨b26, rfl, rfl⟩
      refine J.norm rfl ?_
      have hfl' : x.fs.length ≤ 1073741824 := by have := congrArg List.length hx.files; simp only [List.length_map] at this; omega
      have hal := acc_len hz
      refine J.c rfl rfl (C.app (i := 2) Try.runUnderlying28 Try.runUnderlying28 Try.typeInfo9 Try.sizeOf9 Try.zeroValue9 rfl rfl rfl (SlR.pt (xs := [Value.string y.f.name]) 0 rfl rfl (fun j u h => by rw [Nat.zero_add]; exact h)) (by intro v hv; simp only [List.mem_singleton] at hv; subst hv; rfl) (by rw [show Try.t9.bytes = 16 from rfl]; omega) (by decide)) ?_
      rintro _ _ ⟨p27, c27, rfl, rfl⟩
      refine J.norm rfl ?_
      refine J.q rfl rfl (Q.asg rfl) ?_
      refine J.nil ?_
      refine J.blk_n ?_
      have hp0 : pre = [] := List.length_eq_zero_iff.1 (by omega)
      refine J.keep [2, 3, 4, 5, 6, 7, 8] rfl ?_
      refine J.again (z.1 ++ [y.born], p27, c27, z.2.2.2 ++ [nmOf y]) (acc_yes hx.nodup hy (by rw [hp0]; rfl) hz) (done_step hx.nodup hy).2 ⟨rfl, rfl, by rw [List.length_append]; rfl, rfl, trivial⟩ ?_
      rw [List.map_append, List.length_append]
      rfl
    ·
      first | replace hb19 := X.tt_dec hb19 | replace hb19 := X.tt_not hb19 | replace hb19 := X.ff_dec hb19 | replace hb19 := X.ff_not hb19 | skip
      refine J.q rfl rfl (Q.mv rfl) ?_
      refine J.q rfl rfl (Q.func rfl rfl) ?_
      refine J.pack [0, 6] rfl ?_
      have hcl : ∀ q, q ∈ pre → FSpec Try.prog 43 ([] ++ [.string q] ++ [.pointer (some ⟨b6, 0, none⟩)]) [star [pt b6 (.cells [Value.string y.f.name].toArray 9 (0, 0)), G]] (fun v B => v = .bool (beg y.f.name q) ∧ B = [star [pt b6 (.cells [Value.string y.f.name].toArray 9 (0, 0)), G]]) := fun q _ =>
        FSpec.packed ((list1_spec b6 y.f.name q).frame [G]) (by rintro v B ⟨B1, ⟨rfl, rfl⟩, rfl⟩; exact ⟨rfl, rfl⟩)
      refine J.call Try.call42 (containsFunc_spec (star [pt b6 (.cells [Value.string y.f.name].toArray 9 (0, 0)), G]) pp pn pc pre 43 [.pointer (some ⟨b6, 0, none⟩)] (beg y.f.name) Try.call43 (hp.into 1 rfl) hpn hcl) [0] rfl rfl rfl rfl ?_
      rintro _ _ ⟨rfl, rfl⟩
      refine J.norm rfl ?_
      refine J.unpack 0 rfl rfl ?_
      refine J.pick [0, 2, 3, 4, 5, 6, 1] rfl ?_
      refine J.norm rfl ?_
      refine J.q rfl rfl (Q.pick_f rfl rfl) ?_
      refine J.nil ?_
      refine J.then_n ?_
      refine J.cond rfl (fun hc23 => ?_) (fun hc23 => ?_)
      ·
        first | replace hc23 := X.tt_dec hc23 | replace hc23 := X.tt_not hc23 | replace hc23 := X.ff_dec hc23 | replace hc23 := X.ff_not hc23 | skip
        refine J.region ?_
        refine J.q rfl rfl (Q.mv rfl) ?_
        refine J.q rfl rfl (Q.ld Try.isAgg9 rfl (by first | exact Reads.pt 0 rfl rfl | exact Reads.pt 1 rfl rfl | exact Reads.pt 2 rfl rfl | exact Reads.pt 3 rfl rfl | exact Reads.pt 4 rfl rfl | exact Reads.pt 5 rfl rfl | exact Reads.pt 6 rfl rfl | exact Reads.pt 7 rfl rfl)) ?_
        refine J.c rfl rfl (C.bslG (l := [_]) Try.runUnderlying28 Try.sizeOf9 Try.zeroValue9 (by decide) rfl rfl rfl rfl rfl) ?_
        rintro _ _ ⟨b26, rfl, rfl⟩
        refine J.norm rfl ?_
        have hfl' : x.fs.length ≤ 1073741824 := by have := congrArg List.length hx.files; simp only [List.length_map] at this; omega
        have hal := acc_len hz
        refine J.c rfl rfl (C.app (i := 2) Try.runUnderlying28 Try.runUnderlying28 Try.typeInfo9 Try.sizeOf9 Try.zeroValue9 rfl rfl rfl (SlR.pt (xs := [Value.string y.f.name]) 0 rfl rfl (fun j u h => by rw [Nat.zero_add]; exact h)) (by intro v hv; simp only [List.mem_singleton] at hv; subst hv; rfl) (by rw [show Try.t9.bytes = 16 from rfl]; omega) (by decide)) ?_
        rintro _ _ ⟨p27, c27, rfl, rfl⟩
        refine J.norm rfl ?_
        refine J.q rfl rfl (Q.asg rfl) ?_
        refine J.nil ?_
        refine J.blk_n ?_
        refine J.keep [2, 3, 4, 5, 6, 7, 8] rfl ?_
        refine J.again (z.1 ++ [y.born], p27, c27, z.2.2.2 ++ [nmOf y]) (acc_yes hx.nodup hy (by unfold selB; rw [hc23, Bool.or_true]) hz) (done_step hx.nodup hy).2 ⟨rfl, rfl, by rw [List.length_append]; rfl, rfl, trivial⟩ ?_
        rw [List.map_append, List.length_append]
        rfl
      ·
        first | replace hc23 := X.tt_dec hc23 | replace hc23 := X.tt_not hc23 | replace hc23 := X.ff_dec hc23 | replace hc23 := X.ff_not hc23 | skip
        refine J.cskip ?_
        refine J.blk_n ?_
        have hpe : pre.isEmpty = false := by
          cases pre with
          | nil => simp at hplen; omega
          | cons _ _ => rfl
        refine J.keep [1, 2, 3, 4, 5, 6, 7] rfl ?_
        refine J.again (z.1 ++ [y.born], z.2.1, z.2.2.1, z.2.2.2) (acc_no hx.nodup hy (by unfold selB; rw [hc23, hpe]; rfl) hz) (done_step hx.nodup hy).2 ⟨rfl, rfl, rfl, rfl, trivial⟩ rfl
  ·
    first | replace hc13 := X.tt_dec hc13 | replace hc13 := X.tt_not hc13 | replace hc13 := X.ff_dec hc13 | replace hc13 := X.ff_not hc13 | skip
    obtain ⟨hml, rfl⟩ : mleft (x.fs.map FW.ent) z.1 = [] ∧ seen' = z.1 := by rcases hst with ⟨_, h⟩ | ⟨h, _⟩; exact h; exact absurd hc13 (by rw [h]; decide)
    refine J.exit ?_
    refine J.then_x ?_
    refine J.lp_x ?_
    refine J.blk_x ?_
    refine J.then_n ?_
    refine J.seq ?_
    refine J.region ?_
    rw [mleft_fs] at hml
    have hdone := acc_all hml
    rw [hdone] at hz
    have hfl' : x.fs.length ≤ 1073741824 := by have := congrArg List.length hx.files; simp only [List.length_map] at this; omega
    have hal : z.2.2.2.length ≤ x.fs.length := by rw [hz.length_eq, List.length_map]; exact List.length_filter_le _ _
    refine J.q rfl rfl (Q.mv rfl) ?_
    refine J.call Try.call45 (sort_spec z.2.1 z.2.2.1 z.2.2.2 (by omega)) [0] rfl rfl rfl rfl ?_
    rintro _ _ ⟨rfl, rfl⟩
    refine J.norm rfl ?_
    refine J.nil ?_
    refine J.then_n ?_
    refine J.seq ?_
    refine J.region ?_
    refine J.q rfl rfl (Q.mv rfl) ?_
    refine J.q rfl rfl (Q.asg rfl) ?_
    refine J.nil ?_
    refine J.then_n ?_
    refine J.cret ?_
    have hL : sortN z.2.2.2 = d.list pre := by
      unfold DM.list
      refine sortN_congr (hz.trans ?_)
      rw [← hx.files, List.map_map, List.filter_map, List.map_map]
      exact List.Perm.refl _
    have hLn : z.2.2.2.length = (d.list pre).length := by rw [← hL, sortN_length]
    refine J.shut [2, 3, 4] (DiskAt p d) rfl (fun h s => ⟨x, hx, s⟩) ?_
    refine J.keep [1, 0, 3, 4] rfl ?_
    rw [hL, hLn]
    refine J.ret1 (B := [own 9 1 (.slice z.2.1 (d.list pre).length z.2.2.1) ((d.list pre).map encStr), DiskAt p d, G]) rfl rfl ⟨_, _, rfl, rfl⟩ rfl

end Go.Proofs.Ytkekcdcmmggbaaa
