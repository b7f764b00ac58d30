/-
  What the proof of the last of these texts leans on: part 5 of 6.
-/
import Derived.KernelRfl
import Derived.Sort.AssemblyPlain
import Derived.Test.YtdancegklkifaaaGreatOn4
namespace Go.Proofs.YtdancegklkifaaaGreat
set_option linter.unusedSectionVars false
set_option linter.unusedSimpArgs false
set_option linter.unusedVariables false
open Go.X
open Go.Sort (swp scanSorted shiftDown shiftUp partialIns partialInsertionSort PermIn SortedIn SWO)

section plain
variable {α : Type} [Inhabited α] {lt : α → α → Bool} {i j e : Nat} {d : Array α}
theorem scanSorted_go (h : i < e) (hp : lt d[i]! d[i - 1]! = false) : scanSorted lt d e (i + 1) = scanSorted lt d e i := by
  conv => { rhs; rw [scanSorted] }
  rw [if_pos (by rw [hp]; simp; exact h)]
theorem scanSorted_stop (h : ¬ i < e ∨ lt d[i]! d[i - 1]! = true) : scanSorted lt d e i = i := by
  rw [scanSorted, if_neg]
  rcases h with h | h
  · simp; omega
  · simp [h]
theorem shiftDown_go (hj : 0 < j) (hp : lt d[j]! d[j - 1]! = true) : shiftDown lt (j - 1) (swp d j (j - 1)) = shiftDown lt j d := by
  obtain ⟨k, rfl⟩ : ∃ k, j = k + 1 := ⟨j - 1, by omega⟩
  conv => { rhs; rw [shiftDown] }
  simp only [Nat.add_sub_cancel] at hp ⊢
  rw [if_neg (by rw [hp]; decide)]
theorem shiftDown_stop (h : ¬ 0 < j ∨ lt d[j]! d[j - 1]! = false) : shiftDown lt j d = d := by
  cases j with
  | zero => rfl
  | succ k =>
    rw [shiftDown, if_pos]
    rcases h with h | h
    · omega
    · simp only [Nat.add_sub_cancel] at h; rw [h]; rfl
theorem shiftUp_go (h : j < e) (hp : lt d[j]! d[j - 1]! = true) : shiftUp lt e (j + 1) (swp d j (j - 1)) = shiftUp lt e j d := by
  conv => { rhs; rw [shiftUp] }
  rw [if_pos h, if_neg (by rw [hp]; decide)]
theorem shiftUp_stop (h : ¬ j < e ∨ lt d[j]! d[j - 1]! = false) : shiftUp lt e j d = d := by
  rw [shiftUp]
  rcases h with h | h
  · rw [if_neg h]
  · split
    · rw [if_pos (by rw [h]; rfl)]
    · rfl
theorem pins_eq (lt : α → α → Bool) (a b s i : Nat) (d : Array α) {I1 : Nat} {d3 d4 : Array α} (h1 : scanSorted lt d b i = I1) (h3 : d3 = if I1 - a ≥ 2 then shiftDown lt (I1 - 1) (swp d I1 (I1 - 1)) else swp d I1 (I1 - 1)) (h4 : d4 = if b - I1 ≥ 2 then shiftUp lt b (I1 + 1) d3 else d3) :
    partialIns lt a b (s + 1) i d = if I1 = b then (d, true) else if b - a < 50 then (d, false) else partialIns lt a b s I1 d4 := by
  subst h1 h3 h4; rfl
end plain

theorem partialInsU (b off n c : Nat) (d : Array Nat) (x e : Nat) (hn : d.size = n) (hx : x < e) (he : e ≤ n) (hs : n ≤ 1099511627776) :
    FSpec Tryz.prog 113 [.slice (some ⟨b, off, none⟩) n c, .int .i64 x, .int .i64 e] [rowU b off n c d] (fun v B => v = .bool (partialInsertionSort ltU d x e).2 ∧ B = [rowU b off n c (partialInsertionSort ltU d x e).1]) := by
  refine FSpec.of Tryz.func113 rfl Tryz.ntmps113 rfl fun W0 F => ?_
  refine J.seq ?_
  refine J.region ?_
  refine J.q rfl rfl (Q.asg rfl) ?_
  refine J.nil ?_
  refine J.then_n ?_
  refine J.seq ?_
  refine J.region ?_
  refine J.q rfl rfl (Q.mv rfl) ?_
  refine J.q rfl rfl (Q.add64 rfl rfl (by omega)) ?_
  refine J.q rfl rfl (Q.asg rfl) ?_
  refine J.nil ?_
  refine J.then_n ?_
  refine J.seq ?_
  refine J.seq ?_
  refine J.region ?_
  refine J.q rfl rfl (Q.asg rfl) ?_
  refine J.nil ?_
  refine J.then_n ?_
  refine J.block ?_
  refine J.loop3 (fun (k i : Nat) (d1 : Array Nat) => d1.size = n ∧ k ≤ 5 ∧ x + 1 ≤ i ∧ i ≤ e ∧ partialIns ltU x e (5 - k) i d1 = partialInsertionSort ltU d x e) (fun k _ _ => 5 - k) (fun k i _ => [(0, .slice (some ⟨b, off, none⟩) n c), (1, .int .i64 x), (2, .int .i64 e), (7, .int .i64 i), (8, .int .i64 k)]) (fun _ _ d1 => [rowU b off n c d1, F]) 0 (x + 1) d ⟨hn, Nat.zero_le _, Nat.le_refl _, by omega, rfl⟩ ⟨rfl, rfl, rfl, rfl, rfl, trivial⟩ rfl fun k i d1 hz => ?_
  obtain ⟨k1, k2, k3, k4, k5⟩ := hz
  refine J.seq ?_
  refine J.seq ?_
  refine J.region ?_
  refine J.q rfl rfl (Q.mv rfl) ?_
  refine J.q rfl rfl (Q.lss rfl rfl) ?_
  refine J.nil ?_
  refine J.then_n ?_
  refine J.cases 14 rfl (fun hc14 => ?_) (fun hc14 => ?_)
  ·
   replace hc14 := X.nm hc14
   try (first | (cases hc14; done) | (exfalso; simp at hc14; done))
   all_goals
    refine J.cond_t rfl ?_
    refine J.cskip ?_
    refine J.then_n ?_
    refine J.seq ?_
    refine J.block ?_
    obtain ⟨I1, hI1⟩ : ∃ I1, I1 = scanSorted ltU d1 e i := ⟨_, rfl⟩
    refine J.cut (fun _ : Unit => I1 ≤ e ∧ x + 1 ≤ I1) (fun _ => [(0, .slice (some ⟨b, off, none⟩) n c), (1, .int .i64 x), (2, .int .i64 e), (7, .int .i64 I1), (8, .int .i64 k)]) (fun _ => [rowU b off n c d1, F]) ?_ fun _ hIe => ?_
    ·
     refine J.block ?_
     refine J.loop (fun i' : Nat => i' ≤ e ∧ x + 1 ≤ i' ∧ scanSorted ltU d1 e i' = I1) (fun i' => e - i') (fun i' => [(0, .slice (some ⟨b, off, none⟩) n c), (1, .int .i64 x), (2, .int .i64 e), (7, .int .i64 i'), (8, .int .i64 k)]) (fun _ => [rowU b off n c d1, F]) i ⟨k4, k3, hI1.symm⟩ ⟨rfl, rfl, rfl, rfl, rfl, trivial⟩ rfl fun i' hz => ?_
     obtain ⟨g1, g0, g2⟩ := hz
     refine J.seq ?_
     refine J.seq ?_
     refine J.draw [13] Tryz.mixed (by kernel_rfl) fun hR => ?_
     refine RG.q 0 hR rfl rfl rfl rfl rfl rfl (Q.mv rfl) ?_
     refine RG.q 1 hR rfl rfl rfl rfl rfl rfl (Q.mv rfl) ?_
     refine RG.q 2 hR rfl rfl rfl rfl rfl rfl (Q.lss rfl rfl) ?_
     refine RG.q 3 hR rfl rfl rfl rfl rfl rfl (Q.mv rfl) ?_
     refine RG.cases 20 rfl (fun hb20 => ?_) (fun hb20 => ?_)
     ·
      replace hb20 := X.nm hb20
      try (first | (cases hb20; done) | (exfalso; simp at hb20; done))
      all_goals
       refine RG.q 4 hR rfl rfl rfl rfl rfl rfl (Q.mv rfl) ?_
       refine RG.q 5 hR rfl rfl rfl rfl rfl rfl (Q.mv rfl) ?_
       refine RG.q 6 hR rfl rfl rfl rfl rfl rfl (Q.ia Tryz.runUnderlying60 Tryz.sizeOf23 rfl rfl (by omega) (by omega)) ?_
       refine RG.q 7 hR rfl rfl rfl rfl rfl rfl (Q.ld Tryz.isAgg23 rfl (rdU (k := 0) rfl (by omega))) ?_
       refine RG.q 8 hR rfl rfl rfl rfl rfl rfl (Q.mv rfl) ?_
       refine RG.q 9 hR rfl rfl rfl rfl rfl rfl (Q.mv rfl) ?_
       refine RG.q 10 hR rfl rfl rfl rfl rfl rfl (Q.sub64 rfl rfl (by omega)) ?_
       refine RG.q 11 hR rfl rfl rfl rfl rfl rfl (Q.ia Tryz.runUnderlying60 Tryz.sizeOf23 rfl rfl (by omega) (by omega)) ?_
       refine RG.q 12 hR rfl rfl rfl rfl rfl rfl (Q.ld Tryz.isAgg23 rfl (rdU (k := 0) rfl (by omega))) ?_
       refine RG.call 13 hR rfl rfl rfl rfl rfl rfl Tryz.call114 (lessU _ _) [] rfl rfl ?_
       rintro _ _ ⟨rfl, rfl⟩
       refine RG.norm rfl ?_
       refine RG.q 14 hR rfl rfl rfl rfl rfl rfl (Q.not rfl) ?_
       refine RG.q 15 hR rfl rfl rfl rfl rfl rfl (Q.pick_t rfl rfl) ?_
       refine RG.fin hR rfl ?_
       refine J.norm rfl ?_
       refine J.then_n ?_
       refine J.cases 32 rfl (fun hc32 => ?_) (fun hc32 => ?_)
       ·
        replace hc32 := X.nm hc32
        try (first | (cases hc32; done) | (exfalso; simp at hc32; done))
        all_goals
         refine J.cond_t rfl ?_
         refine J.cskip ?_
         refine J.then_n ?_
         refine J.block ?_
         refine J.region ?_
         refine J.q rfl rfl (Q.mv rfl) ?_
         refine J.q rfl rfl (Q.add64 rfl rfl (by omega)) ?_
         refine J.q rfl rfl (Q.asg rfl) ?_
         refine J.nil ?_
         refine J.blk_n ?_
         have e1 : ((i' : Int) - 1).toNat = i' - 1 := by omega
         rw [Int.toNat_natCast, e1] at hc32
         refine J.again (i' + 1) ⟨by show i' + 1 ≤ e; omega, by show x + 1 ≤ i' + 1; omega, by rw [← g2]; exact scanSorted_go (by omega) (by simpa using hc32)⟩ (by show e - (i' + 1) < e - i'; omega) ⟨rfl, rfl, rfl, rfl, rfl, trivial⟩ rfl
       replace hc32 := X.nm hc32
       try (first | (cases hc32; done) | (exfalso; simp at hc32; done))
       all_goals
        refine J.cond_f rfl ?_
        refine J.exit ?_
        refine J.then_x ?_
        refine J.lp_x ?_
        refine J.blk_x ?_
        have e1 : ((i' : Int) - 1).toNat = i' - 1 := by omega
        have hst : I1 = i' := by
          rw [← g2]
          refine scanSorted_stop ?_
          first
            | (left; omega)
            | (right; rw [Int.toNat_natCast, e1] at hc32; simpa using hc32)
        refine J.meet () (by rw [hst]; exact ⟨g1, g0⟩) ⟨rfl, rfl, rfl, (by rw [hst]; rfl), rfl, trivial⟩ rfl
     replace hb20 := X.nm hb20
     try (first | (cases hb20; done) | (exfalso; simp at hb20; done))
     all_goals
      refine RG.skip 4 hR rfl rfl rfl rfl rfl rfl ?_
      refine RG.skip 5 hR rfl rfl rfl rfl rfl rfl ?_
      refine RG.skip 6 hR rfl rfl rfl rfl rfl rfl ?_
      refine RG.skip 7 hR rfl rfl rfl rfl rfl rfl ?_
      refine RG.skip 8 hR rfl rfl rfl rfl rfl rfl ?_
      refine RG.skip 9 hR rfl rfl rfl rfl rfl rfl ?_
      refine RG.skip 10 hR rfl rfl rfl rfl rfl rfl ?_
      refine RG.skip 11 hR rfl rfl rfl rfl rfl rfl ?_
      refine RG.skip 12 hR rfl rfl rfl rfl rfl rfl ?_
      refine RG.pass 13 hR rfl rfl rfl rfl rfl ?_
      refine RG.skip 14 hR rfl rfl rfl rfl rfl rfl ?_
      refine RG.q 15 hR rfl rfl rfl rfl rfl rfl (Q.pick_f rfl rfl) ?_
      refine RG.fin hR rfl ?_
      refine J.norm rfl ?_
      refine J.then_n ?_
      refine J.cond_f rfl ?_
      refine J.exit ?_
      refine J.then_x ?_
      refine J.lp_x ?_
      refine J.blk_x ?_
      have e1 : ((i' : Int) - 1).toNat = i' - 1 := by omega
      have hst : I1 = i' := by
        rw [← g2]
        refine scanSorted_stop ?_
        first
          | (left; omega)
          | (right; rw [Int.toNat_natCast, e1] at hc32; simpa using hc32)
      refine J.meet () (by rw [hst]; exact ⟨g1, g0⟩) ⟨rfl, rfl, rfl, (by rw [hst]; rfl), rfl, trivial⟩ rfl
    obtain ⟨hI2, hI3⟩ := hIe
    obtain ⟨s, hs5⟩ : ∃ s, 5 - k = s + 1 := ⟨4 - k, by omega⟩
    have hq := fun d3 d4 => pins_eq ltU x e s i d1 (I1 := I1) (d3 := d3) (d4 := d4) hI1.symm
    rw [hs5] at k5
    refine J.seq ?_
    refine J.seq ?_
    refine J.region ?_
    refine J.q rfl rfl (Q.mv rfl) ?_
    refine J.q rfl rfl (Q.mv rfl) ?_
    refine J.q rfl rfl (Q.eql rfl rfl) ?_
    refine J.nil ?_
    refine J.then_n ?_
    refine J.cases 37 rfl (fun hc37 => ?_) (fun hc37 => ?_)
    ·
     replace hc37 := X.nm hc37
     try (first | (cases hc37; done) | (exfalso; simp at hc37; done))
     all_goals
      refine J.cond_t rfl ?_
      refine J.seq ?_
      refine J.region ?_
      refine J.q rfl rfl (Q.asg rfl) ?_
      refine J.nil ?_
      refine J.then_n ?_
      refine J.cret ?_
      refine J.then_r ?_
      refine J.blk_r ?_
      refine J.then_r ?_
      refine J.lp_r ?_
      refine J.blk_r ?_
      refine J.then_r ?_
      have hfin := hq _ _ rfl rfl
      rw [if_pos (by omega)] at hfin
      rw [← k5, hfin]
      refine J.ret1 (B := [_]) rfl rfl ⟨rfl, rfl⟩ rfl
    replace hc37 := X.nm hc37
    try (first | (cases hc37; done) | (exfalso; simp at hc37; done))
    all_goals
     refine J.cond_f rfl ?_
     refine J.cskip ?_
     refine J.then_n ?_
     refine J.seq ?_
     refine J.seq ?_
     refine J.region ?_
     refine J.q rfl rfl (Q.mv rfl) ?_
     refine J.q rfl rfl (Q.mv rfl) ?_
     refine J.q rfl rfl (Q.sub64 rfl rfl (by omega)) ?_
     refine J.q rfl rfl (Q.lss rfl rfl) ?_
     refine J.nil ?_
     refine J.then_n ?_
     refine J.cases 41 rfl (fun hc41 => ?_) (fun hc41 => ?_)
     ·
      replace hc41 := X.nm hc41
      try (first | (cases hc41; done) | (exfalso; simp at hc41; done))
      all_goals
       refine J.cond_t rfl ?_
       refine J.seq ?_
       refine J.region ?_
       refine J.q rfl rfl (Q.asg rfl) ?_
       refine J.nil ?_
       refine J.then_n ?_
       refine J.cret ?_
       refine J.then_r ?_
       refine J.blk_r ?_
       refine J.then_r ?_
       refine J.lp_r ?_
       refine J.blk_r ?_
       refine J.then_r ?_
       have hfin := hq _ _ rfl rfl
       rw [if_neg (by omega), if_pos (by omega)] at hfin
       rw [← k5, hfin]
       refine J.ret1 (B := [_]) rfl rfl ⟨rfl, rfl⟩ rfl
     replace hc41 := X.nm hc41
     try (first | (cases hc41; done) | (exfalso; simp at hc41; done))
     all_goals
      refine J.cond_f rfl ?_
      refine J.cskip ?_
      refine J.then_n ?_
      refine J.seq ?_
      refine J.draw [15, 17] Tryz.mixed (by kernel_rfl) fun hR => ?_
      refine RG.q 0 hR rfl rfl rfl rfl rfl rfl (Q.mv rfl) ?_
      refine RG.q 1 hR rfl rfl rfl rfl rfl rfl (Q.mv rfl) ?_
      refine RG.q 2 hR rfl rfl rfl rfl rfl rfl (Q.mv rfl) ?_
      refine RG.q 3 hR rfl rfl rfl rfl rfl rfl (Q.mv rfl) ?_
      refine RG.q 4 hR rfl rfl rfl rfl rfl rfl (Q.sub64 rfl rfl (by omega)) ?_
      refine RG.q 5 hR rfl rfl rfl rfl rfl rfl (Q.mv rfl) ?_
      refine RG.q 6 hR rfl rfl rfl rfl rfl rfl (Q.mv rfl) ?_
      refine RG.q 7 hR rfl rfl rfl rfl rfl rfl (Q.sub64 rfl rfl (by omega)) ?_
      refine RG.q 8 hR rfl rfl rfl rfl rfl rfl (Q.ia Tryz.runUnderlying60 Tryz.sizeOf23 rfl rfl (by omega) (by omega)) ?_
      refine RG.q 9 hR rfl rfl rfl rfl rfl rfl (Q.ld Tryz.isAgg23 rfl (rdU (k := 0) rfl (by omega))) ?_
      refine RG.q 10 hR rfl rfl rfl rfl rfl rfl (Q.mv rfl) ?_
      refine RG.q 11 hR rfl rfl rfl rfl rfl rfl (Q.mv rfl) ?_
      refine RG.q 12 hR rfl rfl rfl rfl rfl rfl (Q.ia Tryz.runUnderlying60 Tryz.sizeOf23 rfl rfl (by omega) (by omega)) ?_
      refine RG.q 13 hR rfl rfl rfl rfl rfl rfl (Q.ld Tryz.isAgg23 rfl (rdU (k := 0) rfl (by omega))) ?_
      refine RG.q 14 hR rfl rfl rfl rfl rfl rfl (Q.ia Tryz.runUnderlying60 Tryz.sizeOf23 rfl rfl (by omega) (by omega)) ?_
      refine RG.barP 15 [2, 3, 4] hR rfl rfl rfl rfl rfl (by kernel_rfl) ⟨Free.q rfl rfl rfl (Q.mv rfl), ⟨Free.q rfl rfl rfl (Q.mv rfl), ⟨Free.q rfl rfl rfl (Q.sub64 rfl rfl (by omega)), trivial⟩⟩⟩ (C.stO 0 Tryz.sizeOf23 rfl rfl rfl rfl rfl (by first | (rw [avU_len]; omega) | (rw [List.length_set, avU_len]; omega))) ?_
      rintro _ _ ⟨rfl, rfl⟩
      refine RG.norm rfl ?_
      refine RG.q 16 hR rfl rfl rfl rfl rfl rfl (Q.ia Tryz.runUnderlying60 Tryz.sizeOf23 rfl rfl (by omega) (by omega)) ?_
      refine RG.barP 17 [] hR rfl rfl rfl rfl rfl (by kernel_rfl) trivial (C.stO 0 Tryz.sizeOf23 rfl rfl rfl rfl rfl (by first | (rw [avU_len]; omega) | (rw [List.length_set, avU_len]; omega))) ?_
      rintro _ _ ⟨rfl, rfl⟩
      refine RG.norm rfl ?_
      refine RG.fin hR rfl ?_
      refine J.norm rfl ?_
      refine J.then_n ?_
      refine J.cut (fun d3 : Array Nat => d3.size = n ∧ d3 = if I1 - x ≥ 2 then shiftDown ltU (I1 - 1) (swp d1 I1 (I1 - 1)) else swp d1 I1 (I1 - 1)) (fun _ => [(0, .slice (some ⟨b, off, none⟩) n c), (1, .int .i64 x), (2, .int .i64 e), (7, .int .i64 I1), (8, .int .i64 k)]) (fun d3 => [rowU b off n c d3, F]) ?_ fun d3 hd3 => ?_
      ·
       refine J.seq ?_
       refine J.conv (Y := rowU b off n c (swp d1 I1 (I1 - 1))) 0 rfl (swrU (by omega) (by omega)) ?_
       obtain ⟨d2, hd2⟩ : ∃ d2, d2 = swp d1 I1 (I1 - 1) := ⟨_, rfl⟩
       have h2 : d2.size = n := by rw [hd2, szU_swp, k1]
       rw [← hd2]
       refine J.region ?_
       refine J.q rfl rfl (Q.mv rfl) ?_
       refine J.q rfl rfl (Q.mv rfl) ?_
       refine J.q rfl rfl (Q.sub64 rfl rfl (by omega)) ?_
       refine J.q rfl rfl (Q.geq rfl rfl) ?_
       refine J.nil ?_
       refine J.then_n ?_
       refine J.cases 61 rfl (fun hc61 => ?_) (fun hc61 => ?_)
       ·
        replace hc61 := X.nm hc61
        try (first | (cases hc61; done) | (exfalso; simp at hc61; done))
        all_goals
         refine J.cond_t rfl ?_
         refine J.seq ?_
         refine J.region ?_
         refine J.q rfl rfl (Q.mv rfl) ?_
         refine J.q rfl rfl (Q.sub64 rfl rfl (by omega)) ?_
         refine J.q rfl rfl (Q.asg rfl) ?_
         refine J.nil ?_
         refine J.then_n ?_
         refine J.block ?_
         refine J.loop2 (fun (j : Nat) (d3 : Array Nat) => d3.size = n ∧ j < n ∧ shiftDown ltU j d3 = shiftDown ltU (I1 - 1) d2) (fun j _ => j) (fun j _ => [(0, .slice (some ⟨b, off, none⟩) n c), (1, .int .i64 x), (2, .int .i64 e), (7, .int .i64 I1), (8, .int .i64 k), (9, .int .i64 j)]) (fun _ d3 => [rowU b off n c d3, F]) (I1 - 1) d2 ⟨h2, by omega, rfl⟩ ⟨rfl, rfl, rfl, rfl, rfl, (by show some (Value.int .i64 ((I1 : Int) - 1)) = some (Value.int .i64 ((I1 - 1 : Nat) : Int)); congr 2; omega), trivial⟩ rfl fun j d3 hz => ?_
         obtain ⟨g1, g0, g2⟩ := hz
         refine J.seq ?_
         refine J.seq ?_
         refine J.region ?_
         refine J.q rfl rfl (Q.mv rfl) ?_
         refine J.q rfl rfl (Q.geq rfl rfl) ?_
         refine J.nil ?_
         refine J.then_n ?_
         refine J.cases 65 rfl (fun hc65 => ?_) (fun hc65 => ?_)
         ·
          replace hc65 := X.nm hc65
          try (first | (cases hc65; done) | (exfalso; simp at hc65; done))
          all_goals
           refine J.cond_t rfl ?_
           refine J.cskip ?_
           refine J.then_n ?_
           refine J.seq ?_
           refine J.block ?_
           refine J.seq ?_
           refine J.seq ?_
           refine J.draw [9] Tryz.mixed (by kernel_rfl) fun hR => ?_
           refine RG.q 0 hR rfl rfl rfl rfl rfl rfl (Q.mv rfl) ?_
           refine RG.q 1 hR rfl rfl rfl rfl rfl rfl (Q.mv rfl) ?_
           refine RG.q 2 hR rfl rfl rfl rfl rfl rfl (Q.ia Tryz.runUnderlying60 Tryz.sizeOf23 rfl rfl (by omega) (by omega)) ?_
           refine RG.q 3 hR rfl rfl rfl rfl rfl rfl (Q.ld Tryz.isAgg23 rfl (rdU (k := 0) rfl (by omega))) ?_
           refine RG.q 4 hR rfl rfl rfl rfl rfl rfl (Q.mv rfl) ?_
           refine RG.q 5 hR rfl rfl rfl rfl rfl rfl (Q.mv rfl) ?_
           refine RG.q 6 hR rfl rfl rfl rfl rfl rfl (Q.sub64 rfl rfl (by omega)) ?_
           refine RG.q 7 hR rfl rfl rfl rfl rfl rfl (Q.ia Tryz.runUnderlying60 Tryz.sizeOf23 rfl rfl (by omega) (by omega)) ?_
           refine RG.q 8 hR rfl rfl rfl rfl rfl rfl (Q.ld Tryz.isAgg23 rfl (rdU (k := 0) rfl (by omega))) ?_
           refine RG.call 9 hR rfl rfl rfl rfl rfl rfl Tryz.call114 (lessU _ _) [] rfl rfl ?_
           rintro _ _ ⟨rfl, rfl⟩
           refine RG.norm rfl ?_
           refine RG.q 10 hR rfl rfl rfl rfl rfl rfl (Q.not rfl) ?_
           refine RG.fin hR rfl ?_
           refine J.norm rfl ?_
           refine J.then_n ?_
           refine J.cases 78 rfl (fun hc78 => ?_) (fun hc78 => ?_)
           ·
            replace hc78 := X.nm hc78
            try (first | (cases hc78; done) | (exfalso; simp at hc78; done))
            all_goals
             refine J.cond_t rfl ?_
             refine J.exit ?_
             refine J.then_x ?_
             refine J.blk_o rfl ?_
             refine J.then_x ?_
             refine J.lp_x ?_
             refine J.blk_x ?_
             first
               | (have hst : d3 = shiftDown ltU (I1 - 1) d2 := by
                    rw [← g2]
                    refine (shiftDown_stop ?_).symm
                    first
                      | (left; omega)
                      | (right; have e1 : ((j : Int) - 1).toNat = j - 1 := by omega
                         rw [Int.toNat_natCast, e1] at hc78; simpa using hc78)
                  refine J.meet d3 ⟨g1, by rw [if_pos (by omega), hst, hd2]⟩ ⟨rfl, rfl, rfl, rfl, rfl, trivial⟩ rfl)
               | refine J.meet d2 ⟨h2, by rw [if_neg (by omega), hd2]⟩ ⟨rfl, rfl, rfl, rfl, rfl, trivial⟩ rfl
           replace hc78 := X.nm hc78
           try (first | (cases hc78; done) | (exfalso; simp at hc78; done))
           all_goals
            refine J.cond_f rfl ?_
            refine J.cskip ?_
            refine J.then_n ?_
            refine J.draw [15, 17] Tryz.mixed (by kernel_rfl) fun hR => ?_
            refine RG.q 0 hR rfl rfl rfl rfl rfl rfl (Q.mv rfl) ?_
            refine RG.q 1 hR rfl rfl rfl rfl rfl rfl (Q.mv rfl) ?_
            refine RG.q 2 hR rfl rfl rfl rfl rfl rfl (Q.mv rfl) ?_
            refine RG.q 3 hR rfl rfl rfl rfl rfl rfl (Q.mv rfl) ?_
            refine RG.q 4 hR rfl rfl rfl rfl rfl rfl (Q.sub64 rfl rfl (by omega)) ?_
            refine RG.q 5 hR rfl rfl rfl rfl rfl rfl (Q.mv rfl) ?_
            refine RG.q 6 hR rfl rfl rfl rfl rfl rfl (Q.mv rfl) ?_
            refine RG.q 7 hR rfl rfl rfl rfl rfl rfl (Q.sub64 rfl rfl (by omega)) ?_
            refine RG.q 8 hR rfl rfl rfl rfl rfl rfl (Q.ia Tryz.runUnderlying60 Tryz.sizeOf23 rfl rfl (by omega) (by omega)) ?_
            refine RG.q 9 hR rfl rfl rfl rfl rfl rfl (Q.ld Tryz.isAgg23 rfl (rdU (k := 0) rfl (by omega))) ?_
            refine RG.q 10 hR rfl rfl rfl rfl rfl rfl (Q.mv rfl) ?_
            refine RG.q 11 hR rfl rfl rfl rfl rfl rfl (Q.mv rfl) ?_
            refine RG.q 12 hR rfl rfl rfl rfl rfl rfl (Q.ia Tryz.runUnderlying60 Tryz.sizeOf23 rfl rfl (by omega) (by omega)) ?_
            refine RG.q 13 hR rfl rfl rfl rfl rfl rfl (Q.ld Tryz.isAgg23 rfl (rdU (k := 0) rfl (by omega))) ?_
            refine RG.q 14 hR rfl rfl rfl rfl rfl rfl (Q.ia Tryz.runUnderlying60 Tryz.sizeOf23 rfl rfl (by omega) (by omega)) ?_
            refine RG.barP 15 [2, 3, 4] hR rfl rfl rfl rfl rfl (by kernel_rfl) ⟨Free.q rfl rfl rfl (Q.mv rfl), ⟨Free.q rfl rfl rfl (Q.mv rfl), ⟨Free.q rfl rfl rfl (Q.sub64 rfl rfl (by omega)), trivial⟩⟩⟩ (C.stO 0 Tryz.sizeOf23 rfl rfl rfl rfl rfl (by first | (rw [avU_len]; omega) | (rw [List.length_set, avU_len]; omega))) ?_
            rintro _ _ ⟨rfl, rfl⟩
            refine RG.norm rfl ?_
            refine RG.q 16 hR rfl rfl rfl rfl rfl rfl (Q.ia Tryz.runUnderlying60 Tryz.sizeOf23 rfl rfl (by omega) (by omega)) ?_
            refine RG.barP 17 [] hR rfl rfl rfl rfl rfl (by kernel_rfl) trivial (C.stO 0 Tryz.sizeOf23 rfl rfl rfl rfl rfl (by first | (rw [avU_len]; omega) | (rw [List.length_set, avU_len]; omega))) ?_
            rintro _ _ ⟨rfl, rfl⟩
            refine RG.norm rfl ?_
            refine RG.fin hR rfl ?_
            refine J.norm rfl ?_
            refine J.blk_n ?_
            refine J.then_n ?_
            refine J.region ?_
            refine J.q rfl rfl (Q.mv rfl) ?_
            refine J.q rfl rfl (Q.sub64 rfl rfl (by omega)) ?_
            refine J.q rfl rfl (Q.asg rfl) ?_
            refine J.nil ?_
            have e1 : ((j : Int) - 1).toNat = j - 1 := by omega
            rw [Int.toNat_natCast, e1] at hc78
            refine J.conv (Y := rowU b off n c (swp d3 j (j - 1))) 0 rfl (swrU (by omega) (by omega)) ?_
            refine J.again (j - 1, swp d3 j (j - 1)) ⟨by show (swp d3 j (j - 1)).size = n; rw [szU_swp, g1], by show j - 1 < n; omega, by rw [← g2]; exact shiftDown_go (by omega) (by simpa using hc78)⟩ (by show j - 1 < j; omega) ⟨rfl, rfl, rfl, rfl, rfl, (by show some (Value.int .i64 ((j : Int) - 1)) = some (Value.int .i64 ((j - 1 : Nat) : Int)); congr 2; omega), trivial⟩ rfl
         replace hc65 := X.nm hc65
         try (first | (cases hc65; done) | (exfalso; simp at hc65; done))
         all_goals
          refine J.cond_f rfl ?_
          refine J.exit ?_
          refine J.then_x ?_
          refine J.lp_x ?_
          refine J.blk_x ?_
          first
            | (have hst : d3 = shiftDown ltU (I1 - 1) d2 := by
                 rw [← g2]
                 refine (shiftDown_stop ?_).symm
                 first
                   | (left; omega)
                   | (right; have e1 : ((j : Int) - 1).toNat = j - 1 := by omega
                      rw [Int.toNat_natCast, e1] at hc78; simpa using hc78)
               refine J.meet d3 ⟨g1, by rw [if_pos (by omega), hst, hd2]⟩ ⟨rfl, rfl, rfl, rfl, rfl, trivial⟩ rfl)
            | refine J.meet d2 ⟨h2, by rw [if_neg (by omega), hd2]⟩ ⟨rfl, rfl, rfl, rfl, rfl, trivial⟩ rfl
       replace hc61 := X.nm hc61
       try (first | (cases hc61; done) | (exfalso; simp at hc61; done))
       all_goals
        refine J.cond_f rfl ?_
        refine J.cskip ?_
        first
          | (have hst : d3 = shiftDown ltU (I1 - 1) d2 := by
               rw [← g2]
               refine (shiftDown_stop ?_).symm
               first
                 | (left; omega)
                 | (right; have e1 : ((j : Int) - 1).toNat = j - 1 := by omega
                    rw [Int.toNat_natCast, e1] at hc78; simpa using hc78)
             refine J.meet d3 ⟨g1, by rw [if_pos (by omega), hst, hd2]⟩ ⟨rfl, rfl, rfl, rfl, rfl, trivial⟩ rfl)
          | refine J.meet d2 ⟨h2, by rw [if_neg (by omega), hd2]⟩ ⟨rfl, rfl, rfl, rfl, rfl, trivial⟩ rfl
      obtain ⟨h3, hd3'⟩ := hd3
      refine J.seq ?_
      refine J.region ?_
      refine J.q rfl rfl (Q.mv rfl) ?_
      refine J.q rfl rfl (Q.mv rfl) ?_
      refine J.q rfl rfl (Q.sub64 rfl rfl (by omega)) ?_
      refine J.q rfl rfl (Q.geq rfl rfl) ?_
      refine J.nil ?_
      refine J.then_n ?_
      refine J.cases 98 rfl (fun hc98 => ?_) (fun hc98 => ?_)
      ·
       replace hc98 := X.nm hc98
       try (first | (cases hc98; done) | (exfalso; simp at hc98; done))
       all_goals
        refine J.cond_t rfl ?_
        refine J.seq ?_
        refine J.region ?_
        refine J.q rfl rfl (Q.mv rfl) ?_
        refine J.q rfl rfl (Q.add64 rfl rfl (by omega)) ?_
        refine J.q rfl rfl (Q.asg rfl) ?_
        refine J.nil ?_
        refine J.then_n ?_
        refine J.block ?_
        refine J.loop2 (fun (j : Nat) (d4 : Array Nat) => d4.size = n ∧ j ≤ e ∧ 1 ≤ j ∧ shiftUp ltU e j d4 = shiftUp ltU e (I1 + 1) d3) (fun j _ => e - j) (fun j _ => [(0, .slice (some ⟨b, off, none⟩) n c), (1, .int .i64 x), (2, .int .i64 e), (7, .int .i64 I1), (8, .int .i64 k), (10, .int .i64 j)]) (fun _ d4 => [rowU b off n c d4, F]) (I1 + 1) d3 ⟨h3, by omega, by omega, rfl⟩ ⟨rfl, rfl, rfl, rfl, rfl, rfl, trivial⟩ rfl fun j d4 hz => ?_
        obtain ⟨g1, g0, g00, g2⟩ := hz
        refine J.seq ?_
        refine J.seq ?_
        refine J.region ?_
        refine J.q rfl rfl (Q.mv rfl) ?_
        refine J.q rfl rfl (Q.mv rfl) ?_
        refine J.q rfl rfl (Q.lss rfl rfl) ?_
        refine J.nil ?_
        refine J.then_n ?_
        refine J.cases 103 rfl (fun hc103 => ?_) (fun hc103 => ?_)
        ·
         replace hc103 := X.nm hc103
         try (first | (cases hc103; done) | (exfalso; simp at hc103; done))
         all_goals
          refine J.cond_t rfl ?_
          refine J.cskip ?_
          refine J.then_n ?_
          refine J.seq ?_
          refine J.block ?_
          refine J.seq ?_
          refine J.seq ?_
          refine J.draw [9] Tryz.mixed (by kernel_rfl) fun hR => ?_
          refine RG.q 0 hR rfl rfl rfl rfl rfl rfl (Q.mv rfl) ?_
          refine RG.q 1 hR rfl rfl rfl rfl rfl rfl (Q.mv rfl) ?_
          refine RG.q 2 hR rfl rfl rfl rfl rfl rfl (Q.ia Tryz.runUnderlying60 Tryz.sizeOf23 rfl rfl (by omega) (by omega)) ?_
          refine RG.q 3 hR rfl rfl rfl rfl rfl rfl (Q.ld Tryz.isAgg23 rfl (rdU (k := 0) rfl (by omega))) ?_
          refine RG.q 4 hR rfl rfl rfl rfl rfl rfl (Q.mv rfl) ?_
          refine RG.q 5 hR rfl rfl rfl rfl rfl rfl (Q.mv rfl) ?_
          refine RG.q 6 hR rfl rfl rfl rfl rfl rfl (Q.sub64 rfl rfl (by omega)) ?_
          refine RG.q 7 hR rfl rfl rfl rfl rfl rfl (Q.ia Tryz.runUnderlying60 Tryz.sizeOf23 rfl rfl (by omega) (by omega)) ?_
          refine RG.q 8 hR rfl rfl rfl rfl rfl rfl (Q.ld Tryz.isAgg23 rfl (rdU (k := 0) rfl (by omega))) ?_
          refine RG.call 9 hR rfl rfl rfl rfl rfl rfl Tryz.call114 (lessU _ _) [] rfl rfl ?_
          rintro _ _ ⟨rfl, rfl⟩
          refine RG.norm rfl ?_
          refine RG.q 10 hR rfl rfl rfl rfl rfl rfl (Q.not rfl) ?_
          refine RG.fin hR rfl ?_
          refine J.norm rfl ?_
          refine J.then_n ?_
          refine J.cases 116 rfl (fun hc116 => ?_) (fun hc116 => ?_)
          ·
           replace hc116 := X.nm hc116
           try (first | (cases hc116; done) | (exfalso; simp at hc116; done))
           all_goals
            refine J.cond_t rfl ?_
            refine J.exit ?_
            refine J.then_x ?_
            refine J.blk_o rfl ?_
            refine J.then_x ?_
            refine J.lp_x ?_
            refine J.blk_x ?_
            refine J.blk_n ?_
            refine J.then_n ?_
            refine J.region ?_
            refine J.q rfl rfl (Q.mv rfl) ?_
            refine J.q rfl rfl (Q.add64 rfl rfl (by omega)) ?_
            refine J.q rfl rfl (Q.asg rfl) ?_
            refine J.nil ?_
            first
              | (have hst : d4 = shiftUp ltU e (I1 + 1) d3 := by
                   rw [← g2]
                   refine (shiftUp_stop ?_).symm
                   first
                     | (left; omega)
                     | (right; have e1 : ((j : Int) - 1).toNat = j - 1 := by omega
                        rw [Int.toNat_natCast, e1] at hc116; simpa using hc116)
                 have hfin := hq d3 d4 hd3' (by rw [if_pos (by omega), hst])
                 rw [if_neg (by omega), if_neg (by omega)] at hfin
                 refine J.again (k + 1, I1, d4) ⟨g1, by show k + 1 ≤ 5; omega, hI3, hI2, by show partialIns ltU x e (5 - (k + 1)) I1 d4 = _; rw [← k5, hfin, show 5 - (k + 1) = s from by omega]⟩ (by show 5 - (k + 1) < 5 - k; omega) ⟨rfl, rfl, rfl, rfl, rfl, trivial⟩ rfl)
              | (have hfin := hq d3 d3 hd3' (by rw [if_neg (by omega)])
                 rw [if_neg (by omega), if_neg (by omega)] at hfin
                 refine J.again (k + 1, I1, d3) ⟨h3, by show k + 1 ≤ 5; omega, hI3, hI2, by show partialIns ltU x e (5 - (k + 1)) I1 d3 = _; rw [← k5, hfin, show 5 - (k + 1) = s from by omega]⟩ (by show 5 - (k + 1) < 5 - k; omega) ⟨rfl, rfl, rfl, rfl, rfl, trivial⟩ rfl)
          replace hc116 := X.nm hc116
          try (first | (cases hc116; done) | (exfalso; simp at hc116; done))
          all_goals
           refine J.cond_f rfl ?_
           refine J.cskip ?_
           refine J.then_n ?_
           refine J.draw [15, 17] Tryz.mixed (by kernel_rfl) fun hR => ?_
           refine RG.q 0 hR rfl rfl rfl rfl rfl rfl (Q.mv rfl) ?_
           refine RG.q 1 hR rfl rfl rfl rfl rfl rfl (Q.mv rfl) ?_
           refine RG.q 2 hR rfl rfl rfl rfl rfl rfl (Q.mv rfl) ?_
           refine RG.q 3 hR rfl rfl rfl rfl rfl rfl (Q.mv rfl) ?_
           refine RG.q 4 hR rfl rfl rfl rfl rfl rfl (Q.sub64 rfl rfl (by omega)) ?_
           refine RG.q 5 hR rfl rfl rfl rfl rfl rfl (Q.mv rfl) ?_
           refine RG.q 6 hR rfl rfl rfl rfl rfl rfl (Q.mv rfl) ?_
           refine RG.q 7 hR rfl rfl rfl rfl rfl rfl (Q.sub64 rfl rfl (by omega)) ?_
           refine RG.q 8 hR rfl rfl rfl rfl rfl rfl (Q.ia Tryz.runUnderlying60 Tryz.sizeOf23 rfl rfl (by omega) (by omega)) ?_
           refine RG.q 9 hR rfl rfl rfl rfl rfl rfl (Q.ld Tryz.isAgg23 rfl (rdU (k := 0) rfl (by omega))) ?_
           refine RG.q 10 hR rfl rfl rfl rfl rfl rfl (Q.mv rfl) ?_
           refine RG.q 11 hR rfl rfl rfl rfl rfl rfl (Q.mv rfl) ?_
           refine RG.q 12 hR rfl rfl rfl rfl rfl rfl (Q.ia Tryz.runUnderlying60 Tryz.sizeOf23 rfl rfl (by omega) (by omega)) ?_
           refine RG.q 13 hR rfl rfl rfl rfl rfl rfl (Q.ld Tryz.isAgg23 rfl (rdU (k := 0) rfl (by omega))) ?_
           refine RG.q 14 hR rfl rfl rfl rfl rfl rfl (Q.ia Tryz.runUnderlying60 Tryz.sizeOf23 rfl rfl (by omega) (by omega)) ?_
           refine RG.barP 15 [2, 3, 4] hR rfl rfl rfl rfl rfl (by kernel_rfl) ⟨Free.q rfl rfl rfl (Q.mv rfl), ⟨Free.q rfl rfl rfl (Q.mv rfl), ⟨Free.q rfl rfl rfl (Q.sub64 rfl rfl (by omega)), trivial⟩⟩⟩ (C.stO 0 Tryz.sizeOf23 rfl rfl rfl rfl rfl (by first | (rw [avU_len]; omega) | (rw [List.length_set, avU_len]; omega))) ?_
           rintro _ _ ⟨rfl, rfl⟩
           refine RG.norm rfl ?_
           refine RG.q 16 hR rfl rfl rfl rfl rfl rfl (Q.ia Tryz.runUnderlying60 Tryz.sizeOf23 rfl rfl (by omega) (by omega)) ?_
           refine RG.barP 17 [] hR rfl rfl rfl rfl rfl (by kernel_rfl) trivial (C.stO 0 Tryz.sizeOf23 rfl rfl rfl rfl rfl (by first | (rw [avU_len]; omega) | (rw [List.length_set, avU_len]; omega))) ?_
           rintro _ _ ⟨rfl, rfl⟩
           refine RG.norm rfl ?_
           refine RG.fin hR rfl ?_
           refine J.norm rfl ?_
           refine J.blk_n ?_
           refine J.then_n ?_
           refine J.region ?_
           refine J.q rfl rfl (Q.mv rfl) ?_
           refine J.q rfl rfl (Q.add64 rfl rfl (by omega)) ?_
           refine J.q rfl rfl (Q.asg rfl) ?_
           refine J.nil ?_
           have e1 : ((j : Int) - 1).toNat = j - 1 := by omega
           rw [Int.toNat_natCast, e1] at hc116
           refine J.conv (Y := rowU b off n c (swp d4 j (j - 1))) 0 rfl (swrU (by omega) (by omega)) ?_
           refine J.again (j + 1, swp d4 j (j - 1)) ⟨by show (swp d4 j (j - 1)).size = n; rw [szU_swp, g1], by show j + 1 ≤ e; omega, by show 1 ≤ j + 1; omega, by rw [← g2]; exact shiftUp_go (by omega) (by simpa using hc116)⟩ (by show e - (j + 1) < e - j; omega) ⟨rfl, rfl, rfl, rfl, rfl, rfl, trivial⟩ rfl
        replace hc103 := X.nm hc103
        try (first | (cases hc103; done) | (exfalso; simp at hc103; done))
        all_goals
         refine J.cond_f rfl ?_
         refine J.exit ?_
         refine J.then_x ?_
         refine J.lp_x ?_
         refine J.blk_x ?_
         refine J.blk_n ?_
         refine J.then_n ?_
         refine J.region ?_
         refine J.q rfl rfl (Q.mv rfl) ?_
         refine J.q rfl rfl (Q.add64 rfl rfl (by omega)) ?_
         refine J.q rfl rfl (Q.asg rfl) ?_
         refine J.nil ?_
         first
           | (have hst : d4 = shiftUp ltU e (I1 + 1) d3 := by
                rw [← g2]
                refine (shiftUp_stop ?_).symm
                first
                  | (left; omega)
                  | (right; have e1 : ((j : Int) - 1).toNat = j - 1 := by omega
                     rw [Int.toNat_natCast, e1] at hc116; simpa using hc116)
              have hfin := hq d3 d4 hd3' (by rw [if_pos (by omega), hst])
              rw [if_neg (by omega), if_neg (by omega)] at hfin
              refine J.again (k + 1, I1, d4) ⟨g1, by show k + 1 ≤ 5; omega, hI3, hI2, by show partialIns ltU x e (5 - (k + 1)) I1 d4 = _; rw [← k5, hfin, show 5 - (k + 1) = s from by omega]⟩ (by show 5 - (k + 1) < 5 - k; omega) ⟨rfl, rfl, rfl, rfl, rfl, trivial⟩ rfl)
           | (have hfin := hq d3 d3 hd3' (by rw [if_neg (by omega)])
              rw [if_neg (by omega), if_neg (by omega)] at hfin
              refine J.again (k + 1, I1, d3) ⟨h3, by show k + 1 ≤ 5; omega, hI3, hI2, by show partialIns ltU x e (5 - (k + 1)) I1 d3 = _; rw [← k5, hfin, show 5 - (k + 1) = s from by omega]⟩ (by show 5 - (k + 1) < 5 - k; omega) ⟨rfl, rfl, rfl, rfl, rfl, trivial⟩ rfl)
      replace hc98 := X.nm hc98
      try (first | (cases hc98; done) | (exfalso; simp at hc98; done))
      all_goals
       refine J.cond_f rfl ?_
       refine J.cskip ?_
       refine J.blk_n ?_
       refine J.then_n ?_
       refine J.region ?_
       refine J.q rfl rfl (Q.mv rfl) ?_
       refine J.q rfl rfl (Q.add64 rfl rfl (by omega)) ?_
       refine J.q rfl rfl (Q.asg rfl) ?_
       refine J.nil ?_
       first
         | (have hst : d4 = shiftUp ltU e (I1 + 1) d3 := by
              rw [← g2]
              refine (shiftUp_stop ?_).symm
              first
                | (left; omega)
                | (right; have e1 : ((j : Int) - 1).toNat = j - 1 := by omega
                   rw [Int.toNat_natCast, e1] at hc116; simpa using hc116)
            have hfin := hq d3 d4 hd3' (by rw [if_pos (by omega), hst])
            rw [if_neg (by omega), if_neg (by omega)] at hfin
            refine J.again (k + 1, I1, d4) ⟨g1, by show k + 1 ≤ 5; omega, hI3, hI2, by show partialIns ltU x e (5 - (k + 1)) I1 d4 = _; rw [← k5, hfin, show 5 - (k + 1) = s from by omega]⟩ (by show 5 - (k + 1) < 5 - k; omega) ⟨rfl, rfl, rfl, rfl, rfl, trivial⟩ rfl)
         | (have hfin := hq d3 d3 hd3' (by rw [if_neg (by omega)])
            rw [if_neg (by omega), if_neg (by omega)] at hfin
            refine J.again (k + 1, I1, d3) ⟨h3, by show k + 1 ≤ 5; omega, hI3, hI2, by show partialIns ltU x e (5 - (k + 1)) I1 d3 = _; rw [← k5, hfin, show 5 - (k + 1) = s from by omega]⟩ (by show 5 - (k + 1) < 5 - k; omega) ⟨rfl, rfl, rfl, rfl, rfl, trivial⟩ rfl)
  replace hc14 := X.nm hc14
  try (first | (cases hc14; done) | (exfalso; simp at hc14; done))
  all_goals
   refine J.cond_f rfl ?_
   refine J.exit ?_
   refine J.then_x ?_
   refine J.lp_x ?_
   refine J.blk_x ?_
   refine J.then_n ?_
   refine J.seq ?_
   refine J.region ?_
   refine J.q rfl rfl (Q.asg rfl) ?_
   refine J.nil ?_
   refine J.then_n ?_
   refine J.cret ?_
   have hk5 : k = 5 := by omega
   subst hk5
   have hfin : partialInsertionSort ltU d x e = (d1, false) := by rw [← k5]; rfl
   rw [hfin]
   refine J.ret1 (B := [_]) rfl rfl ⟨rfl, rfl⟩ rfl
end Go.Proofs.YtdancegklkifaaaGreat
namespace Go.Proofs.YtdancegklkifaaaGreat
set_option linter.unusedSectionVars false
set_option linter.unusedSimpArgs false
set_option linter.unusedVariables false
open Go.X
open Go.Sort (bitsLen)

def bitsTab : List UInt8 := (List.range 256).map fun i => UInt8.ofNat (bitsLen i)
theorem bitsLen_256 {i : Nat} (h : i < 256) : bitsLen i ≤ 8 := (Go.Sort.bitsLen_le_iff i 8).2 (by omega)
theorem idx256 {s : ByteArray} (h : s.data.toList = bitsTab) {i : Int} (h0 : 0 ≤ i) (h1 : i < 256) : s.data.toList[i.toNat]? = some (UInt8.ofNat (bitsLen i.toNat)) := by
  rw [h]; unfold bitsTab
  rw [List.getElem?_map, List.getElem?_range (by omega)]; rfl
theorem u8_bits {i : Nat} (h : i < 256) : (UInt8.ofNat (bitsLen i)).toNat = bitsLen i := by
  have := bitsLen_256 h
  simp; omega
theorem bitsLen_iff2 {n k : Nat} : n < 2 ^ k ↔ bitsLen n ≤ k := (Go.Sort.bitsLen_le_iff n k).symm
theorem bitsLen_shift {n c : Nat} (h : 2 ^ c ≤ n) : bitsLen n = c + bitsLen (n / 2 ^ c) := by
  have key : ∀ k, bitsLen n ≤ c + k ↔ bitsLen (n / 2 ^ c) ≤ k := fun k => by
    rw [← bitsLen_iff2, ← bitsLen_iff2, Nat.pow_add, Nat.div_lt_iff_lt_mul (Nat.two_pow_pos c), Nat.mul_comm]
  have h1 := (key (bitsLen (n / 2 ^ c))).2 (Nat.le_refl _)
  have h2 : c ≤ bitsLen n := by
    rcases Nat.lt_or_ge (bitsLen n) c with q | q
    · have := bitsLen_iff2.2 (Nat.le_of_lt q); omega
    · exact q
  have h3 := (key (bitsLen n - c)).1 (by omega)
  omega

theorem andLe (z : Int) (M : Nat) (h0 : 0 < M) (h1 : M < 18446744073709551616) : ∃ r : Nat, r < M ∧ IntKind.u64.wrap ((BitVec.ofInt IntKind.u64.bits z &&& BitVec.ofInt IntKind.u64.bits (IntKind.u64.wrap ((M : Int) - 1))).toNat : Int) = (r : Int) := by
  have e1 : (M : Int) - 1 = ((M - 1 : Nat) : Int) := by omega
  have ew : IntKind.u64.wrap ((M - 1 : Nat) : Int) = ((M - 1 : Nat) : Int) := wrap64 (by omega)
  rw [e1, ew]
  have e2 : (BitVec.ofInt IntKind.u64.bits ((M - 1 : Nat) : Int)).toNat = M - 1 := by
    rw [BitVec.ofInt_natCast, BitVec.toNat_ofNat]
    exact Nat.mod_eq_of_lt (by show M - 1 < 2 ^ 64; omega)
  have h2 : (BitVec.ofInt IntKind.u64.bits z &&& BitVec.ofInt IntKind.u64.bits ((M - 1 : Nat) : Int)).toNat ≤ M - 1 := by
    rw [BitVec.toNat_and, e2]; exact Nat.and_le_right
  exact ⟨_, by omega, wrap64 (by omega)⟩

theorem len64 (n : Nat) (hn : n < 65536) : FSpec Tryz.prog 107 [.int .u64 n] [] (fun v B => v = .int .i64 (bitsLen n : Nat) ∧ B = []) := by
  refine FSpec.of Tryz.func107 rfl Tryz.ntmps107 rfl fun W0 F => ?_
  refine J.seq ?_
  refine J.region ?_
  refine J.q rfl rfl (Q.asg rfl) ?_
  refine J.nil ?_
  refine J.then_n ?_
  refine J.seq ?_
  refine J.seq ?_
  refine J.region ?_
  refine J.q rfl rfl (Q.mv rfl) ?_
  refine J.q rfl rfl (Q.geq rfl rfl) ?_
  refine J.nil ?_
  refine J.then_n ?_
  refine J.cases 4 rfl (fun hc4 => ?_) (fun hc4 => ?_)
  ·
    exfalso; simp at hc4; omega
  ·
    first | replace hc4 := X.tt_dec hc4 | replace hc4 := X.tt_not hc4 | replace hc4 := X.ff_dec hc4 | replace hc4 := X.ff_not hc4 | skip
    try (first | (cases hc4; done) | (exfalso; simp at hc4; done))
    all_goals
      refine J.cond_f rfl ?_
      refine J.cskip ?_
      refine J.then_n ?_
      refine J.seq ?_
      refine J.seq ?_
      refine J.region ?_
      refine J.q rfl rfl (Q.mv rfl) ?_
      refine J.q rfl rfl (Q.geq rfl rfl) ?_
      refine J.nil ?_
      refine J.then_n ?_
      refine J.cases 8 rfl (fun hc8 => ?_) (fun hc8 => ?_)
      ·
        exfalso; simp at hc8; omega
      ·
        first | replace hc8 := X.tt_dec hc8 | replace hc8 := X.tt_not hc8 | replace hc8 := X.ff_dec hc8 | replace hc8 := X.ff_not hc8 | skip
        try (first | (cases hc8; done) | (exfalso; simp at hc8; done))
        all_goals
          refine J.cond_f rfl ?_
          refine J.cskip ?_
          refine J.then_n ?_
          refine J.cut (fun z : Nat × Nat => z.1 < 256 ∧ z.2 ≤ 8 ∧ bitsLen n = z.2 + bitsLen z.1) (fun z => [(0, .int .u64 z.1), (2, .int .i64 z.2)]) (fun _ => [F]) ?_ fun z hz => ?_
          ·
            refine J.seq ?_
            refine J.region ?_
            refine J.q rfl rfl (Q.mv rfl) ?_
            refine J.q rfl rfl (Q.geq rfl rfl) ?_
            refine J.nil ?_
            refine J.then_n ?_
            refine J.cases 14 rfl (fun hc14 => ?_) (fun hc14 => ?_)
            ·
              first | replace hc14 := X.tt_dec hc14 | replace hc14 := X.tt_not hc14 | replace hc14 := X.ff_dec hc14 | replace hc14 := X.ff_not hc14 | skip
              try (first | (cases hc14; done) | (exfalso; simp at hc14; done))
              all_goals
                refine J.cond_t rfl ?_
                refine J.seq ?_
                refine J.region ?_
                refine J.q rfl rfl (Q.mv rfl) ?_
                refine J.q rfl rfl (Q.shr rfl rfl (by omega)) ?_
                refine J.slot 16 (.int .u64 ((n / 256 : Nat) : Int)) rfl (by congr 1; rw [Int.fdiv_eq_ediv_of_nonneg _ (by decide)]; show (n : Int) / 2 ^ 8 = _; omega) ?_
                refine J.q rfl rfl (Q.asg rfl) ?_
                refine J.nil ?_
                refine J.then_n ?_
                refine J.region ?_
                refine J.q rfl rfl (Q.mv rfl) ?_
                refine J.q rfl rfl (Q.add64 rfl rfl (by omega)) ?_
                refine J.q rfl rfl (Q.asg rfl) ?_
                refine J.nil ?_
                first
                  | refine J.meet (n / 256, 8) ⟨by show n / 256 < 256; omega, Nat.le_refl _, bitsLen_shift (c := 8) (by omega)⟩ ⟨rfl, rfl, trivial⟩ rfl
                  | refine J.meet (n, 0) ⟨by show n < 256; omega, Nat.zero_le _, (Nat.zero_add _).symm⟩ ⟨rfl, rfl, trivial⟩ rfl
            ·
              first | replace hc14 := X.tt_dec hc14 | replace hc14 := X.tt_not hc14 | replace hc14 := X.ff_dec hc14 | replace hc14 := X.ff_not hc14 | skip
              try (first | (cases hc14; done) | (exfalso; simp at hc14; done))
              all_goals
                refine J.cond_f rfl ?_
                refine J.cskip ?_
                first
                  | refine J.meet (n / 256, 8) ⟨by show n / 256 < 256; omega, Nat.le_refl _, bitsLen_shift (c := 8) (by omega)⟩ ⟨rfl, rfl, trivial⟩ rfl
                  | refine J.meet (n, 0) ⟨by show n < 256; omega, Nat.zero_le _, (Nat.zero_add _).symm⟩ ⟨rfl, rfl, trivial⟩ rfl
          ·
            obtain ⟨m, c⟩ := z
            obtain ⟨hm, hc, hb⟩ := hz
            dsimp only at hm hc hb
            have hb8 := bitsLen_256 hm
            refine J.seq ?_
            refine J.region ?_
            refine J.q rfl rfl (Q.mv rfl) ?_
            refine J.q rfl rfl (Q.mv rfl) ?_
            refine J.q rfl rfl (Q.conv Tryz.runUnderlying23 Tryz.runUnderlying5 rfl) ?_
            refine J.slot 21 (.int .u8 (m : Int)) rfl (by congr 1; show IntKind.u8.wrap (m : Int) = m; rw [wrap8, Nat.mod_eq_of_lt hm]) ?_
            refine J.q rfl rfl (Q.idxs Tryz.runUnderlying9 rfl rfl (by omega) (idx256 (by kernel_rfl) (by omega) (by omega))) ?_
            refine J.slot 22 (.int .u8 (bitsLen m : Nat)) rfl (by congr 1; rw [Int.toNat_natCast, u8_bits hm]) ?_
            refine J.q rfl rfl (Q.conv64 Tryz.runUnderlying5 Tryz.runUnderlying3 rfl (by omega)) ?_
            refine J.q rfl rfl (Q.add64 rfl rfl (by omega)) ?_
            refine J.q rfl rfl (Q.asg rfl) ?_
            refine J.nil ?_
            refine J.then_n ?_
            refine J.cret ?_
            refine J.ret1 (B := []) rfl rfl ⟨?_, rfl⟩ rfl
            rw [hb]; congr 1
theorem len (n : Nat) (hn : n < 65536) : FSpec Tryz.prog 88 [.int .u64 n] [] (fun v B => v = .int .i64 (bitsLen n : Nat) ∧ B = []) := by
  refine FSpec.of Tryz.func88 rfl Tryz.ntmps88 rfl fun W0 F => ?_
  refine J.seq ?_
  refine J.region ?_
  refine J.q rfl rfl (Q.asg rfl) ?_
  refine J.nil ?_
  refine J.then_n ?_
  refine J.seq ?_
  refine J.cond_f rfl ?_
  refine J.cskip ?_
  refine J.then_n ?_
  refine J.seq ?_
  refine J.region ?_
  refine J.q rfl rfl (Q.mv rfl) ?_
  refine J.call Tryz.call107 (len64 n hn) [] rfl rfl rfl rfl ?_
  rintro _ _ ⟨rfl, rfl⟩
  refine J.norm rfl ?_
  refine J.q rfl rfl (Q.asg rfl) ?_
  refine J.nil ?_
  refine J.then_n ?_
  refine J.cret ?_
  refine J.keep [0] rfl ?_
  refine J.ret1 (B := []) rfl rfl ⟨rfl, rfl⟩ rfl
theorem npow (n : Nat) (hn : n < 65536) : FSpec Tryz.prog 128 [.int .i64 n] [] (fun v B => v = .int .u64 ((2 ^ bitsLen n : Nat) : Int) ∧ B = []) := by
  refine FSpec.of Tryz.func128 rfl Tryz.ntmps128 rfl fun W0 F => ?_
  refine J.seq ?_
  refine J.region ?_
  refine J.q rfl rfl (Q.asg rfl) ?_
  refine J.nil ?_
  refine J.then_n ?_
  refine J.seq ?_
  refine J.region ?_
  refine J.q rfl rfl (Q.mv rfl) ?_
  refine J.q rfl rfl (Q.conv Tryz.runUnderlying3 Tryz.runUnderlying110 rfl) ?_
  rw [show IntKind.u64.wrap (n : Int) = (n : Int) from wrap64 (by omega)]
  refine J.call Tryz.call88 (len n hn) [] rfl rfl rfl rfl ?_
  rintro _ _ ⟨rfl, rfl⟩
  refine J.norm rfl ?_
  refine J.q rfl rfl (Q.shl rfl rfl (by omega)) ?_
  refine J.q rfl rfl (Q.asg rfl) ?_
  refine J.nil ?_
  refine J.then_n ?_
  refine J.cret ?_
  refine J.keep [0] rfl ?_
  refine J.ret1 (B := []) rfl rfl ⟨?_, rfl⟩ rfl
  have hb : bitsLen n ≤ 16 := (Go.Sort.bitsLen_le_iff n 16).2 (by omega)
  congr 1
  rw [Int.toNat_natCast, show min (bitsLen n) IntKind.u64.bits = bitsLen n from Nat.min_eq_left (by show bitsLen n ≤ 64; omega)]
  have h2 : (2 : Nat) ^ bitsLen n ≤ 2 ^ 16 := Nat.pow_le_pow_right (by decide) hb
  rw [Int.one_mul, ← wrap64 (n := 2 ^ bitsLen n) (by omega)]
  push_cast
  rfl
theorem xor_next (b : Nat) (z : Int) : FSpec Tryz.prog 129 [.pointer (some ⟨b, 0, none⟩)] [pt b (.cells [.int .u64 z].toArray 160 (0, 0))] (fun v B => ∃ z' : Int, v = .int .u64 z' ∧ B = [pt b (.cells [.int .u64 z'].toArray 160 (0, 0))]) := by
  refine FSpec.of Tryz.func129 rfl Tryz.ntmps129 rfl fun W0 F => ?_
  refine J.seq ?_
  refine J.region ?_
  refine J.q rfl rfl (Q.asg rfl) ?_
  refine J.nil ?_
  refine J.then_n ?_
  refine J.seq ?_
  refine J.draw [9] Tryz.mixed (by kernel_rfl) fun hR => ?_
  refine RG.q 0 hR rfl rfl rfl rfl rfl rfl (Q.mv rfl) ?_
  refine RG.q 1 hR rfl rfl rfl rfl rfl rfl (Q.nil_ rfl) ?_
  refine RG.q 2 hR rfl rfl rfl rfl rfl rfl (Q.ld Tryz.isAgg160 rfl (by first | exact Reads.pt 0 rfl rfl | exact Reads.pt 1 rfl rfl | exact Reads.pt 2 rfl rfl | exact Reads.pt 3 rfl rfl | exact Reads.pt 4 rfl rfl | exact Reads.pt 5 rfl rfl | exact Reads.pt 6 rfl rfl | exact Reads.pt 7 rfl rfl | exact Reads.pt 8 rfl rfl | exact Reads.pt 9 rfl rfl | exact Reads.pt 10 rfl rfl | exact Reads.pt 11 rfl rfl | exact Reads.pt 12 rfl rfl | exact Reads.pt 13 rfl rfl)) ?_
  refine RG.q 3 hR rfl rfl rfl rfl rfl rfl (Q.mv rfl) ?_
  refine RG.q 4 hR rfl rfl rfl rfl rfl rfl (Q.nil_ rfl) ?_
  refine RG.q 5 hR rfl rfl rfl rfl rfl rfl (Q.ld Tryz.isAgg160 rfl (by first | exact Reads.pt 0 rfl rfl | exact Reads.pt 1 rfl rfl | exact Reads.pt 2 rfl rfl | exact Reads.pt 3 rfl rfl | exact Reads.pt 4 rfl rfl | exact Reads.pt 5 rfl rfl | exact Reads.pt 6 rfl rfl | exact Reads.pt 7 rfl rfl | exact Reads.pt 8 rfl rfl | exact Reads.pt 9 rfl rfl | exact Reads.pt 10 rfl rfl | exact Reads.pt 11 rfl rfl | exact Reads.pt 12 rfl rfl | exact Reads.pt 13 rfl rfl)) ?_
  refine RG.q 6 hR rfl rfl rfl rfl rfl rfl (Q.shl rfl rfl (by omega)) ?_
  refine RG.q 7 hR rfl rfl rfl rfl rfl rfl (Q.xor rfl rfl) ?_
  refine RG.q 8 hR rfl rfl rfl rfl rfl rfl (Q.nil_ rfl) ?_
  first | refine RG.st 9 (j := 0) hR rfl rfl rfl rfl rfl Tryz.sizeOf160 rfl rfl rfl rfl rfl rfl rfl ?_ | refine RG.st 9 (j := 1) hR rfl rfl rfl rfl rfl Tryz.sizeOf160 rfl rfl rfl rfl rfl rfl rfl ?_ | refine RG.st 9 (j := 2) hR rfl rfl rfl rfl rfl Tryz.sizeOf160 rfl rfl rfl rfl rfl rfl rfl ?_ | refine RG.st 9 (j := 3) hR rfl rfl rfl rfl rfl Tryz.sizeOf160 rfl rfl rfl rfl rfl rfl rfl ?_ | refine RG.st 9 (j := 4) hR rfl rfl rfl rfl rfl Tryz.sizeOf160 rfl rfl rfl rfl rfl rfl rfl ?_ | refine RG.st 9 (j := 5) hR rfl rfl rfl rfl rfl Tryz.sizeOf160 rfl rfl rfl rfl rfl rfl rfl ?_ | refine RG.st 9 (j := 6) hR rfl rfl rfl rfl rfl Tryz.sizeOf160 rfl rfl rfl rfl rfl rfl rfl ?_ | refine RG.st 9 (j := 7) hR rfl rfl rfl rfl rfl Tryz.sizeOf160 rfl rfl rfl rfl rfl rfl rfl ?_ | refine RG.st 9 (j := 8) hR rfl rfl rfl rfl rfl Tryz.sizeOf160 rfl rfl rfl rfl rfl rfl rfl ?_ | refine RG.st 9 (j := 9) hR rfl rfl rfl rfl rfl Tryz.sizeOf160 rfl rfl rfl rfl rfl rfl rfl ?_ | refine RG.st 9 (j := 10) hR rfl rfl rfl rfl rfl Tryz.sizeOf160 rfl rfl rfl rfl rfl rfl rfl ?_ | refine RG.st 9 (j := 11) hR rfl rfl rfl rfl rfl Tryz.sizeOf160 rfl rfl rfl rfl rfl rfl rfl ?_ | refine RG.st 9 (j := 12) hR rfl rfl rfl rfl rfl Tryz.sizeOf160 rfl rfl rfl rfl rfl rfl rfl ?_ | refine RG.st 9 (j := 13) hR rfl rfl rfl rfl rfl Tryz.sizeOf160 rfl rfl rfl rfl rfl rfl rfl ?_ | refine RG.st 9 (j := 14) hR rfl rfl rfl rfl rfl Tryz.sizeOf160 rfl rfl rfl rfl rfl rfl rfl ?_ | refine RG.st 9 (j := 15) hR rfl rfl rfl rfl rfl Tryz.sizeOf160 rfl rfl rfl rfl rfl rfl rfl ?_
  refine RG.fin hR rfl ?_
  refine J.norm rfl ?_
  refine J.then_n ?_
  refine J.seq ?_
  refine J.draw [9] Tryz.mixed (by kernel_rfl) fun hR => ?_
  refine RG.q 0 hR rfl rfl rfl rfl rfl rfl (Q.mv rfl) ?_
  refine RG.q 1 hR rfl rfl rfl rfl rfl rfl (Q.nil_ rfl) ?_
  refine RG.q 2 hR rfl rfl rfl rfl rfl rfl (Q.ld Tryz.isAgg160 rfl (by first | exact Reads.pt 0 rfl rfl | exact Reads.pt 1 rfl rfl | exact Reads.pt 2 rfl rfl | exact Reads.pt 3 rfl rfl | exact Reads.pt 4 rfl rfl | exact Reads.pt 5 rfl rfl | exact Reads.pt 6 rfl rfl | exact Reads.pt 7 rfl rfl | exact Reads.pt 8 rfl rfl | exact Reads.pt 9 rfl rfl | exact Reads.pt 10 rfl rfl | exact Reads.pt 11 rfl rfl | exact Reads.pt 12 rfl rfl | exact Reads.pt 13 rfl rfl)) ?_
  refine RG.q 3 hR rfl rfl rfl rfl rfl rfl (Q.mv rfl) ?_
  refine RG.q 4 hR rfl rfl rfl rfl rfl rfl (Q.nil_ rfl) ?_
  refine RG.q 5 hR rfl rfl rfl rfl rfl rfl (Q.ld Tryz.isAgg160 rfl (by first | exact Reads.pt 0 rfl rfl | exact Reads.pt 1 rfl rfl | exact Reads.pt 2 rfl rfl | exact Reads.pt 3 rfl rfl | exact Reads.pt 4 rfl rfl | exact Reads.pt 5 rfl rfl | exact Reads.pt 6 rfl rfl | exact Reads.pt 7 rfl rfl | exact Reads.pt 8 rfl rfl | exact Reads.pt 9 rfl rfl | exact Reads.pt 10 rfl rfl | exact Reads.pt 11 rfl rfl | exact Reads.pt 12 rfl rfl | exact Reads.pt 13 rfl rfl)) ?_
  refine RG.q 6 hR rfl rfl rfl rfl rfl rfl (Q.shr rfl rfl (by omega)) ?_
  refine RG.q 7 hR rfl rfl rfl rfl rfl rfl (Q.xor rfl rfl) ?_
  refine RG.q 8 hR rfl rfl rfl rfl rfl rfl (Q.nil_ rfl) ?_
  first | refine RG.st 9 (j := 0) hR rfl rfl rfl rfl rfl Tryz.sizeOf160 rfl rfl rfl rfl rfl rfl rfl ?_ | refine RG.st 9 (j := 1) hR rfl rfl rfl rfl rfl Tryz.sizeOf160 rfl rfl rfl rfl rfl rfl rfl ?_ | refine RG.st 9 (j := 2) hR rfl rfl rfl rfl rfl Tryz.sizeOf160 rfl rfl rfl rfl rfl rfl rfl ?_ | refine RG.st 9 (j := 3) hR rfl rfl rfl rfl rfl Tryz.sizeOf160 rfl rfl rfl rfl rfl rfl rfl ?_ | refine RG.st 9 (j := 4) hR rfl rfl rfl rfl rfl Tryz.sizeOf160 rfl rfl rfl rfl rfl rfl rfl ?_ | refine RG.st 9 (j := 5) hR rfl rfl rfl rfl rfl Tryz.sizeOf160 rfl rfl rfl rfl rfl rfl rfl ?_ | refine RG.st 9 (j := 6) hR rfl rfl rfl rfl rfl Tryz.sizeOf160 rfl rfl rfl rfl rfl rfl rfl ?_ | refine RG.st 9 (j := 7) hR rfl rfl rfl rfl rfl Tryz.sizeOf160 rfl rfl rfl rfl rfl rfl rfl ?_ | refine RG.st 9 (j := 8) hR rfl rfl rfl rfl rfl Tryz.sizeOf160 rfl rfl rfl rfl rfl rfl rfl ?_ | refine RG.st 9 (j := 9) hR rfl rfl rfl rfl rfl Tryz.sizeOf160 rfl rfl rfl rfl rfl rfl rfl ?_ | refine RG.st 9 (j := 10) hR rfl rfl rfl rfl rfl Tryz.sizeOf160 rfl rfl rfl rfl rfl rfl rfl ?_ | refine RG.st 9 (j := 11) hR rfl rfl rfl rfl rfl Tryz.sizeOf160 rfl rfl rfl rfl rfl rfl rfl ?_ | refine RG.st 9 (j := 12) hR rfl rfl rfl rfl rfl Tryz.sizeOf160 rfl rfl rfl rfl rfl rfl rfl ?_ | refine RG.st 9 (j := 13) hR rfl rfl rfl rfl rfl Tryz.sizeOf160 rfl rfl rfl rfl rfl rfl rfl ?_ | refine RG.st 9 (j := 14) hR rfl rfl rfl rfl rfl Tryz.sizeOf160 rfl rfl rfl rfl rfl rfl rfl ?_ | refine RG.st 9 (j := 15) hR rfl rfl rfl rfl rfl Tryz.sizeOf160 rfl rfl rfl rfl rfl rfl rfl ?_
  refine RG.fin hR rfl ?_
  refine J.norm rfl ?_
  refine J.then_n ?_
  refine J.seq ?_
  refine J.draw [9] Tryz.mixed (by kernel_rfl) fun hR => ?_
  refine RG.q 0 hR rfl rfl rfl rfl rfl rfl (Q.mv rfl) ?_
  refine RG.q 1 hR rfl rfl rfl rfl rfl rfl (Q.nil_ rfl) ?_
  refine RG.q 2 hR rfl rfl rfl rfl rfl rfl (Q.ld Tryz.isAgg160 rfl (by first | exact Reads.pt 0 rfl rfl | exact Reads.pt 1 rfl rfl | exact Reads.pt 2 rfl rfl | exact Reads.pt 3 rfl rfl | exact Reads.pt 4 rfl rfl | exact Reads.pt 5 rfl rfl | exact Reads.pt 6 rfl rfl | exact Reads.pt 7 rfl rfl | exact Reads.pt 8 rfl rfl | exact Reads.pt 9 rfl rfl | exact Reads.pt 10 rfl rfl | exact Reads.pt 11 rfl rfl | exact Reads.pt 12 rfl rfl | exact Reads.pt 13 rfl rfl)) ?_
  refine RG.q 3 hR rfl rfl rfl rfl rfl rfl (Q.mv rfl) ?_
  refine RG.q 4 hR rfl rfl rfl rfl rfl rfl (Q.nil_ rfl) ?_
  refine RG.q 5 hR rfl rfl rfl rfl rfl rfl (Q.ld Tryz.isAgg160 rfl (by first | exact Reads.pt 0 rfl rfl | exact Reads.pt 1 rfl rfl | exact Reads.pt 2 rfl rfl | exact Reads.pt 3 rfl rfl | exact Reads.pt 4 rfl rfl | exact Reads.pt 5 rfl rfl | exact Reads.pt 6 rfl rfl | exact Reads.pt 7 rfl rfl | exact Reads.pt 8 rfl rfl | exact Reads.pt 9 rfl rfl | exact Reads.pt 10 rfl rfl | exact Reads.pt 11 rfl rfl | exact Reads.pt 12 rfl rfl | exact Reads.pt 13 rfl rfl)) ?_
  refine RG.q 6 hR rfl rfl rfl rfl rfl rfl (Q.shl rfl rfl (by omega)) ?_
  refine RG.q 7 hR rfl rfl rfl rfl rfl rfl (Q.xor rfl rfl) ?_
  refine RG.q 8 hR rfl rfl rfl rfl rfl rfl (Q.nil_ rfl) ?_
  first | refine RG.st 9 (j := 0) hR rfl rfl rfl rfl rfl Tryz.sizeOf160 rfl rfl rfl rfl rfl rfl rfl ?_ | refine RG.st 9 (j := 1) hR rfl rfl rfl rfl rfl Tryz.sizeOf160 rfl rfl rfl rfl rfl rfl rfl ?_ | refine RG.st 9 (j := 2) hR rfl rfl rfl rfl rfl Tryz.sizeOf160 rfl rfl rfl rfl rfl rfl rfl ?_ | refine RG.st 9 (j := 3) hR rfl rfl rfl rfl rfl Tryz.sizeOf160 rfl rfl rfl rfl rfl rfl rfl ?_ | refine RG.st 9 (j := 4) hR rfl rfl rfl rfl rfl Tryz.sizeOf160 rfl rfl rfl rfl rfl rfl rfl ?_ | refine RG.st 9 (j := 5) hR rfl rfl rfl rfl rfl Tryz.sizeOf160 rfl rfl rfl rfl rfl rfl rfl ?_ | refine RG.st 9 (j := 6) hR rfl rfl rfl rfl rfl Tryz.sizeOf160 rfl rfl rfl rfl rfl rfl rfl ?_ | refine RG.st 9 (j := 7) hR rfl rfl rfl rfl rfl Tryz.sizeOf160 rfl rfl rfl rfl rfl rfl rfl ?_ | refine RG.st 9 (j := 8) hR rfl rfl rfl rfl rfl Tryz.sizeOf160 rfl rfl rfl rfl rfl rfl rfl ?_ | refine RG.st 9 (j := 9) hR rfl rfl rfl rfl rfl Tryz.sizeOf160 rfl rfl rfl rfl rfl rfl rfl ?_ | refine RG.st 9 (j := 10) hR rfl rfl rfl rfl rfl Tryz.sizeOf160 rfl rfl rfl rfl rfl rfl rfl ?_ | refine RG.st 9 (j := 11) hR rfl rfl rfl rfl rfl Tryz.sizeOf160 rfl rfl rfl rfl rfl rfl rfl ?_ | refine RG.st 9 (j := 12) hR rfl rfl rfl rfl rfl Tryz.sizeOf160 rfl rfl rfl rfl rfl rfl rfl ?_ | refine RG.st 9 (j := 13) hR rfl rfl rfl rfl rfl Tryz.sizeOf160 rfl rfl rfl rfl rfl rfl rfl ?_ | refine RG.st 9 (j := 14) hR rfl rfl rfl rfl rfl Tryz.sizeOf160 rfl rfl rfl rfl rfl rfl rfl ?_ | refine RG.st 9 (j := 15) hR rfl rfl rfl rfl rfl Tryz.sizeOf160 rfl rfl rfl rfl rfl rfl rfl ?_
  refine RG.fin hR rfl ?_
  refine J.norm rfl ?_
  refine J.then_n ?_
  refine J.seq ?_
  refine J.region ?_
  refine J.q rfl rfl (Q.mv rfl) ?_
  refine J.q rfl rfl (Q.nil_ rfl) ?_
  refine J.q rfl rfl (Q.ld Tryz.isAgg160 rfl (by first | exact Reads.pt 0 rfl rfl | exact Reads.pt 1 rfl rfl | exact Reads.pt 2 rfl rfl | exact Reads.pt 3 rfl rfl | exact Reads.pt 4 rfl rfl | exact Reads.pt 5 rfl rfl | exact Reads.pt 6 rfl rfl | exact Reads.pt 7 rfl rfl | exact Reads.pt 8 rfl rfl | exact Reads.pt 9 rfl rfl | exact Reads.pt 10 rfl rfl | exact Reads.pt 11 rfl rfl | exact Reads.pt 12 rfl rfl | exact Reads.pt 13 rfl rfl)) ?_
  refine J.q rfl rfl (Q.asg rfl) ?_
  refine J.nil ?_
  refine J.then_n ?_
  refine J.cret ?_
  refine J.ret1 (B := [_]) rfl rfl ⟨_, rfl, rfl⟩ rfl
end Go.Proofs.YtdancegklkifaaaGreat
namespace Go.Proofs.YtdancegklkifaaaGreat
set_option linter.unusedSectionVars false
set_option linter.unusedSimpArgs false
set_option linter.unusedVariables false
open Go.X

/-- A slice in a variable's block. -/
def boxOwnU (b : Nat) (xs : List Nat) : Assn := fun h => ∃ z : Option Addr × Nat, HSat h [pt b (.cells [.slice z.1 xs.length z.2].toArray 60 (0, 0)), own 23 1 (.slice z.1 xs.length z.2) (xs.map encU)]

theorem appendSeqU (gf : FuncId) (lb : List Value) (G : Assn) (S : List Nat → Prop) (ok : List Nat → Nat → Prop) (eg : ∀ (args : Array Value) (w : World), (callFunc gf args).run Tryz.prog w = .ok (.enter gf args) w)
    (hit : ItSpec Tryz.prog gf lb (fun x : Nat => [encU x]) [G] S ok) (hok : ∀ pre x, ok pre x → pre.length < 1099511627776) :
    FSpec Tryz.prog 90 [.slice none 0 0, .func (.func gf) #[] lb.toArray] [G] (fun v B => ∃ (xs : List Nat) (p : Option Addr) (c : Nat), S xs ∧ v = .slice p xs.length c ∧ B = [own 23 1 (.slice p xs.length c) (xs.map encU), G]) := by
  refine FSpec.ofM Tryz.func90 rfl Tryz.ntmps90 rfl fun W0 F => ?_
  refine JI.seq ?_
  refine JI.region ?_
  refine JI.c rfl rfl (fun _ e => nomatch e) (C.box (l := [_]) rfl rfl) ?_
  rintro _ _ ⟨b2, rfl, rfl⟩
  refine J.norm rfl ?_
  refine JI.q rfl rfl (fun _ e => nomatch e) (Q.asg rfl) ?_
  refine JI.nil ?_
  refine JI.then_n ?_
  refine JI.seq ?_
  refine JI.seq ?_
  refine JI.region ?_
  refine JI.q rfl rfl (fun _ e => nomatch e) (Q.mv rfl) ?_
  refine JI.nil ?_
  refine JI.then_n ?_
  refine JI.block ?_
  refine J.give (own.nil 23 1 _) ?_
  refine J.shut [1, 0] (boxOwnU b2 []) rfl (fun h s => ⟨(none, 0), s⟩) ?_
  refine J.sub [(2, .pointer (some ⟨b2, 0, none⟩)), (6, .func (.func gf) #[] lb.toArray)] ⟨rfl, rfl, trivial⟩ ?_
  refine JI.rangeFunc gf lb (fun x : Nat => [encU x]) S ok (fun pre => [boxOwnU b2 pre]) (fun x => [(5, encU x), (2, .pointer (some ⟨b2, 0, none⟩))]) rfl eg hit (by decide) (fun _ => rfl) [0, 1] rfl ?_ ?_ ?_
  · intro l W1 F1 pre x _
    refine JI.region ?_
    refine JI.q rfl rfl (fun _ e => nomatch e) (Q.asg rfl) ?_
    refine JI.nil ?_
    exact JI.asgEnd ⟨rfl, rfl, trivial⟩ rfl
  · intro l W1 F1 pre x hk
    have hlen := hok pre x hk
    refine JI.block ?_
    refine JI.region ?_
    refine J.open_ 0 (p := fun _ => True) rfl rfl (fun h hh => by obtain ⟨z, hz⟩ := hh; exact ⟨z, trivial, hz⟩) fun z _ => ?_
    refine J.norm rfl ?_
    refine JI.q rfl rfl (fun _ e => nomatch e) (Q.ld Tryz.isAgg60 rfl (Reads.pt 0 rfl rfl)) ?_
    refine JI.q rfl rfl (fun _ e => nomatch e) (Q.mv rfl) ?_
    refine JI.c rfl rfl (fun _ e => nomatch e) (C.bslG (l := [_]) Tryz.runUnderlying60 Tryz.sizeOf23 Tryz.zeroValue23 (by decide) rfl rfl rfl rfl rfl) ?_
    rintro _ _ ⟨b10, rfl, rfl⟩
    refine J.norm rfl ?_
    refine JI.c rfl rfl (fun _ e => nomatch e) (C.app (i := 2) Tryz.runUnderlying60 Tryz.runUnderlying60 Tryz.typeInfo23 Tryz.sizeOf23 Tryz.zeroValue23 rfl rfl rfl (SlR.pt 0 rfl rfl (xs := [encU x]) (fun j u h => by rw [Nat.zero_add]; exact h)) (by intro v hv; obtain rfl := List.mem_singleton.1 hv; rfl) (by simp [Tryz.t23]; omega) (by decide)) ?_
    rintro _ _ ⟨p11, c11, rfl, rfl⟩
    refine J.norm rfl ?_
    refine JI.c0 rfl (fun _ e => nomatch e) (C.stl (i := 1) Tryz.sizeOf60 rfl rfl rfl rfl rfl rfl rfl) ?_
    rintro _ _ ⟨rfl, rfl⟩
    refine JI.nil ?_
    refine JI.blk_n ?_
    refine J.shut [1, 2] (boxOwnU b2 (pre ++ [x])) rfl (fun h s => ⟨(p11, c11), by simpa [List.length_append] using s⟩) ?_
    refine J.keep [0, 2] rfl ?_
    exact JI.bodyEnd rfl
  · intro D xs hS
    refine J.norm rfl ?_
    refine JI.blk_n ?_
    refine JI.then_n ?_
    refine JI.seq ?_
    refine JI.region ?_
    refine J.open_ 1 (p := fun _ => True) rfl rfl (fun h hh => by obtain ⟨z, hz⟩ := hh; exact ⟨z, trivial, hz⟩) fun z _ => ?_
    refine J.norm rfl ?_
    refine JI.q rfl rfl (fun _ e => nomatch e) (Q.ld Tryz.isAgg60 rfl (Reads.pt 0 rfl rfl)) ?_
    refine JI.q rfl rfl (fun _ e => nomatch e) (Q.asg rfl) ?_
    refine JI.nil ?_
    refine JI.then_n ?_
    refine JI.ret ?_
    refine J.keep [2, 1, 3, 4] rfl ?_
    exact JI.ret1 rfl rfl ⟨xs, z.1, z.2, hS, rfl, rfl⟩ rfl

theorem collectU (gf : FuncId) (lb : List Value) (G : Assn) (S : List Nat → Prop) (ok : List Nat → Nat → Prop) (eg : ∀ (args : Array Value) (w : World), (callFunc gf args).run Tryz.prog w = .ok (.enter gf args) w)
    (hit : ItSpec Tryz.prog gf lb (fun x : Nat => [encU x]) [G] S ok) (hok : ∀ pre x, ok pre x → pre.length < 1099511627776) :
    FSpec Tryz.prog 54 [.func (.func gf) #[] lb.toArray] [G] (fun v B => ∃ (xs : List Nat) (p : Option Addr) (c : Nat), S xs ∧ v = .slice p xs.length c ∧ B = [own 23 1 (.slice p xs.length c) (xs.map encU), G]) := by
  refine FSpec.of Tryz.func54 rfl Tryz.ntmps54 rfl fun W0 F => ?_
  refine J.seq ?_
  refine J.region ?_
  refine J.q rfl rfl (Q.asg rfl) ?_
  refine J.nil ?_
  refine J.then_n ?_
  refine J.seq ?_
  refine J.region ?_
  refine J.q rfl rfl (Q.mv rfl) ?_
  refine J.call Tryz.call90 (appendSeqU gf lb G S ok eg hit hok) [0] rfl rfl rfl rfl ?_
  rintro _ _ ⟨xs, p, c, hS, rfl, rfl⟩
  refine J.norm rfl ?_
  refine J.q rfl rfl (Q.asg rfl) ?_
  refine J.nil ?_
  refine J.then_n ?_
  refine J.cret ?_
  refine J.ret1 (B := [_, G]) rfl rfl ⟨xs, p, c, hS, rfl, rfl⟩ rfl
end Go.Proofs.YtdancegklkifaaaGreat
namespace Go.Proofs.YtdancegklkifaaaGreat
set_option linter.unusedSectionVars false
set_option linter.unusedSimpArgs false
set_option linter.unusedVariables false
open Go.X
open Go.Sort (swp bitsLen reverseRange insertionSort heapSort partition partitionEqual partialInsertionSort PermIn SortedIn SWO)

abbrev cellU (b : Nat) (z : Int) : Assn := pt b (.cells [.int .i64 z].toArray 3 (0, 0))

section
variable (b off n c : Nat) (d : Array Nat) (hn : d.size = n) (hs : n ≤ 32768)
include hn hs
theorem order2U (x y : Nat) (hx : x < n) (hy : y < n) (w : Nat) (z : Int) :
    FSpec Tryz.prog 142 [.slice (some ⟨b, off, none⟩) n c, .int .i64 x, .int .i64 y, .pointer (some ⟨w, 0, none⟩)] [rowU b off n c d, cellU w z] (fun v B => ∃ (x' y' : Nat) (z' : Int), (x' = x ∧ y' = y ∨ x' = y ∧ y' = x) ∧ v = .tuple #[.int .i64 x', .int .i64 y'] ∧ B = [rowU b off n c d, cellU w z']) := by
  refine FSpec.of Tryz.func142 rfl Tryz.ntmps142 rfl fun W0 F => ?_
  refine J.seq ?_
  refine J.region ?_
  refine J.q rfl rfl (Q.asg rfl) ?_
  refine J.q rfl rfl (Q.asg rfl) ?_
  refine J.nil ?_
  refine J.then_n ?_
  refine J.seq ?_
  refine J.seq ?_
  refine J.draw [8] Tryz.mixed (by kernel_rfl) fun hR => ?_
  refine RG.q 0 hR rfl rfl rfl rfl rfl rfl (Q.mv rfl) ?_
  refine RG.q 1 hR rfl rfl rfl rfl rfl rfl (Q.mv rfl) ?_
  refine RG.q 2 hR rfl rfl rfl rfl rfl rfl (Q.ia Tryz.runUnderlying60 Tryz.sizeOf23 rfl rfl (by omega) (by omega)) ?_
  refine RG.q 3 hR rfl rfl rfl rfl rfl rfl (Q.ld Tryz.isAgg23 rfl (rdU (k := 0) rfl (by omega))) ?_
  refine RG.q 4 hR rfl rfl rfl rfl rfl rfl (Q.mv rfl) ?_
  refine RG.q 5 hR rfl rfl rfl rfl rfl rfl (Q.mv rfl) ?_
  refine RG.q 6 hR rfl rfl rfl rfl rfl rfl (Q.ia Tryz.runUnderlying60 Tryz.sizeOf23 rfl rfl (by omega) (by omega)) ?_
  refine RG.q 7 hR rfl rfl rfl rfl rfl rfl (Q.ld Tryz.isAgg23 rfl (rdU (k := 0) rfl (by omega))) ?_
  refine RG.call 8 hR rfl rfl rfl rfl rfl rfl Tryz.call114 (lessU _ _) [] rfl rfl ?_
  rintro _ _ ⟨rfl, rfl⟩
  refine RG.norm rfl ?_
  refine RG.fin hR rfl ?_
  refine J.norm rfl ?_
  refine J.then_n ?_
  refine J.cases 18 rfl (fun hc18 => ?_) (fun hc18 => ?_)
  ·
   replace hc18 := X.nm hc18
   refine J.cond_t rfl ?_
   refine J.seq ?_
   refine J.region ?_
   refine J.q rfl rfl (Q.mv rfl) ?_
   refine J.q rfl rfl (Q.nil_ rfl) ?_
   refine J.q rfl rfl (Q.ld Tryz.isAgg3 rfl (rdI (by exact rfl))) ?_
   refine J.q rfl rfl (Q.add rfl rfl) ?_
   refine J.q rfl rfl (Q.nil_ rfl) ?_
   refine J.stI rfl Tryz.sizeOf3 rfl rfl rfl (by exact rfl) (by exact rfl) (by exact rfl) ?_
   refine J.nil ?_
   refine J.then_n ?_
   refine J.seq ?_
   refine J.region ?_
   refine J.q rfl rfl (Q.mv rfl) ?_
   refine J.q rfl rfl (Q.mv rfl) ?_
   refine J.q rfl rfl (Q.asg rfl) ?_
   refine J.q rfl rfl (Q.asg rfl) ?_
   refine J.nil ?_
   refine J.then_n ?_
   refine J.cret ?_
   refine J.then_r ?_
   refine J.ret2 (B := [_, _]) rfl rfl rfl ⟨y, x, _, .inr ⟨rfl, rfl⟩, rfl, rfl⟩ rfl
  replace hc18 := X.nm hc18
  refine J.cond_f rfl ?_
  refine J.cskip ?_
  refine J.then_n ?_
  refine J.seq ?_
  refine J.region ?_
  refine J.q rfl rfl (Q.mv rfl) ?_
  refine J.q rfl rfl (Q.mv rfl) ?_
  refine J.q rfl rfl (Q.asg rfl) ?_
  refine J.q rfl rfl (Q.asg rfl) ?_
  refine J.nil ?_
  refine J.then_n ?_
  refine J.cret ?_
  refine J.ret2 (B := [_, _]) rfl rfl rfl ⟨x, y, _, .inl ⟨rfl, rfl⟩, rfl, rfl⟩ rfl
theorem medianU (x y y2 : Nat) (hx : x < n) (hy : y < n) (hy2 : y2 < n) (w : Nat) (z : Int) :
    FSpec Tryz.prog 135 [.slice (some ⟨b, off, none⟩) n c, .int .i64 x, .int .i64 y, .int .i64 y2, .pointer (some ⟨w, 0, none⟩)] [rowU b off n c d, cellU w z] (fun v B => ∃ (m : Nat) (z' : Int), (m = x ∨ m = y ∨ m = y2) ∧ v = .int .i64 m ∧ B = [rowU b off n c d, cellU w z']) := by
  refine FSpec.of Tryz.func135 rfl Tryz.ntmps135 rfl fun W0 F => ?_
  refine J.seq ?_
  refine J.region ?_
  refine J.q rfl rfl (Q.asg rfl) ?_
  refine J.nil ?_
  refine J.then_n ?_
  refine J.seq ?_
  refine J.region ?_
  refine J.q rfl rfl (Q.mv rfl) ?_
  refine J.q rfl rfl (Q.mv rfl) ?_
  refine J.q rfl rfl (Q.mv rfl) ?_
  refine J.q rfl rfl (Q.mv rfl) ?_
  refine J.call Tryz.call142 (order2U b off n c d hn hs x y hx hy w z) [0, 1] rfl rfl rfl rfl ?_
  rintro _ _ ⟨x1, y1, z1, h1, rfl, rfl⟩
  refine J.norm rfl ?_
  refine J.q rfl rfl (Q.mv rfl) ?_
  refine J.q rfl rfl (Q.ext rfl rfl) ?_
  refine J.q rfl rfl (Q.ext rfl rfl) ?_
  refine J.q rfl rfl (Q.asg rfl) ?_
  refine J.q rfl rfl (Q.asg rfl) ?_
  refine J.nil ?_
  refine J.then_n ?_
  refine J.seq ?_
  refine J.region ?_
  refine J.q rfl rfl (Q.mv rfl) ?_
  refine J.q rfl rfl (Q.mv rfl) ?_
  refine J.q rfl rfl (Q.mv rfl) ?_
  refine J.q rfl rfl (Q.mv rfl) ?_
  refine J.call Tryz.call142 (order2U b off n c d hn hs y1 y2 (by omega) (by omega) w z1) [0, 1] rfl rfl rfl rfl ?_
  rintro _ _ ⟨x2, y3, z2, h2, rfl, rfl⟩
  refine J.norm rfl ?_
  refine J.q rfl rfl (Q.mv rfl) ?_
  refine J.q rfl rfl (Q.ext rfl rfl) ?_
  refine J.q rfl rfl (Q.ext rfl rfl) ?_
  refine J.q rfl rfl (Q.asg rfl) ?_
  refine J.q rfl rfl (Q.asg rfl) ?_
  refine J.nil ?_
  refine J.then_n ?_
  refine J.seq ?_
  refine J.region ?_
  refine J.q rfl rfl (Q.mv rfl) ?_
  refine J.q rfl rfl (Q.mv rfl) ?_
  refine J.q rfl rfl (Q.mv rfl) ?_
  refine J.q rfl rfl (Q.mv rfl) ?_
  refine J.call Tryz.call142 (order2U b off n c d hn hs x1 x2 (by omega) (by omega) w z2) [0, 1] rfl rfl rfl rfl ?_
  rintro _ _ ⟨x4, y4, z3, h3, rfl, rfl⟩
  refine J.norm rfl ?_
  refine J.q rfl rfl (Q.mv rfl) ?_
  refine J.q rfl rfl (Q.ext rfl rfl) ?_
  refine J.q rfl rfl (Q.ext rfl rfl) ?_
  refine J.q rfl rfl (Q.asg rfl) ?_
  refine J.q rfl rfl (Q.asg rfl) ?_
  refine J.nil ?_
  refine J.then_n ?_
  refine J.seq ?_
  refine J.region ?_
  refine J.q rfl rfl (Q.mv rfl) ?_
  refine J.q rfl rfl (Q.asg rfl) ?_
  refine J.nil ?_
  refine J.then_n ?_
  refine J.cret ?_
  refine J.ret1 (B := [_, _]) rfl rfl ⟨y4, z3, by omega, rfl, rfl⟩ rfl
theorem medAdjU (x : Nat) (h0 : 0 < x) (hx : x + 1 < n) (w : Nat) (z : Int) :
    FSpec Tryz.prog 134 [.slice (some ⟨b, off, none⟩) n c, .int .i64 x, .pointer (some ⟨w, 0, none⟩)] [rowU b off n c d, cellU w z] (fun v B => ∃ (m : Nat) (z' : Int), (x ≤ m + 1 ∧ m ≤ x + 1) ∧ v = .int .i64 m ∧ B = [rowU b off n c d, cellU w z']) := by
  refine FSpec.of Tryz.func134 rfl Tryz.ntmps134 rfl fun W0 F => ?_
  refine J.seq ?_
  refine J.region ?_
  refine J.q rfl rfl (Q.asg rfl) ?_
  refine J.nil ?_
  refine J.then_n ?_
  refine J.seq ?_
  refine J.region ?_
  refine J.q rfl rfl (Q.mv rfl) ?_
  refine J.q rfl rfl (Q.mv rfl) ?_
  refine J.q rfl rfl (Q.sub64 rfl rfl (by omega)) ?_
  refine J.slot 9 (.int .i64 ((x - 1 : Nat) : Int)) rfl (by congr 1; omega) ?_
  refine J.q rfl rfl (Q.mv rfl) ?_
  refine J.q rfl rfl (Q.mv rfl) ?_
  refine J.q rfl rfl (Q.add64 rfl rfl (by omega)) ?_
  refine J.q rfl rfl (Q.mv rfl) ?_
  refine J.call Tryz.call135 (medianU b off n c d hn hs (x - 1) x (x + 1) (by omega) (by omega) (by omega) w z) [0, 1] rfl rfl rfl rfl ?_
  rintro _ _ ⟨m, z', hm, rfl, rfl⟩
  refine J.norm rfl ?_
  refine J.q rfl rfl (Q.asg rfl) ?_
  refine J.nil ?_
  refine J.then_n ?_
  refine J.cret ?_
  refine J.ret1 (B := [_, _]) rfl rfl ⟨m, z', by omega, rfl, rfl⟩ rfl
theorem pivotU (x e : Nat) (hx : x + 12 < e) (he : e ≤ n) :
    FSpec Tryz.prog 111 [.slice (some ⟨b, off, none⟩) n c, .int .i64 x, .int .i64 e] [rowU b off n c d] (fun v B => ∃ (p : Nat) (h : Int), (x ≤ p ∧ p < e) ∧ v = .tuple #[.int .i64 p, .int .i64 h] ∧ B = [rowU b off n c d]) := by
  refine FSpec.of Tryz.func111 rfl Tryz.ntmps111 rfl fun W0 F => ?_
  refine J.seq ?_
  refine J.region ?_
  refine J.q rfl rfl (Q.asg rfl) ?_
  refine J.q rfl rfl (Q.asg rfl) ?_
  refine J.nil ?_
  refine J.then_n ?_
  refine J.seq ?_
  refine J.region ?_
  refine J.q rfl rfl (Q.mv rfl) ?_
  refine J.q rfl rfl (Q.mv rfl) ?_
  refine J.q rfl rfl (Q.sub64 rfl rfl (by omega)) ?_
  refine J.q rfl rfl (Q.asg rfl) ?_
  refine J.nil ?_
  refine J.then_n ?_
  refine J.seq ?_
  refine J.region ?_
  refine J.c rfl rfl (C.alloc (l := [_]) Tryz.zeroValue3 rfl) ?_
  rintro _ _ ⟨b9, rfl, rfl⟩
  refine J.norm rfl ?_
  refine J.nil ?_
  refine J.then_n ?_
  refine J.seq ?_
  refine J.region ?_
  refine J.q rfl rfl (Q.mv rfl) ?_
  refine J.q rfl rfl (Q.mv rfl) ?_
  refine J.q rfl rfl (Q.quo64 rfl rfl (by omega) (by omega) (by omega)) ?_
  refine J.q rfl rfl (Q.mul64 rfl rfl (by omega)) ?_
  refine J.q rfl rfl (Q.add64 rfl rfl (by omega)) ?_
  refine J.q rfl rfl (Q.asg rfl) ?_
  refine J.nil ?_
  refine J.then_n ?_
  refine J.seq ?_
  refine J.region ?_
  refine J.q rfl rfl (Q.mv rfl) ?_
  refine J.q rfl rfl (Q.mv rfl) ?_
  refine J.q rfl rfl (Q.quo64 rfl rfl (by omega) (by omega) (by omega)) ?_
  refine J.q rfl rfl (Q.mul64 rfl rfl (by omega)) ?_
  refine J.q rfl rfl (Q.add64 rfl rfl (by omega)) ?_
  refine J.q rfl rfl (Q.asg rfl) ?_
  refine J.nil ?_
  refine J.then_n ?_
  refine J.seq ?_
  refine J.region ?_
  refine J.q rfl rfl (Q.mv rfl) ?_
  refine J.q rfl rfl (Q.mv rfl) ?_
  refine J.q rfl rfl (Q.quo64 rfl rfl (by omega) (by omega) (by omega)) ?_
  refine J.q rfl rfl (Q.mul64 rfl rfl (by omega)) ?_
  refine J.q rfl rfl (Q.add64 rfl rfl (by omega)) ?_
  refine J.q rfl rfl (Q.asg rfl) ?_
  refine J.nil ?_
  refine J.then_n ?_
  refine J.seq ?_
  refine J.seq ?_
  obtain ⟨l, hl⟩ : ∃ l, l = e - x := ⟨_, rfl⟩
  refine J.sub [(0, .slice (some ⟨b, off, none⟩) n c), (8, .int .i64 (l : Int)), (9, .pointer (some ⟨b9, 0, none⟩)), (10, .int .i64 ((x + l / 4 * 1 : Nat) : Int)), (11, .int .i64 ((x + l / 4 * 2 : Nat) : Int)), (12, .int .i64 ((x + l / 4 * 3 : Nat) : Int))] ⟨rfl, (by show some (Value.int .i64 _) = some (Value.int .i64 _); congr 2; omega), rfl, (by show some (Value.int .i64 _) = some (Value.int .i64 _); congr 2; omega), (by show some (Value.int .i64 _) = some (Value.int .i64 _); congr 2; omega), (by show some (Value.int .i64 _) = some (Value.int .i64 _); congr 2; omega), trivial⟩ ?_
  refine J.region ?_
  refine J.q rfl rfl (Q.mv rfl) ?_
  refine J.q rfl rfl (Q.geq rfl rfl) ?_
  refine J.nil ?_
  refine J.then_n ?_
  refine J.cases 32 rfl (fun hc32 => ?_) (fun hc32 => ?_)
  ·
   replace hc32 := X.nm hc32
   skip
   refine J.cond_t rfl ?_
   refine J.cut (fun q : Nat × Nat × Nat × Int => (x ≤ q.1 ∧ q.1 < e) ∧ (x ≤ q.2.1 ∧ q.2.1 < e) ∧ (x ≤ q.2.2.1 ∧ q.2.2.1 < e)) (fun q => [(0, .slice (some ⟨b, off, none⟩) n c), (9, .pointer (some ⟨b9, 0, none⟩)), (10, .int .i64 q.1), (11, .int .i64 q.2.1), (12, .int .i64 q.2.2.1)]) (fun q => [cellU b9 q.2.2.2, rowU b off n c d, F]) ?_ fun q hq => ?_
   ·
    refine J.seq ?_
    refine J.region ?_
    refine J.q rfl rfl (Q.mv rfl) ?_
    refine J.q rfl rfl (Q.geq rfl rfl) ?_
    refine J.nil ?_
    refine J.then_n ?_
    refine J.cases 34 rfl (fun hc34 => ?_) (fun hc34 => ?_)
    ·
     replace hc34 := X.nm hc34
     refine J.cond_t rfl ?_
     refine J.seq ?_
     refine J.region ?_
     refine J.q rfl rfl (Q.mv rfl) ?_
     refine J.q rfl rfl (Q.mv rfl) ?_
     refine J.call Tryz.call134 (medAdjU b off n c d hn hs (x + l / 4 * 1) (by omega) (by omega) b9 0) [1, 0] rfl rfl rfl rfl ?_
     rintro _ _ ⟨m1, z1, hm1, rfl, rfl⟩
     refine J.norm rfl ?_
     refine J.q rfl rfl (Q.asg rfl) ?_
     refine J.nil ?_
     refine J.then_n ?_
     refine J.seq ?_
     refine J.region ?_
     refine J.q rfl rfl (Q.mv rfl) ?_
     refine J.q rfl rfl (Q.mv rfl) ?_
     refine J.call Tryz.call134 (medAdjU b off n c d hn hs (x + l / 4 * 2) (by omega) (by omega) b9 z1) [0, 1] rfl rfl rfl rfl ?_
     rintro _ _ ⟨m2, z2, hm2, rfl, rfl⟩
     refine J.norm rfl ?_
     refine J.q rfl rfl (Q.asg rfl) ?_
     refine J.nil ?_
     refine J.then_n ?_
     refine J.region ?_
     refine J.q rfl rfl (Q.mv rfl) ?_
     refine J.q rfl rfl (Q.mv rfl) ?_
     refine J.call Tryz.call134 (medAdjU b off n c d hn hs (x + l / 4 * 3) (by omega) (by omega) b9 z2) [0, 1] rfl rfl rfl rfl ?_
     rintro _ _ ⟨m3, z3, hm3, rfl, rfl⟩
     refine J.norm rfl ?_
     refine J.q rfl rfl (Q.asg rfl) ?_
     refine J.nil ?_
     first
       | (refine J.pick [1, 0, 2] rfl ?_
          refine J.meet (m1, m2, m3, z3) ⟨⟨by show x ≤ m1; omega, by show m1 < e; omega⟩, ⟨by show x ≤ m2; omega, by show m2 < e; omega⟩, ⟨by show x ≤ m3; omega, by show m3 < e; omega⟩⟩ ⟨rfl, rfl, rfl, rfl, rfl, trivial⟩ rfl)
       | refine J.meet (x + l / 4 * 1, x + l / 4 * 2, x + l / 4 * 3, 0) ⟨⟨by show x ≤ x + l / 4 * 1; omega, by show x + l / 4 * 1 < e; omega⟩, ⟨by show x ≤ x + l / 4 * 2; omega, by show x + l / 4 * 2 < e; omega⟩, ⟨by show x ≤ x + l / 4 * 3; omega, by show x + l / 4 * 3 < e; omega⟩⟩ ⟨rfl, rfl, rfl, rfl, rfl, trivial⟩ rfl
    replace hc34 := X.nm hc34
    refine J.cond_f rfl ?_
    refine J.cskip ?_
    first
      | (refine J.pick [1, 0, 2] rfl ?_
         refine J.meet (m1, m2, m3, z3) ⟨⟨by show x ≤ m1; omega, by show m1 < e; omega⟩, ⟨by show x ≤ m2; omega, by show m2 < e; omega⟩, ⟨by show x ≤ m3; omega, by show m3 < e; omega⟩⟩ ⟨rfl, rfl, rfl, rfl, rfl, trivial⟩ rfl)
      | refine J.meet (x + l / 4 * 1, x + l / 4 * 2, x + l / 4 * 3, 0) ⟨⟨by show x ≤ x + l / 4 * 1; omega, by show x + l / 4 * 1 < e; omega⟩, ⟨by show x ≤ x + l / 4 * 2; omega, by show x + l / 4 * 2 < e; omega⟩, ⟨by show x ≤ x + l / 4 * 3; omega, by show x + l / 4 * 3 < e; omega⟩⟩ ⟨rfl, rfl, rfl, rfl, rfl, trivial⟩ rfl
   obtain ⟨q1, q2, q3, zq⟩ := q
   obtain ⟨g1, g2, g3⟩ := hq
   dsimp only at g1 g2 g3
   refine J.region ?_
   refine J.q rfl rfl (Q.mv rfl) ?_
   refine J.q rfl rfl (Q.mv rfl) ?_
   refine J.q rfl rfl (Q.mv rfl) ?_
   refine J.q rfl rfl (Q.mv rfl) ?_
   refine J.call Tryz.call135 (medianU b off n c d hn hs q1 q2 q3 (by omega) (by omega) (by omega) b9 zq) [1, 0] rfl rfl rfl rfl ?_
   rintro _ _ ⟨m, z', hm, rfl, rfl⟩
   refine J.norm rfl ?_
   refine J.q rfl rfl (Q.asg rfl) ?_
   refine J.nil ?_
   refine J.then_n ?_
   refine J.seq ?_
   refine J.region ?_
   refine J.q rfl rfl (Q.ld Tryz.isAgg3 rfl (rdI (by exact rfl))) ?_
   refine J.nil ?_
   refine J.then_n ?_
   refine J.block ?_
   refine J.seq ?_
   refine J.region ?_
   refine J.q rfl rfl (Q.eql rfl rfl) ?_
   refine J.q rfl rfl (Q.asg rfl) ?_
   refine J.nil ?_
   refine J.then_n ?_
   refine J.cases 51 rfl (fun hc51 => ?_) (fun hc51 => ?_)
   ·
    replace hc51 := X.nm hc51
    refine J.cond_t rfl ?_
    refine J.seq ?_
    refine J.region ?_
    refine J.q rfl rfl (Q.mv rfl) ?_
    refine J.q rfl rfl (Q.asg rfl) ?_
    refine J.q rfl rfl (Q.asg rfl) ?_
    refine J.nil ?_
    refine J.then_n ?_
    refine J.cret ?_
    refine J.blk_r ?_
    refine J.keep [0, 2] rfl ?_
    refine J.ret2 (B := [_]) rfl rfl rfl ⟨m, _, ⟨by omega, by omega⟩, rfl, rfl⟩ rfl
   replace hc51 := X.nm hc51
   refine J.cond_f rfl ?_
   refine J.seq ?_
   refine J.region ?_
   refine J.q rfl rfl (Q.eql rfl rfl) ?_
   refine J.q rfl rfl (Q.asg rfl) ?_
   refine J.nil ?_
   refine J.then_n ?_
   refine J.cases 54 rfl (fun hc54 => ?_) (fun hc54 => ?_)
   ·
    replace hc54 := X.nm hc54
    refine J.cond_t rfl ?_
    refine J.seq ?_
    refine J.region ?_
    refine J.q rfl rfl (Q.mv rfl) ?_
    refine J.q rfl rfl (Q.asg rfl) ?_
    refine J.q rfl rfl (Q.asg rfl) ?_
    refine J.nil ?_
    refine J.then_n ?_
    refine J.cret ?_
    refine J.blk_r ?_
    refine J.keep [0, 2] rfl ?_
    refine J.ret2 (B := [_]) rfl rfl rfl ⟨m, _, ⟨by omega, by omega⟩, rfl, rfl⟩ rfl
   replace hc54 := X.nm hc54
   refine J.cond_f rfl ?_
   refine J.seq ?_
   refine J.region ?_
   refine J.q rfl rfl (Q.mv rfl) ?_
   refine J.q rfl rfl (Q.asg rfl) ?_
   refine J.q rfl rfl (Q.asg rfl) ?_
   refine J.nil ?_
   refine J.then_n ?_
   refine J.cret ?_
   refine J.blk_r ?_
   refine J.keep [0, 2] rfl ?_
   refine J.ret2 (B := [_]) rfl rfl rfl ⟨m, _, ⟨by omega, by omega⟩, rfl, rfl⟩ rfl
  exfalso; simp at hc32; omega
theorem breakpU (x e : Nat) (hx : x + 12 < e) (he : e ≤ n) :
    FSpec Tryz.prog 110 [.slice (some ⟨b, off, none⟩) n c, .int .i64 x, .int .i64 e] [rowU b off n c d] (fun v B => ∃ d', PermIn x e d d' ∧ v = .tuple #[] ∧ B = [rowU b off n c d']) := by
  refine FSpec.of Tryz.func110 rfl Tryz.ntmps110 rfl fun W0 F => ?_
  refine J.seq ?_
  refine J.region ?_
  refine J.q rfl rfl (Q.mv rfl) ?_
  refine J.q rfl rfl (Q.mv rfl) ?_
  refine J.q rfl rfl (Q.sub64 rfl rfl (by omega)) ?_
  refine J.q rfl rfl (Q.asg rfl) ?_
  refine J.nil ?_
  refine J.then_n ?_
  refine J.seq ?_
  refine J.region ?_
  refine J.q rfl rfl (Q.mv rfl) ?_
  refine J.q rfl rfl (Q.geq rfl rfl) ?_
  refine J.nil ?_
  refine J.then_n ?_
  refine J.cases 15 rfl (fun hc15 => ?_) (fun hc15 => ?_)
  ·
   replace hc15 := X.nm hc15
   skip
   try (first | (cases hc15; done) | (exfalso; simp at hc15; done))
   all_goals
    refine J.cond_t rfl ?_
    refine J.seq ?_
    obtain ⟨l, hl⟩ : ∃ l, l = e - x := ⟨_, rfl⟩
    refine J.sub [(0, .slice (some ⟨b, off, none⟩) n c), (1, .int .i64 x), (6, .int .i64 (l : Int))] ⟨rfl, rfl, (by show some (Value.int .i64 _) = some (Value.int .i64 _); congr 2; omega), trivial⟩ ?_
    refine J.region ?_
    refine J.q rfl rfl (Q.mv rfl) ?_
    refine J.q rfl rfl (Q.conv Tryz.runUnderlying3 Tryz.runUnderlying160 rfl) ?_
    refine J.c rfl rfl (C.alloc (l := [_]) Tryz.zeroValue160 rfl) ?_
    rintro _ _ ⟨b7, rfl, rfl⟩
    refine J.norm rfl ?_
    refine J.stI rfl Tryz.sizeOf160 rfl rfl rfl (by exact rfl) (by exact rfl) (by exact rfl) ?_
    refine J.nil ?_
    refine J.then_n ?_
    refine J.seq ?_
    refine J.region ?_
    refine J.q rfl rfl (Q.mv rfl) ?_
    refine J.call Tryz.call128 (npow l (by omega)) [] rfl rfl rfl rfl ?_
    rintro _ _ ⟨rfl, rfl⟩
    refine J.norm rfl ?_
    refine J.q rfl rfl (Q.asg rfl) ?_
    refine J.nil ?_
    refine J.then_n ?_
    refine J.seq ?_
    refine J.region ?_
    refine J.q rfl rfl (Q.mv rfl) ?_
    refine J.q rfl rfl (Q.mv rfl) ?_
    refine J.q rfl rfl (Q.quo64 rfl rfl (by omega) (by omega) (by omega)) ?_
    refine J.q rfl rfl (Q.mul64 rfl rfl (by omega)) ?_
    refine J.q rfl rfl (Q.add64 rfl rfl (by omega)) ?_
    refine J.q rfl rfl (Q.sub64 rfl rfl (by omega)) ?_
    refine J.q rfl rfl (Q.asg rfl) ?_
    refine J.nil ?_
    refine J.then_n ?_
    refine J.block ?_
    obtain ⟨M, hM⟩ : ∃ M, M = 2 ^ bitsLen l := ⟨_, rfl⟩
    have hM2 : M ≤ 2 * l := by rw [hM]; exact Go.Sort.two_pow_bitsLen_le (by omega)
    have hM0 : 0 < M := by rw [hM]; exact Nat.two_pow_pos _
    refine J.pick [1, 0, 2] rfl ?_
    refine J.loop3 (fun (i : Nat) (_ : Int) (d1 : Array Nat) => PermIn x e d d1 ∧ x ≤ i ∧ i ≤ x + l / 4 * 2 + 2) (fun i _ _ => x + l / 4 * 2 + 2 - i) (fun i _ _ => [(0, .slice (some ⟨b, off, none⟩) n c), (1, .int .i64 x), (6, .int .i64 (l : Int)), (7, .pointer (some ⟨b7, 0, none⟩)), (8, .int .u64 (M : Int)), (9, .int .i64 i)]) (fun _ z d1 => [rowU b off n c d1, pt b7 (.cells [.int .u64 z].toArray 160 (0, 0)), F]) (x + l / 4 * 2 - 1) _ d ⟨Go.Sort.permIn_refl d x e, by omega, by omega⟩ ⟨rfl, rfl, rfl, rfl, (by rw [hM]; rfl), (by show some (Value.int .i64 _) = some (Value.int .i64 _); congr 2; omega), trivial⟩ rfl fun i z d1 hz => ?_
    obtain ⟨k1, k2, k3⟩ := hz
    have hd1 : d1.size = n := by rw [k1.1, hn]
    refine J.seq ?_
    refine J.seq ?_
    refine J.region ?_
    refine J.q rfl rfl (Q.mv rfl) ?_
    refine J.q rfl rfl (Q.mv rfl) ?_
    refine J.q rfl rfl (Q.mv rfl) ?_
    refine J.q rfl rfl (Q.quo64 rfl rfl (by omega) (by omega) (by omega)) ?_
    refine J.q rfl rfl (Q.mul64 rfl rfl (by omega)) ?_
    refine J.q rfl rfl (Q.add64 rfl rfl (by omega)) ?_
    refine J.q rfl rfl (Q.add64 rfl rfl (by omega)) ?_
    refine J.q rfl rfl (Q.leq rfl rfl) ?_
    refine J.nil ?_
    refine J.then_n ?_
    refine J.cases 33 rfl (fun hc33 => ?_) (fun hc33 => ?_)
    ·
     replace hc33 := X.nm hc33
     try (first | (cases hc33; done) | (exfalso; simp at hc33; done))
     all_goals
      refine J.cond_t rfl ?_
      refine J.cskip ?_
      refine J.then_n ?_
      refine J.seq ?_
      refine J.block ?_
      refine J.seq ?_
      refine J.region ?_
      refine J.call Tryz.call129 (xor_next b7 z) [1] rfl rfl rfl rfl ?_
      rintro _ _ ⟨z', rfl, rfl⟩
      refine J.norm rfl ?_
      refine J.q rfl rfl (Q.mv rfl) ?_
      refine J.q rfl rfl (Q.sub rfl rfl) ?_
      refine J.q rfl rfl (Q.and rfl rfl) ?_
      obtain ⟨r, hr, hre⟩ := andLe z' M hM0 (by omega)
      refine J.slot 39 (.int .u64 (r : Int)) rfl (by congr 1) ?_
      refine J.q rfl rfl (Q.conv64 Tryz.runUnderlying110 Tryz.runUnderlying3 rfl (by omega)) ?_
      refine J.q rfl rfl (Q.asg rfl) ?_
      refine J.nil ?_
      refine J.then_n ?_
      refine J.cut (fun o : Nat => o < l) (fun o => [(0, .slice (some ⟨b, off, none⟩) n c), (1, .int .i64 x), (6, .int .i64 (l : Int)), (7, .pointer (some ⟨b7, 0, none⟩)), (8, .int .u64 (M : Int)), (9, .int .i64 i), (10, .int .i64 o)]) (fun _ => [rowU b off n c d1, pt b7 (.cells [.int .u64 z'].toArray 160 (0, 0)), F]) ?_ fun o ho => ?_
      ·
       refine J.seq ?_
       refine J.region ?_
       refine J.q rfl rfl (Q.mv rfl) ?_
       refine J.q rfl rfl (Q.mv rfl) ?_
       refine J.q rfl rfl (Q.geq rfl rfl) ?_
       refine J.nil ?_
       refine J.then_n ?_
       refine J.cases 43 rfl (fun hc43 => ?_) (fun hc43 => ?_)
       ·
        replace hc43 := X.nm hc43
        try (first | (cases hc43; done) | (exfalso; simp at hc43; done))
        all_goals
         refine J.cond_t rfl ?_
         refine J.region ?_
         refine J.q rfl rfl (Q.mv rfl) ?_
         refine J.q rfl rfl (Q.mv rfl) ?_
         refine J.q rfl rfl (Q.sub64 rfl rfl (by omega)) ?_
         refine J.q rfl rfl (Q.asg rfl) ?_
         refine J.nil ?_
         refine J.pick [1, 0, 2] rfl ?_
         first
           | refine J.meet (r - l) (by omega) ⟨rfl, rfl, rfl, rfl, rfl, rfl, (by show some (Value.int .i64 _) = some (Value.int .i64 _); congr 2; omega), trivial⟩ rfl
           | refine J.meet r (by omega) ⟨rfl, rfl, rfl, rfl, rfl, rfl, rfl, trivial⟩ rfl
       replace hc43 := X.nm hc43
       try (first | (cases hc43; done) | (exfalso; simp at hc43; done))
       all_goals
        refine J.cond_f rfl ?_
        refine J.cskip ?_
        refine J.pick [1, 0, 2] rfl ?_
        first
          | refine J.meet (r - l) (by omega) ⟨rfl, rfl, rfl, rfl, rfl, rfl, (by show some (Value.int .i64 _) = some (Value.int .i64 _); congr 2; omega), trivial⟩ rfl
          | refine J.meet r (by omega) ⟨rfl, rfl, rfl, rfl, rfl, rfl, rfl, trivial⟩ rfl
      refine J.draw [17, 19] Tryz.mixed (by kernel_rfl) fun hR => ?_
      refine RG.q 0 hR rfl rfl rfl rfl rfl rfl (Q.mv rfl) ?_
      refine RG.q 1 hR rfl rfl rfl rfl rfl rfl (Q.mv rfl) ?_
      refine RG.q 2 hR rfl rfl rfl rfl rfl rfl (Q.mv rfl) ?_
      refine RG.q 3 hR rfl rfl rfl rfl rfl rfl (Q.mv rfl) ?_
      refine RG.q 4 hR rfl rfl rfl rfl rfl rfl (Q.mv rfl) ?_
      refine RG.q 5 hR rfl rfl rfl rfl rfl rfl (Q.add64 rfl rfl (by omega)) ?_
      refine RG.q 6 hR rfl rfl rfl rfl rfl rfl (Q.mv rfl) ?_
      refine RG.q 7 hR rfl rfl rfl rfl rfl rfl (Q.mv rfl) ?_
      refine RG.q 8 hR rfl rfl rfl rfl rfl rfl (Q.mv rfl) ?_
      refine RG.q 9 hR rfl rfl rfl rfl rfl rfl (Q.add64 rfl rfl (by omega)) ?_
      refine RG.q 10 hR rfl rfl rfl rfl rfl rfl (Q.ia Tryz.runUnderlying60 Tryz.sizeOf23 rfl rfl (by omega) (by omega)) ?_
      refine RG.q 11 hR rfl rfl rfl rfl rfl rfl (Q.ld Tryz.isAgg23 rfl (rdU (k := 0) rfl (by omega))) ?_
      refine RG.q 12 hR rfl rfl rfl rfl rfl rfl (Q.mv rfl) ?_
      refine RG.q 13 hR rfl rfl rfl rfl rfl rfl (Q.mv rfl) ?_
      refine RG.q 14 hR rfl rfl rfl rfl rfl rfl (Q.ia Tryz.runUnderlying60 Tryz.sizeOf23 rfl rfl (by omega) (by omega)) ?_
      refine RG.q 15 hR rfl rfl rfl rfl rfl rfl (Q.ld Tryz.isAgg23 rfl (rdU (k := 0) rfl (by omega))) ?_
      refine RG.q 16 hR rfl rfl rfl rfl rfl rfl (Q.ia Tryz.runUnderlying60 Tryz.sizeOf23 rfl rfl (by omega) (by omega)) ?_
      refine RG.barP 17 [2, 3, 4, 5] hR rfl rfl rfl rfl rfl (by kernel_rfl) ⟨Free.q rfl rfl rfl (Q.mv rfl), ⟨Free.q rfl rfl rfl (Q.mv rfl), ⟨Free.q rfl rfl rfl (Q.mv rfl), ⟨Free.q rfl rfl rfl (Q.add64 rfl rfl (by omega)), trivial⟩⟩⟩⟩ (C.stO 0 Tryz.sizeOf23 rfl rfl rfl rfl rfl (by first | (rw [avU_len]; omega) | (rw [List.length_set, avU_len]; omega))) ?_
      rintro _ _ ⟨rfl, rfl⟩
      refine RG.norm rfl ?_
      refine RG.q 18 hR rfl rfl rfl rfl rfl rfl (Q.ia Tryz.runUnderlying60 Tryz.sizeOf23 rfl rfl (by omega) (by omega)) ?_
      refine RG.barP 19 [] hR rfl rfl rfl rfl rfl (by kernel_rfl) trivial (C.stO 0 Tryz.sizeOf23 rfl rfl rfl rfl rfl (by first | (rw [avU_len]; omega) | (rw [List.length_set, avU_len]; omega))) ?_
      rintro _ _ ⟨rfl, rfl⟩
      refine RG.norm rfl ?_
      refine RG.fin hR rfl ?_
      refine J.norm rfl ?_
      refine J.blk_n ?_
      refine J.then_n ?_
      refine J.region ?_
      refine J.q rfl rfl (Q.mv rfl) ?_
      refine J.q rfl rfl (Q.add64 rfl rfl (by omega)) ?_
      refine J.q rfl rfl (Q.asg rfl) ?_
      refine J.nil ?_
      refine J.conv (Y := rowU b off n c (swp d1 i (x + o))) 0 rfl (swrU (by omega) (by omega)) ?_
      refine J.again (i + 1, z', swp d1 i (x + o)) ⟨Go.Sort.permIn_trans _ _ _ x e k1 (Go.Sort.swp_permIn d1 x e i (x + o) k2 (by omega) (by omega) (by omega) (by omega)), by show x ≤ i + 1; omega, by show i + 1 ≤ x + l / 4 * 2 + 2; omega⟩ (by show x + l / 4 * 2 + 2 - (i + 1) < x + l / 4 * 2 + 2 - i; omega) ⟨rfl, rfl, rfl, rfl, rfl, rfl, trivial⟩ rfl
    replace hc33 := X.nm hc33
    try (first | (cases hc33; done) | (exfalso; simp at hc33; done))
    all_goals
     refine J.cond_f rfl ?_
     refine J.exit ?_
     refine J.then_x ?_
     refine J.lp_x ?_
     refine J.blk_x ?_
     refine J.keep [0, 2] rfl ?_
     refine J.end0 (B := [_]) rfl ⟨d1, k1, rfl, rfl⟩ rfl
  exfalso; simp at hc15; omega
end
end Go.Proofs.YtdancegklkifaaaGreat
namespace Go.Proofs.YtdancegklkifaaaGreat
set_option linter.unusedSectionVars false
set_option linter.unusedSimpArgs false
set_option linter.unusedVariables false
open Go.X
open Go.Sort (swp bitsLen reverseRange insertionSort heapSort partition partitionEqual partialInsertionSort PermIn SortedIn SWO round_eq round_part permIn_trans)

/-- What the loop of the recursion holds: whatever sorts the part that is left sorts the whole. -/
structure RdU (n x e : Nat) (d : Array Nat) (x' e' : Nat) (d1 : Array Nat) : Prop where
  size : d1.size = n
  le : x' ≤ e'
  top : e' ≤ n
  less : e' - x' ≤ e - x
  below : Go.Sort.Below ltU x' e' d1
  fin : ∀ R, PermIn x' e' d1 R → SortedIn ltU x' e' R → PermIn x e d R ∧ SortedIn ltU x e R
theorem RdU.perm {n x e : Nat} {d : Array Nat} {x' e' : Nat} {d1 d2 : Array Nat} (h : RdU n x e d x' e' d1) (hp : PermIn x' e' d1 d2) : RdU n x e d x' e' d2 :=
  ⟨by rw [hp.1, h.size], h.le, h.top, h.less, h.below.perm (by rw [h.size]; exact h.top) hp, fun R hR hS => h.fin R (permIn_trans _ _ _ x' e' hp hR) hS⟩

structure PSU where
  x : Nat
  e : Nat
  lim : Nat
  wb : Bool
  wp : Bool
  d : Array Nat

theorem pdqU (b off n c : Nat) (hs : n ≤ 32768) : ∀ (k x e lim : Nat) (d : Array Nat), e - x = k → lim ≤ 64 → d.size = n → x ≤ e → e ≤ n → Go.Sort.Below ltU x e d →
    FSpec Tryz.prog 91 [.slice (some ⟨b, off, none⟩) n c, .int .i64 x, .int .i64 e, .int .i64 lim] [rowU b off n c d] (fun v B => ∃ d', (PermIn x e d d' ∧ SortedIn ltU x e d') ∧ v = .tuple #[] ∧ B = [rowU b off n c d']) := by
  intro k
  induction k using Nat.strongRecOn with
  | _ k ih =>
  intro x e lim d hk hl hn hx he hB
  refine FSpec.of Tryz.func91 rfl Tryz.ntmps91 rfl fun W0 F => ?_
  refine J.seq ?_
  refine J.region ?_
  refine J.q rfl rfl (Q.asg rfl) ?_
  refine J.nil ?_
  refine J.then_n ?_
  refine J.seq ?_
  refine J.region ?_
  refine J.q rfl rfl (Q.asg rfl) ?_
  refine J.nil ?_
  refine J.then_n ?_
  refine J.block ?_
  refine J.loop (fun z : PSU => RdU n x e d z.x z.e z.d ∧ z.lim ≤ 64) (fun z => z.e - z.x) (fun z => [(0, .slice (some ⟨b, off, none⟩) n c), (1, .int .i64 z.x), (2, .int .i64 z.e), (3, .int .i64 z.lim), (8, .bool z.wb), (9, .bool z.wp)]) (fun z => [rowU b off n c z.d, F]) ⟨x, e, lim, true, true, d⟩ ⟨⟨hn, hx, he, Nat.le_refl _, hB, fun R h1 h2 => ⟨h1, h2⟩⟩, hl⟩ ⟨rfl, rfl, rfl, rfl, rfl, rfl, trivial⟩ rfl fun z hz => ?_
  obtain ⟨x', e', lim', wb, wp, d1⟩ := z
  have hR : RdU n x e d x' e' d1 := hz.1
  have hl' : lim' ≤ 64 := hz.2
  have r1 := hR.le
  have r2 := hR.top
  have r3 := hR.less
  have hn1 := hR.size
  refine J.sub [(0, .slice (some ⟨b, off, none⟩) n c), (1, .int .i64 x'), (2, .int .i64 e'), (3, .int .i64 lim'), (8, .bool wb), (9, .bool wp)] ⟨rfl, rfl, rfl, rfl, rfl, rfl, trivial⟩ ?_
  refine J.same (B := [rowU b off n c d1, F]) rfl ?_
  refine J.block ?_
  refine J.seq ?_
  refine J.region ?_
  refine J.q rfl rfl (Q.mv rfl) ?_
  refine J.q rfl rfl (Q.mv rfl) ?_
  refine J.q rfl rfl (Q.sub64 rfl rfl (by omega)) ?_
  refine J.q rfl rfl (Q.asg rfl) ?_
  refine J.nil ?_
  refine J.then_n ?_
  refine J.seq ?_
  refine J.seq ?_
  refine J.region ?_
  refine J.q rfl rfl (Q.mv rfl) ?_
  refine J.q rfl rfl (Q.leq rfl rfl) ?_
  refine J.nil ?_
  refine J.then_n ?_
  refine J.cases 23 rfl (fun hc23 => ?_) (fun hc23 => ?_)
  ·
   replace hc23 := X.nm hc23
   try (first | (cases hc23; done) | (exfalso; simp at hc23; done))
   all_goals
    refine J.cond_t rfl ?_
    refine J.seq ?_
    refine J.region ?_
    refine J.q rfl rfl (Q.mv rfl) ?_
    refine J.q rfl rfl (Q.mv rfl) ?_
    refine J.q rfl rfl (Q.mv rfl) ?_
    refine J.call Tryz.call108 (insertionU b off n c d1 x' e' hn1 r1 r2 (by omega)) [0] rfl rfl rfl rfl ?_
    rintro _ _ ⟨rfl, rfl⟩
    refine J.norm rfl ?_
    refine J.nil ?_
    refine J.then_n ?_
    refine J.cret ?_
    refine J.then_r ?_
    refine J.blk_r ?_
    refine J.lp_r ?_
    refine J.blk_r ?_
    have hi := Go.Sort.insertionSort_holds swoU d1 x' e' r1 (by omega)
    refine J.ret0 (B := [_]) rfl ⟨_, hR.fin _ hi.1 hi.2, rfl, rfl⟩ rfl
  replace hc23 := X.nm hc23
  try (first | (cases hc23; done) | (exfalso; simp at hc23; done))
  all_goals
   refine J.cond_f rfl ?_
   refine J.cskip ?_
   refine J.then_n ?_
   refine J.seq ?_
   refine J.seq ?_
   refine J.region ?_
   refine J.q rfl rfl (Q.mv rfl) ?_
   refine J.q rfl rfl (Q.eql rfl rfl) ?_
   refine J.nil ?_
   refine J.then_n ?_
   refine J.cases 29 rfl (fun hc29 => ?_) (fun hc29 => ?_)
   ·
    replace hc29 := X.nm hc29
    try (first | (cases hc29; done) | (exfalso; simp at hc29; done))
    all_goals
     refine J.cond_t rfl ?_
     refine J.seq ?_
     refine J.region ?_
     refine J.q rfl rfl (Q.mv rfl) ?_
     refine J.q rfl rfl (Q.mv rfl) ?_
     refine J.q rfl rfl (Q.mv rfl) ?_
     refine J.call Tryz.call109 (heapU b off n c d1 x' e' hn1 (by omega) r2 (by omega)) [0] rfl rfl rfl rfl ?_
     rintro _ _ ⟨rfl, rfl⟩
     refine J.norm rfl ?_
     refine J.nil ?_
     refine J.then_n ?_
     refine J.cret ?_
     refine J.then_r ?_
     refine J.blk_r ?_
     refine J.lp_r ?_
     refine J.blk_r ?_
     have hi := Go.Sort.heapSort_holds swoU d1 x' e' r1 (by omega)
     refine J.ret0 (B := [_]) rfl ⟨_, hR.fin _ hi.1 hi.2, rfl, rfl⟩ rfl
   replace hc29 := X.nm hc29
   try (first | (cases hc29; done) | (exfalso; simp at hc29; done))
   all_goals
    refine J.cond_f rfl ?_
    refine J.cskip ?_
    refine J.then_n ?_
    refine J.cut (fun z : Nat × Array Nat => RdU n x e d x' e' z.2 ∧ z.1 ≤ 64) (fun z => [(0, .slice (some ⟨b, off, none⟩) n c), (1, .int .i64 x'), (2, .int .i64 e'), (3, .int .i64 z.1), (8, .bool wb), (9, .bool wp), (10, .int .i64 ((e' : Int) - x'))]) (fun z => [rowU b off n c z.2, F]) ?_ fun z hz2 => ?_
    ·
     refine J.seq ?_
     refine J.region ?_
     refine J.q rfl rfl (Q.mv rfl) ?_
     refine J.q rfl rfl (Q.not rfl) ?_
     refine J.nil ?_
     refine J.then_n ?_
     refine J.cases 35 rfl (fun hc35 => ?_) (fun hc35 => ?_)
     ·
      replace hc35 := X.nm hc35
      try (first | (cases hc35; done) | (exfalso; simp at hc35; done))
      all_goals
       refine J.cond_t rfl ?_
       refine J.seq ?_
       refine J.region ?_
       refine J.q rfl rfl (Q.mv rfl) ?_
       refine J.q rfl rfl (Q.mv rfl) ?_
       refine J.q rfl rfl (Q.mv rfl) ?_
       refine J.call Tryz.call110 (breakpU b off n c d1 hn1 hs x' e' (by omega) r2) [0] rfl rfl rfl rfl ?_
       rintro _ _ ⟨d2, hp2, rfl, rfl⟩
       refine J.norm rfl ?_
       refine J.nil ?_
       refine J.then_n ?_
       refine J.region ?_
       refine J.q rfl rfl (Q.mv rfl) ?_
       refine J.q rfl rfl (Q.sub64 rfl rfl (by omega)) ?_
       refine J.q rfl rfl (Q.asg rfl) ?_
       refine J.nil ?_
       first
         | refine J.meet (lim' - 1, d2) ⟨hR.perm hp2, by show lim' - 1 ≤ 64; omega⟩ ⟨rfl, rfl, rfl, (by show some (Value.int .i64 _) = some (Value.int .i64 _); congr 2; show (lim' : Int) - 1 = ((lim' - 1 : Nat) : Int); omega), rfl, rfl, rfl, trivial⟩ rfl
         | refine J.meet (lim', d1) ⟨hR, hl'⟩ ⟨rfl, rfl, rfl, rfl, rfl, rfl, rfl, trivial⟩ rfl
     replace hc35 := X.nm hc35
     try (first | (cases hc35; done) | (exfalso; simp at hc35; done))
     all_goals
      refine J.cond_f rfl ?_
      refine J.cskip ?_
      first
        | refine J.meet (lim' - 1, d2) ⟨hR.perm hp2, by show lim' - 1 ≤ 64; omega⟩ ⟨rfl, rfl, rfl, (by show some (Value.int .i64 _) = some (Value.int .i64 _); congr 2; show (lim' : Int) - 1 = ((lim' - 1 : Nat) : Int); omega), rfl, rfl, rfl, trivial⟩ rfl
        | refine J.meet (lim', d1) ⟨hR, hl'⟩ ⟨rfl, rfl, rfl, rfl, rfl, rfl, rfl, trivial⟩ rfl
    obtain ⟨lim2, d2⟩ := z
    have hR2 : RdU n x e d x' e' d2 := hz2.1
    have hl2 : lim2 ≤ 64 := hz2.2
    have hn2 := hR2.size
    refine J.sub [(0, .slice (some ⟨b, off, none⟩) n c), (1, .int .i64 x'), (2, .int .i64 e'), (3, .int .i64 lim2), (8, .bool wb), (9, .bool wp), (10, .int .i64 ((e' : Int) - x'))] ⟨rfl, rfl, rfl, rfl, rfl, rfl, rfl, trivial⟩ ?_
    refine J.same (B := [rowU b off n c d2, F]) rfl ?_
    refine J.seq ?_
    refine J.region ?_
    refine J.q rfl rfl (Q.mv rfl) ?_
    refine J.q rfl rfl (Q.mv rfl) ?_
    refine J.q rfl rfl (Q.mv rfl) ?_
    refine J.call Tryz.call111 (pivotU b off n c d2 hn2 hs x' e' (by omega) r2) [0] rfl rfl rfl rfl ?_
    rintro _ _ ⟨p, h, hp, rfl, rfl⟩
    refine J.norm rfl ?_
    refine J.q rfl rfl (Q.mv rfl) ?_
    refine J.q rfl rfl (Q.ext rfl rfl) ?_
    refine J.q rfl rfl (Q.ext rfl rfl) ?_
    refine J.q rfl rfl (Q.asg rfl) ?_
    refine J.q rfl rfl (Q.asg rfl) ?_
    refine J.nil ?_
    refine J.then_n ?_
    refine J.cut (fun z : Nat × Int × Array Nat => (x' ≤ z.1 ∧ z.1 < e') ∧ RdU n x e d x' e' z.2.2) (fun z => [(0, .slice (some ⟨b, off, none⟩) n c), (1, .int .i64 x'), (2, .int .i64 e'), (3, .int .i64 lim2), (8, .bool wb), (9, .bool wp), (10, .int .i64 ((e' : Int) - x')), (11, .int .i64 z.1), (12, .int .i64 z.2.1)]) (fun z => [rowU b off n c z.2.2, F]) ?_ fun z hz3 => ?_
    ·
     refine J.seq ?_
     refine J.region ?_
     refine J.q rfl rfl (Q.mv rfl) ?_
     refine J.q rfl rfl (Q.eql rfl rfl) ?_
     refine J.nil ?_
     refine J.then_n ?_
     refine J.cases 50 rfl (fun hc50 => ?_) (fun hc50 => ?_)
     ·
      replace hc50 := X.nm hc50
      try (first | (cases hc50; done) | (exfalso; simp at hc50; done))
      all_goals
       refine J.cond_t rfl ?_
       refine J.seq ?_
       refine J.region ?_
       refine J.q rfl rfl (Q.mv rfl) ?_
       refine J.q rfl rfl (Q.mv rfl) ?_
       refine J.q rfl rfl (Q.mv rfl) ?_
       refine J.call Tryz.call112 (reverseU b off n c d2 x' e' hn2 (by omega) r2 (by omega)) [0] rfl rfl rfl rfl ?_
       rintro _ _ ⟨rfl, rfl⟩
       refine J.norm rfl ?_
       refine J.nil ?_
       refine J.then_n ?_
       refine J.seq ?_
       refine J.region ?_
       refine J.q rfl rfl (Q.mv rfl) ?_
       refine J.q rfl rfl (Q.sub64 rfl rfl (by omega)) ?_
       refine J.q rfl rfl (Q.mv rfl) ?_
       refine J.q rfl rfl (Q.mv rfl) ?_
       refine J.q rfl rfl (Q.sub64 rfl rfl (by omega)) ?_
       refine J.q rfl rfl (Q.sub64 rfl rfl (by omega)) ?_
       refine J.q rfl rfl (Q.asg rfl) ?_
       refine J.nil ?_
       refine J.then_n ?_
       refine J.region ?_
       refine J.q rfl rfl (Q.asg rfl) ?_
       refine J.nil ?_
       first
         | refine J.meet (e' - 1 - (p - x'), 1, reverseRange d2 x' e') ⟨⟨by show x' ≤ e' - 1 - (p - x'); omega, by show e' - 1 - (p - x') < e'; omega⟩, hR2.perm (Go.Sort.reverseRange_holds d2 x' e' r1 (by omega))⟩ ⟨rfl, rfl, rfl, rfl, rfl, rfl, rfl, (by show some (Value.int .i64 _) = some (Value.int .i64 _); congr 2; show (e' : Int) - 1 - (p - x') = ((e' - 1 - (p - x') : Nat) : Int); omega), rfl, trivial⟩ rfl
         | refine J.meet (p, h, d2) ⟨hp, hR2⟩ ⟨rfl, rfl, rfl, rfl, rfl, rfl, rfl, rfl, rfl, trivial⟩ rfl
     replace hc50 := X.nm hc50
     try (first | (cases hc50; done) | (exfalso; simp at hc50; done))
     all_goals
      refine J.cond_f rfl ?_
      refine J.cskip ?_
      first
        | refine J.meet (e' - 1 - (p - x'), 1, reverseRange d2 x' e') ⟨⟨by show x' ≤ e' - 1 - (p - x'); omega, by show e' - 1 - (p - x') < e'; omega⟩, hR2.perm (Go.Sort.reverseRange_holds d2 x' e' r1 (by omega))⟩ ⟨rfl, rfl, rfl, rfl, rfl, rfl, rfl, (by show some (Value.int .i64 _) = some (Value.int .i64 _); congr 2; show (e' : Int) - 1 - (p - x') = ((e' - 1 - (p - x') : Nat) : Int); omega), rfl, trivial⟩ rfl
        | refine J.meet (p, h, d2) ⟨hp, hR2⟩ ⟨rfl, rfl, rfl, rfl, rfl, rfl, rfl, rfl, rfl, trivial⟩ rfl
    obtain ⟨p2, h2, d3⟩ := z
    obtain ⟨⟨hp1, hp2⟩, hz3⟩ := hz3
    dsimp only at hp1 hp2
    have hR3 : RdU n x e d x' e' d3 := hz3
    have hn3 := hR3.size
    refine J.sub [(0, .slice (some ⟨b, off, none⟩) n c), (1, .int .i64 x'), (2, .int .i64 e'), (3, .int .i64 lim2), (8, .bool wb), (9, .bool wp), (10, .int .i64 ((e' : Int) - x')), (11, .int .i64 p2), (12, .int .i64 h2)] ⟨rfl, rfl, rfl, rfl, rfl, rfl, rfl, rfl, rfl, trivial⟩ ?_
    refine J.same (B := [rowU b off n c d3, F]) rfl ?_
    refine J.cut (fun d4 : Array Nat => RdU n x e d x' e' d4) (fun _ => [(0, .slice (some ⟨b, off, none⟩) n c), (1, .int .i64 x'), (2, .int .i64 e'), (3, .int .i64 lim2), (8, .bool wb), (9, .bool wp), (10, .int .i64 ((e' : Int) - x')), (11, .int .i64 p2)]) (fun d4 => [rowU b off n c d4, F]) ?_ fun d4 hR4 => ?_
    ·
     refine J.seq ?_
     refine J.region ?_
     refine J.q rfl rfl (Q.mv rfl) ?_
     refine J.q rfl rfl (Q.mv rfl) ?_
     refine J.cases 62 rfl (fun hb62 => ?_) (fun hb62 => ?_)
     ·
      replace hb62 := X.nm hb62
      try (first | (cases hb62; done) | (exfalso; simp at hb62; done))
      all_goals
       refine J.q rfl rfl (Q.mv rfl) ?_
       refine J.q rfl rfl (Q.pick_t rfl rfl) ?_
       refine J.q rfl rfl (Q.mv rfl) ?_
       refine J.cases 65 rfl (fun hb65 => ?_) (fun hb65 => ?_)
       ·
        replace hb65 := X.nm hb65
        try (first | (cases hb65; done) | (exfalso; simp at hb65; done))
        all_goals
         refine J.q rfl rfl (Q.mv rfl) ?_
         refine J.q rfl rfl (Q.eql rfl rfl) ?_
         refine J.q rfl rfl (Q.pick_t rfl rfl) ?_
         refine J.nil ?_
         refine J.then_n ?_
         refine J.cases 68 rfl (fun hc68 => ?_) (fun hc68 => ?_)
         ·
          replace hc68 := X.nm hc68
          try (first | (cases hc68; done) | (exfalso; simp at hc68; done))
          all_goals
           refine J.cond_t rfl ?_
           refine J.seq ?_
           refine J.region ?_
           refine J.q rfl rfl (Q.mv rfl) ?_
           refine J.q rfl rfl (Q.mv rfl) ?_
           refine J.q rfl rfl (Q.mv rfl) ?_
           refine J.call Tryz.call113 (partialInsU b off n c d3 x' e' hn3 (by omega) r2 (by omega)) [0] rfl rfl rfl rfl ?_
           rintro _ _ ⟨rfl, rfl⟩
           refine J.norm rfl ?_
           have hpi := Go.Sort.partialInsertionSort_holds swoU d3 x' e' (by omega) (by omega) hR3.below
           refine J.nil ?_
           refine J.then_n ?_
           refine J.cases 72 rfl (fun hc72 => ?_) (fun hc72 => ?_)
           ·
            replace hc72 := X.nm hc72
            try (first | (cases hc72; done) | (exfalso; simp at hc72; done))
            all_goals
             refine J.cond_t rfl ?_
             refine J.cret ?_
             refine J.cut_r ?_
             refine J.blk_r ?_
             refine J.lp_r ?_
             refine J.blk_r ?_
             refine J.ret0 (B := [_]) rfl ⟨_, hR3.fin _ hpi.1 (hpi.2 hc72), rfl, rfl⟩ rfl
           replace hc72 := X.nm hc72
           try (first | (cases hc72; done) | (exfalso; simp at hc72; done))
           all_goals
            refine J.cond_f rfl ?_
            refine J.cskip ?_
            first
              | refine J.meet _ (hR3.perm hpi.1) ⟨rfl, rfl, rfl, rfl, rfl, rfl, rfl, rfl, trivial⟩ rfl
              | refine J.meet d3 hR3 ⟨rfl, rfl, rfl, rfl, rfl, rfl, rfl, rfl, trivial⟩ rfl
         replace hc68 := X.nm hc68
         try (first | (cases hc68; done) | (exfalso; simp at hc68; done))
         all_goals
          refine J.cond_f rfl ?_
          refine J.cskip ?_
          first
            | refine J.meet _ (hR3.perm hpi.1) ⟨rfl, rfl, rfl, rfl, rfl, rfl, rfl, rfl, trivial⟩ rfl
            | refine J.meet d3 hR3 ⟨rfl, rfl, rfl, rfl, rfl, rfl, rfl, rfl, trivial⟩ rfl
       replace hb65 := X.nm hb65
       try (first | (cases hb65; done) | (exfalso; simp at hb65; done))
       all_goals
        refine J.skip rfl rfl ?_
        refine J.skip rfl rfl ?_
        refine J.q rfl rfl (Q.pick_f rfl rfl) ?_
        refine J.nil ?_
        refine J.then_n ?_
        refine J.cond_f rfl ?_
        refine J.cskip ?_
        first
          | refine J.meet _ (hR3.perm hpi.1) ⟨rfl, rfl, rfl, rfl, rfl, rfl, rfl, rfl, trivial⟩ rfl
          | refine J.meet d3 hR3 ⟨rfl, rfl, rfl, rfl, rfl, rfl, rfl, rfl, trivial⟩ rfl
     replace hb62 := X.nm hb62
     try (first | (cases hb62; done) | (exfalso; simp at hb62; done))
     all_goals
      refine J.skip rfl rfl ?_
      refine J.q rfl rfl (Q.pick_f rfl rfl) ?_
      refine J.q rfl rfl (Q.mv rfl) ?_
      refine J.skip rfl rfl ?_
      refine J.skip rfl rfl ?_
      refine J.q rfl rfl (Q.pick_f rfl rfl) ?_
      refine J.nil ?_
      refine J.then_n ?_
      refine J.cond_f rfl ?_
      refine J.cskip ?_
      first
        | refine J.meet _ (hR3.perm hpi.1) ⟨rfl, rfl, rfl, rfl, rfl, rfl, rfl, rfl, trivial⟩ rfl
        | refine J.meet d3 hR3 ⟨rfl, rfl, rfl, rfl, rfl, rfl, rfl, rfl, trivial⟩ rfl
    have hn4 := hR4.size
    refine J.seq ?_
    refine J.seq ?_
    refine J.draw [12] Tryz.mixed (by kernel_rfl) fun hR => ?_
    refine RG.q 0 hR rfl rfl rfl rfl rfl rfl (Q.mv rfl) ?_
    refine RG.q 1 hR rfl rfl rfl rfl rfl rfl (Q.gtr rfl rfl) ?_
    refine RG.q 2 hR rfl rfl rfl rfl rfl rfl (Q.mv rfl) ?_
    refine RG.cases 75 rfl (fun hb75 => ?_) (fun hb75 => ?_)
    ·
     replace hb75 := X.nm hb75
     try (first | (cases hb75; done) | (exfalso; simp at hb75; done))
     all_goals
      refine RG.q 3 hR rfl rfl rfl rfl rfl rfl (Q.mv rfl) ?_
      refine RG.q 4 hR rfl rfl rfl rfl rfl rfl (Q.mv rfl) ?_
      refine RG.q 5 hR rfl rfl rfl rfl rfl rfl (Q.sub64 rfl rfl (by omega)) ?_
      refine RG.q 6 hR rfl rfl rfl rfl rfl rfl (Q.ia Tryz.runUnderlying60 Tryz.sizeOf23 rfl rfl (by omega) (by omega)) ?_
      refine RG.q 7 hR rfl rfl rfl rfl rfl rfl (Q.ld Tryz.isAgg23 rfl (rdU (k := 0) rfl (by omega))) ?_
      refine RG.q 8 hR rfl rfl rfl rfl rfl rfl (Q.mv rfl) ?_
      refine RG.q 9 hR rfl rfl rfl rfl rfl rfl (Q.mv rfl) ?_
      refine RG.q 10 hR rfl rfl rfl rfl rfl rfl (Q.ia Tryz.runUnderlying60 Tryz.sizeOf23 rfl rfl (by omega) (by omega)) ?_
      refine RG.q 11 hR rfl rfl rfl rfl rfl rfl (Q.ld Tryz.isAgg23 rfl (rdU (k := 0) rfl (by omega))) ?_
      refine RG.call 12 hR rfl rfl rfl rfl rfl rfl Tryz.call114 (lessU _ _) [] rfl rfl ?_
      rintro _ _ ⟨rfl, rfl⟩
      refine RG.norm rfl ?_
      refine RG.q 13 hR rfl rfl rfl rfl rfl rfl (Q.not rfl) ?_
      refine RG.q 14 hR rfl rfl rfl rfl rfl rfl (Q.pick_t rfl rfl) ?_
      refine RG.fin hR rfl ?_
      refine J.norm rfl ?_
      refine J.then_n ?_
      refine J.cases 87 rfl (fun hc87 => ?_) (fun hc87 => ?_)
      ·
       replace hc87 := X.nm hc87
       try (first | (cases hc87; done) | (exfalso; simp at hc87; done))
       all_goals
        refine J.cond_t rfl ?_
        refine J.seq ?_
        refine J.region ?_
        refine J.q rfl rfl (Q.mv rfl) ?_
        refine J.q rfl rfl (Q.mv rfl) ?_
        refine J.q rfl rfl (Q.mv rfl) ?_
        refine J.q rfl rfl (Q.mv rfl) ?_
        refine J.call Tryz.call115 (partEqU b off n c d4 x' e' p2 hn4 hp1 hp2 r2 (by omega)) [0] rfl rfl rfl rfl ?_
        rintro _ _ ⟨rfl, rfl⟩
        refine J.norm rfl ?_
        have e1 : ((x' : Int) - 1).toNat = x' - 1 := by omega
        rw [Int.toNat_natCast, e1] at hc87
        obtain ⟨s1, s2, s3, s4, s5⟩ := round_eq (mid := (partitionEqual ltU d4 x' e' p2).1) (d4 := (partitionEqual ltU d4 x' e' p2).2) swoU (Go.Sort.partitionEqual_holds ltU) (by omega) hp1 hp2 (by omega) hR4.below (by simpa using hc87) rfl
        refine J.q rfl rfl (Q.asg rfl) ?_
        refine J.nil ?_
        refine J.then_n ?_
        refine J.seq ?_
        refine J.region ?_
        refine J.q rfl rfl (Q.mv rfl) ?_
        refine J.q rfl rfl (Q.asg rfl) ?_
        refine J.nil ?_
        refine J.then_n ?_
        refine J.exit ?_
        refine J.then_x ?_
        refine J.blk_x ?_
        refine J.again ⟨(partitionEqual ltU d4 x' e' p2).1, e', lim2, wb, wp, (partitionEqual ltU d4 x' e' p2).2⟩ ⟨⟨by rw [s3, hn4], s2, r2, by show e' - (partitionEqual ltU d4 x' e' p2).1 ≤ e - x; omega, s4, fun R h1 h2 => by obtain ⟨t1, t2⟩ := s5 R h1 h2; exact hR4.fin R t1 t2⟩, hl2⟩ (by show e' - (partitionEqual ltU d4 x' e' p2).1 < e' - x'; omega) ⟨rfl, rfl, rfl, rfl, rfl, rfl, trivial⟩ rfl
      replace hc87 := X.nm hc87
      try (first | (cases hc87; done) | (exfalso; simp at hc87; done))
      all_goals
       refine J.cond_f rfl ?_
       refine J.cskip ?_
       refine J.then_n ?_
       refine J.seq ?_
       refine J.region ?_
       refine J.q rfl rfl (Q.mv rfl) ?_
       refine J.q rfl rfl (Q.mv rfl) ?_
       refine J.q rfl rfl (Q.mv rfl) ?_
       refine J.q rfl rfl (Q.mv rfl) ?_
       refine J.call Tryz.call116 (partitionU b off n c d4 x' e' p2 hn4 hp1 hp2 r2 (by omega)) [0] rfl rfl rfl rfl ?_
       rintro _ _ ⟨rfl, rfl⟩
       refine J.norm rfl ?_
       obtain ⟨q, hq⟩ : ∃ q, partition ltU d4 x' e' p2 = q := ⟨_, rfl⟩
       rw [hq]
       obtain ⟨mid, ap, d5⟩ := q
       obtain ⟨s1, s2, s3, s4, s5, s6, s7⟩ := round_part swoU (Go.Sort.partition_holds ltU) hp1 hp2 (by omega) hR4.below hq
       refine J.slot 99 (.tuple ([.int .i64 (mid : Int), .bool ap] : List Value).toArray) rfl rfl ?_
       refine J.conv (Y := rowU b off n c d5) 0 rfl (fun h hh => hh) ?_
       refine J.q rfl rfl (Q.mv rfl) ?_
       refine J.q rfl rfl (Q.ext rfl rfl) ?_
       refine J.q rfl rfl (Q.ext rfl rfl) ?_
       refine J.q rfl rfl (Q.asg rfl) ?_
       refine J.q rfl rfl (Q.asg rfl) ?_
       refine J.nil ?_
       refine J.then_n ?_
       refine J.seq ?_
       refine J.region ?_
       refine J.q rfl rfl (Q.mv rfl) ?_
       refine J.q rfl rfl (Q.asg rfl) ?_
       refine J.nil ?_
       refine J.then_n ?_
       refine J.seq ?_
       refine J.region ?_
       refine J.q rfl rfl (Q.mv rfl) ?_
       refine J.q rfl rfl (Q.mv rfl) ?_
       refine J.q rfl rfl (Q.sub64 rfl rfl (by omega)) ?_
       refine J.q rfl rfl (Q.mv rfl) ?_
       refine J.q rfl rfl (Q.mv rfl) ?_
       refine J.q rfl rfl (Q.sub64 rfl rfl (by omega)) ?_
       refine J.q rfl rfl (Q.asg rfl) ?_
       refine J.q rfl rfl (Q.asg rfl) ?_
       refine J.nil ?_
       refine J.then_n ?_
       refine J.seq ?_
       refine J.region ?_
       refine J.q rfl rfl (Q.mv rfl) ?_
       refine J.q rfl rfl (Q.quo64 rfl rfl (by omega) (by omega) (by omega)) ?_
       refine J.q rfl rfl (Q.asg rfl) ?_
       refine J.nil ?_
       refine J.then_n ?_
       refine J.seq ?_
       refine J.region ?_
       refine J.q rfl rfl (Q.mv rfl) ?_
       refine J.q rfl rfl (Q.mv rfl) ?_
       refine J.q rfl rfl (Q.lss rfl rfl) ?_
       refine J.nil ?_
       refine J.then_n ?_
       refine J.cases 113 rfl (fun hc113 => ?_) (fun hc113 => ?_)
       ·
        replace hc113 := X.nm hc113
        try (first | (cases hc113; done) | (exfalso; simp at hc113; done))
        all_goals
         refine J.cond_t rfl ?_
         refine J.seq ?_
         refine J.region ?_
         refine J.q rfl rfl (Q.mv rfl) ?_
         refine J.q rfl rfl (Q.mv rfl) ?_
         refine J.q rfl rfl (Q.geq rfl rfl) ?_
         refine J.q rfl rfl (Q.asg rfl) ?_
         refine J.nil ?_
         refine J.then_n ?_
         refine J.seq ?_
         refine J.region ?_
         refine J.q rfl rfl (Q.mv rfl) ?_
         refine J.q rfl rfl (Q.mv rfl) ?_
         refine J.q rfl rfl (Q.mv rfl) ?_
         refine J.q rfl rfl (Q.mv rfl) ?_
         refine J.call Tryz.call91 (ih (mid - x') (by omega) x' mid lim2 d5 rfl hl2 (by omega) (by omega) (by omega) s4) [0] rfl rfl rfl rfl ?_
         rintro _ _ ⟨d6, hd6, rfl, rfl⟩
         refine J.norm rfl ?_
         obtain ⟨u1, u2⟩ := s6 d6 hd6.1 hd6.2
         refine J.nil ?_
         refine J.then_n ?_
         refine J.region ?_
         refine J.q rfl rfl (Q.mv rfl) ?_
         refine J.q rfl rfl (Q.add64 rfl rfl (by omega)) ?_
         refine J.q rfl rfl (Q.asg rfl) ?_
         refine J.nil ?_
         refine J.blk_n ?_
         first
           | refine J.again ⟨x', mid, lim2, _, ap, d6⟩ ⟨⟨by rw [hd6.1.1, s3, hn4], s1, by show mid ≤ n; omega, by show mid - x' ≤ e - x; omega, u1, fun R h1 h2 => by obtain ⟨t1, t2⟩ := u2 R h1 h2; exact hR4.fin R t1 t2⟩, hl2⟩ (by show mid - x' < e' - x'; omega) ⟨rfl, rfl, rfl, rfl, rfl, rfl, trivial⟩ rfl
           | refine J.again ⟨mid + 1, e', lim2, _, ap, d6⟩ ⟨⟨by rw [hd6.1.1, s3, hn4], by show mid + 1 ≤ e'; omega, r2, by show e' - (mid + 1) ≤ e - x; omega, u1, fun R h1 h2 => by obtain ⟨t1, t2⟩ := u2 R h1 h2; exact hR4.fin R t1 t2⟩, hl2⟩ (by show e' - (mid + 1) < e' - x'; omega) ⟨rfl, rfl, rfl, rfl, rfl, rfl, trivial⟩ rfl
       replace hc113 := X.nm hc113
       try (first | (cases hc113; done) | (exfalso; simp at hc113; done))
       all_goals
        refine J.cond_f rfl ?_
        refine J.seq ?_
        refine J.region ?_
        refine J.q rfl rfl (Q.mv rfl) ?_
        refine J.q rfl rfl (Q.mv rfl) ?_
        refine J.q rfl rfl (Q.geq rfl rfl) ?_
        refine J.q rfl rfl (Q.asg rfl) ?_
        refine J.nil ?_
        refine J.then_n ?_
        refine J.seq ?_
        refine J.region ?_
        refine J.q rfl rfl (Q.mv rfl) ?_
        refine J.q rfl rfl (Q.mv rfl) ?_
        refine J.q rfl rfl (Q.add64 rfl rfl (by omega)) ?_
        refine J.q rfl rfl (Q.mv rfl) ?_
        refine J.q rfl rfl (Q.mv rfl) ?_
        refine J.call Tryz.call91 (ih (e' - (mid + 1)) (by omega) (mid + 1) e' lim2 d5 rfl hl2 (by omega) (by omega) (by omega) s5) [0] rfl rfl rfl rfl ?_
        rintro _ _ ⟨d6, hd6, rfl, rfl⟩
        refine J.norm rfl ?_
        obtain ⟨u1, u2⟩ := s7 d6 hd6.1 hd6.2
        refine J.nil ?_
        refine J.then_n ?_
        refine J.region ?_
        refine J.q rfl rfl (Q.mv rfl) ?_
        refine J.q rfl rfl (Q.asg rfl) ?_
        refine J.nil ?_
        refine J.blk_n ?_
        first
          | refine J.again ⟨x', mid, lim2, _, ap, d6⟩ ⟨⟨by rw [hd6.1.1, s3, hn4], s1, by show mid ≤ n; omega, by show mid - x' ≤ e - x; omega, u1, fun R h1 h2 => by obtain ⟨t1, t2⟩ := u2 R h1 h2; exact hR4.fin R t1 t2⟩, hl2⟩ (by show mid - x' < e' - x'; omega) ⟨rfl, rfl, rfl, rfl, rfl, rfl, trivial⟩ rfl
          | refine J.again ⟨mid + 1, e', lim2, _, ap, d6⟩ ⟨⟨by rw [hd6.1.1, s3, hn4], by show mid + 1 ≤ e'; omega, r2, by show e' - (mid + 1) ≤ e - x; omega, u1, fun R h1 h2 => by obtain ⟨t1, t2⟩ := u2 R h1 h2; exact hR4.fin R t1 t2⟩, hl2⟩ (by show e' - (mid + 1) < e' - x'; omega) ⟨rfl, rfl, rfl, rfl, rfl, rfl, trivial⟩ rfl
    replace hb75 := X.nm hb75
    try (first | (cases hb75; done) | (exfalso; simp at hb75; done))
    all_goals
     refine RG.skip 3 hR rfl rfl rfl rfl rfl rfl ?_
     refine RG.skip 4 hR rfl rfl rfl rfl rfl rfl ?_
     refine RG.skip 5 hR rfl rfl rfl rfl rfl rfl ?_
     refine RG.skip 6 hR rfl rfl rfl rfl rfl rfl ?_
     refine RG.skip 7 hR rfl rfl rfl rfl rfl rfl ?_
     refine RG.skip 8 hR rfl rfl rfl rfl rfl rfl ?_
     refine RG.skip 9 hR rfl rfl rfl rfl rfl rfl ?_
     refine RG.skip 10 hR rfl rfl rfl rfl rfl rfl ?_
     refine RG.skip 11 hR rfl rfl rfl rfl rfl rfl ?_
     refine RG.pass 12 hR rfl rfl rfl rfl rfl ?_
     refine RG.skip 13 hR rfl rfl rfl rfl rfl rfl ?_
     refine RG.q 14 hR rfl rfl rfl rfl rfl rfl (Q.pick_f rfl rfl) ?_
     refine RG.fin hR rfl ?_
     refine J.norm rfl ?_
     refine J.then_n ?_
     refine J.cond_f rfl ?_
     refine J.cskip ?_
     refine J.then_n ?_
     refine J.seq ?_
     refine J.region ?_
     refine J.q rfl rfl (Q.mv rfl) ?_
     refine J.q rfl rfl (Q.mv rfl) ?_
     refine J.q rfl rfl (Q.mv rfl) ?_
     refine J.q rfl rfl (Q.mv rfl) ?_
     refine J.call Tryz.call116 (partitionU b off n c d4 x' e' p2 hn4 hp1 hp2 r2 (by omega)) [0] rfl rfl rfl rfl ?_
     rintro _ _ ⟨rfl, rfl⟩
     refine J.norm rfl ?_
     obtain ⟨q, hq⟩ : ∃ q, partition ltU d4 x' e' p2 = q := ⟨_, rfl⟩
     rw [hq]
     obtain ⟨mid, ap, d5⟩ := q
     obtain ⟨s1, s2, s3, s4, s5, s6, s7⟩ := round_part swoU (Go.Sort.partition_holds ltU) hp1 hp2 (by omega) hR4.below hq
     refine J.slot 99 (.tuple ([.int .i64 (mid : Int), .bool ap] : List Value).toArray) rfl rfl ?_
     refine J.conv (Y := rowU b off n c d5) 0 rfl (fun h hh => hh) ?_
     refine J.q rfl rfl (Q.mv rfl) ?_
     refine J.q rfl rfl (Q.ext rfl rfl) ?_
     refine J.q rfl rfl (Q.ext rfl rfl) ?_
     refine J.q rfl rfl (Q.asg rfl) ?_
     refine J.q rfl rfl (Q.asg rfl) ?_
     refine J.nil ?_
     refine J.then_n ?_
     refine J.seq ?_
     refine J.region ?_
     refine J.q rfl rfl (Q.mv rfl) ?_
     refine J.q rfl rfl (Q.asg rfl) ?_
     refine J.nil ?_
     refine J.then_n ?_
     refine J.seq ?_
     refine J.region ?_
     refine J.q rfl rfl (Q.mv rfl) ?_
     refine J.q rfl rfl (Q.mv rfl) ?_
     refine J.q rfl rfl (Q.sub64 rfl rfl (by omega)) ?_
     refine J.q rfl rfl (Q.mv rfl) ?_
     refine J.q rfl rfl (Q.mv rfl) ?_
     refine J.q rfl rfl (Q.sub64 rfl rfl (by omega)) ?_
     refine J.q rfl rfl (Q.asg rfl) ?_
     refine J.q rfl rfl (Q.asg rfl) ?_
     refine J.nil ?_
     refine J.then_n ?_
     refine J.seq ?_
     refine J.region ?_
     refine J.q rfl rfl (Q.mv rfl) ?_
     refine J.q rfl rfl (Q.quo64 rfl rfl (by omega) (by omega) (by omega)) ?_
     refine J.q rfl rfl (Q.asg rfl) ?_
     refine J.nil ?_
     refine J.then_n ?_
     refine J.seq ?_
     refine J.region ?_
     refine J.q rfl rfl (Q.mv rfl) ?_
     refine J.q rfl rfl (Q.mv rfl) ?_
     refine J.q rfl rfl (Q.lss rfl rfl) ?_
     refine J.nil ?_
     refine J.then_n ?_
     refine J.cases 113 rfl (fun hc113 => ?_) (fun hc113 => ?_)
     ·
      replace hc113 := X.nm hc113
      try (first | (cases hc113; done) | (exfalso; simp at hc113; done))
      all_goals
       refine J.cond_t rfl ?_
       refine J.seq ?_
       refine J.region ?_
       refine J.q rfl rfl (Q.mv rfl) ?_
       refine J.q rfl rfl (Q.mv rfl) ?_
       refine J.q rfl rfl (Q.geq rfl rfl) ?_
       refine J.q rfl rfl (Q.asg rfl) ?_
       refine J.nil ?_
       refine J.then_n ?_
       refine J.seq ?_
       refine J.region ?_
       refine J.q rfl rfl (Q.mv rfl) ?_
       refine J.q rfl rfl (Q.mv rfl) ?_
       refine J.q rfl rfl (Q.mv rfl) ?_
       refine J.q rfl rfl (Q.mv rfl) ?_
       refine J.call Tryz.call91 (ih (mid - x') (by omega) x' mid lim2 d5 rfl hl2 (by omega) (by omega) (by omega) s4) [0] rfl rfl rfl rfl ?_
       rintro _ _ ⟨d6, hd6, rfl, rfl⟩
       refine J.norm rfl ?_
       obtain ⟨u1, u2⟩ := s6 d6 hd6.1 hd6.2
       refine J.nil ?_
       refine J.then_n ?_
       refine J.region ?_
       refine J.q rfl rfl (Q.mv rfl) ?_
       refine J.q rfl rfl (Q.add64 rfl rfl (by omega)) ?_
       refine J.q rfl rfl (Q.asg rfl) ?_
       refine J.nil ?_
       refine J.blk_n ?_
       first
         | refine J.again ⟨x', mid, lim2, _, ap, d6⟩ ⟨⟨by rw [hd6.1.1, s3, hn4], s1, by show mid ≤ n; omega, by show mid - x' ≤ e - x; omega, u1, fun R h1 h2 => by obtain ⟨t1, t2⟩ := u2 R h1 h2; exact hR4.fin R t1 t2⟩, hl2⟩ (by show mid - x' < e' - x'; omega) ⟨rfl, rfl, rfl, rfl, rfl, rfl, trivial⟩ rfl
         | refine J.again ⟨mid + 1, e', lim2, _, ap, d6⟩ ⟨⟨by rw [hd6.1.1, s3, hn4], by show mid + 1 ≤ e'; omega, r2, by show e' - (mid + 1) ≤ e - x; omega, u1, fun R h1 h2 => by obtain ⟨t1, t2⟩ := u2 R h1 h2; exact hR4.fin R t1 t2⟩, hl2⟩ (by show e' - (mid + 1) < e' - x'; omega) ⟨rfl, rfl, rfl, rfl, rfl, rfl, trivial⟩ rfl
     replace hc113 := X.nm hc113
     try (first | (cases hc113; done) | (exfalso; simp at hc113; done))
     all_goals
      refine J.cond_f rfl ?_
      refine J.seq ?_
      refine J.region ?_
      refine J.q rfl rfl (Q.mv rfl) ?_
      refine J.q rfl rfl (Q.mv rfl) ?_
      refine J.q rfl rfl (Q.geq rfl rfl) ?_
      refine J.q rfl rfl (Q.asg rfl) ?_
      refine J.nil ?_
      refine J.then_n ?_
      refine J.seq ?_
      refine J.region ?_
      refine J.q rfl rfl (Q.mv rfl) ?_
      refine J.q rfl rfl (Q.mv rfl) ?_
      refine J.q rfl rfl (Q.add64 rfl rfl (by omega)) ?_
      refine J.q rfl rfl (Q.mv rfl) ?_
      refine J.q rfl rfl (Q.mv rfl) ?_
      refine J.call Tryz.call91 (ih (e' - (mid + 1)) (by omega) (mid + 1) e' lim2 d5 rfl hl2 (by omega) (by omega) (by omega) s5) [0] rfl rfl rfl rfl ?_
      rintro _ _ ⟨d6, hd6, rfl, rfl⟩
      refine J.norm rfl ?_
      obtain ⟨u1, u2⟩ := s7 d6 hd6.1 hd6.2
      refine J.nil ?_
      refine J.then_n ?_
      refine J.region ?_
      refine J.q rfl rfl (Q.mv rfl) ?_
      refine J.q rfl rfl (Q.asg rfl) ?_
      refine J.nil ?_
      refine J.blk_n ?_
      first
        | refine J.again ⟨x', mid, lim2, _, ap, d6⟩ ⟨⟨by rw [hd6.1.1, s3, hn4], s1, by show mid ≤ n; omega, by show mid - x' ≤ e - x; omega, u1, fun R h1 h2 => by obtain ⟨t1, t2⟩ := u2 R h1 h2; exact hR4.fin R t1 t2⟩, hl2⟩ (by show mid - x' < e' - x'; omega) ⟨rfl, rfl, rfl, rfl, rfl, rfl, trivial⟩ rfl
        | refine J.again ⟨mid + 1, e', lim2, _, ap, d6⟩ ⟨⟨by rw [hd6.1.1, s3, hn4], by show mid + 1 ≤ e'; omega, r2, by show e' - (mid + 1) ≤ e - x; omega, u1, fun R h1 h2 => by obtain ⟨t1, t2⟩ := u2 R h1 h2; exact hR4.fin R t1 t2⟩, hl2⟩ (by show e' - (mid + 1) < e' - x'; omega) ⟨rfl, rfl, rfl, rfl, rfl, rfl, trivial⟩ rfl

theorem insertion0U (p : Option Addr) (c : Nat) (G : Assn) : FSpec Tryz.prog 108 [.slice p 0 c, .int .i64 0, .int .i64 0] [G] (fun v B => v = .tuple #[] ∧ B = [G]) := by
  refine FSpec.of Tryz.func108 rfl Tryz.ntmps108 rfl fun W0 F => ?_
  refine J.seq ?_
  refine J.region ?_
  refine J.q rfl rfl (Q.mv rfl) ?_
  refine J.q rfl rfl (Q.add64 rfl rfl (by omega)) ?_
  refine J.q rfl rfl (Q.asg rfl) ?_
  refine J.nil ?_
  refine J.then_n ?_
  refine J.block ?_
  refine J.loop (fun _ : Unit => True) (fun _ => 0) (fun _ => [(2, .int .i64 0), (6, .int .i64 1)]) (fun _ => [G, F]) () trivial ⟨rfl, rfl, trivial⟩ rfl fun _ _ => ?_
  refine J.seq ?_
  refine J.seq ?_
  refine J.region ?_
  refine J.q rfl rfl (Q.mv rfl) ?_
  refine J.q rfl rfl (Q.mv rfl) ?_
  refine J.q rfl rfl (Q.lss rfl rfl) ?_
  refine J.nil ?_
  refine J.then_n ?_
  refine J.cases 12 rfl (fun hc12 => ?_) (fun hc12 => ?_)
  ·
   exfalso; simp at hc12
  replace hc12 := X.nm hc12
  refine J.cond_f rfl ?_
  refine J.exit ?_
  refine J.then_x ?_
  refine J.lp_x ?_
  refine J.blk_x ?_
  refine J.end0 (B := [_]) rfl ⟨rfl, rfl⟩ rfl
theorem pdq0U (p : Option Addr) (c lim : Nat) (G : Assn) : FSpec Tryz.prog 91 [.slice p 0 c, .int .i64 0, .int .i64 0, .int .i64 lim] [G] (fun v B => v = .tuple #[] ∧ B = [G]) := by
  refine FSpec.of Tryz.func91 rfl Tryz.ntmps91 rfl fun W0 F => ?_
  refine J.seq ?_
  refine J.region ?_
  refine J.q rfl rfl (Q.asg rfl) ?_
  refine J.nil ?_
  refine J.then_n ?_
  refine J.seq ?_
  refine J.region ?_
  refine J.q rfl rfl (Q.asg rfl) ?_
  refine J.nil ?_
  refine J.then_n ?_
  refine J.block ?_
  refine J.loop (fun _ : Unit => True) (fun _ => 0) (fun _ => [(0, .slice p 0 c), (1, .int .i64 0), (2, .int .i64 0)]) (fun _ => [G, F]) () trivial ⟨rfl, rfl, rfl, trivial⟩ rfl fun _ _ => ?_
  refine J.block ?_
  refine J.seq ?_
  refine J.region ?_
  refine J.q rfl rfl (Q.mv rfl) ?_
  refine J.q rfl rfl (Q.mv rfl) ?_
  refine J.q rfl rfl (Q.sub64 rfl rfl (by omega)) ?_
  refine J.q rfl rfl (Q.asg rfl) ?_
  refine J.nil ?_
  refine J.then_n ?_
  refine J.seq ?_
  refine J.seq ?_
  refine J.region ?_
  refine J.q rfl rfl (Q.mv rfl) ?_
  refine J.q rfl rfl (Q.leq rfl rfl) ?_
  refine J.nil ?_
  refine J.then_n ?_
  refine J.cases 23 rfl (fun hc23 => ?_) (fun hc23 => ?_)
  ·
   replace hc23 := X.nm hc23
   skip
   refine J.cond_t rfl ?_
   refine J.seq ?_
   refine J.region ?_
   refine J.q rfl rfl (Q.mv rfl) ?_
   refine J.q rfl rfl (Q.mv rfl) ?_
   refine J.q rfl rfl (Q.mv rfl) ?_
   refine J.call Tryz.call108 (insertion0U p c G) [0] rfl rfl rfl rfl ?_
   rintro _ _ ⟨rfl, rfl⟩
   refine J.norm rfl ?_
   refine J.nil ?_
   refine J.then_n ?_
   refine J.cret ?_
   refine J.then_r ?_
   refine J.blk_r ?_
   refine J.lp_r ?_
   refine J.blk_r ?_
   refine J.ret0 (B := [_]) rfl ⟨rfl, rfl⟩ rfl
  exfalso; simp at hc23

/-- slices.Sort -/
theorem sortU (b off n c : Nat) (hs : n ≤ 32768) (d : Array Nat) (hn : d.size = n) :
    FSpec Tryz.prog 55 [.slice (some ⟨b, off, none⟩) n c] [rowU b off n c d] (fun v B => ∃ d', (PermIn 0 n d d' ∧ SortedIn ltU 0 n d') ∧ v = .tuple #[] ∧ B = [rowU b off n c d']) := by
  refine FSpec.of Tryz.func55 rfl Tryz.ntmps55 rfl fun W0 F => ?_
  refine J.seq ?_
  refine J.region ?_
  refine J.q rfl rfl (Q.mv rfl) ?_
  refine J.q rfl rfl (Q.lenSl Tryz.runUnderlying60 rfl) ?_
  refine J.q rfl rfl (Q.asg rfl) ?_
  refine J.nil ?_
  refine J.then_n ?_
  refine J.region ?_
  refine J.q rfl rfl (Q.mv rfl) ?_
  refine J.q rfl rfl (Q.mv rfl) ?_
  refine J.q rfl rfl (Q.mv rfl) ?_
  refine J.q rfl rfl (Q.conv Tryz.runUnderlying3 Tryz.runUnderlying110 rfl) ?_
  rw [show IntKind.u64.wrap (n : Int) = (n : Int) from wrap64 (by omega)]
  refine J.call Tryz.call88 (len n (by omega)) [] rfl rfl rfl rfl ?_
  rintro _ _ ⟨rfl, rfl⟩
  refine J.norm rfl ?_
  refine J.call Tryz.call91 (pdqU b off n c hs _ 0 n (bitsLen n) d rfl ((Go.Sort.bitsLen_le_iff n 64).2 (by omega)) hn (Nat.zero_le _) (Nat.le_refl _) (.inl rfl)) [0] rfl rfl rfl rfl ?_
  rintro _ _ ⟨d', hd', rfl, rfl⟩
  refine J.norm rfl ?_
  refine J.nil ?_
  refine J.end0 (B := [_]) rfl ⟨d', hd', rfl, rfl⟩ rfl
theorem sort0U (p : Option Addr) (c : Nat) (G : Assn) :
    FSpec Tryz.prog 55 [.slice p 0 c] [G] (fun v B => v = .tuple #[] ∧ B = [G]) := by
  refine FSpec.of Tryz.func55 rfl Tryz.ntmps55 rfl fun W0 F => ?_
  refine J.seq ?_
  refine J.region ?_
  refine J.q rfl rfl (Q.mv rfl) ?_
  refine J.q rfl rfl (Q.lenSl Tryz.runUnderlying60 rfl) ?_
  refine J.q rfl rfl (Q.asg rfl) ?_
  refine J.nil ?_
  refine J.then_n ?_
  refine J.region ?_
  refine J.q rfl rfl (Q.mv rfl) ?_
  refine J.q rfl rfl (Q.mv rfl) ?_
  refine J.q rfl rfl (Q.mv rfl) ?_
  refine J.q rfl rfl (Q.conv Tryz.runUnderlying3 Tryz.runUnderlying110 rfl) ?_
  refine J.call Tryz.call88 (len 0 (by decide)) [] rfl rfl rfl rfl ?_
  rintro _ _ ⟨rfl, rfl⟩
  refine J.norm rfl ?_
  refine J.call Tryz.call91 (pdq0U p c (bitsLen 0) G) [0] rfl rfl rfl rfl ?_
  rintro _ _ ⟨rfl, rfl⟩
  refine J.norm rfl ?_
  refine J.nil ?_
  refine J.end0 (B := [_]) rfl ⟨rfl, rfl⟩ rfl

/-- The one sorted list of these. -/
def ordU (l : List Nat) : List Nat := l.mergeSort fun a b => !ltU b a
theorem ordU_perm {l m : List Nat} (h : l.Perm m) : ordU l = ordU m := by
  unfold ordU
  have t1 : ∀ a b c : Nat, (!ltU b a) = true → (!ltU c b) = true → (!ltU c a) = true := fun a b c h1 h2 => by simp [ltU] at *; omega
  have t2 : ∀ a b : Nat, ((!ltU b a) || (!ltU a b)) = true := fun a b => by simp [ltU]; omega
  refine List.Perm.eq_of_pairwise (le := fun a b => (!ltU b a) = true) ?_ (List.pairwise_mergeSort t1 t2 l) (List.pairwise_mergeSort t1 t2 m) (((List.mergeSort_perm l _).trans h).trans (List.mergeSort_perm m _).symm)
  intro a b _ _ h1 h2
  exact by simp [ltU] at h1 h2; omega

theorem sortAnyU (p : Option Addr) (c : Nat) (l : List Nat) (hs : l.length ≤ 32768) :
    FSpec Tryz.prog 55 [.slice p l.length c] [own 23 1 (.slice p l.length c) (l.map encU)] (fun v B => v = .tuple #[] ∧ B = [own 23 1 (.slice p l.length c) ((ordU l).map encU)]) := by
  cases l with
  | nil => exact (sort0U p c _).mono fun v B h => by simpa [ordU] using h
  | cons y l =>
    cases p with
    | none =>
      refine ⟨fun W0 w F s => ?_⟩
      exfalso
      obtain ⟨k, hk, _⟩ := s.heap.at_ (i := 0) rfl
      rcases hk with ⟨h1, h2⟩ | ⟨o, ho, _⟩
      · simp at h2
      · have := ho.val; simp at this
    | some a =>
      refine ⟨fun W0 w F s => ?_⟩
      obtain ⟨k, hk, _⟩ := s.heap.at_ (i := 0) rfl
      obtain ⟨b, off, rfl⟩ : ∃ b off, a = ⟨b, off, none⟩ := by
        rcases hk with ⟨h1, h2⟩ | ⟨o, ho, _⟩
        · simp at h2
        · have := ho.val; simp at this; exact ⟨_, _, this.1⟩
      have hc := (sortU b off (y :: l).length c hs (y :: l).toArray (by simp)).call W0 w F s
      refine hc.mono ?_
      rintro e w' ⟨v, B, rfl, ⟨d', ⟨h1, h2⟩, rfl, rfl⟩, t⟩
      have hu := Go.Sort.sorted_unique_holds swoU (fun x z h1 h2 => by simp [ltU] at h1 h2; omega) (y :: l).toArray d' h1 h2
      refine ⟨_, _, rfl, ⟨rfl, rfl⟩, ?_⟩
      have e2 : ordU (y :: l) = d'.toList := hu.symm
      rw [e2]; exact t

/-- slices.Sorted, of whatever iterator. -/
theorem sortedU (gf : FuncId) (lb : List Value) (G : Assn) (M : List Nat) (ok : List Nat → Nat → Prop) (eg : ∀ (args : Array Value) (w : World), (callFunc gf args).run Tryz.prog w = .ok (.enter gf args) w)
    (hit : ItSpec Tryz.prog gf lb (fun x : Nat => [encU x]) [G] (fun xs => xs.Perm M) ok) (hok : ∀ pre x, ok pre x → pre.length < 1099511627776) (hs : M.length ≤ 32768) :
    FSpec Tryz.prog 23 [.func (.func gf) #[] lb.toArray] [G] (fun v B => ∃ (p : Option Addr) (c : Nat), v = .slice p M.length c ∧ B = [own 23 1 (.slice p M.length c) ((ordU M).map encU), G]) := by
  refine FSpec.of Tryz.func23 rfl Tryz.ntmps23 rfl fun W0 F => ?_
  refine J.seq ?_
  refine J.region ?_
  refine J.q rfl rfl (Q.asg rfl) ?_
  refine J.nil ?_
  refine J.then_n ?_
  refine J.seq ?_
  refine J.region ?_
  refine J.q rfl rfl (Q.mv rfl) ?_
  refine J.call Tryz.call54 (collectU gf lb G (fun xs => xs.Perm M) ok eg hit hok) [0] rfl rfl rfl rfl ?_
  rintro _ _ ⟨xs, p, c, hS, rfl, rfl⟩
  refine J.norm rfl ?_
  have hlen : xs.length = M.length := hS.length_eq
  refine J.q rfl rfl (Q.asg rfl) ?_
  refine J.nil ?_
  refine J.then_n ?_
  refine J.seq ?_
  refine J.region ?_
  refine J.q rfl rfl (Q.mv rfl) ?_
  refine J.call Tryz.call55 (sortAnyU p c xs (by omega)) [0] rfl rfl rfl rfl ?_
  rintro _ _ ⟨rfl, rfl⟩
  refine J.norm rfl ?_
  refine J.nil ?_
  refine J.then_n ?_
  refine J.seq ?_
  refine J.region ?_
  refine J.q rfl rfl (Q.mv rfl) ?_
  refine J.q rfl rfl (Q.asg rfl) ?_
  refine J.nil ?_
  refine J.then_n ?_
  refine J.cret ?_
  rw [ordU_perm hS, hlen]
  refine J.ret1 (B := [_, G]) rfl rfl ⟨p, c, rfl, rfl⟩ rfl
end Go.Proofs.YtdancegklkifaaaGreat
namespace Go.Proofs.YtdancegklkifaaaGreat
set_option linter.unusedSectionVars false
set_option linter.unusedSimpArgs false
set_option linter.unusedVariables false
open Go.X
open Go.X.G (Ord3 ord3_nat ord3_int ord3_str ltB sget sput sdel Srtd MapAt MapHole Ent Ents)

theorem srtU {ν : Type} {S : List (Nat × ν)} (h : Srtd (fun a b : Nat => decide (a < b)) S) : ordU (S.map (·.1)) = S.map (·.1) := by
  refine List.mergeSort_of_pairwise ?_
  rw [List.pairwise_map]
  refine h.imp fun {a b} h => ?_
  simp [ltU] at h ⊢; omega
theorem srtI {ν : Type} {S : List (Int × ν)} (h : Srtd (fun a b : Int => decide (a < b)) S) : ordI (S.map (·.1)) = S.map (·.1) := by
  refine List.mergeSort_of_pairwise ?_
  rw [List.pairwise_map]
  refine h.imp fun {a b} h => ?_
  simp at h ⊢; omega
theorem srtS {ν : Type} {S : List (ByteArray × ν)} (h : Srtd ltB S) : ordS (S.map (·.1)) = S.map (·.1) := by
  refine List.mergeSort_of_pairwise ?_
  rw [List.pairwise_map]
  refine h.imp fun {a b} h => ?_
  simp only [ltB, leBy, decide_eq_true_eq] at h ⊢
  exact List.le_of_lt h
end Go.Proofs.YtdancegklkifaaaGreat
namespace Go.Proofs.YtdancegklkifaaaGreat
set_option linter.unusedSectionVars false
set_option linter.unusedSimpArgs false
set_option linter.unusedVariables false
open Go.X
open Go.X.G (Ord3 ord3_nat ord3_int ord3_str ltB sget sput sdel Srtd MapAt MapHole Ent Ents edone eleft)

theorem keysItOb (bm r : Nat) (S0 : List (ByteArray × (List UInt8))) : ItSpec Tryz.prog 89 [.pointer (some ⟨bm, 0, none⟩)] (fun x : ByteArray => [Value.string x]) [star [pt bm (.cells [.map (some r)].toArray 57 (0, 0)), MapAt Value.string datRep r S0]]
    (fun xs => xs.Perm (S0.map (·.1))) (fun pre _ => pre.length < S0.length) := by
  intro l Inv hY
  refine FSpec.of Tryz.func89 rfl Tryz.ntmps89 rfl fun W0 F => ?_
  refine J.seq ?_
  refine J.unpack 1 rfl rfl ?_
  refine J.open_ 1 rfl rfl (fun _ h => h) fun q hq => ?_
  refine J.norm rfl ?_
  refine J.region ?_
  refine J.q rfl rfl (Q.ld Tryz.isAgg57 rfl (rdI (by exact rfl))) ?_
  refine J.c rfl rfl (X.G.C.range (i := 0) Tryz.runUnderlying57 rfl rfl) ?_
  rintro _ _ ⟨b5, rfl, rfl⟩
  refine J.norm rfl ?_
  refine J.nil ?_
  refine J.then_n ?_
  refine J.block ?_
  refine J.pick [0, 1, 2, 3, 4, 5] rfl ?_
  refine J.loop (fun z : List Nat × List ByteArray => z.2.Perm ((edone q.1 z.1).map (·.key))) (fun z => (eleft q.1 z.1).length) (fun z => [(0, .func (.yield l) #[] #[]), (5, .pointer (some ⟨b5, 0, none⟩))])
    (fun z => [pt b5 (X.G.miter r q.2 z.1), pt r (X.G.mobj Value.string (q.1.map Ent.m) q.2), star (q.1.map (Ent.asn datRep)), pt bm (.cells [.map (some r)].toArray 57 (0, 0)), Inv z.2, F])
    ([], []) (by simp [X.G.edone_nil]) ⟨rfl, rfl, trivial⟩ rfl fun z hz => ?_
  obtain ⟨seen, pre⟩ := z
  dsimp only at hz
  refine J.seq ?_
  refine J.region ?_
  refine J.c rfl rfl (X.G.C.nextE (i := 0) (j := 1) hq rfl rfl rfl) ?_
  rintro _ _ ⟨t, rest, seen', rfl, rfl, hst⟩
  refine J.norm rfl ?_
  refine J.q rfl rfl (Q.ext rfl rfl) ?_
  refine J.nil ?_
  refine J.then_n ?_
  refine J.seq ?_
  refine J.cases 7 rfl (fun hc7 => ?_) (fun hc7 => ?_)
  ·
   replace hc7 := X.nm hc7
   obtain ⟨e, he, rfl⟩ : ∃ e, e ∈ eleft q.1 seen ∧ seen' = seen ++ [e.born] := by rcases hst with ⟨h, _⟩ | ⟨_, h⟩; exact absurd hc7 (by rw [h]; decide); exact h
   refine J.cond_t rfl ?_
   refine J.cskip ?_
   refine J.then_n ?_
   refine J.block ?_
   refine J.seq ?_
   refine J.region ?_
   have hstep := X.G.estep hq.born he
   have hlt : pre.length < S0.length := by
     have h1 := hstep.1.length_eq
     have h2 : (edone q.1 (seen ++ [e.born])).length ≤ q.1.length := List.length_filter_le _ _
     have h3 := hz.length_eq
     have h4 := hq.len
     simp only [List.length_cons, List.length_map] at h1 h3
     omega
   have hnx : (pre ++ [e.key]).Perm ((edone q.1 (seen ++ [e.born])).map (·.key)) := by
     refine (List.perm_append_singleton _ _).trans ?_
     refine (hz.cons e.key).trans ?_
     exact (hstep.1.map (·.key)).symm
   refine J.q rfl rfl (X.G.Q.entryE (i := 0) (j := 1) hq he rfl rfl rfl) ?_
   refine J.q rfl rfl (Q.ext rfl rfl) ?_
   refine J.q rfl rfl (Q.asg rfl) ?_
   refine J.nil ?_
   refine J.then_n ?_
   refine J.seq ?_
   refine J.regionY ?_
   refine JI.q rfl rfl (fun _ e => nomatch e) (Q.mv rfl) ?_
   refine JI.q rfl rfl (fun _ e => nomatch e) (Q.mv rfl) ?_
   refine JI.yield (hY pre e.key hlt) [4] rfl rfl rfl rfl rfl ?_
   rintro _ _ ⟨rfl, rfl⟩
   refine J.norm rfl ?_
   refine JI.q rfl rfl (fun _ e => nomatch e) (Q.not rfl) ?_
   refine JI.nil ?_
   refine JI.out ?_
   refine J.then_n ?_
   refine J.cases 13 rfl (fun hc13 => ?_) (fun hc13 => ?_)
   ·
    cases hc13
   replace hc13 := X.nm hc13
   refine J.cond_f rfl ?_
   refine J.cskip ?_
   refine J.blk_n ?_
   refine J.pick [1, 2, 3, 4, 0, 5] rfl ?_
   refine J.again (seen ++ [e.born], pre ++ [e.key]) hnx hstep.2 ⟨rfl, rfl, trivial⟩ rfl
  replace hc7 := X.nm hc7
  obtain ⟨hall, rfl⟩ : edone q.1 seen = q.1 ∧ seen' = seen := by rcases hst with ⟨_, h⟩ | ⟨h, _⟩; exact h; exact absurd hc7 (by rw [h]; decide)
  refine J.cond_f rfl ?_
  refine J.exit ?_
  refine J.then_x ?_
  refine J.lp_x ?_
  refine J.blk_x ?_
  rw [hall] at hz
  have hfin : pre.Perm (S0.map (·.1)) := by
    refine hz.trans ?_
    have := hq.perm.map (·.1)
    rw [List.map_map] at this
    exact this
  refine J.shut [1, 2] (MapAt Value.string datRep r S0) rfl (fun h s => ⟨q, hq, s⟩) ?_
  refine J.pick [2, 0, 1, 3, 4] rfl ?_
  refine J.pack [0, 1] rfl ?_
  refine J.keep [2, 0, 3] rfl ?_
  refine J.end0 (B := [Inv pre, _]) rfl ⟨pre, hfin, rfl⟩ rfl

theorem keysOb (r : Option Nat) : FSpec Tryz.prog 53 [.map r] [] (fun v B => ∃ bm, v = .func (.func 89) #[] #[.pointer (some ⟨bm, 0, none⟩)] ∧ B = [pt bm (.cells [.map r].toArray 57 (0, 0))]) := by
  refine FSpec.of Tryz.func53 rfl Tryz.ntmps53 rfl fun W0 F => ?_
  refine J.seq ?_
  refine J.region ?_
  refine J.c rfl rfl (C.box (l := [_]) rfl rfl) ?_
  rintro _ _ ⟨b1, rfl, rfl⟩
  refine J.norm rfl ?_
  refine J.q rfl rfl (Q.asg rfl) ?_
  refine J.nil ?_
  refine J.then_n ?_
  refine J.seq ?_
  refine J.region ?_
  refine J.q rfl rfl (Q.func rfl rfl) ?_
  refine J.q rfl rfl (Q.asg rfl) ?_
  refine J.nil ?_
  refine J.then_n ?_
  refine J.cret ?_
  refine J.keep [0, 1] rfl ?_
  refine J.ret1 (B := [_]) rfl rfl ⟨_, rfl, rfl⟩ rfl

theorem sortedOb (bm r : Nat) (S0 : List (ByteArray × (List UInt8))) (hS : Srtd ltB S0) (hl : S0.length ≤ 32768) : FSpec Tryz.prog 19 [.func (.func 89) #[] #[.pointer (some ⟨bm, 0, none⟩)]] [pt bm (.cells [.map (some r)].toArray 57 (0, 0)), MapAt Value.string datRep r S0]
    (fun v B => ∃ (p : Option Addr) (c : Nat), v = .slice p S0.length c ∧ B = [own 9 1 (.slice p S0.length c) ((S0.map (·.1)).map Value.string), pt bm (.cells [.map (some r)].toArray 57 (0, 0)), MapAt Value.string datRep r S0]) := by
  have h := sortedS 89 [.pointer (some ⟨bm, 0, none⟩)] _ (S0.map (·.1)) _ Tryz.call89 (keysItOb bm r S0) (fun pre _ h => by omega) (by rw [List.length_map]; omega)
  refine h.conv (fun k s => HSat.pack (Bs := []) (by simpa using s)) ?_
  rintro v B' ⟨p, c, rfl, rfl⟩
  rw [List.length_map, srtS hS]
  refine ⟨_, ⟨p, c, rfl, rfl⟩, fun k s => ?_⟩
  exact HSat.under s fun _ s => HSat.unpack (Bs := []) s
end Go.Proofs.YtdancegklkifaaaGreat
namespace Go.Proofs.YtdancegklkifaaaGreat
set_option linter.unusedSectionVars false
set_option linter.unusedSimpArgs false
set_option linter.unusedVariables false
open Go.X
open Go.X.G (Ord3 ord3_nat ord3_int ord3_str ltB sget sput sdel Srtd MapAt MapHole Ent Ents mobj)

theorem leqs {P : Program} {L : Slots} {D : List Assn} {ty T T' : TypeId} {x y : Operand} {s t : ByteArray} (ex : ev L x = some (.string s)) (ey : ev L y = some (.string t)) : OpQ P (.binOp .leq T x y T') ty L D (.bool (!ltB t s)) :=
  Q.bin ex ey fun w => by
    have h : (Op.bytesLess s.data.toList t.data.toList || decide (s.data.toList = t.data.toList)) = !ltB t s := by
      rw [Bool.eq_iff_iff]
      simp only [Bool.or_eq_true, less_iff, decide_eq_true_eq, Bool.not_eq_true', ltB, decide_eq_false_iff_not, List.not_lt]
      exact ⟨fun h => h.elim List.le_of_lt (fun e => by rw [e]; exact List.le_refl _), fun h => by
        rcases List.le_total t.data.toList s.data.toList with h' | h'
        · exact .inr (List.le_antisymm h h')
        · rcases Classical.em (s.data.toList = t.data.toList) with e | e
          · exact .inr e
          · exact .inl (by
              rcases Classical.em (s.data.toList < t.data.toList) with g | g
              · exact g
              · exact absurd (List.le_antisymm h (List.not_lt.1 g)) e)⟩
    simp only [Sem.run_bind, guard_str, Result.andThen_ok, binOp, Op.stringOp, ByteArray.toList_eq, list_beq, ← h]; rfl

/-- The keys that a store holds are short. -/
structure BM.kok (M : BM) : Prop where
  ob : ∀ n o, sget n M.buckets = some o → ∀ p, p ∈ o → p.1.size ≤ 1024
  up : ∀ n u, sget n M.uploads = some u → u.key.size ≤ 1024

def keysM (M : BM) (name : ByteArray) : List ByteArray := match sget name M.buckets with | none => [] | some o => o.map (·.1)

theorem keysNil (bm : Nat) : ItSpec Tryz.prog 89 [.pointer (some ⟨bm, 0, none⟩)] (fun x : ByteArray => [Value.string x]) [pt bm (.cells [.map none].toArray 57 (0, 0))]
    (fun xs => xs.Perm []) (fun _ _ => False) := by
  intro l Inv hY
  refine FSpec.of Tryz.func89 rfl Tryz.ntmps89 rfl fun W0 F => ?_
  refine J.seq ?_
  refine J.region ?_
  refine J.q rfl rfl (Q.ld Tryz.isAgg57 rfl (rdI (by exact rfl))) ?_
  refine J.c rfl rfl (X.G.C.rangeNil Tryz.runUnderlying57 rfl) ?_
  rintro _ _ ⟨b5, rfl, rfl⟩
  refine J.norm rfl ?_
  refine J.nil ?_
  refine J.then_n ?_
  refine J.block ?_
  refine J.loop (fun _ : Unit => True) (fun _ => 0) (fun _ => [(5, .pointer (some ⟨b5, 0, none⟩))]) (fun _ => [pt b5 X.G.miterNil, Inv [], pt bm (.cells [.map none].toArray 57 (0, 0)), F]) () trivial ⟨rfl, trivial⟩ rfl fun _ _ => ?_
  refine J.seq ?_
  refine J.region ?_
  refine J.q rfl rfl (X.G.Q.nextNil (i := 0) rfl rfl) ?_
  refine J.q rfl rfl (Q.ext rfl rfl) ?_
  refine J.nil ?_
  refine J.then_n ?_
  refine J.seq ?_
  refine J.cases 7 rfl (fun hc7 => ?_) (fun hc7 => ?_)
  ·
   exfalso; cases hc7
  replace hc7 := X.nm hc7
  refine J.cond_f rfl ?_
  refine J.exit ?_
  refine J.then_x ?_
  refine J.lp_x ?_
  refine J.blk_x ?_
  refine J.keep [1, 2, 3] rfl ?_
  refine J.end0 (B := [_, _]) rfl ⟨[], List.Perm.refl _, rfl⟩ rfl

section
variable {k : Nat} (m : Nat) (M : BM) (hM : M.ok k) (hK : M.kok) (hk : k ≤ 32768) (name : ByteArray)
include hM hK hk
theorem objects_no (hB : sget name M.buckets = none) : FSpec Tryz.prog 22 [.pointer (some ⟨m, 0, none⟩), .string name] [BktAt m M] (fun v B => ∃ p c, v = .slice p (keysM M name).length c ∧ B = [own 9 1 (.slice p (keysM M name).length c) ((keysM M name).map Value.string), BktAt m M]) := by
  have hke : keysM M name = [] := by unfold keysM; rw [hB]
  rw [hke]
  refine FSpec.of Tryz.func22 rfl Tryz.ntmps22 rfl fun W0 F => ?_
  refine J.seq ?_
  refine J.region ?_
  refine J.q rfl rfl (Q.asg rfl) ?_
  refine J.nil ?_
  refine J.then_n ?_
  refine J.seq ?_
  refine J.open1 0 rfl (fun _ h => h) fun z => ?_
  refine J.norm rfl ?_
  refine J.region ?_
  refine J.q rfl rfl (Q.mv rfl) ?_
  refine J.q rfl rfl (Q.nil_ rfl) ?_
  refine J.q rfl rfl (Q.fa (n := 0) Tryz.runUnderlying51 rfl rfl Tryz.sizeOf47 rfl) ?_
  refine J.q rfl rfl (Q.ld Tryz.isAgg47 rfl (rdI (by exact rfl))) ?_
  refine J.q rfl rfl (Q.mv rfl) ?_
  refine J.q rfl rfl (X.G.Q.lkNo (i := 1) Tryz.runUnderlying47 keyS Tryz.zeroValue57 rfl rfl rfl hB) ?_
  refine J.call Tryz.call53 (keysOb none) [] rfl rfl rfl rfl ?_
  rintro _ _ ⟨bk, rfl, rfl⟩
  refine J.norm rfl ?_
  refine J.call Tryz.call19 (sortedS 89 [.pointer (some ⟨bk, 0, none⟩)] _ [] (fun _ _ => False) Tryz.call89 (keysNil bk) (fun _ _ h => h.elim) (by decide)) [0] rfl rfl rfl rfl ?_
  rintro _ _ ⟨p12, c12, rfl, rfl⟩
  refine J.norm rfl ?_
  have e0 : ordS [] = [] := by simp [ordS]
  rw [e0]
  refine J.q rfl rfl (Q.asg rfl) ?_
  refine J.nil ?_
  refine J.then_n ?_
  refine J.cret ?_
  refine J.shut [2, 3, 4, 5] (BktAt m M) rfl (fun h s => ⟨z, s⟩) ?_
  refine J.keep [1, 0, 3] rfl ?_
  refine J.ret1 (B := [own 9 1 (.slice p12 0 c12) [], BktAt m M]) rfl rfl ⟨p12, c12, rfl, rfl⟩ rfl
theorem objects_yes {objs : Objs} (hB : sget name M.buckets = some objs) : FSpec Tryz.prog 22 [.pointer (some ⟨m, 0, none⟩), .string name] [BktAt m M] (fun v B => ∃ p c, v = .slice p (keysM M name).length c ∧ B = [own 9 1 (.slice p (keysM M name).length c) ((keysM M name).map Value.string), BktAt m M]) := by
  have hke : keysM M name = objs.map (·.1) := by unfold keysM; rw [hB]
  have hO := hM.os _ _ hB
  have hob := hK.ob _ _ hB
  rw [hke, List.length_map]
  refine FSpec.of Tryz.func22 rfl Tryz.ntmps22 rfl fun W0 F => ?_
  refine J.seq ?_
  refine J.region ?_
  refine J.q rfl rfl (Q.asg rfl) ?_
  refine J.nil ?_
  refine J.then_n ?_
  refine J.seq ?_
  refine J.open1 0 rfl (fun _ h => h) fun z => ?_
  refine J.norm rfl ?_
  refine J.mapFocus 1 hB rfl fun val => ?_
  refine J.norm rfl ?_
  refine J.open_ 0 rfl rfl (fun _ h => h) fun r hr => ?_
  subst hr
  refine J.norm rfl ?_
  refine J.region ?_
  refine J.q rfl rfl (Q.mv rfl) ?_
  refine J.q rfl rfl (Q.nil_ rfl) ?_
  refine J.q rfl rfl (Q.fa (n := 0) Tryz.runUnderlying51 rfl rfl Tryz.sizeOf47 rfl) ?_
  refine J.q rfl rfl (Q.ld Tryz.isAgg47 rfl (rdI (by exact rfl))) ?_
  refine J.q rfl rfl (Q.mv rfl) ?_
  refine J.q rfl rfl (X.G.Q.lkYes (i := 1) Tryz.runUnderlying47 keyS Tryz.zeroValue57 rfl rfl rfl) ?_
  refine J.call Tryz.call53 (keysOb (some r)) [] rfl rfl rfl rfl ?_
  rintro _ _ ⟨bk, rfl, rfl⟩
  refine J.norm rfl ?_
  refine J.call Tryz.call19 (sortedOb bk r objs hO.1 (by omega)) [0, 1] rfl rfl rfl rfl ?_
  rintro _ _ ⟨p12, c12, rfl, rfl⟩
  refine J.norm rfl ?_
  refine J.q rfl rfl (Q.asg rfl) ?_
  refine J.nil ?_
  refine J.then_n ?_
  refine J.cret ?_
  refine J.shut [2] (bRep name objs (.map (some r))) rfl (fun h s => ⟨r, rfl, s⟩) ?_
  refine J.mapSame 0 3 ord3_str hM.bs hB rfl ?_
  refine J.shut [3, 0, 4, 5] (BktAt m M) rfl (fun h s => ⟨z, s⟩) ?_
  refine J.keep [1, 0, 3] rfl ?_
  refine J.ret1 (B := [own 9 1 (.slice p12 objs.length c12) ((objs.map (·.1)).map Value.string), BktAt m M]) rfl rfl ⟨p12, c12, rfl, rfl⟩ rfl
theorem objects_spec : FSpec Tryz.prog 22 [.pointer (some ⟨m, 0, none⟩), .string name] [BktAt m M] (fun v B => ∃ p c, v = .slice p (keysM M name).length c ∧ B = [own 9 1 (.slice p (keysM M name).length c) ((keysM M name).map Value.string), BktAt m M]) := by
  cases hB : sget name M.buckets with
  | none => exact objects_no m M hM hK hk name hB
  | some objs => exact objects_yes m M hM hK hk name hB
end
end Go.Proofs.YtdancegklkifaaaGreat
namespace Go.Proofs.YtdancegklkifaaaGreat
set_option linter.unusedSectionVars false
set_option linter.unusedSimpArgs false
set_option linter.unusedVariables false
open Go.X
open Go.X.G (Ord3 ord3_nat ord3_int ord3_str ltB sget sput sdel Srtd MapAt MapHole Ent Ents mobj)

theorem prefix_spec (s p : ByteArray) : FSpec Tryz.prog 126 [.string s, .string p] [] (fun v B => v = .bool (beg s p) ∧ B = []) := by
  refine FSpec.of Tryz.func126 rfl Tryz.ntmps126 rfl fun W0 F => ?_
  refine J.seq ?_
  refine J.region ?_
  refine J.q rfl rfl (Q.asg rfl) ?_
  refine J.nil ?_
  refine J.then_n ?_
  refine J.seq ?_
  refine J.region ?_
  refine J.q rfl rfl (Q.mv rfl) ?_
  refine J.q rfl rfl (Q.lenS Tryz.runUnderlying9 rfl) ?_
  refine J.q rfl rfl (Q.mv rfl) ?_
  refine J.q rfl rfl (Q.lenS Tryz.runUnderlying9 rfl) ?_
  refine J.q rfl rfl (Q.geq rfl rfl) ?_
  refine J.q rfl rfl (Q.mv rfl) ?_
  refine J.cases 10 rfl (fun hb10 => ?_) (fun hb10 => ?_)
  ·
   replace hb10 := X.nm hb10
   refine J.q rfl rfl (Q.mv rfl) ?_
   refine J.q rfl rfl (Q.mv rfl) ?_
   refine J.q rfl rfl (Q.lenS Tryz.runUnderlying9 rfl) ?_
   refine J.q rfl rfl (Q.strH Tryz.runUnderlying9 rfl rfl (by omega) (by omega)) ?_
   refine J.q rfl rfl (Q.mv rfl) ?_
   refine J.q rfl rfl (Q.eqls rfl rfl) ?_
   refine J.q rfl rfl (Q.pick_t rfl rfl) ?_
   refine J.q rfl rfl (Q.asg rfl) ?_
   refine J.nil ?_
   refine J.then_n ?_
   refine J.cret ?_
   refine J.ret1 (B := []) rfl rfl ⟨?_, rfl⟩ rfl
   unfold beg
   first
     | (rw [decide_eq_true (show p.size ≤ s.size by omega)]; simp only [Bool.true_and, Int.toNat_natCast]; done)
     | (rw [decide_eq_true (show p.size ≤ s.size by omega)]; rfl)
     | (rw [decide_eq_false (show ¬ p.size ≤ s.size by omega)]; rfl)
  replace hb10 := X.nm hb10
  refine J.skip rfl rfl ?_
  refine J.skip rfl rfl ?_
  refine J.skip rfl rfl ?_
  refine J.skip rfl rfl ?_
  refine J.skip rfl rfl ?_
  refine J.skip rfl rfl ?_
  refine J.q rfl rfl (Q.pick_f rfl rfl) ?_
  refine J.q rfl rfl (Q.asg rfl) ?_
  refine J.nil ?_
  refine J.then_n ?_
  refine J.cret ?_
  refine J.ret1 (B := []) rfl rfl ⟨?_, rfl⟩ rfl
  unfold beg
  first
    | (rw [decide_eq_true (show p.size ≤ s.size by omega)]; simp only [Bool.true_and, Int.toNat_natCast]; done)
    | (rw [decide_eq_true (show p.size ≤ s.size by omega)]; rfl)
    | (rw [decide_eq_false (show ¬ p.size ≤ s.size by omega)]; rfl)
theorem hasPrefix_spec (s p : ByteArray) : FSpec Tryz.prog 95 [.string s, .string p] [] (fun v B => v = .bool (beg s p) ∧ B = []) := by
  refine FSpec.of Tryz.func95 rfl Tryz.ntmps95 rfl fun W0 F => ?_
  refine J.seq ?_
  refine J.region ?_
  refine J.q rfl rfl (Q.asg rfl) ?_
  refine J.nil ?_
  refine J.then_n ?_
  refine J.seq ?_
  refine J.region ?_
  refine J.q rfl rfl (Q.mv rfl) ?_
  refine J.q rfl rfl (Q.mv rfl) ?_
  refine J.call Tryz.call126 (prefix_spec s p) [] rfl rfl rfl rfl ?_
  rintro _ _ ⟨rfl, rfl⟩
  refine J.norm rfl ?_
  refine J.q rfl rfl (Q.asg rfl) ?_
  refine J.nil ?_
  refine J.then_n ?_
  refine J.cret ?_
  refine J.ret1 (B := []) rfl rfl ⟨rfl, rfl⟩ rfl

/-- What a listing is of. -/
def lsel (o : OM) (a : ByteArray) : Bool := beg a o.key && ltB o.after a
theorem filter_take {p : ByteArray → Bool} {l : List ByteArray} {j : Nat} {a : ByteArray} (h : l[j]? = some a) : (l.take (j + 1)).filter p = (l.take j).filter p ++ (if p a then [a] else []) := by
  obtain ⟨h1, h2⟩ := List.getElem?_eq_some_iff.1 h
  rw [List.take_succ_eq_append_getElem h1, List.filter_append, h2]
  cases hp : p a <;> simp [List.filter, hp]
theorem filter_more {p : ByteArray → Bool} {l : List ByteArray} {j : Nat} {a : ByteArray} (h : l[j]? = some a) (hp : p a = true) : ∃ r, l.filter p = (l.take j).filter p ++ a :: r := by
  obtain ⟨h1, h2⟩ := List.getElem?_eq_some_iff.1 h
  refine ⟨(l.drop (j + 1)).filter p, ?_⟩
  conv => lhs; rw [← List.take_append_drop j l, List.filter_append, List.drop_eq_getElem_cons h1, h2]
  rw [List.filter_cons, if_pos hp]

section
variable {k : Nat} (m : Nat) (M : BM) (hM : M.ok k) (hK : M.kok) (hk : k ≤ 32768) (x : OW) (G : Assn) (hx : x.ok G) (hc : x.o.chkB = true) (h6 : x.o.kind = 6)
include hM hK hk hx hc h6
theorem list_no (hB : sget x.o.bucket M.buckets = none) : FSpec Tryz.prog 67 [.pointer (some ⟨m, 0, none⟩), .agg x.cells.toArray] [BktAt m M, G] (ActR m G (st 404, M)) := by
  have hn := chk_6 hc h6
  try have hO := hM.os _ _ hB
  try have hke : keysM M x.o.bucket = objs.map (·.1) := by unfold keysM; rw [hB]
  refine FSpec.of Tryz.func67 rfl Tryz.ntmps67 rfl fun W0 F => ?_
  refine J.seq ?_
  refine J.region ?_
  refine J.c rfl rfl (C.box (l := [_, _, _, _, _, _, _, _, _]) rfl rfl) ?_
  rintro _ _ ⟨b3, rfl, rfl⟩
  refine J.norm rfl ?_
  refine J.c rfl rfl (C.alloc (l := [_, _, _, _, _]) Tryz.zeroValue37 rfl) ?_
  rintro _ _ ⟨b4, rfl, rfl⟩
  refine J.norm rfl ?_
  refine J.nil ?_
  refine J.then_n ?_
  refine J.seq ?_
  refine J.seq ?_
  refine J.region ?_
  refine J.q rfl rfl (Q.mv rfl) ?_
  refine J.q rfl rfl (Q.ldN (vs := [_, _, _, _, _, _, _, _, _]) Tryz.isAgg27 Tryz.sizeOf27 rfl rnI) ?_
  refine J.call Tryz.call94 ((by first | exact known_no m M x hB | exact known_yes m M hM x hB)) [2] rfl rfl rfl rfl ?_
  rintro _ _ ⟨rfl, rfl⟩
  refine J.norm rfl ?_
  refine J.q rfl rfl (Q.not rfl) ?_
  refine J.nil ?_
  refine J.then_n ?_
  refine J.cases 11 rfl (fun hc11 => ?_) (fun hc11 => ?_)
  ·
   replace hc11 := X.nm hc11
   try (first | (cases hc11; done) | (exfalso; simp at hc11; done))
   all_goals
    refine J.cond_t rfl ?_
    refine J.seq ?_
    refine J.region ?_
    refine J.call Tryz.call28 (status_spec 404) [] rfl rfl rfl rfl ?_
    rintro _ _ ⟨y, rfl, hy, rfl⟩
    refine J.norm rfl ?_
    refine J.stAI (vs := [_, _, _, _, _]) rfl Tryz.sizeOf37 rfl rfl (by exact rfl) (by exact rfl) (by exact rfl) ?_
    refine J.nil ?_
    refine J.then_n ?_
    refine J.cret ?_
    refine J.then_r ?_
    refine J.retC [1, 0, 4, 5] (vs := [_, _, _, _, _]) rfl rfl Tryz.isAgg37 Tryz.sizeOf37 (ReadsN.pt 2 rfl) rfl (B := [_, _, _]) ⟨_, rfl, hy, rfl⟩
  replace hc11 := X.nm hc11
  try (first | (cases hc11; done) | (exfalso; simp at hc11; done))
  all_goals
   refine J.cond_f rfl ?_
   refine J.cskip ?_
   refine J.then_n ?_
   refine J.seq ?_
   refine J.region ?_
   refine J.call Tryz.call28 (status_spec 200) [] rfl rfl rfl rfl ?_
   rintro _ _ ⟨y, rfl, hy, rfl⟩
   refine J.norm rfl ?_
   obtain ⟨yr, kp, kc, dp, dc⟩ := y
   dsimp only at hy
   subst hy
   refine J.c rfl rfl (C.alloc (l := [_, _, _, _, _]) Tryz.zeroValue37 rfl) ?_
   rintro _ _ ⟨b5, rfl, rfl⟩
   refine J.norm rfl ?_
   refine J.stAI (vs := [_, _, _, _, _]) rfl Tryz.sizeOf37 rfl rfl (by exact rfl) (by exact rfl) (by exact rfl) ?_
   refine J.nil ?_
   refine J.then_n ?_
   refine J.cut (fun w : List ByteArray × Option Addr × Nat × Bool => w.1 = (listed x.o objs).take x.o.n.toNat ∧ w.2.2.2 = decide (x.o.n.toNat < (listed x.o objs).length)) (fun w => [(4, .pointer (some ⟨b4, 0, none⟩)), (5, .pointer (some ⟨b5, 0, none⟩))]) (fun w => [own 9 1 (.slice w.2.1 w.1.length w.2.2.1) (w.1.map Value.string), own 5 1 (.slice dp 0 dc) [], BktAt m M, pt b5 (.cells [Value.int .i64 200, .int .u64 0, .slice w.2.1 w.1.length w.2.2.1, .bool w.2.2.2, .slice dp 0 dc].toArray 37 (0, 0)), pt b4 (.cells [Value.int .i64 0, .int .u64 0, .slice none 0 0, .bool false, .slice none 0 0].toArray 37 (0, 0)), G, F]) ?_ fun w hw => ?_
   ·
    refine J.seq ?_
    refine J.region ?_
    refine J.q rfl rfl (Q.mv rfl) ?_
    refine J.q rfl rfl (Q.fa (n := 2) Tryz.runUnderlying27 rfl rfl Tryz.sizeOf9 rfl) ?_
    refine J.q rfl rfl (Q.ld Tryz.isAgg9 rfl (rdI (by exact rfl))) ?_
    refine J.call Tryz.call22 (objects_spec m M hM hK hk x.o.bucket) [2] rfl rfl rfl rfl ?_
    rintro _ _ ⟨p17, c17, rfl, rfl⟩
    refine J.norm rfl ?_
    obtain ⟨ks, hks⟩ : ∃ ks, ks = keysM M x.o.bucket := ⟨_, rfl⟩
    rw [← hks]
    have hkl : ks.length ≤ 1048576 := by rw [hks, hke, List.length_map]; omega
    have hlst : listed x.o objs = ks.filter (lsel x.o) := by rw [hks, hke]; rfl
    refine J.unpack 3 rfl rfl ?_
    refine J.norm rfl ?_
    refine J.slr1 2 rfl fun hs17 => ?_
    refine J.q rfl rfl (Q.lenSl Tryz.runUnderlying35 rfl) ?_
    refine J.q rfl rfl (Q.mv rfl) ?_
    refine J.nil ?_
    refine J.then_n ?_
    refine J.block ?_
    refine J.loop (fun w : Nat × Option Addr × Nat => w.1 ≤ ks.length ∧ ((ks.take w.1).filter (lsel x.o)).length ≤ x.o.n.toNat) (fun w => ks.length - w.1) (fun w => [(3, .pointer (some ⟨b3, 0, none⟩)), (4, .pointer (some ⟨b4, 0, none⟩)), (5, .pointer (some ⟨b5, 0, none⟩)), (17, .slice p17 ks.length c17), (18, .int .i64 ks.length), (19, .int .i64 w.1)])
      (fun w => [own 9 1 (.slice w.2.1 ((ks.take w.1).filter (lsel x.o)).length w.2.2) (((ks.take w.1).filter (lsel x.o)).map Value.string), own 5 1 (.slice dp 0 dc) [], own 9 1 (.slice p17 ks.length c17) (ks.map Value.string), BktAt m M, pt b5 (.cells [Value.int .i64 200, .int .u64 0, .slice w.2.1 ((ks.take w.1).filter (lsel x.o)).length w.2.2, .bool false, .slice dp 0 dc].toArray 37 (0, 0)), pt b4 (.cells [Value.int .i64 0, .int .u64 0, .slice none 0 0, .bool false, .slice none 0 0].toArray 37 (0, 0)), pt b3 (.cells x.cells.toArray 27 (0, 0)), G, F]) (0, kp, kc) ⟨Nat.zero_le _, Nat.zero_le _⟩ ⟨rfl, rfl, rfl, rfl, rfl, rfl, trivial⟩ rfl fun w hw => ?_
    obtain ⟨j, pa, ca⟩ := w
    obtain ⟨hj, ha⟩ := hw
    dsimp only at hj ha
    refine J.seq ?_
    refine J.region ?_
    refine J.q rfl rfl (Q.lss rfl rfl) ?_
    refine J.nil ?_
    refine J.then_n ?_
    refine J.seq ?_
    refine J.cases 20 rfl (fun hc20 => ?_) (fun hc20 => ?_)
    ·
     replace hc20 := X.nm hc20
     try (first | (cases hc20; done) | (exfalso; simp at hc20; done))
     all_goals
      refine J.cond_t rfl ?_
      refine J.cskip ?_
      refine J.then_n ?_
      refine J.seq ?_
      refine J.block ?_
      refine J.seq ?_
      obtain ⟨bb, ob, hpp, hrd⟩ := hs17.some_ (by omega)
      obtain ⟨a, hka⟩ : ∃ a, ks[j]? = some a := ⟨_, List.getElem?_eq_getElem (by omega)⟩
      have hft := filter_take (p := lsel x.o) hka
      refine J.slot 17 (.slice (some ⟨bb, ob, none⟩) ks.length c17) rfl (by rw [hpp]) ?_
      refine J.region ?_
      refine J.q rfl rfl (Q.ia Tryz.runUnderlying35 Tryz.sizeOf9 rfl rfl (by omega) (by omega)) ?_
      refine J.q rfl rfl (Q.ld Tryz.isAgg9 rfl (((hrd j (.string a) (by simp [hka])).within (i := 2) rfl).cast (by simp))) ?_
      refine J.q rfl rfl (Q.asg rfl) ?_
      refine J.nil ?_
      refine J.then_n ?_
      refine J.seq ?_
      refine J.seq ?_
      refine J.region ?_
      refine J.q rfl rfl (Q.mv rfl) ?_
      refine J.q rfl rfl (Q.fa (n := 3) Tryz.runUnderlying27 rfl rfl Tryz.sizeOf9 rfl) ?_
      refine J.q rfl rfl (Q.ld Tryz.isAgg9 rfl (rdI (by exact rfl))) ?_
      refine J.call Tryz.call95 (hasPrefix_spec a x.o.key) [] rfl rfl rfl rfl ?_
      rintro _ _ ⟨rfl, rfl⟩
      refine J.norm rfl ?_
      refine J.q rfl rfl (Q.not rfl) ?_
      refine J.q rfl rfl (Q.mv rfl) ?_
      refine J.cases 28 rfl (fun hb28 => ?_) (fun hb28 => ?_)
      ·
       replace hb28 := X.nm hb28
       try (first | (cases hb28; done) | (exfalso; simp at hb28; done))
       all_goals
        refine J.skip rfl rfl ?_
        refine J.skip rfl rfl ?_
        refine J.skip rfl rfl ?_
        refine J.skip rfl rfl ?_
        refine J.q rfl rfl (Q.pick_t rfl rfl) ?_
        refine J.nil ?_
        refine J.then_n ?_
        refine J.cond_t rfl ?_
        refine J.exit ?_
        refine J.then_x ?_
        refine J.blk_x ?_
        refine J.then_n ?_
        refine J.region ?_
        refine J.q rfl rfl (Q.add64 rfl rfl (by omega)) ?_
        refine J.q rfl rfl (Q.mv rfl) ?_
        refine J.nil ?_
        have hsel : lsel x.o a = false := by unfold lsel; first | (have h1 := hb28; have h2 : ltB x.o.after a = false := (by simpa using hc33); revert h1 h2; cases beg a x.o.key <;> cases ltB x.o.after a <;> decide) | (have h1 := hb28; revert h1; cases beg a x.o.key <;> cases ltB x.o.after a <;> decide)
        rw [hsel] at hft
        simp only [Bool.false_eq_true, if_false, List.append_nil] at hft
        refine J.again (j + 1, pa, ca) ⟨by show j + 1 ≤ _; omega, by show ((ks.take (j + 1)).filter (lsel x.o)).length ≤ _; rw [hft]; exact ha⟩ (by show ks.length - (j + 1) < ks.length - j; omega) ⟨rfl, rfl, rfl, (by show _ = some (Value.slice p17 _ _); rw [hpp]; rfl), rfl, rfl, trivial⟩ ?_
        show _ = [own 9 1 (.slice pa ((ks.take (j + 1)).filter (lsel x.o)).length ca) (((ks.take (j + 1)).filter (lsel x.o)).map Value.string), _, _, _, pt b5 (.cells [Value.int .i64 200, .int .u64 0, .slice pa ((ks.take (j + 1)).filter (lsel x.o)).length ca, .bool false, .slice dp 0 dc].toArray 37 (0, 0)), _, _, _, _]
        rw [hft]
      replace hb28 := X.nm hb28
      try (first | (cases hb28; done) | (exfalso; simp at hb28; done))
      all_goals
       refine J.q rfl rfl (Q.mv rfl) ?_
       refine J.q rfl rfl (Q.fa (n := 4) Tryz.runUnderlying27 rfl rfl Tryz.sizeOf9 rfl) ?_
       refine J.q rfl rfl (Q.ld Tryz.isAgg9 rfl (rdI (by exact rfl))) ?_
       refine J.q rfl rfl (leqs rfl rfl) ?_
       refine J.q rfl rfl (Q.pick_f rfl rfl) ?_
       refine J.nil ?_
       refine J.then_n ?_
       refine J.cases 33 rfl (fun hc33 => ?_) (fun hc33 => ?_)
       ·
        replace hc33 := X.nm hc33
        try (first | (cases hc33; done) | (exfalso; simp at hc33; done))
        all_goals
         refine J.cond_t rfl ?_
         refine J.exit ?_
         refine J.then_x ?_
         refine J.blk_x ?_
         refine J.then_n ?_
         refine J.region ?_
         refine J.q rfl rfl (Q.add64 rfl rfl (by omega)) ?_
         refine J.q rfl rfl (Q.mv rfl) ?_
         refine J.nil ?_
         have hsel : lsel x.o a = false := by unfold lsel; first | (have h1 := hb28; have h2 : ltB x.o.after a = false := (by simpa using hc33); revert h1 h2; cases beg a x.o.key <;> cases ltB x.o.after a <;> decide) | (have h1 := hb28; revert h1; cases beg a x.o.key <;> cases ltB x.o.after a <;> decide)
         rw [hsel] at hft
         simp only [Bool.false_eq_true, if_false, List.append_nil] at hft
         refine J.again (j + 1, pa, ca) ⟨by show j + 1 ≤ _; omega, by show ((ks.take (j + 1)).filter (lsel x.o)).length ≤ _; rw [hft]; exact ha⟩ (by show ks.length - (j + 1) < ks.length - j; omega) ⟨rfl, rfl, rfl, (by show _ = some (Value.slice p17 _ _); rw [hpp]; rfl), rfl, rfl, trivial⟩ ?_
         show _ = [own 9 1 (.slice pa ((ks.take (j + 1)).filter (lsel x.o)).length ca) (((ks.take (j + 1)).filter (lsel x.o)).map Value.string), _, _, _, pt b5 (.cells [Value.int .i64 200, .int .u64 0, .slice pa ((ks.take (j + 1)).filter (lsel x.o)).length ca, .bool false, .slice dp 0 dc].toArray 37 (0, 0)), _, _, _, _]
         rw [hft]
       replace hc33 := X.nm hc33
       try (first | (cases hc33; done) | (exfalso; simp at hc33; done))
       all_goals
        refine J.cond_f rfl ?_
        refine J.cskip ?_
        refine J.then_n ?_
        refine J.seq ?_
        refine J.seq ?_
        refine J.region ?_
        refine J.q rfl rfl (Q.fa (n := 2) Tryz.runUnderlying37 rfl rfl Tryz.sizeOf35 rfl) ?_
        refine J.q rfl rfl (Q.ld Tryz.isAgg35 rfl (rdI (by exact rfl))) ?_
        refine J.q rfl rfl (Q.lenSl Tryz.runUnderlying35 rfl) ?_
        refine J.q rfl rfl (Q.fa (n := 5) Tryz.runUnderlying27 rfl rfl Tryz.sizeOf3 rfl) ?_
        refine J.q rfl rfl (Q.ld Tryz.isAgg3 rfl (rdI (by exact rfl))) ?_
        refine J.q rfl rfl (Q.eql rfl rfl) ?_
        refine J.q rfl rfl (Q.fa (n := 3) Tryz.runUnderlying37 rfl rfl Tryz.sizeOf4 rfl) ?_
        refine J.stI rfl Tryz.sizeOf4 rfl rfl rfl (by exact rfl) (by exact rfl) (by exact rfl) ?_
        refine J.nil ?_
        refine J.then_n ?_
        refine J.seq ?_
        refine J.region ?_
        refine J.q rfl rfl (Q.fa (n := 3) Tryz.runUnderlying37 rfl rfl Tryz.sizeOf4 rfl) ?_
        refine J.q rfl rfl (Q.ld Tryz.isAgg4 rfl (rdI (by exact rfl))) ?_
        refine J.nil ?_
        refine J.then_n ?_
        refine J.cases 42 rfl (fun hc42 => ?_) (fun hc42 => ?_)
        ·
         replace hc42 := X.nm hc42
         try (first | (cases hc42; done) | (exfalso; simp at hc42; done))
         all_goals
          refine J.cond_t rfl ?_
          refine J.exit ?_
          refine J.then_x ?_
          refine J.blk_o rfl ?_
          refine J.then_x ?_
          refine J.lp_x ?_
          refine J.blk_x ?_
          have hsel : lsel x.o a = true := by unfold lsel; first | (have h1 := hb28; have h2 : ltB x.o.after a = true := (by simpa using hc33); revert h1 h2; cases beg a x.o.key <;> cases ltB x.o.after a <;> decide) | (have h1 := hb28; revert h1; cases beg a x.o.key <;> cases ltB x.o.after a <;> decide)
          obtain ⟨r, hr⟩ := filter_more hka hsel
          have hdt := decide_eq_true hc42
          dsimp only at hc42
          have hal : ((ks.take j).filter (lsel x.o)).length = x.o.n.toNat := by omega
          refine J.keep [0, 1, 3, 4, 5, 7, 8] rfl ?_
          refine J.meet ((ks.take j).filter (lsel x.o), pa, ca, true) ⟨?_, ?_⟩ ⟨rfl, rfl, trivial⟩ ?_
          · show _ = List.take _ _
            rw [hlst, hr, ← hal, List.take_left]
          · show true = _
            rw [hlst, hr, ← hal, List.length_append, List.length_cons]
            simp
          · rw [hdt]
        replace hc42 := X.nm hc42
        try (first | (cases hc42; done) | (exfalso; simp at hc42; done))
        all_goals
         refine J.cond_f rfl ?_
         refine J.cskip ?_
         refine J.then_n ?_
         refine J.region ?_
         refine J.q rfl rfl (Q.fa (n := 2) Tryz.runUnderlying37 rfl rfl Tryz.sizeOf35 rfl) ?_
         refine J.q rfl rfl (Q.ld Tryz.isAgg35 rfl (rdI (by exact rfl))) ?_
         refine J.q rfl rfl (Q.mv rfl) ?_
         refine J.c rfl rfl (C.bslG (l := [_]) Tryz.runUnderlying35 Tryz.sizeOf9 Tryz.zeroValue9 (by decide) rfl rfl rfl rfl rfl) ?_
         rintro _ _ ⟨b46, rfl, rfl⟩
         refine J.norm rfl ?_
         refine J.conv (Y := own 9 1 (.slice (some ⟨b46, 0, none⟩) 1 1) [.string a]) 0 rfl (own_of_block rfl) ?_
         refine J.slr1 0 rfl fun hs46 => ?_
         refine J.c rfl rfl (C.app (i := 1) Tryz.runUnderlying35 Tryz.runUnderlying35 Tryz.typeInfo9 Tryz.sizeOf9 Tryz.zeroValue9 rfl rfl rfl (hs46.within (i := 0) rfl) (by intro v hv; simp at hv; subst hv; rfl) (by rw [show Tryz.t9.bytes = 16 from rfl]; show (_ + 1) * 16 ≤ _; dsimp only; omega) (by decide)) ?_
         rintro _ _ ⟨p47, c47, rfl, rfl⟩
         refine J.norm rfl ?_
         refine J.q rfl rfl (Q.fa (n := 2) Tryz.runUnderlying37 rfl rfl Tryz.sizeOf35 rfl) ?_
         refine J.stI rfl Tryz.sizeOf35 rfl rfl rfl (by exact rfl) (by exact rfl) (by exact rfl) ?_
         refine J.nil ?_
         refine J.blk_n ?_
         refine J.then_n ?_
         refine J.region ?_
         refine J.q rfl rfl (Q.add64 rfl rfl (by omega)) ?_
         refine J.q rfl rfl (Q.mv rfl) ?_
         refine J.nil ?_
         have hsel : lsel x.o a = true := by unfold lsel; first | (have h1 := hb28; have h2 : ltB x.o.after a = true := (by simpa using hc33); revert h1 h2; cases beg a x.o.key <;> cases ltB x.o.after a <;> decide) | (have h1 := hb28; revert h1; cases beg a x.o.key <;> cases ltB x.o.after a <;> decide)
         have e1 : (ks.take (j + 1)).filter (lsel x.o) = (ks.take j).filter (lsel x.o) ++ [a] := by rw [hft, hsel]; rfl
         have hdf := decide_eq_false hc42
         refine J.keep [1, 2, 3, 4, 5, 6, 7, 8, 9] rfl ?_
         refine J.again (j + 1, p47, c47) ⟨by show j + 1 ≤ _; omega, by show ((ks.take (j + 1)).filter (lsel x.o)).length ≤ _; rw [e1, List.length_append]; dsimp only at hc42; simp only [List.length_cons, List.length_nil]; omega⟩ (by show ks.length - (j + 1) < ks.length - j; omega) ⟨rfl, rfl, rfl, (by show _ = some (Value.slice p17 _ _); rw [hpp]; rfl), rfl, rfl, trivial⟩ ?_
         show _ = [own 9 1 (.slice p47 ((ks.take (j + 1)).filter (lsel x.o)).length c47) (((ks.take (j + 1)).filter (lsel x.o)).map Value.string), _, _, _, pt b5 (.cells [Value.int .i64 200, .int .u64 0, .slice p47 ((ks.take (j + 1)).filter (lsel x.o)).length c47, .bool false, .slice dp 0 dc].toArray 37 (0, 0)), _, _, _, _]
         rw [e1, List.length_append, List.map_append, hdf]
         rfl
    replace hc20 := X.nm hc20
    try (first | (cases hc20; done) | (exfalso; simp at hc20; done))
    all_goals
     refine J.cond_f rfl ?_
     refine J.exit ?_
     refine J.then_x ?_
     refine J.lp_x ?_
     refine J.blk_x ?_
     have hjn : j = ks.length := by omega
     subst hjn
     rw [List.take_length] at ha ⊢
     refine J.keep [0, 1, 3, 4, 5, 7, 8] rfl ?_
     refine J.meet (ks.filter (lsel x.o), pa, ca, false) ⟨?_, ?_⟩ ⟨rfl, rfl, trivial⟩ rfl
     · show _ = List.take _ _
       rw [hlst, List.take_of_length_le ha]
     · show false = _
       rw [hlst]
       simp; omega
   obtain ⟨kl, pk, ck, more⟩ := w
   obtain ⟨h1, h2⟩ := hw
   dsimp only at h1 h2
   refine J.seq ?_
   refine J.region ?_
   refine J.q rfl rfl (Q.ldN (vs := [_, _, _, _, _]) Tryz.isAgg37 Tryz.sizeOf37 rfl rnI) ?_
   refine J.stAI (vs := [_, _, _, _, _]) rfl Tryz.sizeOf37 rfl rfl (by exact rfl) (by exact rfl) (by exact rfl) ?_
   refine J.nil ?_
   refine J.then_n ?_
   refine J.cret ?_
   refine J.pack [0, 1] rfl ?_
   refine J.retC [1, 0, 4, 5] (vs := [_, _, _, _, _]) rfl rfl Tryz.isAgg37 Tryz.sizeOf37 (ReadsN.pt 3 rfl) rfl (B := [_, _, _]) ⟨⟨⟨200, 0, kl, more, []⟩, pk, ck, dp, dc⟩, rfl, ?_, rfl⟩
   rw [h1, h2]
theorem list_yes {objs : Objs} (hB : sget x.o.bucket M.buckets = some objs) : FSpec Tryz.prog 67 [.pointer (some ⟨m, 0, none⟩), .agg x.cells.toArray] [BktAt m M, G] (ActR m G (⟨200, 0, (listed x.o objs).take x.o.n.toNat, decide (x.o.n.toNat < (listed x.o objs).length), []⟩, M)) := by
  have hn := chk_6 hc h6
  try have hO := hM.os _ _ hB
  try have hke : keysM M x.o.bucket = objs.map (·.1) := by unfold keysM; rw [hB]
  refine FSpec.of Tryz.func67 rfl Tryz.ntmps67 rfl fun W0 F => ?_
  refine J.seq ?_
  refine J.region ?_
  refine J.c rfl rfl (C.box (l := [_, _, _, _, _, _, _, _, _]) rfl rfl) ?_
  rintro _ _ ⟨b3, rfl, rfl⟩
  refine J.norm rfl ?_
  refine J.c rfl rfl (C.alloc (l := [_, _, _, _, _]) Tryz.zeroValue37 rfl) ?_
  rintro _ _ ⟨b4, rfl, rfl⟩
  refine J.norm rfl ?_
  refine J.nil ?_
  refine J.then_n ?_
  refine J.seq ?_
  refine J.seq ?_
  refine J.region ?_
  refine J.q rfl rfl (Q.mv rfl) ?_
  refine J.q rfl rfl (Q.ldN (vs := [_, _, _, _, _, _, _, _, _]) Tryz.isAgg27 Tryz.sizeOf27 rfl rnI) ?_
  refine J.call Tryz.call94 ((by first | exact known_no m M x hB | exact known_yes m M hM x hB)) [2] rfl rfl rfl rfl ?_
  rintro _ _ ⟨rfl, rfl⟩
  refine J.norm rfl ?_
  refine J.q rfl rfl (Q.not rfl) ?_
  refine J.nil ?_
  refine J.then_n ?_
  refine J.cases 11 rfl (fun hc11 => ?_) (fun hc11 => ?_)
  ·
   replace hc11 := X.nm hc11
   try (first | (cases hc11; done) | (exfalso; simp at hc11; done))
   all_goals
    refine J.cond_t rfl ?_
    refine J.seq ?_
    refine J.region ?_
    refine J.call Tryz.call28 (status_spec 404) [] rfl rfl rfl rfl ?_
    rintro _ _ ⟨y, rfl, hy, rfl⟩
    refine J.norm rfl ?_
    refine J.stAI (vs := [_, _, _, _, _]) rfl Tryz.sizeOf37 rfl rfl (by exact rfl) (by exact rfl) (by exact rfl) ?_
    refine J.nil ?_
    refine J.then_n ?_
    refine J.cret ?_
    refine J.then_r ?_
    refine J.retC [1, 0, 4, 5] (vs := [_, _, _, _, _]) rfl rfl Tryz.isAgg37 Tryz.sizeOf37 (ReadsN.pt 2 rfl) rfl (B := [_, _, _]) ⟨_, rfl, hy, rfl⟩
  replace hc11 := X.nm hc11
  try (first | (cases hc11; done) | (exfalso; simp at hc11; done))
  all_goals
   refine J.cond_f rfl ?_
   refine J.cskip ?_
   refine J.then_n ?_
   refine J.seq ?_
   refine J.region ?_
   refine J.call Tryz.call28 (status_spec 200) [] rfl rfl rfl rfl ?_
   rintro _ _ ⟨y, rfl, hy, rfl⟩
   refine J.norm rfl ?_
   obtain ⟨yr, kp, kc, dp, dc⟩ := y
   dsimp only at hy
   subst hy
   refine J.c rfl rfl (C.alloc (l := [_, _, _, _, _]) Tryz.zeroValue37 rfl) ?_
   rintro _ _ ⟨b5, rfl, rfl⟩
   refine J.norm rfl ?_
   refine J.stAI (vs := [_, _, _, _, _]) rfl Tryz.sizeOf37 rfl rfl (by exact rfl) (by exact rfl) (by exact rfl) ?_
   refine J.nil ?_
   refine J.then_n ?_
   refine J.cut (fun w : List ByteArray × Option Addr × Nat × Bool => w.1 = (listed x.o objs).take x.o.n.toNat ∧ w.2.2.2 = decide (x.o.n.toNat < (listed x.o objs).length)) (fun w => [(4, .pointer (some ⟨b4, 0, none⟩)), (5, .pointer (some ⟨b5, 0, none⟩))]) (fun w => [own 9 1 (.slice w.2.1 w.1.length w.2.2.1) (w.1.map Value.string), own 5 1 (.slice dp 0 dc) [], BktAt m M, pt b5 (.cells [Value.int .i64 200, .int .u64 0, .slice w.2.1 w.1.length w.2.2.1, .bool w.2.2.2, .slice dp 0 dc].toArray 37 (0, 0)), pt b4 (.cells [Value.int .i64 0, .int .u64 0, .slice none 0 0, .bool false, .slice none 0 0].toArray 37 (0, 0)), G, F]) ?_ fun w hw => ?_
   ·
    refine J.seq ?_
    refine J.region ?_
    refine J.q rfl rfl (Q.mv rfl) ?_
    refine J.q rfl rfl (Q.fa (n := 2) Tryz.runUnderlying27 rfl rfl Tryz.sizeOf9 rfl) ?_
    refine J.q rfl rfl (Q.ld Tryz.isAgg9 rfl (rdI (by exact rfl))) ?_
    refine J.call Tryz.call22 (objects_spec m M hM hK hk x.o.bucket) [2] rfl rfl rfl rfl ?_
    rintro _ _ ⟨p17, c17, rfl, rfl⟩
    refine J.norm rfl ?_
    obtain ⟨ks, hks⟩ : ∃ ks, ks = keysM M x.o.bucket := ⟨_, rfl⟩
    rw [← hks]
    have hkl : ks.length ≤ 1048576 := by rw [hks, hke, List.length_map]; omega
    have hlst : listed x.o objs = ks.filter (lsel x.o) := by rw [hks, hke]; rfl
    refine J.unpack 3 rfl rfl ?_
    refine J.norm rfl ?_
    refine J.slr1 2 rfl fun hs17 => ?_
    refine J.q rfl rfl (Q.lenSl Tryz.runUnderlying35 rfl) ?_
    refine J.q rfl rfl (Q.mv rfl) ?_
    refine J.nil ?_
    refine J.then_n ?_
    refine J.block ?_
    refine J.loop (fun w : Nat × Option Addr × Nat => w.1 ≤ ks.length ∧ ((ks.take w.1).filter (lsel x.o)).length ≤ x.o.n.toNat) (fun w => ks.length - w.1) (fun w => [(3, .pointer (some ⟨b3, 0, none⟩)), (4, .pointer (some ⟨b4, 0, none⟩)), (5, .pointer (some ⟨b5, 0, none⟩)), (17, .slice p17 ks.length c17), (18, .int .i64 ks.length), (19, .int .i64 w.1)])
      (fun w => [own 9 1 (.slice w.2.1 ((ks.take w.1).filter (lsel x.o)).length w.2.2) (((ks.take w.1).filter (lsel x.o)).map Value.string), own 5 1 (.slice dp 0 dc) [], own 9 1 (.slice p17 ks.length c17) (ks.map Value.string), BktAt m M, pt b5 (.cells [Value.int .i64 200, .int .u64 0, .slice w.2.1 ((ks.take w.1).filter (lsel x.o)).length w.2.2, .bool false, .slice dp 0 dc].toArray 37 (0, 0)), pt b4 (.cells [Value.int .i64 0, .int .u64 0, .slice none 0 0, .bool false, .slice none 0 0].toArray 37 (0, 0)), pt b3 (.cells x.cells.toArray 27 (0, 0)), G, F]) (0, kp, kc) ⟨Nat.zero_le _, Nat.zero_le _⟩ ⟨rfl, rfl, rfl, rfl, rfl, rfl, trivial⟩ rfl fun w hw => ?_
    obtain ⟨j, pa, ca⟩ := w
    obtain ⟨hj, ha⟩ := hw
    dsimp only at hj ha
    refine J.seq ?_
    refine J.region ?_
    refine J.q rfl rfl (Q.lss rfl rfl) ?_
    refine J.nil ?_
    refine J.then_n ?_
    refine J.seq ?_
    refine J.cases 20 rfl (fun hc20 => ?_) (fun hc20 => ?_)
    ·
     replace hc20 := X.nm hc20
     try (first | (cases hc20; done) | (exfalso; simp at hc20; done))
     all_goals
      refine J.cond_t rfl ?_
      refine J.cskip ?_
      refine J.then_n ?_
      refine J.seq ?_
      refine J.block ?_
      refine J.seq ?_
      obtain ⟨bb, ob, hpp, hrd⟩ := hs17.some_ (by omega)
      obtain ⟨a, hka⟩ : ∃ a, ks[j]? = some a := ⟨_, List.getElem?_eq_getElem (by omega)⟩
      have hft := filter_take (p := lsel x.o) hka
      refine J.slot 17 (.slice (some ⟨bb, ob, none⟩) ks.length c17) rfl (by rw [hpp]) ?_
      refine J.region ?_
      refine J.q rfl rfl (Q.ia Tryz.runUnderlying35 Tryz.sizeOf9 rfl rfl (by omega) (by omega)) ?_
      refine J.q rfl rfl (Q.ld Tryz.isAgg9 rfl (((hrd j (.string a) (by simp [hka])).within (i := 2) rfl).cast (by simp))) ?_
      refine J.q rfl rfl (Q.asg rfl) ?_
      refine J.nil ?_
      refine J.then_n ?_
      refine J.seq ?_
      refine J.seq ?_
      refine J.region ?_
      refine J.q rfl rfl (Q.mv rfl) ?_
      refine J.q rfl rfl (Q.fa (n := 3) Tryz.runUnderlying27 rfl rfl Tryz.sizeOf9 rfl) ?_
      refine J.q rfl rfl (Q.ld Tryz.isAgg9 rfl (rdI (by exact rfl))) ?_
      refine J.call Tryz.call95 (hasPrefix_spec a x.o.key) [] rfl rfl rfl rfl ?_
      rintro _ _ ⟨rfl, rfl⟩
      refine J.norm rfl ?_
      refine J.q rfl rfl (Q.not rfl) ?_
      refine J.q rfl rfl (Q.mv rfl) ?_
      refine J.cases 28 rfl (fun hb28 => ?_) (fun hb28 => ?_)
      ·
       replace hb28 := X.nm hb28
       try (first | (cases hb28; done) | (exfalso; simp at hb28; done))
       all_goals
        refine J.skip rfl rfl ?_
        refine J.skip rfl rfl ?_
        refine J.skip rfl rfl ?_
        refine J.skip rfl rfl ?_
        refine J.q rfl rfl (Q.pick_t rfl rfl) ?_
        refine J.nil ?_
        refine J.then_n ?_
        refine J.cond_t rfl ?_
        refine J.exit ?_
        refine J.then_x ?_
        refine J.blk_x ?_
        refine J.then_n ?_
        refine J.region ?_
        refine J.q rfl rfl (Q.add64 rfl rfl (by omega)) ?_
        refine J.q rfl rfl (Q.mv rfl) ?_
        refine J.nil ?_
        have hsel : lsel x.o a = false := by unfold lsel; first | (have h1 := hb28; have h2 : ltB x.o.after a = false := (by simpa using hc33); revert h1 h2; cases beg a x.o.key <;> cases ltB x.o.after a <;> decide) | (have h1 := hb28; revert h1; cases beg a x.o.key <;> cases ltB x.o.after a <;> decide)
        rw [hsel] at hft
        simp only [Bool.false_eq_true, if_false, List.append_nil] at hft
        refine J.again (j + 1, pa, ca) ⟨by show j + 1 ≤ _; omega, by show ((ks.take (j + 1)).filter (lsel x.o)).length ≤ _; rw [hft]; exact ha⟩ (by show ks.length - (j + 1) < ks.length - j; omega) ⟨rfl, rfl, rfl, (by show _ = some (Value.slice p17 _ _); rw [hpp]; rfl), rfl, rfl, trivial⟩ ?_
        show _ = [own 9 1 (.slice pa ((ks.take (j + 1)).filter (lsel x.o)).length ca) (((ks.take (j + 1)).filter (lsel x.o)).map Value.string), _, _, _, pt b5 (.cells [Value.int .i64 200, .int .u64 0, .slice pa ((ks.take (j + 1)).filter (lsel x.o)).length ca, .bool false, .slice dp 0 dc].toArray 37 (0, 0)), _, _, _, _]
        rw [hft]
      replace hb28 := X.nm hb28
      try (first | (cases hb28; done) | (exfalso; simp at hb28; done))
      all_goals
       refine J.q rfl rfl (Q.mv rfl) ?_
       refine J.q rfl rfl (Q.fa (n := 4) Tryz.runUnderlying27 rfl rfl Tryz.sizeOf9 rfl) ?_
       refine J.q rfl rfl (Q.ld Tryz.isAgg9 rfl (rdI (by exact rfl))) ?_
       refine J.q rfl rfl (leqs rfl rfl) ?_
       refine J.q rfl rfl (Q.pick_f rfl rfl) ?_
       refine J.nil ?_
       refine J.then_n ?_
       refine J.cases 33 rfl (fun hc33 => ?_) (fun hc33 => ?_)
       ·
        replace hc33 := X.nm hc33
        try (first | (cases hc33; done) | (exfalso; simp at hc33; done))
        all_goals
         refine J.cond_t rfl ?_
         refine J.exit ?_
         refine J.then_x ?_
         refine J.blk_x ?_
         refine J.then_n ?_
         refine J.region ?_
         refine J.q rfl rfl (Q.add64 rfl rfl (by omega)) ?_
         refine J.q rfl rfl (Q.mv rfl) ?_
         refine J.nil ?_
         have hsel : lsel x.o a = false := by unfold lsel; first | (have h1 := hb28; have h2 : ltB x.o.after a = false := (by simpa using hc33); revert h1 h2; cases beg a x.o.key <;> cases ltB x.o.after a <;> decide) | (have h1 := hb28; revert h1; cases beg a x.o.key <;> cases ltB x.o.after a <;> decide)
         rw [hsel] at hft
         simp only [Bool.false_eq_true, if_false, List.append_nil] at hft
         refine J.again (j + 1, pa, ca) ⟨by show j + 1 ≤ _; omega, by show ((ks.take (j + 1)).filter (lsel x.o)).length ≤ _; rw [hft]; exact ha⟩ (by show ks.length - (j + 1) < ks.length - j; omega) ⟨rfl, rfl, rfl, (by show _ = some (Value.slice p17 _ _); rw [hpp]; rfl), rfl, rfl, trivial⟩ ?_
         show _ = [own 9 1 (.slice pa ((ks.take (j + 1)).filter (lsel x.o)).length ca) (((ks.take (j + 1)).filter (lsel x.o)).map Value.string), _, _, _, pt b5 (.cells [Value.int .i64 200, .int .u64 0, .slice pa ((ks.take (j + 1)).filter (lsel x.o)).length ca, .bool false, .slice dp 0 dc].toArray 37 (0, 0)), _, _, _, _]
         rw [hft]
       replace hc33 := X.nm hc33
       try (first | (cases hc33; done) | (exfalso; simp at hc33; done))
       all_goals
        refine J.cond_f rfl ?_
        refine J.cskip ?_
        refine J.then_n ?_
        refine J.seq ?_
        refine J.seq ?_
        refine J.region ?_
        refine J.q rfl rfl (Q.fa (n := 2) Tryz.runUnderlying37 rfl rfl Tryz.sizeOf35 rfl) ?_
        refine J.q rfl rfl (Q.ld Tryz.isAgg35 rfl (rdI (by exact rfl))) ?_
        refine J.q rfl rfl (Q.lenSl Tryz.runUnderlying35 rfl) ?_
        refine J.q rfl rfl (Q.fa (n := 5) Tryz.runUnderlying27 rfl rfl Tryz.sizeOf3 rfl) ?_
        refine J.q rfl rfl (Q.ld Tryz.isAgg3 rfl (rdI (by exact rfl))) ?_
        refine J.q rfl rfl (Q.eql rfl rfl) ?_
        refine J.q rfl rfl (Q.fa (n := 3) Tryz.runUnderlying37 rfl rfl Tryz.sizeOf4 rfl) ?_
        refine J.stI rfl Tryz.sizeOf4 rfl rfl rfl (by exact rfl) (by exact rfl) (by exact rfl) ?_
        refine J.nil ?_
        refine J.then_n ?_
        refine J.seq ?_
        refine J.region ?_
        refine J.q rfl rfl (Q.fa (n := 3) Tryz.runUnderlying37 rfl rfl Tryz.sizeOf4 rfl) ?_
        refine J.q rfl rfl (Q.ld Tryz.isAgg4 rfl (rdI (by exact rfl))) ?_
        refine J.nil ?_
        refine J.then_n ?_
        refine J.cases 42 rfl (fun hc42 => ?_) (fun hc42 => ?_)
        ·
         replace hc42 := X.nm hc42
         try (first | (cases hc42; done) | (exfalso; simp at hc42; done))
         all_goals
          refine J.cond_t rfl ?_
          refine J.exit ?_
          refine J.then_x ?_
          refine J.blk_o rfl ?_
          refine J.then_x ?_
          refine J.lp_x ?_
          refine J.blk_x ?_
          have hsel : lsel x.o a = true := by unfold lsel; first | (have h1 := hb28; have h2 : ltB x.o.after a = true := (by simpa using hc33); revert h1 h2; cases beg a x.o.key <;> cases ltB x.o.after a <;> decide) | (have h1 := hb28; revert h1; cases beg a x.o.key <;> cases ltB x.o.after a <;> decide)
          obtain ⟨r, hr⟩ := filter_more hka hsel
          have hdt := decide_eq_true hc42
          dsimp only at hc42
          have hal : ((ks.take j).filter (lsel x.o)).length = x.o.n.toNat := by omega
          refine J.keep [0, 1, 3, 4, 5, 7, 8] rfl ?_
          refine J.meet ((ks.take j).filter (lsel x.o), pa, ca, true) ⟨?_, ?_⟩ ⟨rfl, rfl, trivial⟩ ?_
          · show _ = List.take _ _
            rw [hlst, hr, ← hal, List.take_left]
          · show true = _
            rw [hlst, hr, ← hal, List.length_append, List.length_cons]
            simp
          · rw [hdt]
        replace hc42 := X.nm hc42
        try (first | (cases hc42; done) | (exfalso; simp at hc42; done))
        all_goals
         refine J.cond_f rfl ?_
         refine J.cskip ?_
         refine J.then_n ?_
         refine J.region ?_
         refine J.q rfl rfl (Q.fa (n := 2) Tryz.runUnderlying37 rfl rfl Tryz.sizeOf35 rfl) ?_
         refine J.q rfl rfl (Q.ld Tryz.isAgg35 rfl (rdI (by exact rfl))) ?_
         refine J.q rfl rfl (Q.mv rfl) ?_
         refine J.c rfl rfl (C.bslG (l := [_]) Tryz.runUnderlying35 Tryz.sizeOf9 Tryz.zeroValue9 (by decide) rfl rfl rfl rfl rfl) ?_
         rintro _ _ ⟨b46, rfl, rfl⟩
         refine J.norm rfl ?_
         refine J.conv (Y := own 9 1 (.slice (some ⟨b46, 0, none⟩) 1 1) [.string a]) 0 rfl (own_of_block rfl) ?_
         refine J.slr1 0 rfl fun hs46 => ?_
         refine J.c rfl rfl (C.app (i := 1) Tryz.runUnderlying35 Tryz.runUnderlying35 Tryz.typeInfo9 Tryz.sizeOf9 Tryz.zeroValue9 rfl rfl rfl (hs46.within (i := 0) rfl) (by intro v hv; simp at hv; subst hv; rfl) (by rw [show Tryz.t9.bytes = 16 from rfl]; show (_ + 1) * 16 ≤ _; dsimp only; omega) (by decide)) ?_
         rintro _ _ ⟨p47, c47, rfl, rfl⟩
         refine J.norm rfl ?_
         refine J.q rfl rfl (Q.fa (n := 2) Tryz.runUnderlying37 rfl rfl Tryz.sizeOf35 rfl) ?_
         refine J.stI rfl Tryz.sizeOf35 rfl rfl rfl (by exact rfl) (by exact rfl) (by exact rfl) ?_
         refine J.nil ?_
         refine J.blk_n ?_
         refine J.then_n ?_
         refine J.region ?_
         refine J.q rfl rfl (Q.add64 rfl rfl (by omega)) ?_
         refine J.q rfl rfl (Q.mv rfl) ?_
         refine J.nil ?_
         have hsel : lsel x.o a = true := by unfold lsel; first | (have h1 := hb28; have h2 : ltB x.o.after a = true := (by simpa using hc33); revert h1 h2; cases beg a x.o.key <;> cases ltB x.o.after a <;> decide) | (have h1 := hb28; revert h1; cases beg a x.o.key <;> cases ltB x.o.after a <;> decide)
         have e1 : (ks.take (j + 1)).filter (lsel x.o) = (ks.take j).filter (lsel x.o) ++ [a] := by rw [hft, hsel]; rfl
         have hdf := decide_eq_false hc42
         refine J.keep [1, 2, 3, 4, 5, 6, 7, 8, 9] rfl ?_
         refine J.again (j + 1, p47, c47) ⟨by show j + 1 ≤ _; omega, by show ((ks.take (j + 1)).filter (lsel x.o)).length ≤ _; rw [e1, List.length_append]; dsimp only at hc42; simp only [List.length_cons, List.length_nil]; omega⟩ (by show ks.length - (j + 1) < ks.length - j; omega) ⟨rfl, rfl, rfl, (by show _ = some (Value.slice p17 _ _); rw [hpp]; rfl), rfl, rfl, trivial⟩ ?_
         show _ = [own 9 1 (.slice p47 ((ks.take (j + 1)).filter (lsel x.o)).length c47) (((ks.take (j + 1)).filter (lsel x.o)).map Value.string), _, _, _, pt b5 (.cells [Value.int .i64 200, .int .u64 0, .slice p47 ((ks.take (j + 1)).filter (lsel x.o)).length c47, .bool false, .slice dp 0 dc].toArray 37 (0, 0)), _, _, _, _]
         rw [e1, List.length_append, List.map_append, hdf]
         rfl
    replace hc20 := X.nm hc20
    try (first | (cases hc20; done) | (exfalso; simp at hc20; done))
    all_goals
     refine J.cond_f rfl ?_
     refine J.exit ?_
     refine J.then_x ?_
     refine J.lp_x ?_
     refine J.blk_x ?_
     have hjn : j = ks.length := by omega
     subst hjn
     rw [List.take_length] at ha ⊢
     refine J.keep [0, 1, 3, 4, 5, 7, 8] rfl ?_
     refine J.meet (ks.filter (lsel x.o), pa, ca, false) ⟨?_, ?_⟩ ⟨rfl, rfl, trivial⟩ rfl
     · show _ = List.take _ _
       rw [hlst, List.take_of_length_le ha]
     · show false = _
       rw [hlst]
       simp; omega
   obtain ⟨kl, pk, ck, more⟩ := w
   obtain ⟨h1, h2⟩ := hw
   dsimp only at h1 h2
   refine J.seq ?_
   refine J.region ?_
   refine J.q rfl rfl (Q.ldN (vs := [_, _, _, _, _]) Tryz.isAgg37 Tryz.sizeOf37 rfl rnI) ?_
   refine J.stAI (vs := [_, _, _, _, _]) rfl Tryz.sizeOf37 rfl rfl (by exact rfl) (by exact rfl) (by exact rfl) ?_
   refine J.nil ?_
   refine J.then_n ?_
   refine J.cret ?_
   refine J.pack [0, 1] rfl ?_
   refine J.retC [1, 0, 4, 5] (vs := [_, _, _, _, _]) rfl rfl Tryz.isAgg37 Tryz.sizeOf37 (ReadsN.pt 3 rfl) rfl (B := [_, _, _]) ⟨⟨⟨200, 0, kl, more, []⟩, pk, ck, dp, dc⟩, rfl, ?_, rfl⟩
   rw [h1, h2]
theorem list_spec : FSpec Tryz.prog 67 [.pointer (some ⟨m, 0, none⟩), .agg x.cells.toArray] [BktAt m M, G] (ActR m G (M.list x.o)) := by
  unfold BM.list
  cases hB : sget x.o.bucket M.buckets with
  | none => exact list_no m M hM hK hk x G hx hc h6 hB
  | some objs => exact list_yes m M hM hK hk x G hx hc h6 hB
end

/-- Each op, whatever its kind. -/
theorem do_all {k : Nat} (m : Nat) (M : BM) (hM : M.ok k) (hK : M.kok) (hk : k ≤ 32768) (x : OW) (G : Assn) (hx : x.ok G) : FSpec Tryz.prog 10 [.pointer (some ⟨m, 0, none⟩), .agg x.cells.toArray] [BktAt m M, G] (ActR m G (M.run x.o)) :=
  do_spec m M hM x G hx fun hc => hasAct m M hM x G hx hc fun h6 => list_spec m M hM hK hk x G hx hc h6
end Go.Proofs.YtdancegklkifaaaGreat
namespace Go.Proofs.YtdancegklkifaaaGreat
set_option linter.unusedSectionVars false
set_option linter.unusedSimpArgs false
set_option linter.unusedVariables false
open Go.X
open Go.X.G (Ord3 ord3_nat ord3_int ord3_str ltB sget sput sdel Srtd)

theorem chk_in {o : OM} (h : o.chkB = true) (hk : o.kind ≤ 7) : o.bucket.data.toList ≠ [] := by
  rw [chk_eq] at h
  intro e
  have hn : nameOK o.bucket.data.toList = false := by rw [e]; rfl
  unfold OM.chkR at h
  rw [hn] at h
  simp only [Bool.false_and] at h
  repeat' split at h
  all_goals first
    | (cases h; done)
    | omega
theorem chk_out {o : OM} (h : o.chkB = true) (hk : ¬ o.kind ≤ 7) : o.bucket.data.toList = [] := by
  rw [chk_eq] at h
  unfold OM.chkR at h
  have h1 : ¬ (o.kind = 1 ∨ o.kind = 2) := by omega
  have h2 : ¬ o.kind = 3 := by omega
  have h3 : ¬ (o.kind = 4 ∨ o.kind = 5 ∨ o.kind = 7) := by omega
  have h4 : ¬ o.kind = 6 := by omega
  rw [if_neg h1, if_neg h2, if_neg h3, if_neg h4] at h
  have : emp o.bucket = true := by
    repeat' split at h
    all_goals first
      | (cases h; done)
      | (simp only [Bool.and_eq_true] at h; simp [h]; done)
  simpa [emp] using this
theorem chk_key {o : OM} (h : o.chkB = true) (hk : o.kind ≤ 7) : o.key.size ≤ 1024 := by
  rw [chk_eq] at h
  unfold OM.chkR at h
  repeat' split at h
  all_goals first
    | (simp only [Bool.and_eq_true, decide_eq_true_eq, longB, emp] at h; have e : o.key.data.toList.length = o.key.size := by simp
       first | omega | (have e2 : o.key.data.toList = [] := by simp_all
                        rw [e2] at e; simp at e; omega))
    | (cases h; done)
    | omega

theorem sget_in {κ ν : Type} [DecidableEq κ] {lt : κ → κ → Bool} (o : Ord3 lt) {l : List (κ × ν)} (h : Srtd lt l) {p : κ × ν} (hp : p ∈ l) : sget p.1 l = some p.2 := X.G.sget_of_mem (h.nodup o) hp

/-! ### The keys stay short -/
theorem kok_new : BM.kok ⟨[], [], []⟩ := ⟨(fun _ _ h => by cases h), (fun _ _ h => by cases h)⟩
theorem kok_put {k : Nat} {M : BM} (h : M.kok) (b : ByteArray) {o : Objs} (ho : ∀ p, p ∈ o → p.1.size ≤ 1024) (us : List (Nat × UM)) (hu : ∀ n u, sget n us = some u → u.key.size ≤ 1024) (d) : BM.kok ⟨sput ltB b o M.buckets, us, d⟩ := by
  refine ⟨fun n q hq => ?_, hu⟩
  rw [X.G.sget_put ord3_str] at hq
  split at hq
  · cases hq; exact ho
  · exact h.ob n q hq
theorem keys_put {k : Nat} {o : Objs} (hs : Srtd ltB o) (h : ∀ p, p ∈ o → p.1.size ≤ 1024) {a : ByteArray} (ha : a.size ≤ 1024) (d : List UInt8) : ∀ p, p ∈ sput ltB a d o → p.1.size ≤ 1024 := by
  intro p hp
  have := (X.G.sput_perm ord3_str (hs.nodup ord3_str) a d).mem_iff.1 hp
  rcases List.mem_cons.1 this with rfl | h'
  · exact ha
  · exact h p ((List.mem_filter.1 h').1)

theorem act_kok {k : Nat} {M : BM} (hM : M.ok k) (h : M.kok) {o : OM} (hc : o.chkB = true) : (M.act o).2.kok := by
  have hkey := chk_key hc
  unfold BM.act
  split
  · unfold BM.make
    split
    · exact h
    · exact kok_put (k := 0) h _ (by simp) _ h.up _
  split
  · unfold BM.unmake
    split
    · exact h
    · split
      · exact h
      · refine ⟨fun n q hq => ?_, h.up⟩
        rw [X.G.sget_del] at hq
        split at hq
        · cases hq
        · exact h.ob n q hq
  split
  · unfold BM.put
    split
    · exact h
    · rename_i objs hb
      exact kok_put (k := 0) h _ (keys_put (k := 0) (hM.os _ _ hb).1 (h.ob _ _ hb) (hkey (by omega)) _) _ h.up _
  split
  · have : (M.get o).2 = M := by unfold BM.get; repeat' split
                                 all_goals rfl
    rw [this]; exact h
  split
  · unfold BM.delete
    split
    · exact h
    · rename_i objs hb
      split
      · exact h
      · exact kok_put (k := 0) h _ (fun p hp => h.ob _ _ hb p ((List.mem_filter.1 hp).1)) _ h.up _
  split
  · have : (M.list o).2 = M := by unfold BM.list; split <;> rfl
    rw [this]; exact h
  split
  · unfold BM.begin
    split
    · exact h
    · refine ⟨h.ob, fun n u hu => ?_⟩
      rw [X.G.sget_put ord3_nat] at hu
      split at hu
      · cases hu; exact hkey (by omega)
      · exact h.up n u hu
  split
  · unfold BM.part
    split
    · exact h
    · rename_i u0 hu0
      refine ⟨h.ob, fun n u hu => ?_⟩
      rw [X.G.sget_put ord3_nat] at hu
      split at hu
      · cases hu
        show u0.key.size ≤ 1024
        exact h.up _ _ hu0
      · exact h.up n u hu
  split
  · unfold BM.complete
    split
    · exact h
    · rename_i u0 hu0
      split
      · exact h
      · refine kok_put (k := 0) h _ ?_ _ (fun n u hu => ?_) _
        · obtain ⟨objs, hB⟩ := Option.isSome_iff_exists.1 (hM.ps _ _ hu0).2.1
          rw [hB]
          exact keys_put (k := 0) (hM.os _ _ hB).1 (h.ob _ _ hB) (h.up _ _ hu0) _
        · rw [X.G.sget_del] at hu
          split at hu
          · cases hu
          · exact h.up n u hu
  · unfold BM.abort
    split
    · exact h
    · refine ⟨h.ob, fun n u hu => ?_⟩
      rw [X.G.sget_del] at hu
      split at hu
      · cases hu
      · exact h.up n u hu

theorem run_kok {k : Nat} {M : BM} (hM : M.ok k) (h : M.kok) (o : OM) : (M.run o).2.kok := by
  unfold BM.run
  split
  · rename_i hc
    have ha := act_kok hM h hc
    split
    · exact ha
    · split
      · exact h
      · exact ⟨ha.ob, ha.up⟩
  · exact h

/-! ### One room -/
structure RoomA (name : ByteArray) (mine : Nat → Bool) (M N : BM) : Prop where
  b : sget name M.buckets = sget name N.buckets
  u : ∀ i, mine i = true → sget i M.uploads = sget i N.uploads
  un : ∀ i u, sget i M.uploads = some u → (u.bucket = name ↔ mine i = true)
  uN : ∀ i u, sget i N.uploads = some u → u.bucket = name ∧ mine i = true

theorem uses_iff {k : Nat} {M : BM} (hM : M.ok k) (b : ByteArray) : M.uses b = true ↔ ∃ i u, sget i M.uploads = some u ∧ u.bucket = b := by
  unfold BM.uses
  rw [List.any_eq_true]
  constructor
  · rintro ⟨p, hp, he⟩
    exact ⟨p.1, p.2, sget_in ord3_nat hM.us hp, by simpa using he⟩
  · rintro ⟨i, u, hi, he⟩
    exact ⟨(i, u), X.G.sget_mem hi, by simpa using he⟩
theorem RoomA.uses {k j : Nat} {name : ByteArray} {mine : Nat → Bool} {M N : BM} (h : RoomA name mine M N) (hM : M.ok k) (hN : N.ok j) : M.uses name = N.uses name := by
  rw [Bool.eq_iff_iff, uses_iff hM, uses_iff hN]
  constructor
  · rintro ⟨i, u, hi, he⟩
    exact ⟨i, u, by rw [← h.u i ((h.un i u hi).1 he)]; exact hi, he⟩
  · rintro ⟨i, u, hi, he⟩
    exact ⟨i, u, by rw [h.u i (h.uN i u hi).2]; exact hi, he⟩

/-- Is an op one of this room's? -/
def hereB (name : ByteArray) (mine : Nat → Bool) (o : OM) : Bool := if o.kind ≤ 7 then decide (o.bucket = name) else mine o.upload
def mineUp (mine : Nat → Bool) (o : OM) (r : RM) : Nat → Bool := fun i => if o.kind = 7 ∧ r.status = 200 ∧ i = o.id then true else mine i

variable {k j : Nat} {name : ByteArray} {mine : Nat → Bool} {M N : BM} {o : OM}
theorem RoomA.setB (h : RoomA name mine M N) (v : Option Objs) (f g : List (ByteArray × Objs)) (hf : sget name f = v) (hg : sget name g = v) : RoomA name mine { M with buckets := f } { N with buckets := g } :=
  ⟨hf.trans hg.symm, h.u, h.un, h.uN⟩

theorem act_here (h : RoomA name mine M N) (hM : M.ok k) (hN : N.ok j) (hk1 : 1 ≤ o.kind) (hh : hereB name mine o = true) :
    (M.act o).1 = (N.act o).1 ∧ RoomA name (mineUp mine o (M.act o).1) (M.act o).2 (N.act o).2 := by
  have hu := h.uses hM hN
  have hmine : o.kind ≠ 7 → ∀ r, mineUp mine o r = mine := fun h7 r => by funext i; unfold mineUp; rw [if_neg (by rintro ⟨a, _⟩; exact h7 a)]
  have hb : o.kind ≤ 7 → o.bucket = name := fun hk => by unfold hereB at hh; rw [if_pos hk] at hh; simpa using hh
  have hm : ¬ o.kind ≤ 7 → mine o.upload = true := fun hk => by unfold hereB at hh; rw [if_neg hk] at hh; exact hh
  unfold BM.act
  split
  · rw [hmine (by omega)]
    unfold BM.make
    rw [hb (by omega), h.b]
    cases hB : sget name N.buckets with
    | some _ => exact ⟨rfl, h⟩
    | none => exact ⟨rfl, h.setB (some []) _ _ (by rw [X.G.sget_put ord3_str, if_pos rfl]) (by rw [X.G.sget_put ord3_str, if_pos rfl])⟩
  split
  · rw [hmine (by omega)]
    unfold BM.unmake
    rw [hb (by omega), h.b, hu]
    cases hB : sget name N.buckets with
    | none => exact ⟨rfl, h⟩
    | some objs =>
      dsimp only
      split
      · exact ⟨rfl, h⟩
      · exact ⟨rfl, h.setB none _ _ (by rw [X.G.sget_del, if_pos rfl]) (by rw [X.G.sget_del, if_pos rfl])⟩
  split
  · rw [hmine (by omega)]
    unfold BM.put
    rw [hb (by omega), h.b]
    cases hB : sget name N.buckets with
    | none => exact ⟨rfl, h⟩
    | some objs => exact ⟨rfl, h.setB (some (sput ltB o.key o.data objs)) _ _ (by rw [X.G.sget_put ord3_str, if_pos rfl]) (by rw [X.G.sget_put ord3_str, if_pos rfl])⟩
  split
  · rw [hmine (by omega)]
    unfold BM.get
    rw [hb (by omega), h.b]
    cases hB : sget name N.buckets with
    | none => exact ⟨rfl, h⟩
    | some objs =>
      dsimp only
      cases sget o.key objs with
      | none => exact ⟨rfl, h⟩
      | some _ => exact ⟨rfl, h⟩
  split
  · rw [hmine (by omega)]
    unfold BM.delete
    rw [hb (by omega), h.b]
    cases hB : sget name N.buckets with
    | none => exact ⟨rfl, h⟩
    | some objs =>
      dsimp only
      cases sget o.key objs with
      | none => exact ⟨rfl, h⟩
      | some _ => exact ⟨rfl, h.setB (some (sdel o.key objs)) _ _ (by rw [X.G.sget_put ord3_str, if_pos rfl]) (by rw [X.G.sget_put ord3_str, if_pos rfl])⟩
  split
  · rw [hmine (by omega)]
    unfold BM.list
    rw [hb (by omega), h.b]
    cases hB : sget name N.buckets with
    | none => exact ⟨rfl, h⟩
    | some objs => exact ⟨rfl, h⟩
  split
  · rename_i h7
    unfold BM.begin
    rw [hb (by omega), h.b]
    cases hB : sget name N.buckets with
    | none =>
      have : mineUp mine o (st 404) = mine := by funext i; unfold mineUp; rw [if_neg (by rintro ⟨_, a, _⟩; simp [st] at a)]
      dsimp only
      rw [this]; exact ⟨rfl, h⟩
    | some objs =>
      refine ⟨rfl, ⟨h.b, fun i hi => ?_, fun i u hu => ?_, fun i u hu => ?_⟩⟩
      · show sget i (sput ltN _ _ M.uploads) = sget i (sput ltN _ _ N.uploads)
        rw [X.G.sget_put ord3_nat, X.G.sget_put ord3_nat]
        by_cases e : i = o.id
        · rw [if_pos e, if_pos e]
        · rw [if_neg e, if_neg e]
          refine h.u i ?_
          have hi' : (if o.kind = 7 ∧ (200 : Int) = 200 ∧ i = o.id then true else mine i) = true := hi
          rw [if_neg (fun a => e a.2.2)] at hi'
          exact hi'
      · have hu' : sget i (sput ltN o.id ⟨name, o.key, []⟩ M.uploads) = some u := hu
        rw [X.G.sget_put ord3_nat] at hu'
        show u.bucket = name ↔ (if o.kind = 7 ∧ (200 : Int) = 200 ∧ i = o.id then true else mine i) = true
        by_cases e : i = o.id
        · rw [if_pos e] at hu'
          cases hu'
          rw [if_pos ⟨h7, rfl, e⟩]
          exact ⟨fun _ => rfl, fun _ => rfl⟩
        · rw [if_neg e] at hu'
          rw [if_neg (fun a => e a.2.2)]
          exact h.un i u hu'
      · have hu' : sget i (sput ltN o.id ⟨name, o.key, []⟩ N.uploads) = some u := hu
        rw [X.G.sget_put ord3_nat] at hu'
        show u.bucket = name ∧ (if o.kind = 7 ∧ (200 : Int) = 200 ∧ i = o.id then true else mine i) = true
        by_cases e : i = o.id
        · rw [if_pos e] at hu'
          cases hu'
          rw [if_pos ⟨h7, rfl, e⟩]
          exact ⟨rfl, rfl⟩
        · rw [if_neg e] at hu'
          rw [if_neg (fun a => e a.2.2)]
          exact h.uN i u hu'
  have hk7 : ¬ o.kind ≤ 7 := by omega
  split
  · rename_i h8
    rw [hmine (by omega)]
    unfold BM.part
    have hmm := hm (by omega)
    rw [h.u _ hmm]
    cases hU : sget o.upload N.uploads with
    | none => exact ⟨rfl, h⟩
    | some u0 =>
      have hu0 := h.uN _ _ hU
      refine ⟨rfl, ⟨h.b, fun i hi => ?_, fun i u hu => ?_, fun i u hu => ?_⟩⟩
      · show sget i (sput ltN _ _ M.uploads) = sget i (sput ltN _ _ N.uploads)
        rw [X.G.sget_put ord3_nat, X.G.sget_put ord3_nat, h.u i hi]
      · have hu' : sget i (sput ltN o.upload ⟨u0.bucket, u0.key, sput ltI o.n o.data u0.parts⟩ M.uploads) = some u := hu
        rw [X.G.sget_put ord3_nat] at hu'
        split at hu'
        · rename_i e
          cases hu'
          rw [e]
          exact ⟨fun _ => hmm, fun _ => hu0.1⟩
        · exact h.un i u hu'
      · have hu' : sget i (sput ltN o.upload ⟨u0.bucket, u0.key, sput ltI o.n o.data u0.parts⟩ N.uploads) = some u := hu
        rw [X.G.sget_put ord3_nat] at hu'
        split at hu'
        · rename_i e
          cases hu'
          rw [e]
          exact ⟨hu0.1, hmm⟩
        · exact h.uN i u hu'
  split
  · rw [hmine (by omega)]
    unfold BM.complete
    have hmm := hm (by omega)
    rw [h.u _ hmm]
    cases hU : sget o.upload N.uploads with
    | none => exact ⟨rfl, h⟩
    | some u0 =>
      have hu0 := h.uN _ _ hU
      dsimp only
      cases collect u0.parts o.parts with
      | none => exact ⟨rfl, h⟩
      | some d =>
        refine ⟨rfl, ⟨?_, fun i hi => ?_, fun i u hu => ?_, fun i u hu => ?_⟩⟩
        · show sget name (sput ltB u0.bucket _ M.buckets) = sget name (sput ltB u0.bucket _ N.buckets)
          rw [hu0.1, X.G.sget_put ord3_str, X.G.sget_put ord3_str, if_pos rfl, if_pos rfl, h.b]
        · show sget i (sdel _ M.uploads) = sget i (sdel _ N.uploads)
          rw [X.G.sget_del, X.G.sget_del, h.u i hi]
        · have hu' : sget i (sdel o.upload M.uploads) = some u := hu
          rw [X.G.sget_del] at hu'
          split at hu'
          · cases hu'
          · exact h.un i u hu'
        · have hu' : sget i (sdel o.upload N.uploads) = some u := hu
          rw [X.G.sget_del] at hu'
          split at hu'
          · cases hu'
          · exact h.uN i u hu'
  · · rw [hmine (by omega)]
      unfold BM.abort
      have hmm := hm hk7
      rw [h.u _ hmm]
      cases hU : sget o.upload N.uploads with
      | none => exact ⟨rfl, h⟩
      | some u0 =>
        refine ⟨rfl, ⟨h.b, fun i hi => ?_, fun i u hu => ?_, fun i u hu => ?_⟩⟩
        · show sget i (sdel _ M.uploads) = sget i (sdel _ N.uploads)
          rw [X.G.sget_del, X.G.sget_del, h.u i hi]
        · have hu' : sget i (sdel o.upload M.uploads) = some u := hu
          rw [X.G.sget_del] at hu'
          split at hu'
          · cases hu'
          · exact h.un i u hu'
        · have hu' : sget i (sdel o.upload N.uploads) = some u := hu
          rw [X.G.sget_del] at hu'
          split at hu'
          · cases hu'
          · exact h.uN i u hu'

theorem RoomA.setM (h : RoomA name mine M N) (f : List (ByteArray × Objs)) (hf : sget name f = sget name M.buckets) : RoomA name mine { M with buckets := f } N :=
  ⟨hf.trans h.b, h.u, h.un, h.uN⟩
theorem RoomA.setU (h : RoomA name mine M N) (us : List (Nat × UM)) (h1 : ∀ i, mine i = true → sget i us = sget i M.uploads) (h2 : ∀ i u, sget i us = some u → (u.bucket = name ↔ mine i = true)) : RoomA name mine { M with uploads := us } N :=
  ⟨h.b, fun i hi => (h1 i hi).trans (h.u i hi), h2, h.uN⟩

theorem act_off (h : RoomA name mine M N) (hk1 : 1 ≤ o.kind) (hf : mine o.id = false) (hh : hereB name mine o = false) : RoomA name mine (M.act o).2 N := by
  have hb : o.kind ≤ 7 → o.bucket ≠ name := fun hk => by unfold hereB at hh; rw [if_pos hk] at hh; simpa using hh
  have hm : ¬ o.kind ≤ 7 → mine o.upload = false := fun hk => by unfold hereB at hh; rw [if_neg hk] at hh; exact hh
  have hput : ∀ (b : ByteArray) v, b ≠ name → sget name (sput ltB b v M.buckets) = sget name M.buckets := fun b v e => by rw [X.G.sget_put ord3_str, if_neg (fun a => e a.symm)]
  unfold BM.act
  split
  · unfold BM.make
    split
    · exact h
    · exact h.setM _ (hput _ _ (hb (by omega)))
  split
  · unfold BM.unmake
    split
    · exact h
    · split
      · exact h
      · exact h.setM _ (by rw [X.G.sget_del, if_neg (fun a => hb (by omega) a.symm)])
  split
  · unfold BM.put
    split
    · exact h
    · exact h.setM _ (hput _ _ (hb (by omega)))
  split
  · have : (M.get o).2 = M := by unfold BM.get; repeat' split
                                 all_goals rfl
    rw [this]; exact h
  split
  · unfold BM.delete
    split
    · exact h
    · split
      · exact h
      · exact h.setM _ (hput _ _ (hb (by omega)))
  split
  · have : (M.list o).2 = M := by unfold BM.list; split <;> rfl
    rw [this]; exact h
  split
  · unfold BM.begin
    split
    · exact h
    · refine h.setU _ (fun i hi => ?_) (fun i u hu => ?_)
      · rw [X.G.sget_put ord3_nat, if_neg]
        intro e; rw [e, hf] at hi; cases hi
      · rw [X.G.sget_put ord3_nat] at hu
        split at hu
        · rename_i e
          cases hu
          rw [e, hf]
          exact ⟨fun a => absurd a (hb (by omega)), fun a => by cases a⟩
        · exact h.un i u hu
  have hk7 : ¬ o.kind ≤ 7 := by omega
  have hmm := hm hk7
  have hne : ∀ i, mine i = true → i ≠ o.upload := fun i hi e => by rw [e, hmm] at hi; cases hi
  split
  · unfold BM.part
    split
    · exact h
    · rename_i u0 hu0
      refine h.setU _ (fun i hi => by rw [X.G.sget_put ord3_nat, if_neg (hne i hi)]) (fun i u hu => ?_)
      rw [X.G.sget_put ord3_nat] at hu
      split at hu
      · rename_i e
        cases hu
        rw [e]
        show u0.bucket = name ↔ _
        exact h.un _ _ hu0
      · exact h.un i u hu
  split
  · unfold BM.complete
    split
    · exact h
    · rename_i u0 hu0
      split
      · exact h
      · have hub : u0.bucket ≠ name := fun a => by have := (h.un _ _ hu0).1 a; rw [hmm] at this; cases this
        exact (h.setM _ (hput _ _ hub)).setU _ (fun i hi => by rw [X.G.sget_del, if_neg (hne i hi)]) (fun i u hu => by
          rw [X.G.sget_del] at hu
          split at hu
          · cases hu
          · exact h.un i u hu)
  · unfold BM.abort
    split
    · exact h
    · exact h.setU _ (fun i hi => by rw [X.G.sget_del, if_neg (hne i hi)]) (fun i u hu => by
        rw [X.G.sget_del] at hu
        split at hu
        · cases hu
        · exact h.un i u hu)

/-- The two stores, with what the law keeps beside them. -/
structure Room (name : ByteArray) (seen mine : Nat → Bool) (M N : BM) : Prop where
  a : RoomA name mine M N
  ms : ∀ i, mine i = true → seen i = true
  dM : ∀ i, seen i = false → sget i M.done = none
  dN : ∀ i, seen i = false → sget i N.done = none
theorem Room.new (name : ByteArray) : Room name (fun _ => false) (fun _ => false) ⟨[], [], []⟩ ⟨[], [], []⟩ :=
  ⟨⟨rfl, (fun _ h => by cases h), (fun _ _ h => by cases h), (fun _ _ h => by cases h)⟩, (fun _ h => by cases h), (fun _ _ => rfl), (fun _ _ => rfl)⟩

theorem run_fresh (hc : o.chkB = true) (hd : sget o.id M.done = none) : (M.run o).1 = (M.act o).1 ∧ ((M.run o).2.buckets = (M.act o).2.buckets ∧ (M.run o).2.uploads = (M.act o).2.uploads) ∧ ∀ i, i ≠ o.id → sget i (M.run o).2.done = sget i M.done := by
  unfold BM.run
  rw [if_pos hc]
  split
  · exact ⟨rfl, ⟨rfl, rfl⟩, fun i _ => by rw [act_done]⟩
  · rw [hd]
    exact ⟨rfl, ⟨rfl, rfl⟩, fun i hi => by show sget i (sput ltN o.id _ M.done) = _; rw [X.G.sget_put ord3_nat, if_neg hi]⟩
theorem RoomA.of {M' N' : BM} (h : RoomA name mine M N) (h1 : M'.buckets = M.buckets) (h2 : M'.uploads = M.uploads) (h3 : N'.buckets = N.buckets) (h4 : N'.uploads = N.uploads) : RoomA name mine M' N' :=
  ⟨by rw [h1, h3]; exact h.b, by rw [h2, h4]; exact h.u, by rw [h2]; exact h.un, by rw [h4]; exact h.uN⟩

def seenUp (seen : Nat → Bool) (a : Nat) : Nat → Bool := fun i => if i = a then true else seen i
theorem seen_no {seen : Nat → Bool} {a i : Nat} (h : seenUp seen a i = false) : i ≠ a ∧ seen i = false := by
  unfold seenUp at h
  split at h
  · cases h
  · rename_i e; exact ⟨e, h⟩

theorem Room.here {seen : Nat → Bool} (h : Room name seen mine M N) (hM : M.ok k) (hN : N.ok j) (hc : o.chkB = true) (hs : seen o.id = false) (hh : hereB name mine o = true) :
    (M.run o).1 = (N.run o).1 ∧ Room name (seenUp seen o.id) (mineUp mine o (M.run o).1) (M.run o).2 (N.run o).2 := by
  obtain ⟨e1, ⟨e2, e3⟩, e4⟩ := run_fresh hc (h.dM _ hs)
  obtain ⟨f1, ⟨f2, f3⟩, f4⟩ := run_fresh hc (h.dN _ hs)
  obtain ⟨g1, g2⟩ := act_here h.a hM hN (chk_kind hc).1 hh
  refine ⟨by rw [e1, f1, g1], ⟨by rw [e1]; exact g2.of e2 e3 f2 f3, fun i hi => ?_, fun i hi => ?_, fun i hi => ?_⟩⟩
  · unfold mineUp at hi
    unfold seenUp
    split at hi
    · rename_i q; rw [if_pos q.2.2]
    · split
      · rfl
      · exact h.ms i hi
  · rw [e4 i (seen_no hi).1]; exact h.dM i (seen_no hi).2
  · rw [f4 i (seen_no hi).1]; exact h.dN i (seen_no hi).2
theorem Room.off {seen : Nat → Bool} (h : Room name seen mine M N) (hc : o.chkB = true) (hs : seen o.id = false) (hh : hereB name mine o = false) :
    Room name (seenUp seen o.id) mine (M.run o).2 N := by
  obtain ⟨e1, ⟨e2, e3⟩, e4⟩ := run_fresh hc (h.dM _ hs)
  have hf : mine o.id = false := by
    cases e : mine o.id with
    | false => rfl
    | true => rw [h.ms _ e] at hs; cases hs
  have g2 := act_off h.a (chk_kind hc).1 hf hh
  refine ⟨g2.of e2 e3 rfl rfl, fun i hi => ?_, fun i hi => ?_, fun i hi => h.dN i (seen_no hi).2⟩
  · unfold seenUp
    split
    · rfl
    · exact h.ms i hi
  · rw [e4 i (seen_no hi).1]; exact h.dM i (seen_no hi).2
theorem Room.keys {seen : Nat → Bool} (h : Room name seen mine M N) : keysM M name = keysM N name := by unfold keysM; rw [h.a.b]
end Go.Proofs.YtdancegklkifaaaGreat
namespace Go.Proofs.YtdancegklkifaaaGreat
set_option linter.unusedSectionVars false
set_option linter.unusedSimpArgs false
set_option linter.unusedVariables false
open Go.X
open Go.X.G (Ord3 ord3_nat ord3_int ord3_str ltB sget sput sdel Srtd sget_put sget_del)

def U64 : Nat := 18446744073709551615
structure BM.fit (k B : Nat) (M : BM) : Prop where
  ob : ∀ n q, sget n M.buckets = some q → n.size ≤ 64 ∧ ∀ p, p ∈ q → p.2.length ≤ k * B
  up : ∀ n u, sget n M.uploads = some u → n ≤ U64 ∧ u.parts.length ≤ k ∧ ∀ p, p ∈ u.parts → p.2.length ≤ B
  dn : ∀ n r, sget n M.done = some r → n ≤ U64 ∧ r.upload ≤ U64
theorem fit_new (B : Nat) : BM.fit 0 B ⟨[], [], []⟩ := ⟨(fun _ _ h => by cases h), (fun _ _ h => by cases h), (fun _ _ h => by cases h)⟩
theorem BM.fit.mono {k j B : Nat} {M : BM} (h : M.fit k B) (hk : k ≤ j) : M.fit j B :=
  ⟨fun n q hq => ⟨(h.ob n q hq).1, fun p hp => Nat.le_trans ((h.ob n q hq).2 p hp) (Nat.mul_le_mul_right B hk)⟩, fun n u hu => ⟨(h.up n u hu).1, Nat.le_trans (h.up n u hu).2.1 hk, (h.up n u hu).2.2⟩, h.dn⟩

theorem nodup_le {α : Type} [DecidableEq α] : ∀ (l m : List α), l.Nodup → (∀ x, x ∈ l → x ∈ m) → l.length ≤ m.length
  | [], m, _, _ => Nat.zero_le _
  | x :: l, m, hn, hs => by
    rw [List.nodup_cons] at hn
    have hx := hs x List.mem_cons_self
    have ih := nodup_le l (m.erase x) hn.2 fun y hy => by
      have hne : y ≠ x := by rintro rfl; exact hn.1 hy
      exact (List.mem_erase_of_ne hne).2 (hs y (List.mem_cons_of_mem _ hy))
    rw [List.length_erase_of_mem hx] at ih
    have := List.length_pos_of_mem hx
    simp only [List.length_cons]; omega

theorem chk_name {o : OM} (h : o.chkB = true) (hk : o.kind ≤ 7) : o.bucket.size ≤ 64 := by
  have e : o.bucket.data.toList.length = o.bucket.size := by simp
  rw [chk_eq] at h
  unfold OM.chkR at h
  repeat' split at h
  all_goals first
    | (simp only [Bool.and_eq_true, decide_eq_true_eq, nameOK] at h; omega)
    | (cases h; done)
    | omega
theorem chk_parts {o : OM} (h : o.chkB = true) (hk : o.kind = 9) : partsOK o.parts = true := by
  rw [chk_eq] at h
  unfold OM.chkR at h
  repeat' split at h
  all_goals first
    | (simp only [Bool.and_eq_true, decide_eq_true_eq] at h; simp [h]; done)
    | (exfalso; omega)
    | (cases h; done)
theorem rising_nodup {l : List Int} (h : partsOK l = true) : l.Nodup := by
  simp only [partsOK, Bool.and_eq_true] at h
  have hr := h.2
  unfold rises at hr
  rw [List.all_eq_true] at hr
  have step : ∀ i, i + 1 < l.length → l.getD i 0 < l.getD (i + 1) 0 := fun i hi => by
    have := hr (i + 1) (List.mem_range.2 hi)
    simp only [rise1, Bool.and_eq_true, Bool.or_eq_true, decide_eq_true_eq, Nat.add_sub_cancel] at this
    rcases this.2 with h | h
    · omega
    · exact h
  have lt : ∀ j i, i < j → j < l.length → l.getD i 0 < l.getD j 0 := by
    intro j
    induction j with
    | zero => intro i h; omega
    | succ j ih =>
      intro i hi hj
      have h1 := step j hj
      rcases Nat.lt_or_ge i j with q | q
      · have := ih i q (by omega); omega
      · have : i = j := by omega
        subst this; exact h1
  refine List.pairwise_iff_getElem.2 fun i j hi hj hij => ?_
  have := lt j i hij hj
  rw [List.getD_eq_getElem?_getD, List.getD_eq_getElem?_getD, List.getElem?_eq_getElem hi, List.getElem?_eq_getElem hj] at this
  simp only [Option.getD_some] at this
  omega
theorem collect_le {P : Parts} {l : List Int} {d : List UInt8} {B : Nat} (h : collect P l = some d) (hn : l.Nodup) (hP : ∀ p, p ∈ P → p.2.length ≤ B) : d.length ≤ P.length * B := by
  unfold collect at h
  split at h
  · rename_i ha
    cases h
    rw [List.all_eq_true] at ha
    have h1 : ∀ m : List Int, (m.flatMap (partOf P)).length ≤ m.length * B := by
      intro m
      induction m with
      | nil => simp
      | cons x m ih =>
        have : (partOf P x).length ≤ B := by
          unfold partOf
          cases hx : sget x P with
          | none => simp
          | some e => exact hP _ (X.G.sget_mem hx)
        simp only [List.flatMap_cons, List.length_append, List.length_cons, Nat.add_mul]; omega
    have h2 : l.length ≤ (P.map (·.1)).length := nodup_le l _ hn fun x hx => by
      obtain ⟨e, he⟩ := Option.isSome_iff_exists.1 (ha x hx)
      exact List.mem_map.2 ⟨_, X.G.sget_mem he, rfl⟩
    rw [List.length_map] at h2
    exact Nat.le_trans (h1 l) (Nat.mul_le_mul_right B h2)
  · cases h

theorem mem_put {κ ν : Type} [DecidableEq κ] {lt : κ → κ → Bool} (o : Ord3 lt) {l : List (κ × ν)} (h : Srtd lt l) {k : κ} {v : ν} {p : κ × ν} (hp : p ∈ sput lt k v l) : p = (k, v) ∨ p ∈ l := by
  have := (X.G.sput_perm o (h.nodup o) k v).mem_iff.1 hp
  rcases List.mem_cons.1 this with h | h
  · exact .inl h
  · exact .inr (List.mem_filter.1 h).1

theorem act_fit {k B : Nat} {M : BM} (hM : M.ok k) (h : M.fit k B) {o : OM} (hc : o.chkB = true) (hd : o.data.length ≤ B) (hi : o.id ≤ U64) : (M.act o).2.fit (k + 1) B ∧ (M.act o).1.upload ≤ U64 := by
  have h' := h.mono (Nat.le_succ k)
  have hst : ∀ n : Int, (st n).upload ≤ U64 := fun n => by show 0 ≤ _; exact Nat.zero_le _
  unfold BM.act
  split
  · unfold BM.make
    split
    · exact ⟨h', hst _⟩
    · refine ⟨⟨fun n q hq => ?_, h'.up, h'.dn⟩, hst _⟩
      rw [sget_put ord3_str] at hq
      split at hq
      · rename_i e; cases hq; subst e; exact ⟨chk_name hc (by omega), by simp⟩
      · exact h'.ob n q hq
  split
  · unfold BM.unmake
    split
    · exact ⟨h', hst _⟩
    · split
      · exact ⟨h', hst _⟩
      · refine ⟨⟨fun n q hq => ?_, h'.up, h'.dn⟩, hst _⟩
        rw [sget_del] at hq
        split at hq
        · cases hq
        · exact h'.ob n q hq
  split
  · unfold BM.put
    split
    · exact ⟨h', hst _⟩
    · rename_i objs hb
      refine ⟨⟨fun n q hq => ?_, h'.up, h'.dn⟩, hst _⟩
      rw [sget_put ord3_str] at hq
      split at hq
      · rename_i e; cases hq; subst e
        refine ⟨(h.ob _ _ hb).1, fun p hp => ?_⟩
        rcases mem_put ord3_str (hM.os _ _ hb).1 hp with rfl | hp
        · show o.data.length ≤ _; rw [Nat.add_mul]; omega
        · exact (h'.ob _ _ hb).2 p hp
      · exact h'.ob n q hq
  split
  · unfold BM.get
    split
    · exact ⟨h', hst _⟩
    · split
      · exact ⟨h', hst _⟩
      · exact ⟨h', Nat.zero_le _⟩
  split
  · unfold BM.delete
    split
    · exact ⟨h', hst _⟩
    · rename_i objs hb
      split
      · exact ⟨h', hst _⟩
      · refine ⟨⟨fun n q hq => ?_, h'.up, h'.dn⟩, hst _⟩
        rw [sget_put ord3_str] at hq
        split at hq
        · rename_i e; cases hq; subst e
          exact ⟨(h.ob _ _ hb).1, fun p hp => (h'.ob _ _ hb).2 p (List.mem_filter.1 hp).1⟩
        · exact h'.ob n q hq
  split
  · unfold BM.list
    split
    · exact ⟨h', hst _⟩
    · exact ⟨h', Nat.zero_le _⟩
  split
  · unfold BM.begin
    split
    · exact ⟨h', hst _⟩
    · refine ⟨⟨h'.ob, fun n u hu => ?_, h'.dn⟩, hi⟩
      rw [sget_put ord3_nat] at hu
      split at hu
      · rename_i e; cases hu; subst e; exact ⟨hi, Nat.zero_le _, by simp⟩
      · exact h'.up n u hu
  split
  · unfold BM.part
    split
    · exact ⟨h', hst _⟩
    · rename_i u0 hu0
      refine ⟨⟨h'.ob, fun n u hu => ?_, h'.dn⟩, hst _⟩
      rw [sget_put ord3_nat] at hu
      split at hu
      · rename_i e; cases hu; subst e
        have h0 := h.up _ _ hu0
        refine ⟨h0.1, ?_, fun p hp => ?_⟩
        · have := sput_len (lt := ltI) ord3_int (hM.ps _ _ hu0).1 o.n o.data
          show (sput ltI o.n o.data u0.parts).length ≤ _; omega
        · rcases mem_put ord3_int (hM.ps _ _ hu0).1 hp with rfl | hp
          · exact hd
          · exact h0.2.2 p hp
      · exact h'.up n u hu
  split
  · unfold BM.complete
    split
    · exact ⟨h', hst _⟩
    · rename_i u0 hu0
      split
      · exact ⟨h', hst _⟩
      · rename_i dd hdd
        have h0 := h.up _ _ hu0
        have hcl := collect_le hdd (rising_nodup (chk_parts hc (by omega))) h0.2.2
        obtain ⟨objs, hB⟩ := Option.isSome_iff_exists.1 (hM.ps _ _ hu0).2.1
        refine ⟨⟨fun n q hq => ?_, fun n u hu => ?_, h'.dn⟩, hst _⟩
        · rw [sget_put ord3_str] at hq
          split at hq
          · rename_i e; cases hq; subst e
            rw [hB]
            refine ⟨(h.ob _ _ hB).1, fun p hp => ?_⟩
            rcases mem_put ord3_str (hM.os _ _ hB).1 hp with rfl | hp
            · exact Nat.le_trans hcl (Nat.mul_le_mul_right B (by omega))
            · exact (h'.ob _ _ hB).2 p hp
          · exact h'.ob n q hq
        · rw [sget_del] at hu
          split at hu
          · cases hu
          · exact h'.up n u hu
  · unfold BM.abort
    split
    · exact ⟨h', hst _⟩
    · refine ⟨⟨h'.ob, fun n u hu => ?_, h'.dn⟩, hst _⟩
      rw [sget_del] at hu
      split at hu
      · cases hu
      · exact h'.up n u hu

theorem run_fit {k B : Nat} {M : BM} (hM : M.ok k) (h : M.fit k B) {o : OM} (hd : o.data.length ≤ B) (hi : o.id ≤ U64) : (M.run o).2.fit (k + 1) B := by
  unfold BM.run
  split
  · rename_i hc
    have ha := act_fit hM h hc hd hi
    split
    · exact ha.1
    · split
      · exact h.mono (Nat.le_succ k)
      · refine ⟨ha.1.ob, ha.1.up, fun n r hr => ?_⟩
        rw [sget_put ord3_nat] at hr
        split at hr
        · rename_i e; cases hr; subst e; exact ⟨hi, ha.2⟩
        · exact (h.mono (Nat.le_succ k)).dn n r hr
  · exact h.mono (Nat.le_succ k)
end Go.Proofs.YtdancegklkifaaaGreat
namespace Go.Proofs.YtdancegklkifaaaGreat
set_option linter.unusedSectionVars false
set_option linter.unusedSimpArgs false
set_option linter.unusedVariables false
open Go.X

theorem clip_spec (p : Option Addr) (c : Nat) (bs : List UInt8) (hn : bs.length ≤ 9223372036854775807) : FSpec Tryz.prog 48 [.slice p bs.length c] [own 5 1 (.slice p bs.length c) (bytesV bs)] (fun v B => v = .slice p bs.length bs.length ∧ B = [own 5 1 (.slice p bs.length bs.length) (bytesV bs)]) := by
  refine FSpec.of Tryz.func48 rfl Tryz.ntmps48 rfl fun W0 F => ?_
  refine J.seq ?_
  refine J.region ?_
  refine J.q rfl rfl (Q.asg rfl) ?_
  refine J.nil ?_
  refine J.then_n ?_
  refine J.seq ?_
  refine J.tells 0 rfl own.len fun hln => ?_
  obtain ⟨_, hcap⟩ := hln
  refine J.region ?_
  refine J.q rfl rfl (Q.mv rfl) ?_
  refine J.q rfl rfl (Q.mv rfl) ?_
  refine J.q rfl rfl (Q.lenSl Tryz.runUnderlying25 rfl) ?_
  refine J.q rfl rfl (Q.mv rfl) ?_
  refine J.q rfl rfl (Q.lenSl Tryz.runUnderlying25 rfl) ?_
  refine J.q rfl rfl (Q.slHM Tryz.runUnderlying25 Tryz.sizeOf5 rfl rfl rfl (by omega) (by omega) (by omega)) ?_
  refine J.q rfl rfl (Q.asg rfl) ?_
  refine J.nil ?_
  refine J.then_n ?_
  refine J.cret ?_
  refine J.conv (Y := own 5 1 (.slice p bs.length bs.length) (bytesV bs)) 0 rfl own.clip ?_
  refine J.ret1 (B := [own 5 1 (.slice p bs.length bs.length) (bytesV bs)]) rfl rfl ⟨rfl, rfl⟩ rfl

theorem number_spec (p : Option Addr) (c : Nat) (bs : List UInt8) (v : Nat) (hn : bs.length ≤ 70368744177664) (hv : v ≤ 18446744073709551615) : FSpec Tryz.prog 18 [.slice p bs.length c, .int .u64 v] [own 5 1 (.slice p bs.length c) (bytesV bs)]
    (fun u B => ∃ p' c', u = .slice p' (bs ++ numB v).length c' ∧ B = [own 5 1 (.slice p' (bs ++ numB v).length c') (bytesV (bs ++ numB v))]) := by
  refine FSpec.of Tryz.func18 rfl Tryz.ntmps18 rfl fun W0 F => ?_
  refine J.seq ?_
  refine J.region ?_
  refine J.q rfl rfl (Q.asg rfl) ?_
  refine J.nil ?_
  refine J.then_n ?_
  refine J.seq ?_
  refine J.region ?_
  refine J.q rfl rfl (Q.mv rfl) ?_
  refine J.call Tryz.call48 (clip_spec p c bs (by omega)) [0] rfl rfl rfl rfl ?_
  rintro _ _ ⟨rfl, rfl⟩
  refine J.norm rfl ?_
  refine J.q rfl rfl (Q.asg rfl) ?_
  refine J.nil ?_
  refine J.then_n ?_
  refine J.seq ?_
  refine J.block ?_
  refine J.loop (fun z : List UInt8 × Nat × Option Addr × Nat => z.1 ++ numB z.2.1 = bs ++ numB v ∧ z.2.1 ≤ 18446744073709551615 ∧ z.1.length ≤ bs.length + (numB v).length) (fun z => z.2.1) (fun z => [(0, .slice z.2.2.1 z.1.length z.2.2.2), (1, .int .u64 z.2.1)]) (fun z => [own 5 1 (.slice z.2.2.1 z.1.length z.2.2.2) (bytesV z.1), F]) (bs, v, p, bs.length) ⟨rfl, hv, by show bs.length ≤ _; omega⟩ ⟨rfl, rfl, trivial⟩ rfl fun z hz => ?_
  obtain ⟨acc, w, q, d⟩ := z
  obtain ⟨hz1, hz2, hz3⟩ := hz
  dsimp only at hz1 hz2 hz3
  refine J.seq ?_
  refine J.seq ?_
  refine J.region ?_
  refine J.q rfl rfl (Q.mv rfl) ?_
  refine J.q rfl rfl (Q.geq rfl rfl) ?_
  refine J.nil ?_
  refine J.then_n ?_
  refine J.cases 8 rfl (fun hc8 => ?_) (fun hc8 => ?_)
  ·
   replace hc8 := X.nm hc8
   try (first | (cases hc8; done) | (exfalso; simp at hc8; done))
   all_goals
    refine J.cond_t rfl ?_
    refine J.cskip ?_
    refine J.then_n ?_
    refine J.block ?_
    refine J.seq ?_
    have hw : ¬ w < 128 := by have h := hc8; dsimp only at h; omega
    have hst := numB_step (v := w) hw
    refine J.region ?_
    refine J.q rfl rfl (Q.mv rfl) ?_
    refine J.q rfl rfl (Q.mv rfl) ?_
    refine J.q rfl rfl (Q.conv Tryz.runUnderlying23 Tryz.runUnderlying5 rfl) ?_
    refine J.q rfl rfl (Q.or rfl rfl) ?_
    refine J.slot 12 (byteV (UInt8.ofNat (w % 128 + 128))) rfl (by show Value.int .u8 _ = _; rw [or128 w]; rfl) ?_
    refine J.c rfl rfl (C.bslG (l := [_]) Tryz.runUnderlying25 Tryz.sizeOf5 Tryz.zeroValue5 (by decide) rfl rfl rfl rfl rfl) ?_
    rintro _ _ ⟨b13, rfl, rfl⟩
    refine J.norm rfl ?_
    refine J.conv (Y := own 5 1 (.slice (some ⟨b13, 0, none⟩) 1 1) (bytesV [UInt8.ofNat (w % 128 + 128)])) 0 rfl (own_of_block rfl) ?_
    refine J.slr1 0 rfl fun hs13 => ?_
    refine J.c rfl rfl (C.app (i := 1) Tryz.runUnderlying25 Tryz.runUnderlying25 Tryz.typeInfo5 Tryz.sizeOf5 Tryz.zeroValue5 rfl rfl rfl (hs13.within (i := 0) rfl) (bytesV_one _) (by rw [show Tryz.t5.bytes = 1 from rfl]; show (acc.length + 1) * 1 ≤ _; have := numB_len v hv; omega) (by decide)) ?_
    rintro _ _ ⟨p14, c14, rfl, rfl⟩
    refine J.norm rfl ?_
    refine J.q rfl rfl (Q.asg rfl) ?_
    refine J.nil ?_
    refine J.then_n ?_
    refine J.region ?_
    refine J.q rfl rfl (Q.mv rfl) ?_
    refine J.q rfl rfl (Q.shr rfl rfl (by omega)) ?_
    refine J.slot 16 (.int .u64 ((w / 128 : Nat) : Int)) rfl (by show Value.int .u64 _ = _; congr 1; show (w : Int).fdiv (2 ^ 7) = _; rw [Int.fdiv_eq_ediv_of_nonneg _ (by decide)]; omega) ?_
    refine J.q rfl rfl (Q.asg rfl) ?_
    refine J.nil ?_
    refine J.blk_n ?_
    refine J.keep [1, 2] rfl ?_
    have hbl : (acc ++ [UInt8.ofNat (w % 128 + 128)]).length = acc.length + 1 := by simp
    refine J.again (acc ++ [UInt8.ofNat (w % 128 + 128)], w / 128, p14, c14) ⟨?_, by show w / 128 ≤ _; omega, ?_⟩ (by show w / 128 < w; omega) ⟨(by show _ = some (Value.slice p14 _ c14); rw [hbl]; rfl), rfl, trivial⟩ ?_
    · show (acc ++ [UInt8.ofNat (w % 128 + 128)]) ++ numB (w / 128) = bs ++ numB v
      rw [← hz1, hst, List.append_assoc]; rfl
    · have h1 := congrArg List.length hz1
      rw [hst] at h1
      simp only [List.length_append, List.length_cons] at h1
      show (acc ++ [UInt8.ofNat (w % 128 + 128)]).length ≤ _
      rw [hbl]; omega
    · show _ = [own 5 1 (.slice p14 (acc ++ [UInt8.ofNat (w % 128 + 128)]).length c14) (bytesV (acc ++ [UInt8.ofNat (w % 128 + 128)])), _]
      rw [hbl, ← bytesV_append]
  replace hc8 := X.nm hc8
  try (first | (cases hc8; done) | (exfalso; simp at hc8; done))
  all_goals
   refine J.cond_f rfl ?_
   refine J.exit ?_
   refine J.then_x ?_
   refine J.lp_x ?_
   refine J.blk_x ?_
   refine J.then_n ?_
   refine J.seq ?_
   have hlt : w < 128 := by have h := hc8; dsimp only at h; omega
   rw [numB_small hlt] at hz1
   refine J.region ?_
   refine J.q rfl rfl (Q.mv rfl) ?_
   refine J.q rfl rfl (Q.mv rfl) ?_
   refine J.q rfl rfl (Q.conv Tryz.runUnderlying23 Tryz.runUnderlying5 rfl) ?_
   refine J.slot 19 (byteV (UInt8.ofNat w)) rfl (by show Value.int .u8 _ = _; rw [low8 hlt]; rfl) ?_
   refine J.c rfl rfl (C.bslG (l := [_]) Tryz.runUnderlying25 Tryz.sizeOf5 Tryz.zeroValue5 (by decide) rfl rfl rfl rfl rfl) ?_
   rintro _ _ ⟨b20, rfl, rfl⟩
   refine J.norm rfl ?_
   refine J.conv (Y := own 5 1 (.slice (some ⟨b20, 0, none⟩) 1 1) (bytesV [UInt8.ofNat w])) 0 rfl (own_of_block rfl) ?_
   refine J.slr1 0 rfl fun hs20 => ?_
   refine J.c rfl rfl (C.app (i := 1) Tryz.runUnderlying25 Tryz.runUnderlying25 Tryz.typeInfo5 Tryz.sizeOf5 Tryz.zeroValue5 rfl rfl rfl (hs20.within (i := 0) rfl) (bytesV_one _) (by rw [show Tryz.t5.bytes = 1 from rfl]; show (acc.length + 1) * 1 ≤ _; have := numB_len v hv; omega) (by decide)) ?_
   rintro _ _ ⟨p21, c21, rfl, rfl⟩
   refine J.norm rfl ?_
   refine J.q rfl rfl (Q.asg rfl) ?_
   refine J.nil ?_
   refine J.then_n ?_
   refine J.cret ?_
   rw [← hz1]
   have hbl : (acc ++ [UInt8.ofNat w]).length = acc.length + 1 := by simp
   refine J.keep [1, 2] rfl ?_
   refine J.ret1 (B := [own 5 1 (.slice p21 (acc ++ [UInt8.ofNat w]).length c21) (bytesV (acc ++ [UInt8.ofNat w]))]) rfl rfl ⟨p21, c21, by rw [hbl], rfl⟩ ?_
   show _ = [own 5 1 (.slice p21 (acc ++ [UInt8.ofNat w]).length c21) (bytesV (acc ++ [UInt8.ofNat w])), F]
   rw [hbl, ← bytesV_append]

/-- Bytes with how many they are ahead. -/
def encB (bs : List UInt8) : List UInt8 := numB bs.length ++ bs

section
variable (G : Assn) (q : Option Addr) (e : Nat) (bs : List UInt8) (hs : SlR [G] 1 (.slice q bs.length e) (bytesV bs)) (hn : bs.length ≤ 70368744177664) (b : Nat)
include hs hn
theorem size_spec : FSpec Tryz.prog 52 [.slice (some ⟨b, 0, none⟩) 1 1] [pt b (.cells [.slice q bs.length e].toArray 25 (0, 0)), G] (fun v B => v = .int .i64 bs.length ∧ B = [pt b (.cells [.slice q bs.length e].toArray 25 (0, 0)), G]) := by
  refine FSpec.of Tryz.func52 rfl Tryz.ntmps52 rfl fun W0 F => ?_
  refine J.seq ?_
  refine J.region ?_
  refine J.q rfl rfl (Q.asg rfl) ?_
  refine J.nil ?_
  refine J.then_n ?_
  refine J.seq ?_
  refine J.region ?_
  refine J.q rfl rfl (Q.asg rfl) ?_
  refine J.nil ?_
  refine J.then_n ?_
  refine J.seq ?_
  refine J.seq ?_
  refine J.region ?_
  refine J.q rfl rfl (Q.mv rfl) ?_
  refine J.q rfl rfl (Q.lenSl Tryz.runUnderlying112 rfl) ?_
  refine J.q rfl rfl (Q.mv rfl) ?_
  refine J.nil ?_
  refine J.then_n ?_
  refine J.block ?_
  refine J.loop2 (fun (i : Nat) (z : Int) => i ≤ 1 ∧ z = (if i = 0 then 0 else bs.length : Nat)) (fun i _ => 1 - i) (fun i z => [(3, .int .i64 z), (6, .slice (some ⟨b, 0, none⟩) 1 1), (7, .int .i64 1), (8, .int .i64 i)]) (fun _ _ => [pt b (.cells [.slice q bs.length e].toArray 25 (0, 0)), G, F]) 0 0 ⟨Nat.zero_le _, rfl⟩ ⟨rfl, rfl, rfl, rfl, trivial⟩ rfl fun i z hz => ?_
  obtain ⟨hi, hz⟩ := hz
  refine J.seq ?_
  refine J.region ?_
  refine J.q rfl rfl (Q.lss rfl rfl) ?_
  refine J.nil ?_
  refine J.then_n ?_
  refine J.seq ?_
  refine J.cases 9 rfl (fun hc9 => ?_) (fun hc9 => ?_)
  ·
   replace hc9 := X.nm hc9
   try (first | (cases hc9; done) | (exfalso; simp at hc9; done))
   all_goals
    refine J.cond_t rfl ?_
    refine J.cskip ?_
    refine J.then_n ?_
    refine J.seq ?_
    refine J.block ?_
    refine J.seq ?_
    obtain rfl : i = 0 := by omega
    rw [if_pos rfl] at hz
    refine J.region ?_
    refine J.q rfl rfl (Q.ia Tryz.runUnderlying112 Tryz.sizeOf25 rfl rfl (by omega) (by omega)) ?_
    refine J.q rfl rfl (Q.ld Tryz.isAgg25 rfl (rdI (by exact rfl))) ?_
    refine J.q rfl rfl (Q.asg rfl) ?_
    refine J.nil ?_
    refine J.then_n ?_
    refine J.region ?_
    refine J.q rfl rfl (Q.mv rfl) ?_
    refine J.q rfl rfl (Q.mv rfl) ?_
    refine J.q rfl rfl (Q.lenSl Tryz.runUnderlying25 rfl) ?_
    refine J.q rfl rfl (Q.add64 rfl rfl (by omega)) ?_
    refine J.q rfl rfl (Q.asg rfl) ?_
    refine J.nil ?_
    refine J.blk_n ?_
    refine J.then_n ?_
    refine J.region ?_
    refine J.q rfl rfl (Q.add64 rfl rfl (by omega)) ?_
    refine J.q rfl rfl (Q.mv rfl) ?_
    refine J.nil ?_
    refine J.again (1, _) ⟨Nat.le_refl _, by show _ = ((if (1 : Nat) = 0 then 0 else bs.length : Nat) : Int); rw [if_neg (by decide), hz]; simp⟩ (by show 1 - 1 < 1 - 0; omega) ⟨rfl, rfl, rfl, rfl, trivial⟩ rfl
  replace hc9 := X.nm hc9
  try (first | (cases hc9; done) | (exfalso; simp at hc9; done))
  all_goals
   refine J.cond_f rfl ?_
   refine J.exit ?_
   refine J.then_x ?_
   refine J.lp_x ?_
   refine J.blk_x ?_
   refine J.then_n ?_
   refine J.seq ?_
   refine J.region ?_
   refine J.q rfl rfl (Q.mv rfl) ?_
   refine J.q rfl rfl (Q.asg rfl) ?_
   refine J.nil ?_
   refine J.then_n ?_
   refine J.cret ?_
   obtain rfl : i = 1 := by omega
   rw [if_neg (by decide)] at hz
   subst hz
   refine J.ret1 (B := [_, _]) rfl rfl ⟨rfl, rfl⟩ rfl

theorem bytes_spec (p : Option Addr) (c : Nat) (acc : List UInt8) (ha : acc.length ≤ 35184372088832) : FSpec Tryz.prog 21 [.slice p acc.length c, .slice (some ⟨b, 0, none⟩) 1 1] [own 5 1 (.slice p acc.length c) (bytesV acc), pt b (.cells [.slice q bs.length e].toArray 25 (0, 0)), G]
    (fun u B => ∃ p' c', u = .slice p' (acc ++ encB bs).length c' ∧ B = [own 5 1 (.slice p' (acc ++ encB bs).length c') (bytesV (acc ++ encB bs)), G]) := by
  refine FSpec.of Tryz.func21 rfl Tryz.ntmps21 rfl fun W0 F => ?_
  refine J.seq ?_
  refine J.region ?_
  refine J.q rfl rfl (Q.asg rfl) ?_
  refine J.nil ?_
  refine J.then_n ?_
  refine J.seq ?_
  refine J.region ?_
  refine J.q rfl rfl (Q.mv rfl) ?_
  refine J.q rfl rfl (Q.mv rfl) ?_
  refine J.call Tryz.call52 (size_spec G q e bs hs hn b) [1, 2] rfl rfl rfl rfl ?_
  rintro _ _ ⟨rfl, rfl⟩
  refine J.norm rfl ?_
  refine J.q rfl rfl (Q.conv Tryz.runUnderlying3 Tryz.runUnderlying23 rfl) ?_
  refine J.slot 10 (.int .u64 (bs.length : Int)) rfl (by congr 1; exact wrap64 (by omega)) ?_
  refine J.call Tryz.call18 (number_spec p c acc bs.length (by omega) (by omega)) [2] rfl rfl rfl rfl ?_
  rintro _ _ ⟨p1, c1, rfl, rfl⟩
  refine J.norm rfl ?_
  have hnl := numB_len bs.length (by omega)
  refine J.q rfl rfl (Q.asg rfl) ?_
  refine J.nil ?_
  refine J.then_n ?_
  refine J.seq ?_
  refine J.seq ?_
  refine J.region ?_
  refine J.q rfl rfl (Q.mv rfl) ?_
  refine J.q rfl rfl (Q.lenSl Tryz.runUnderlying112 rfl) ?_
  refine J.q rfl rfl (Q.mv rfl) ?_
  refine J.nil ?_
  refine J.then_n ?_
  refine J.block ?_
  refine J.loop3 (fun (i : Nat) (p' : Option Addr) (c' : Nat) => i ≤ 1) (fun i _ _ => 1 - i) (fun i p' c' => [(0, .slice p' (acc ++ numB bs.length ++ (if i = 0 then [] else bs)).length c'), (12, .slice (some ⟨b, 0, none⟩) 1 1), (13, .int .i64 1), (14, .int .i64 i)]) (fun i p' c' => [own 5 1 (.slice p' (acc ++ numB bs.length ++ (if i = 0 then [] else bs)).length c') (bytesV (acc ++ numB bs.length ++ (if i = 0 then [] else bs))), pt b (.cells [.slice q bs.length e].toArray 25 (0, 0)), G, F]) 0 p1 c1 (Nat.zero_le _) ⟨by rw [if_pos rfl, List.append_nil]; rfl, rfl, rfl, rfl, trivial⟩ (by rw [if_pos rfl, List.append_nil]) fun i p' c' hi => ?_
  refine J.seq ?_
  refine J.region ?_
  refine J.q rfl rfl (Q.lss rfl rfl) ?_
  refine J.nil ?_
  refine J.then_n ?_
  refine J.seq ?_
  refine J.cases 15 rfl (fun hc15 => ?_) (fun hc15 => ?_)
  ·
   replace hc15 := X.nm hc15
   try (first | (cases hc15; done) | (exfalso; simp at hc15; done))
   all_goals
    refine J.cond_t rfl ?_
    refine J.cskip ?_
    refine J.then_n ?_
    refine J.seq ?_
    refine J.block ?_
    refine J.seq ?_
    obtain rfl : i = 0 := by omega
    rw [if_pos rfl, List.append_nil]
    refine J.region ?_
    refine J.q rfl rfl (Q.ia Tryz.runUnderlying112 Tryz.sizeOf25 rfl rfl (by omega) (by omega)) ?_
    refine J.q rfl rfl (Q.ld Tryz.isAgg25 rfl (rdI (by exact rfl))) ?_
    refine J.q rfl rfl (Q.asg rfl) ?_
    refine J.nil ?_
    refine J.then_n ?_
    refine J.region ?_
    refine J.q rfl rfl (Q.mv rfl) ?_
    refine J.q rfl rfl (Q.mv rfl) ?_
    refine J.c rfl rfl (C.app (i := 0) Tryz.runUnderlying25 Tryz.runUnderlying25 Tryz.typeInfo5 Tryz.sizeOf5 Tryz.zeroValue5 rfl rfl rfl (hs.within (i := 2) rfl) (bytesV_one _) (by rw [show Tryz.t5.bytes = 1 from rfl, List.length_append]; omega) (by decide)) ?_
    rintro _ _ ⟨p2, c2, rfl, rfl⟩
    refine J.norm rfl ?_
    refine J.q rfl rfl (Q.asg rfl) ?_
    refine J.nil ?_
    refine J.blk_n ?_
    refine J.then_n ?_
    refine J.region ?_
    refine J.q rfl rfl (Q.add64 rfl rfl (by omega)) ?_
    refine J.q rfl rfl (Q.mv rfl) ?_
    refine J.nil ?_
    refine J.again (1, p2, c2) (Nat.le_refl _) (by show 1 - 1 < 1 - 0; omega) ⟨(by show _ = some (Value.slice p2 (acc ++ numB bs.length ++ (if (1 : Nat) = 0 then [] else bs)).length c2); rw [if_neg (by decide), X.len_app (acc ++ numB bs.length)]; rfl), rfl, rfl, rfl, trivial⟩ ?_
    show _ = [own 5 1 (.slice p2 (acc ++ numB bs.length ++ (if (1 : Nat) = 0 then [] else bs)).length c2) (bytesV (acc ++ numB bs.length ++ (if (1 : Nat) = 0 then [] else bs))), _, _, _]
    rw [if_neg (by decide), X.len_app (acc ++ numB bs.length), ← bytesV_append (acc ++ numB bs.length) bs]
  replace hc15 := X.nm hc15
  try (first | (cases hc15; done) | (exfalso; simp at hc15; done))
  all_goals
   refine J.cond_f rfl ?_
   refine J.exit ?_
   refine J.then_x ?_
   refine J.lp_x ?_
   refine J.blk_x ?_
   refine J.then_n ?_
   refine J.seq ?_
   obtain rfl : i = 1 := by omega
   rw [if_neg (by decide), List.append_assoc]
   refine J.region ?_
   refine J.q rfl rfl (Q.mv rfl) ?_
   refine J.q rfl rfl (Q.asg rfl) ?_
   refine J.nil ?_
   refine J.then_n ?_
   refine J.cret ?_
   refine J.keep [0, 2, 3] rfl ?_
   refine J.ret1 (B := [own 5 1 (.slice p' (acc ++ encB bs).length c') (bytesV (acc ++ encB bs)), G]) rfl rfl ⟨p', c', rfl, rfl⟩ rfl
end
end Go.Proofs.YtdancegklkifaaaGreat
namespace Go.Proofs.YtdancegklkifaaaGreat
set_option linter.unusedSectionVars false
set_option linter.unusedSimpArgs false
set_option linter.unusedVariables false
open Go.X
open Go.X.G (Ord3 ord3_nat ord3_int ord3_str ltB sget sput sdel Srtd MapAt MapHole Ent Ents edone eleft)

theorem keysItBk (bm r : Nat) (S0 : List (ByteArray × Objs)) : ItSpec Tryz.prog 51 [.pointer (some ⟨bm, 0, none⟩)] (fun x : ByteArray => [Value.string x]) [star [pt bm (.cells [.map (some r)].toArray 47 (0, 0)), MapAt Value.string bRep r S0]]
    (fun xs => xs.Perm (S0.map (·.1))) (fun pre _ => pre.length < S0.length) := by
  intro l Inv hY
  refine FSpec.of Tryz.func51 rfl Tryz.ntmps51 rfl fun W0 F => ?_
  refine J.seq ?_
  refine J.unpack 1 rfl rfl ?_
  refine J.open_ 1 rfl rfl (fun _ h => h) fun q hq => ?_
  refine J.norm rfl ?_
  refine J.region ?_
  refine J.q rfl rfl (Q.ld Tryz.isAgg47 rfl (rdI (by exact rfl))) ?_
  refine J.c rfl rfl (X.G.C.range (i := 0) Tryz.runUnderlying47 rfl rfl) ?_
  rintro _ _ ⟨b5, rfl, rfl⟩
  refine J.norm rfl ?_
  refine J.nil ?_
  refine J.then_n ?_
  refine J.block ?_
  refine J.pick [0, 1, 2, 3, 4, 5] rfl ?_
  refine J.loop (fun z : List Nat × List ByteArray => z.2.Perm ((edone q.1 z.1).map (·.key))) (fun z => (eleft q.1 z.1).length) (fun z => [(0, .func (.yield l) #[] #[]), (5, .pointer (some ⟨b5, 0, none⟩))])
    (fun z => [pt b5 (X.G.miter r q.2 z.1), pt r (X.G.mobj Value.string (q.1.map Ent.m) q.2), star (q.1.map (Ent.asn bRep)), pt bm (.cells [.map (some r)].toArray 47 (0, 0)), Inv z.2, F])
    ([], []) (by simp [X.G.edone_nil]) ⟨rfl, rfl, trivial⟩ rfl fun z hz => ?_
  obtain ⟨seen, pre⟩ := z
  dsimp only at hz
  refine J.seq ?_
  refine J.region ?_
  refine J.c rfl rfl (X.G.C.nextE (i := 0) (j := 1) hq rfl rfl rfl) ?_
  rintro _ _ ⟨t, rest, seen', rfl, rfl, hst⟩
  refine J.norm rfl ?_
  refine J.q rfl rfl (Q.ext rfl rfl) ?_
  refine J.nil ?_
  refine J.then_n ?_
  refine J.seq ?_
  refine J.cases 7 rfl (fun hc7 => ?_) (fun hc7 => ?_)
  ·
   replace hc7 := X.nm hc7
   obtain ⟨e, he, rfl⟩ : ∃ e, e ∈ eleft q.1 seen ∧ seen' = seen ++ [e.born] := by rcases hst with ⟨h, _⟩ | ⟨_, h⟩; exact absurd hc7 (by rw [h]; decide); exact h
   refine J.cond_t rfl ?_
   refine J.cskip ?_
   refine J.then_n ?_
   refine J.block ?_
   refine J.seq ?_
   refine J.region ?_
   have hstep := X.G.estep hq.born he
   have hlt : pre.length < S0.length := by
     have h1 := hstep.1.length_eq
     have h2 : (edone q.1 (seen ++ [e.born])).length ≤ q.1.length := List.length_filter_le _ _
     have h3 := hz.length_eq
     have h4 := hq.len
     simp only [List.length_cons, List.length_map] at h1 h3
     omega
   have hnx : (pre ++ [e.key]).Perm ((edone q.1 (seen ++ [e.born])).map (·.key)) := by
     refine (List.perm_append_singleton _ _).trans ?_
     refine (hz.cons e.key).trans ?_
     exact (hstep.1.map (·.key)).symm
   refine J.q rfl rfl (X.G.Q.entryE (i := 0) (j := 1) hq he rfl rfl rfl) ?_
   refine J.q rfl rfl (Q.ext rfl rfl) ?_
   refine J.q rfl rfl (Q.asg rfl) ?_
   refine J.nil ?_
   refine J.then_n ?_
   refine J.seq ?_
   refine J.regionY ?_
   refine JI.q rfl rfl (fun _ e => nomatch e) (Q.mv rfl) ?_
   refine JI.q rfl rfl (fun _ e => nomatch e) (Q.mv rfl) ?_
   refine JI.yield (hY pre e.key hlt) [4] rfl rfl rfl rfl rfl ?_
   rintro _ _ ⟨rfl, rfl⟩
   refine J.norm rfl ?_
   refine JI.q rfl rfl (fun _ e => nomatch e) (Q.not rfl) ?_
   refine JI.nil ?_
   refine JI.out ?_
   refine J.then_n ?_
   refine J.cases 13 rfl (fun hc13 => ?_) (fun hc13 => ?_)
   ·
    cases hc13
   replace hc13 := X.nm hc13
   refine J.cond_f rfl ?_
   refine J.cskip ?_
   refine J.blk_n ?_
   refine J.pick [1, 2, 3, 4, 0, 5] rfl ?_
   refine J.again (seen ++ [e.born], pre ++ [e.key]) hnx hstep.2 ⟨rfl, rfl, trivial⟩ rfl
  replace hc7 := X.nm hc7
  obtain ⟨hall, rfl⟩ : edone q.1 seen = q.1 ∧ seen' = seen := by rcases hst with ⟨_, h⟩ | ⟨h, _⟩; exact h; exact absurd hc7 (by rw [h]; decide)
  refine J.cond_f rfl ?_
  refine J.exit ?_
  refine J.then_x ?_
  refine J.lp_x ?_
  refine J.blk_x ?_
  rw [hall] at hz
  have hfin : pre.Perm (S0.map (·.1)) := by
    refine hz.trans ?_
    have := hq.perm.map (·.1)
    rw [List.map_map] at this
    exact this
  refine J.shut [1, 2] (MapAt Value.string bRep r S0) rfl (fun h s => ⟨q, hq, s⟩) ?_
  refine J.pick [2, 0, 1, 3, 4] rfl ?_
  refine J.pack [0, 1] rfl ?_
  refine J.keep [2, 0, 3] rfl ?_
  refine J.end0 (B := [Inv pre, _]) rfl ⟨pre, hfin, rfl⟩ rfl

theorem keysBk (r : Option Nat) : FSpec Tryz.prog 20 [.map r] [] (fun v B => ∃ bm, v = .func (.func 51) #[] #[.pointer (some ⟨bm, 0, none⟩)] ∧ B = [pt bm (.cells [.map r].toArray 47 (0, 0))]) := by
  refine FSpec.of Tryz.func20 rfl Tryz.ntmps20 rfl fun W0 F => ?_
  refine J.seq ?_
  refine J.region ?_
  refine J.c rfl rfl (C.box (l := [_]) rfl rfl) ?_
  rintro _ _ ⟨b1, rfl, rfl⟩
  refine J.norm rfl ?_
  refine J.q rfl rfl (Q.asg rfl) ?_
  refine J.nil ?_
  refine J.then_n ?_
  refine J.seq ?_
  refine J.region ?_
  refine J.q rfl rfl (Q.func rfl rfl) ?_
  refine J.q rfl rfl (Q.asg rfl) ?_
  refine J.nil ?_
  refine J.then_n ?_
  refine J.cret ?_
  refine J.keep [0, 1] rfl ?_
  refine J.ret1 (B := [_]) rfl rfl ⟨_, rfl, rfl⟩ rfl

theorem sortedBk (bm r : Nat) (S0 : List (ByteArray × Objs)) (hS : Srtd ltB S0) (hl : S0.length ≤ 32768) : FSpec Tryz.prog 19 [.func (.func 51) #[] #[.pointer (some ⟨bm, 0, none⟩)]] [pt bm (.cells [.map (some r)].toArray 47 (0, 0)), MapAt Value.string bRep r S0]
    (fun v B => ∃ (p : Option Addr) (c : Nat), v = .slice p S0.length c ∧ B = [own 9 1 (.slice p S0.length c) ((S0.map (·.1)).map Value.string), pt bm (.cells [.map (some r)].toArray 47 (0, 0)), MapAt Value.string bRep r S0]) := by
  have h := sortedS 51 [.pointer (some ⟨bm, 0, none⟩)] _ (S0.map (·.1)) _ Tryz.call51 (keysItBk bm r S0) (fun pre _ h => by omega) (by rw [List.length_map]; omega)
  refine h.conv (fun k s => HSat.pack (Bs := []) (by simpa using s)) ?_
  rintro v B' ⟨p, c, rfl, rfl⟩
  rw [List.length_map, srtS hS]
  refine ⟨_, ⟨p, c, rfl, rfl⟩, fun k s => ?_⟩
  exact HSat.under s fun _ s => HSat.unpack (Bs := []) s
end Go.Proofs.YtdancegklkifaaaGreat
namespace Go.Proofs.YtdancegklkifaaaGreat
set_option linter.unusedSectionVars false
set_option linter.unusedSimpArgs false
set_option linter.unusedVariables false
open Go.X
open Go.X.G (Ord3 ord3_nat ord3_int ord3_str ltB sget sput sdel Srtd MapAt MapHole Ent Ents edone eleft)

theorem keysItUp (bm r : Nat) (S0 : List (Nat × UM)) : ItSpec Tryz.prog 56 [.pointer (some ⟨bm, 0, none⟩)] (fun x : Nat => [encU x]) [star [pt bm (.cells [.map (some r)].toArray 48 (0, 0)), MapAt encU uRep r S0]]
    (fun xs => xs.Perm (S0.map (·.1))) (fun pre _ => pre.length < S0.length) := by
  intro l Inv hY
  refine FSpec.of Tryz.func56 rfl Tryz.ntmps56 rfl fun W0 F => ?_
  refine J.seq ?_
  refine J.unpack 1 rfl rfl ?_
  refine J.open_ 1 rfl rfl (fun _ h => h) fun q hq => ?_
  refine J.norm rfl ?_
  refine J.region ?_
  refine J.q rfl rfl (Q.ld Tryz.isAgg48 rfl (rdI (by exact rfl))) ?_
  refine J.c rfl rfl (X.G.C.range (i := 0) Tryz.runUnderlying48 rfl rfl) ?_
  rintro _ _ ⟨b5, rfl, rfl⟩
  refine J.norm rfl ?_
  refine J.nil ?_
  refine J.then_n ?_
  refine J.block ?_
  refine J.pick [0, 1, 2, 3, 4, 5] rfl ?_
  refine J.loop (fun z : List Nat × List Nat => z.2.Perm ((edone q.1 z.1).map (·.key))) (fun z => (eleft q.1 z.1).length) (fun z => [(0, .func (.yield l) #[] #[]), (5, .pointer (some ⟨b5, 0, none⟩))])
    (fun z => [pt b5 (X.G.miter r q.2 z.1), pt r (X.G.mobj encU (q.1.map Ent.m) q.2), star (q.1.map (Ent.asn uRep)), pt bm (.cells [.map (some r)].toArray 48 (0, 0)), Inv z.2, F])
    ([], []) (by simp [X.G.edone_nil]) ⟨rfl, rfl, trivial⟩ rfl fun z hz => ?_
  obtain ⟨seen, pre⟩ := z
  dsimp only at hz
  refine J.seq ?_
  refine J.region ?_
  refine J.c rfl rfl (X.G.C.nextE (i := 0) (j := 1) hq rfl rfl rfl) ?_
  rintro _ _ ⟨t, rest, seen', rfl, rfl, hst⟩
  refine J.norm rfl ?_
  refine J.q rfl rfl (Q.ext rfl rfl) ?_
  refine J.nil ?_
  refine J.then_n ?_
  refine J.seq ?_
  refine J.cases 7 rfl (fun hc7 => ?_) (fun hc7 => ?_)
  ·
   replace hc7 := X.nm hc7
   obtain ⟨e, he, rfl⟩ : ∃ e, e ∈ eleft q.1 seen ∧ seen' = seen ++ [e.born] := by rcases hst with ⟨h, _⟩ | ⟨_, h⟩; exact absurd hc7 (by rw [h]; decide); exact h
   refine J.cond_t rfl ?_
   refine J.cskip ?_
   refine J.then_n ?_
   refine J.block ?_
   refine J.seq ?_
   refine J.region ?_
   have hstep := X.G.estep hq.born he
   have hlt : pre.length < S0.length := by
     have h1 := hstep.1.length_eq
     have h2 : (edone q.1 (seen ++ [e.born])).length ≤ q.1.length := List.length_filter_le _ _
     have h3 := hz.length_eq
     have h4 := hq.len
     simp only [List.length_cons, List.length_map] at h1 h3
     omega
   have hnx : (pre ++ [e.key]).Perm ((edone q.1 (seen ++ [e.born])).map (·.key)) := by
     refine (List.perm_append_singleton _ _).trans ?_
     refine (hz.cons e.key).trans ?_
     exact (hstep.1.map (·.key)).symm
   refine J.q rfl rfl (X.G.Q.entryE (i := 0) (j := 1) hq he rfl rfl rfl) ?_
   refine J.q rfl rfl (Q.ext rfl rfl) ?_
   refine J.q rfl rfl (Q.asg rfl) ?_
   refine J.nil ?_
   refine J.then_n ?_
   refine J.seq ?_
   refine J.regionY ?_
   refine JI.q rfl rfl (fun _ e => nomatch e) (Q.mv rfl) ?_
   refine JI.q rfl rfl (fun _ e => nomatch e) (Q.mv rfl) ?_
   refine JI.yield (hY pre e.key hlt) [4] rfl rfl rfl rfl rfl ?_
   rintro _ _ ⟨rfl, rfl⟩
   refine J.norm rfl ?_
   refine JI.q rfl rfl (fun _ e => nomatch e) (Q.not rfl) ?_
   refine JI.nil ?_
   refine JI.out ?_
   refine J.then_n ?_
   refine J.cases 13 rfl (fun hc13 => ?_) (fun hc13 => ?_)
   ·
    cases hc13
   replace hc13 := X.nm hc13
   refine J.cond_f rfl ?_
   refine J.cskip ?_
   refine J.blk_n ?_
   refine J.pick [1, 2, 3, 4, 0, 5] rfl ?_
   refine J.again (seen ++ [e.born], pre ++ [e.key]) hnx hstep.2 ⟨rfl, rfl, trivial⟩ rfl
  replace hc7 := X.nm hc7
  obtain ⟨hall, rfl⟩ : edone q.1 seen = q.1 ∧ seen' = seen := by rcases hst with ⟨_, h⟩ | ⟨h, _⟩; exact h; exact absurd hc7 (by rw [h]; decide)
  refine J.cond_f rfl ?_
  refine J.exit ?_
  refine J.then_x ?_
  refine J.lp_x ?_
  refine J.blk_x ?_
  rw [hall] at hz
  have hfin : pre.Perm (S0.map (·.1)) := by
    refine hz.trans ?_
    have := hq.perm.map (·.1)
    rw [List.map_map] at this
    exact this
  refine J.shut [1, 2] (MapAt encU uRep r S0) rfl (fun h s => ⟨q, hq, s⟩) ?_
  refine J.pick [2, 0, 1, 3, 4] rfl ?_
  refine J.pack [0, 1] rfl ?_
  refine J.keep [2, 0, 3] rfl ?_
  refine J.end0 (B := [Inv pre, _]) rfl ⟨pre, hfin, rfl⟩ rfl

theorem keysUp (r : Option Nat) : FSpec Tryz.prog 24 [.map r] [] (fun v B => ∃ bm, v = .func (.func 56) #[] #[.pointer (some ⟨bm, 0, none⟩)] ∧ B = [pt bm (.cells [.map r].toArray 48 (0, 0))]) := by
  refine FSpec.of Tryz.func24 rfl Tryz.ntmps24 rfl fun W0 F => ?_
  refine J.seq ?_
  refine J.region ?_
  refine J.c rfl rfl (C.box (l := [_]) rfl rfl) ?_
  rintro _ _ ⟨b1, rfl, rfl⟩
  refine J.norm rfl ?_
  refine J.q rfl rfl (Q.asg rfl) ?_
  refine J.nil ?_
  refine J.then_n ?_
  refine J.seq ?_
  refine J.region ?_
  refine J.q rfl rfl (Q.func rfl rfl) ?_
  refine J.q rfl rfl (Q.asg rfl) ?_
  refine J.nil ?_
  refine J.then_n ?_
  refine J.cret ?_
  refine J.keep [0, 1] rfl ?_
  refine J.ret1 (B := [_]) rfl rfl ⟨_, rfl, rfl⟩ rfl

theorem sortedUp (bm r : Nat) (S0 : List (Nat × UM)) (hS : Srtd ltN S0) (hl : S0.length ≤ 32768) : FSpec Tryz.prog 23 [.func (.func 56) #[] #[.pointer (some ⟨bm, 0, none⟩)]] [pt bm (.cells [.map (some r)].toArray 48 (0, 0)), MapAt encU uRep r S0]
    (fun v B => ∃ (p : Option Addr) (c : Nat), v = .slice p S0.length c ∧ B = [own 23 1 (.slice p S0.length c) ((S0.map (·.1)).map encU), pt bm (.cells [.map (some r)].toArray 48 (0, 0)), MapAt encU uRep r S0]) := by
  have h := sortedU 56 [.pointer (some ⟨bm, 0, none⟩)] _ (S0.map (·.1)) _ Tryz.call56 (keysItUp bm r S0) (fun pre _ h => by omega) (by rw [List.length_map]; omega)
  refine h.conv (fun k s => HSat.pack (Bs := []) (by simpa using s)) ?_
  rintro v B' ⟨p, c, rfl, rfl⟩
  rw [List.length_map, srtU hS]
  refine ⟨_, ⟨p, c, rfl, rfl⟩, fun k s => ?_⟩
  exact HSat.under s fun _ s => HSat.unpack (Bs := []) s
end Go.Proofs.YtdancegklkifaaaGreat
namespace Go.Proofs.YtdancegklkifaaaGreat
set_option linter.unusedSectionVars false
set_option linter.unusedSimpArgs false
set_option linter.unusedVariables false
open Go.X
open Go.X.G (Ord3 ord3_nat ord3_int ord3_str ltB sget sput sdel Srtd MapAt MapHole Ent Ents edone eleft)

theorem keysItDn (bm r : Nat) (S0 : List (Nat × RM)) : ItSpec Tryz.prog 60 [.pointer (some ⟨bm, 0, none⟩)] (fun x : Nat => [encU x]) [star [pt bm (.cells [.map (some r)].toArray 49 (0, 0)), MapAt encU dRep r S0]]
    (fun xs => xs.Perm (S0.map (·.1))) (fun pre _ => pre.length < S0.length) := by
  intro l Inv hY
  refine FSpec.of Tryz.func60 rfl Tryz.ntmps60 rfl fun W0 F => ?_
  refine J.seq ?_
  refine J.unpack 1 rfl rfl ?_
  refine J.open_ 1 rfl rfl (fun _ h => h) fun q hq => ?_
  refine J.norm rfl ?_
  refine J.region ?_
  refine J.q rfl rfl (Q.ld Tryz.isAgg49 rfl (rdI (by exact rfl))) ?_
  refine J.c rfl rfl (X.G.C.range (i := 0) Tryz.runUnderlying49 rfl rfl) ?_
  rintro _ _ ⟨b5, rfl, rfl⟩
  refine J.norm rfl ?_
  refine J.nil ?_
  refine J.then_n ?_
  refine J.block ?_
  refine J.pick [0, 1, 2, 3, 4, 5] rfl ?_
  refine J.loop (fun z : List Nat × List Nat => z.2.Perm ((edone q.1 z.1).map (·.key))) (fun z => (eleft q.1 z.1).length) (fun z => [(0, .func (.yield l) #[] #[]), (5, .pointer (some ⟨b5, 0, none⟩))])
    (fun z => [pt b5 (X.G.miter r q.2 z.1), pt r (X.G.mobj encU (q.1.map Ent.m) q.2), star (q.1.map (Ent.asn dRep)), pt bm (.cells [.map (some r)].toArray 49 (0, 0)), Inv z.2, F])
    ([], []) (by simp [X.G.edone_nil]) ⟨rfl, rfl, trivial⟩ rfl fun z hz => ?_
  obtain ⟨seen, pre⟩ := z
  dsimp only at hz
  refine J.seq ?_
  refine J.region ?_
  refine J.c rfl rfl (X.G.C.nextE (i := 0) (j := 1) hq rfl rfl rfl) ?_
  rintro _ _ ⟨t, rest, seen', rfl, rfl, hst⟩
  refine J.norm rfl ?_
  refine J.q rfl rfl (Q.ext rfl rfl) ?_
  refine J.nil ?_
  refine J.then_n ?_
  refine J.seq ?_
  refine J.cases 7 rfl (fun hc7 => ?_) (fun hc7 => ?_)
  ·
   replace hc7 := X.nm hc7
   obtain ⟨e, he, rfl⟩ : ∃ e, e ∈ eleft q.1 seen ∧ seen' = seen ++ [e.born] := by rcases hst with ⟨h, _⟩ | ⟨_, h⟩; exact absurd hc7 (by rw [h]; decide); exact h
   refine J.cond_t rfl ?_
   refine J.cskip ?_
   refine J.then_n ?_
   refine J.block ?_
   refine J.seq ?_
   refine J.region ?_
   have hstep := X.G.estep hq.born he
   have hlt : pre.length < S0.length := by
     have h1 := hstep.1.length_eq
     have h2 : (edone q.1 (seen ++ [e.born])).length ≤ q.1.length := List.length_filter_le _ _
     have h3 := hz.length_eq
     have h4 := hq.len
     simp only [List.length_cons, List.length_map] at h1 h3
     omega
   have hnx : (pre ++ [e.key]).Perm ((edone q.1 (seen ++ [e.born])).map (·.key)) := by
     refine (List.perm_append_singleton _ _).trans ?_
     refine (hz.cons e.key).trans ?_
     exact (hstep.1.map (·.key)).symm
   refine J.q rfl rfl (X.G.Q.entryE (i := 0) (j := 1) hq he rfl rfl rfl) ?_
   refine J.q rfl rfl (Q.ext rfl rfl) ?_
   refine J.q rfl rfl (Q.asg rfl) ?_
   refine J.nil ?_
   refine J.then_n ?_
   refine J.seq ?_
   refine J.regionY ?_
   refine JI.q rfl rfl (fun _ e => nomatch e) (Q.mv rfl) ?_
   refine JI.q rfl rfl (fun _ e => nomatch e) (Q.mv rfl) ?_
   refine JI.yield (hY pre e.key hlt) [4] rfl rfl rfl rfl rfl ?_
   rintro _ _ ⟨rfl, rfl⟩
   refine J.norm rfl ?_
   refine JI.q rfl rfl (fun _ e => nomatch e) (Q.not rfl) ?_
   refine JI.nil ?_
   refine JI.out ?_
   refine J.then_n ?_
   refine J.cases 13 rfl (fun hc13 => ?_) (fun hc13 => ?_)
   ·
    cases hc13
   replace hc13 := X.nm hc13
   refine J.cond_f rfl ?_
   refine J.cskip ?_
   refine J.blk_n ?_
   refine J.pick [1, 2, 3, 4, 0, 5] rfl ?_
   refine J.again (seen ++ [e.born], pre ++ [e.key]) hnx hstep.2 ⟨rfl, rfl, trivial⟩ rfl
  replace hc7 := X.nm hc7
  obtain ⟨hall, rfl⟩ : edone q.1 seen = q.1 ∧ seen' = seen := by rcases hst with ⟨_, h⟩ | ⟨h, _⟩; exact h; exact absurd hc7 (by rw [h]; decide)
  refine J.cond_f rfl ?_
  refine J.exit ?_
  refine J.then_x ?_
  refine J.lp_x ?_
  refine J.blk_x ?_
  rw [hall] at hz
  have hfin : pre.Perm (S0.map (·.1)) := by
    refine hz.trans ?_
    have := hq.perm.map (·.1)
    rw [List.map_map] at this
    exact this
  refine J.shut [1, 2] (MapAt encU dRep r S0) rfl (fun h s => ⟨q, hq, s⟩) ?_
  refine J.pick [2, 0, 1, 3, 4] rfl ?_
  refine J.pack [0, 1] rfl ?_
  refine J.keep [2, 0, 3] rfl ?_
  refine J.end0 (B := [Inv pre, _]) rfl ⟨pre, hfin, rfl⟩ rfl

theorem keysDn (r : Option Nat) : FSpec Tryz.prog 27 [.map r] [] (fun v B => ∃ bm, v = .func (.func 60) #[] #[.pointer (some ⟨bm, 0, none⟩)] ∧ B = [pt bm (.cells [.map r].toArray 49 (0, 0))]) := by
  refine FSpec.of Tryz.func27 rfl Tryz.ntmps27 rfl fun W0 F => ?_
  refine J.seq ?_
  refine J.region ?_
  refine J.c rfl rfl (C.box (l := [_]) rfl rfl) ?_
  rintro _ _ ⟨b1, rfl, rfl⟩
  refine J.norm rfl ?_
  refine J.q rfl rfl (Q.asg rfl) ?_
  refine J.nil ?_
  refine J.then_n ?_
  refine J.seq ?_
  refine J.region ?_
  refine J.q rfl rfl (Q.func rfl rfl) ?_
  refine J.q rfl rfl (Q.asg rfl) ?_
  refine J.nil ?_
  refine J.then_n ?_
  refine J.cret ?_
  refine J.keep [0, 1] rfl ?_
  refine J.ret1 (B := [_]) rfl rfl ⟨_, rfl, rfl⟩ rfl

theorem sortedDn (bm r : Nat) (S0 : List (Nat × RM)) (hS : Srtd ltN S0) (hl : S0.length ≤ 32768) : FSpec Tryz.prog 23 [.func (.func 60) #[] #[.pointer (some ⟨bm, 0, none⟩)]] [pt bm (.cells [.map (some r)].toArray 49 (0, 0)), MapAt encU dRep r S0]
    (fun v B => ∃ (p : Option Addr) (c : Nat), v = .slice p S0.length c ∧ B = [own 23 1 (.slice p S0.length c) ((S0.map (·.1)).map encU), pt bm (.cells [.map (some r)].toArray 49 (0, 0)), MapAt encU dRep r S0]) := by
  have h := sortedU 60 [.pointer (some ⟨bm, 0, none⟩)] _ (S0.map (·.1)) _ Tryz.call60 (keysItDn bm r S0) (fun pre _ h => by omega) (by rw [List.length_map]; omega)
  refine h.conv (fun k s => HSat.pack (Bs := []) (by simpa using s)) ?_
  rintro v B' ⟨p, c, rfl, rfl⟩
  rw [List.length_map, srtU hS]
  refine ⟨_, ⟨p, c, rfl, rfl⟩, fun k s => ?_⟩
  exact HSat.under s fun _ s => HSat.unpack (Bs := []) s
end Go.Proofs.YtdancegklkifaaaGreat
namespace Go.Proofs.YtdancegklkifaaaGreat
set_option linter.unusedSectionVars false
set_option linter.unusedSimpArgs false
set_option linter.unusedVariables false
open Go.X
open Go.X.G (Ord3 ord3_nat ord3_int ord3_str ltB sget sput sdel Srtd MapAt MapHole Ent Ents edone eleft)

theorem keysItPt (bm r : Nat) (S0 : List (Int × (List UInt8))) : ItSpec Tryz.prog 59 [.pointer (some ⟨bm, 0, none⟩)] (fun x : Int => [(Value.int .i64) x]) [star [pt bm (.cells [.map (some r)].toArray 66 (0, 0)), MapAt (Value.int .i64) datRep r S0]]
    (fun xs => xs.Perm (S0.map (·.1))) (fun pre _ => pre.length < S0.length) := by
  intro l Inv hY
  refine FSpec.of Tryz.func59 rfl Tryz.ntmps59 rfl fun W0 F => ?_
  refine J.seq ?_
  refine J.unpack 1 rfl rfl ?_
  refine J.open_ 1 rfl rfl (fun _ h => h) fun q hq => ?_
  refine J.norm rfl ?_
  refine J.region ?_
  refine J.q rfl rfl (Q.ld Tryz.isAgg66 rfl (rdI (by exact rfl))) ?_
  refine J.c rfl rfl (X.G.C.range (i := 0) Tryz.runUnderlying66 rfl rfl) ?_
  rintro _ _ ⟨b5, rfl, rfl⟩
  refine J.norm rfl ?_
  refine J.nil ?_
  refine J.then_n ?_
  refine J.block ?_
  refine J.pick [0, 1, 2, 3, 4, 5] rfl ?_
  refine J.loop (fun z : List Nat × List Int => z.2.Perm ((edone q.1 z.1).map (·.key))) (fun z => (eleft q.1 z.1).length) (fun z => [(0, .func (.yield l) #[] #[]), (5, .pointer (some ⟨b5, 0, none⟩))])
    (fun z => [pt b5 (X.G.miter r q.2 z.1), pt r (X.G.mobj (Value.int .i64) (q.1.map Ent.m) q.2), star (q.1.map (Ent.asn datRep)), pt bm (.cells [.map (some r)].toArray 66 (0, 0)), Inv z.2, F])
    ([], []) (by simp [X.G.edone_nil]) ⟨rfl, rfl, trivial⟩ rfl fun z hz => ?_
  obtain ⟨seen, pre⟩ := z
  dsimp only at hz
  refine J.seq ?_
  refine J.region ?_
  refine J.c rfl rfl (X.G.C.nextE (i := 0) (j := 1) hq rfl rfl rfl) ?_
  rintro _ _ ⟨t, rest, seen', rfl, rfl, hst⟩
  refine J.norm rfl ?_
  refine J.q rfl rfl (Q.ext rfl rfl) ?_
  refine J.nil ?_
  refine J.then_n ?_
  refine J.seq ?_
  refine J.cases 7 rfl (fun hc7 => ?_) (fun hc7 => ?_)
  ·
   replace hc7 := X.nm hc7
   obtain ⟨e, he, rfl⟩ : ∃ e, e ∈ eleft q.1 seen ∧ seen' = seen ++ [e.born] := by rcases hst with ⟨h, _⟩ | ⟨_, h⟩; exact absurd hc7 (by rw [h]; decide); exact h
   refine J.cond_t rfl ?_
   refine J.cskip ?_
   refine J.then_n ?_
   refine J.block ?_
   refine J.seq ?_
   refine J.region ?_
   have hstep := X.G.estep hq.born he
   have hlt : pre.length < S0.length := by
     have h1 := hstep.1.length_eq
     have h2 : (edone q.1 (seen ++ [e.born])).length ≤ q.1.length := List.length_filter_le _ _
     have h3 := hz.length_eq
     have h4 := hq.len
     simp only [List.length_cons, List.length_map] at h1 h3
     omega
   have hnx : (pre ++ [e.key]).Perm ((edone q.1 (seen ++ [e.born])).map (·.key)) := by
     refine (List.perm_append_singleton _ _).trans ?_
     refine (hz.cons e.key).trans ?_
     exact (hstep.1.map (·.key)).symm
   refine J.q rfl rfl (X.G.Q.entryE (i := 0) (j := 1) hq he rfl rfl rfl) ?_
   refine J.q rfl rfl (Q.ext rfl rfl) ?_
   refine J.q rfl rfl (Q.asg rfl) ?_
   refine J.nil ?_
   refine J.then_n ?_
   refine J.seq ?_
   refine J.regionY ?_
   refine JI.q rfl rfl (fun _ e => nomatch e) (Q.mv rfl) ?_
   refine JI.q rfl rfl (fun _ e => nomatch e) (Q.mv rfl) ?_
   refine JI.yield (hY pre e.key hlt) [4] rfl rfl rfl rfl rfl ?_
   rintro _ _ ⟨rfl, rfl⟩
   refine J.norm rfl ?_
   refine JI.q rfl rfl (fun _ e => nomatch e) (Q.not rfl) ?_
   refine JI.nil ?_
   refine JI.out ?_
   refine J.then_n ?_
   refine J.cases 13 rfl (fun hc13 => ?_) (fun hc13 => ?_)
   ·
    cases hc13
   replace hc13 := X.nm hc13
   refine J.cond_f rfl ?_
   refine J.cskip ?_
   refine J.blk_n ?_
   refine J.pick [1, 2, 3, 4, 0, 5] rfl ?_
   refine J.again (seen ++ [e.born], pre ++ [e.key]) hnx hstep.2 ⟨rfl, rfl, trivial⟩ rfl
  replace hc7 := X.nm hc7
  obtain ⟨hall, rfl⟩ : edone q.1 seen = q.1 ∧ seen' = seen := by rcases hst with ⟨_, h⟩ | ⟨h, _⟩; exact h; exact absurd hc7 (by rw [h]; decide)
  refine J.cond_f rfl ?_
  refine J.exit ?_
  refine J.then_x ?_
  refine J.lp_x ?_
  refine J.blk_x ?_
  rw [hall] at hz
  have hfin : pre.Perm (S0.map (·.1)) := by
    refine hz.trans ?_
    have := hq.perm.map (·.1)
    rw [List.map_map] at this
    exact this
  refine J.shut [1, 2] (MapAt (Value.int .i64) datRep r S0) rfl (fun h s => ⟨q, hq, s⟩) ?_
  refine J.pick [2, 0, 1, 3, 4] rfl ?_
  refine J.pack [0, 1] rfl ?_
  refine J.keep [2, 0, 3] rfl ?_
  refine J.end0 (B := [Inv pre, _]) rfl ⟨pre, hfin, rfl⟩ rfl

theorem keysPt (r : Option Nat) : FSpec Tryz.prog 26 [.map r] [] (fun v B => ∃ bm, v = .func (.func 59) #[] #[.pointer (some ⟨bm, 0, none⟩)] ∧ B = [pt bm (.cells [.map r].toArray 66 (0, 0))]) := by
  refine FSpec.of Tryz.func26 rfl Tryz.ntmps26 rfl fun W0 F => ?_
  refine J.seq ?_
  refine J.region ?_
  refine J.c rfl rfl (C.box (l := [_]) rfl rfl) ?_
  rintro _ _ ⟨b1, rfl, rfl⟩
  refine J.norm rfl ?_
  refine J.q rfl rfl (Q.asg rfl) ?_
  refine J.nil ?_
  refine J.then_n ?_
  refine J.seq ?_
  refine J.region ?_
  refine J.q rfl rfl (Q.func rfl rfl) ?_
  refine J.q rfl rfl (Q.asg rfl) ?_
  refine J.nil ?_
  refine J.then_n ?_
  refine J.cret ?_
  refine J.keep [0, 1] rfl ?_
  refine J.ret1 (B := [_]) rfl rfl ⟨_, rfl, rfl⟩ rfl

theorem sortedPt (bm r : Nat) (S0 : List (Int × (List UInt8))) (hS : Srtd ltI S0) (hl : S0.length ≤ 32768) : FSpec Tryz.prog 25 [.func (.func 59) #[] #[.pointer (some ⟨bm, 0, none⟩)]] [pt bm (.cells [.map (some r)].toArray 66 (0, 0)), MapAt (Value.int .i64) datRep r S0]
    (fun v B => ∃ (p : Option Addr) (c : Nat), v = .slice p S0.length c ∧ B = [own 3 1 (.slice p S0.length c) ((S0.map (·.1)).map (Value.int .i64)), pt bm (.cells [.map (some r)].toArray 66 (0, 0)), MapAt (Value.int .i64) datRep r S0]) := by
  have h := sortedI 59 [.pointer (some ⟨bm, 0, none⟩)] _ (S0.map (·.1)) _ Tryz.call59 (keysItPt bm r S0) (fun pre _ h => by omega) (by rw [List.length_map]; omega)
  refine h.conv (fun k s => HSat.pack (Bs := []) (by simpa using s)) ?_
  rintro v B' ⟨p, c, rfl, rfl⟩
  rw [List.length_map, srtI hS]
  refine ⟨_, ⟨p, c, rfl, rfl⟩, fun k s => ?_⟩
  exact HSat.under s fun _ s => HSat.unpack (Bs := []) s
end Go.Proofs.YtdancegklkifaaaGreat
