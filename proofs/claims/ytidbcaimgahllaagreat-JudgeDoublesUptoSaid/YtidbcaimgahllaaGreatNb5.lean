/-
  What the proof of the last of these texts leans on: part 5 of 6.
-/
import Derived.KernelRfl
import Derived.Test.YtidbcaimgahllaaGreatNb4
namespace Go.Proofs.YtidbcaimgahllaaGreat
set_option linter.unusedSectionVars false
set_option linter.unusedSimpArgs false
set_option linter.unusedVariables false
open Go.X

def smallB (w : Nat) : Bool := decide (w < 128)

theorem readNumber_spec (G : Assn) (p : Option Addr) (n c : Nat) (bs : List UInt8) (hr : SlR [G] 1 (.slice p n c) (bytesV bs)) (hn : n ≤ 1099511627776) :
    FSpec Tryz.prog 67 [.slice p n c] [G] (fun u B => u = .tuple #[.int .u64 (rdN bs).1, .int .i64 (rdN bs).2.1, .int .i64 (rdN bs).2.2] ∧ B = [G]) := by
  have hlen : bs.length = n := by have := hr.len; simp [bytesV] at this; omega
  refine FSpec.of Tryz.func67 rfl Tryz.ntmps67 rfl fun W0 F => ?_
  refine J.seq <| J.region <| J.p rfl (Q.asg rfl) <| J.p rfl (Q.asg rfl) <| J.p rfl (Q.asg rfl) <| J.nil <| J.then_n <| J.seq <| J.region <| J.p rfl (Q.asg rfl) <| J.nil <| J.then_n <| J.seq <| J.seq <| J.region <| J.m rfl <| J.p rfl (Q.lenSl Tryz.runUnderlying42 rfl) <| J.m rfl <| J.nil <| J.then_n <| J.block ?_
  refine J.loop (fun z : Nat × Nat => z.1 ≤ n ∧ z.1 ≤ 9 ∧ rdGo z.1 z.2 (bs.drop z.1) = rdN bs ∧ z.2 < 2 ^ (7 * z.1)) (fun z => n - z.1) (fun z => [(0, .slice p n c), (5, .int .u64 z.2), (8, .slice p n c), (9, .int .i64 n), (10, .int .i64 z.1)]) (fun _ => [G, F]) (0, 0) ⟨Nat.zero_le _, Nat.zero_le _, rfl, by show 0 < 2 ^ 0; decide⟩ ⟨rfl, rfl, rfl, rfl, rfl, trivial⟩ rfl fun z hz => ?_
  obtain ⟨i, acc⟩ := z
  obtain ⟨h1, h2, h3, h4⟩ := hz
  dsimp only at h1 h2 h3 h4
  refine J.seq <| J.region <| J.p rfl (Q.lss rfl rfl) <| J.nil <| J.then_n <| J.seq ?_
  refine J.cases 11 rfl (fun hc11 => ?_) (fun hc11 => ?_)
  ·
   replace hc11 := X.nm hc11
   refine J.cond_t rfl <| J.cskip <| J.then_n <| J.seq <| J.block <| J.seq ?_
   have hil : i < n := by omega
   obtain ⟨b, off, hp, hrd⟩ := hr.some_ (by omega)
   obtain ⟨u8, hu8⟩ : ∃ u8, bs[i]? = some u8 := ⟨_, List.getElem?_eq_getElem (by omega)⟩
   have hd : bs.drop i = u8 :: bs.drop (i + 1) := by
    obtain ⟨q1, q2⟩ := List.getElem?_eq_some_iff.1 hu8
    rw [List.drop_eq_getElem_cons q1, q2]
   obtain ⟨c0, hc0⟩ : ∃ c0, c0 = u8.toNat := ⟨_, rfl⟩
   have f2 : c0 < 256 := hc0 ▸ u8.toNat_lt
   have hst := h3
   rw [hd] at hst
   simp only [rdGo] at hst
   rw [← hc0] at hst
   refine J.slot 8 (.slice (some ⟨b, off, none⟩) n c) rfl (by rw [hp]) ?_
   refine J.region <| J.m rfl <| J.p rfl (Q.ia Tryz.runUnderlying42 Tryz.sizeOf5 rfl rfl (by omega) (by omega)) ?_
   refine J.p rfl (Q.ld Tryz.isAgg5 rfl (((hrd i (.int .u8 c0) (by simp [bytesV, byteV, hu8, hc0])).within (i := 0) rfl).cast (by simp))) ?_
   refine J.p rfl (Q.asg rfl) <| J.p rfl (Q.asg rfl) <| J.nil <| J.then_n <| J.seq <| J.seq <| J.region <| J.m rfl <| J.p rfl (Q.eql rfl rfl) <| J.m rfl ?_
   refine J.cases 17 rfl (fun hb17 => ?_) (fun hb17 => ?_)
   ·
    replace hb17 := X.nm hb17
    refine J.m rfl <| J.p rfl (Q.gtr rfl rfl) <| J.p rfl (Q.pick_t rfl rfl) <| J.nil <| J.then_n ?_
    refine J.cases 20 rfl (fun hc20 => ?_) (fun hc20 => ?_)
    ·
     replace hc20 := X.nm hc20
     refine J.cond_t rfl <| J.seq <| J.region <| J.p rfl (Q.asg rfl) <| J.p rfl (Q.asg rfl) <| J.p rfl (Q.asg rfl) <| J.nil <| J.then_n <| J.cret <| J.then_r <| J.blk_r <| J.then_r <| J.lp_r <| J.blk_r <| J.then_r ?_
     rw [if_pos (by omega)] at hst
     refine J.ret3 (B := [G]) rfl rfl rfl rfl ⟨by rw [← hst]; rfl, rfl⟩ rfl
    replace hc20 := X.nm hc20
    refine J.cond_f rfl <| J.cskip <| J.then_n <| J.seq ?_
    have h9 : i = 9 → c0 ≤ 1 := by intro e9; omega
    rw [if_neg (by omega)] at hst
    have hb64 : acc + 2 ^ (7 * i) * (c0 % 128) < 18446744073709551616 := by
     by_cases e9 : i = 9
     · have := h9 e9
       subst e9
       have q : 2 ^ (7 * 9) * (c0 % 128) ≤ 2 ^ (7 * 9) * 1 := Nat.mul_le_mul_left _ (by omega)
       have e3 : (2 : Nat) ^ (7 * 9) = 9223372036854775808 := by decide
       rw [e3] at q h4 ⊢
       omega
     · have h56 : (2 : Nat) ^ (7 * i) ≤ 72057594037927936 := by
        have := Nat.pow_le_pow_right (n := 2) (by decide) (show 7 * i ≤ 56 by omega)
        rwa [show (2 : Nat) ^ 56 = 72057594037927936 by decide] at this
       have := Nat.mul_le_mul h56 (show c0 % 128 ≤ 127 by omega)
       omega
    refine J.region <| J.m rfl <| J.m rfl <| J.p rfl (Q.and rfl rfl) ?_
    refine J.slot 23 (.int .u8 ((c0 % 128 : Nat) : Int)) rfl (by show Value.int .u8 _ = _; rw [and127 f2]) ?_
    refine J.p rfl (Q.conv Tryz.runUnderlying5 Tryz.runUnderlying40 rfl) ?_
    refine J.slot 24 (.int .u64 ((c0 % 128 : Nat) : Int)) rfl (by rw [wrap64 (by omega)]) ?_
    refine J.m rfl <| J.p rfl (Q.mul64 rfl rfl (by omega)) ?_
    refine J.slot 26 (.int .i64 ((7 * i : Nat) : Int)) rfl (by rw [Int.natCast_mul]; rfl) ?_
    refine J.p rfl (Q.shl rfl rfl (by omega)) ?_
    refine J.slot 27 (.int .u64 ((2 ^ (7 * i) * (c0 % 128) : Nat) : Int)) rfl (by
      have hmin : min (((7 * i : Nat) : Int).toNat) IntKind.u64.bits = 7 * i := by show min _ 64 = _; omega
      have e : ((c0 % 128 : Nat) : Int) * 2 ^ (7 * i) = ((2 ^ (7 * i) * (c0 % 128) : Nat) : Int) := by rw [Int.natCast_mul, Int.mul_comm, Int.natCast_pow]; rfl
      rw [hmin, e, wrap64 (by omega)]) ?_
    refine J.p rfl (Q.or rfl rfl) ?_
    refine J.slot 28 (.int .u64 ((acc + 2 ^ (7 * i) * (c0 % 128) : Nat) : Int)) rfl (by show Value.int .u64 _ = _; rw [or64 h4 hb64]) ?_
    refine J.p rfl (Q.asg rfl) <| J.nil <| J.then_n <| J.seq <| J.region <| J.m rfl <| J.p rfl (Q.lss rfl rfl) ?_
    refine J.slot 30 (.bool (smallB c0)) rfl (by show Value.bool (decide ((c0 : Int) < 128)) = _; unfold smallB; rw [decide_eq_decide.2 (show (c0 : Int) < 128 ↔ c0 < 128 by omega)]) ?_
    refine J.nil <| J.then_n ?_
    refine J.cases 30 rfl (fun hc30 => ?_) (fun hc30 => ?_)
    ·
     replace hc30 := X.nm hc30
     refine J.cond_t rfl <| J.seq <| J.seq ?_
     have hw : c0 < 128 := of_decide_eq_true hc30
     rw [if_pos hw] at hst
     refine J.region <| J.m rfl <| J.p rfl (Q.eql rfl rfl) <| J.m rfl ?_
     refine J.cases 33 rfl (fun hb33 => ?_) (fun hb33 => ?_)
     ·
      replace hb33 := X.nm hb33
      refine J.m rfl <| J.p rfl (Q.gtr rfl rfl) <| J.p rfl (Q.pick_t rfl rfl) <| J.nil <| J.then_n ?_
      refine J.cases 36 rfl (fun hc36 => ?_) (fun hc36 => ?_)
      ·
       replace hc36 := X.nm hc36
       refine J.cond_t rfl <| J.seq <| J.region <| J.p rfl (Q.asg rfl) <| J.p rfl (Q.asg rfl) <| J.p rfl (Q.asg rfl) <| J.nil <| J.then_n <| J.cret <| J.then_r <| J.blk_r <| J.then_r <| J.lp_r <| J.blk_r <| J.then_r ?_
       first
        | (refine J.ret3 (B := [G]) rfl rfl rfl rfl ⟨?_, rfl⟩ rfl
           rw [← h3, List.drop_eq_nil_of_le (by omega)]; rfl)
        | (rw [if_pos (by omega)] at hst
           refine J.ret3 (B := [G]) rfl rfl rfl rfl ⟨by rw [← hst]; rfl, rfl⟩ rfl)
        | (rw [if_neg (by omega)] at hst
           refine J.ret3 (B := [G]) rfl rfl rfl rfl ⟨by rw [← hst, Nat.mod_eq_of_lt hw]; rfl, rfl⟩ rfl)
      replace hc36 := X.nm hc36
      refine J.cond_f rfl <| J.cskip <| J.then_n <| J.seq <| J.region <| J.m rfl <| J.m rfl <| J.p rfl (Q.add64 rfl rfl (by omega)) <| J.p rfl (Q.asg rfl) <| J.p rfl (Q.asg rfl) <| J.p rfl (Q.asg rfl) <| J.nil <| J.then_n <| J.cret <| J.blk_r <| J.then_r <| J.lp_r <| J.blk_r <| J.then_r ?_
      first
       | (refine J.ret3 (B := [G]) rfl rfl rfl rfl ⟨?_, rfl⟩ rfl
          rw [← h3, List.drop_eq_nil_of_le (by omega)]; rfl)
       | (rw [if_pos (by omega)] at hst
          refine J.ret3 (B := [G]) rfl rfl rfl rfl ⟨by rw [← hst]; rfl, rfl⟩ rfl)
       | (rw [if_neg (by omega)] at hst
          refine J.ret3 (B := [G]) rfl rfl rfl rfl ⟨by rw [← hst, Nat.mod_eq_of_lt hw]; rfl, rfl⟩ rfl)
     replace hb33 := X.nm hb33
     refine J.skip rfl rfl <| J.skip rfl rfl <| J.p rfl (Q.pick_f rfl rfl) <| J.nil <| J.then_n <| J.cond_f rfl <| J.cskip <| J.then_n <| J.seq <| J.region <| J.m rfl <| J.m rfl <| J.p rfl (Q.add64 rfl rfl (by omega)) <| J.p rfl (Q.asg rfl) <| J.p rfl (Q.asg rfl) <| J.p rfl (Q.asg rfl) <| J.nil <| J.then_n <| J.cret <| J.blk_r <| J.then_r <| J.lp_r <| J.blk_r <| J.then_r ?_
     first
      | (refine J.ret3 (B := [G]) rfl rfl rfl rfl ⟨?_, rfl⟩ rfl
         rw [← h3, List.drop_eq_nil_of_le (by omega)]; rfl)
      | (rw [if_pos (by omega)] at hst
         refine J.ret3 (B := [G]) rfl rfl rfl rfl ⟨by rw [← hst]; rfl, rfl⟩ rfl)
      | (rw [if_neg (by omega)] at hst
         refine J.ret3 (B := [G]) rfl rfl rfl rfl ⟨by rw [← hst, Nat.mod_eq_of_lt hw]; rfl, rfl⟩ rfl)
    replace hc30 := X.nm hc30
    refine J.cond_f rfl <| J.cskip <| J.blk_n <| J.then_n <| J.region <| J.p rfl (Q.add64 rfl rfl (by omega)) <| J.m rfl <| J.nil ?_
    have hw : ¬ c0 < 128 := of_decide_eq_false hc30
    rw [if_neg hw] at hst
    have hp7 : (2 : Nat) ^ (7 * (i + 1)) = 2 ^ (7 * i) * 128 := by rw [show 7 * (i + 1) = 7 * i + 7 by omega, Nat.pow_add]
    have hlt : 2 ^ (7 * i) * (c0 % 128) + 2 ^ (7 * i) ≤ 2 ^ (7 * i) * 128 := by rw [← Nat.mul_succ]; exact Nat.mul_le_mul_left _ (by omega)
    refine J.again (i + 1, acc + 2 ^ (7 * i) * (c0 % 128)) ⟨by show i + 1 ≤ n; omega, by show i + 1 ≤ 9; omega, hst, ?_⟩ (by show n - (i + 1) < n - i; omega) ⟨rfl, rfl, (by show _ = some (Value.slice p n c); rw [hp]; rfl), rfl, rfl, trivial⟩ rfl
    show acc + 2 ^ (7 * i) * (c0 % 128) < 2 ^ (7 * (i + 1))
    rw [hp7]; omega
   replace hb17 := X.nm hb17
   refine J.skip rfl rfl <| J.skip rfl rfl <| J.p rfl (Q.pick_f rfl rfl) <| J.nil <| J.then_n <| J.cond_f rfl <| J.cskip <| J.then_n <| J.seq ?_
   have h9 : i = 9 → c0 ≤ 1 := by intro e9; omega
   rw [if_neg (by omega)] at hst
   have hb64 : acc + 2 ^ (7 * i) * (c0 % 128) < 18446744073709551616 := by
    by_cases e9 : i = 9
    · have := h9 e9
      subst e9
      have q : 2 ^ (7 * 9) * (c0 % 128) ≤ 2 ^ (7 * 9) * 1 := Nat.mul_le_mul_left _ (by omega)
      have e3 : (2 : Nat) ^ (7 * 9) = 9223372036854775808 := by decide
      rw [e3] at q h4 ⊢
      omega
    · have h56 : (2 : Nat) ^ (7 * i) ≤ 72057594037927936 := by
       have := Nat.pow_le_pow_right (n := 2) (by decide) (show 7 * i ≤ 56 by omega)
       rwa [show (2 : Nat) ^ 56 = 72057594037927936 by decide] at this
      have := Nat.mul_le_mul h56 (show c0 % 128 ≤ 127 by omega)
      omega
   refine J.region <| J.m rfl <| J.m rfl <| J.p rfl (Q.and rfl rfl) ?_
   refine J.slot 23 (.int .u8 ((c0 % 128 : Nat) : Int)) rfl (by show Value.int .u8 _ = _; rw [and127 f2]) ?_
   refine J.p rfl (Q.conv Tryz.runUnderlying5 Tryz.runUnderlying40 rfl) ?_
   refine J.slot 24 (.int .u64 ((c0 % 128 : Nat) : Int)) rfl (by rw [wrap64 (by omega)]) ?_
   refine J.m rfl <| J.p rfl (Q.mul64 rfl rfl (by omega)) ?_
   refine J.slot 26 (.int .i64 ((7 * i : Nat) : Int)) rfl (by rw [Int.natCast_mul]; rfl) ?_
   refine J.p rfl (Q.shl rfl rfl (by omega)) ?_
   refine J.slot 27 (.int .u64 ((2 ^ (7 * i) * (c0 % 128) : Nat) : Int)) rfl (by
     have hmin : min (((7 * i : Nat) : Int).toNat) IntKind.u64.bits = 7 * i := by show min _ 64 = _; omega
     have e : ((c0 % 128 : Nat) : Int) * 2 ^ (7 * i) = ((2 ^ (7 * i) * (c0 % 128) : Nat) : Int) := by rw [Int.natCast_mul, Int.mul_comm, Int.natCast_pow]; rfl
     rw [hmin, e, wrap64 (by omega)]) ?_
   refine J.p rfl (Q.or rfl rfl) ?_
   refine J.slot 28 (.int .u64 ((acc + 2 ^ (7 * i) * (c0 % 128) : Nat) : Int)) rfl (by show Value.int .u64 _ = _; rw [or64 h4 hb64]) ?_
   refine J.p rfl (Q.asg rfl) <| J.nil <| J.then_n <| J.seq <| J.region <| J.m rfl <| J.p rfl (Q.lss rfl rfl) ?_
   refine J.slot 30 (.bool (smallB c0)) rfl (by show Value.bool (decide ((c0 : Int) < 128)) = _; unfold smallB; rw [decide_eq_decide.2 (show (c0 : Int) < 128 ↔ c0 < 128 by omega)]) ?_
   refine J.nil <| J.then_n ?_
   refine J.cases 30 rfl (fun hc30 => ?_) (fun hc30 => ?_)
   ·
    replace hc30 := X.nm hc30
    refine J.cond_t rfl <| J.seq <| J.seq ?_
    have hw : c0 < 128 := of_decide_eq_true hc30
    rw [if_pos hw] at hst
    refine J.region <| J.m rfl <| J.p rfl (Q.eql rfl rfl) <| J.m rfl ?_
    refine J.cases 33 rfl (fun hb33 => ?_) (fun hb33 => ?_)
    ·
     replace hb33 := X.nm hb33
     refine J.m rfl <| J.p rfl (Q.gtr rfl rfl) <| J.p rfl (Q.pick_t rfl rfl) <| J.nil <| J.then_n ?_
     refine J.cases 36 rfl (fun hc36 => ?_) (fun hc36 => ?_)
     ·
      replace hc36 := X.nm hc36
      refine J.cond_t rfl <| J.seq <| J.region <| J.p rfl (Q.asg rfl) <| J.p rfl (Q.asg rfl) <| J.p rfl (Q.asg rfl) <| J.nil <| J.then_n <| J.cret <| J.then_r <| J.blk_r <| J.then_r <| J.lp_r <| J.blk_r <| J.then_r ?_
      first
       | (refine J.ret3 (B := [G]) rfl rfl rfl rfl ⟨?_, rfl⟩ rfl
          rw [← h3, List.drop_eq_nil_of_le (by omega)]; rfl)
       | (rw [if_pos (by omega)] at hst
          refine J.ret3 (B := [G]) rfl rfl rfl rfl ⟨by rw [← hst]; rfl, rfl⟩ rfl)
       | (rw [if_neg (by omega)] at hst
          refine J.ret3 (B := [G]) rfl rfl rfl rfl ⟨by rw [← hst, Nat.mod_eq_of_lt hw]; rfl, rfl⟩ rfl)
     replace hc36 := X.nm hc36
     refine J.cond_f rfl <| J.cskip <| J.then_n <| J.seq <| J.region <| J.m rfl <| J.m rfl <| J.p rfl (Q.add64 rfl rfl (by omega)) <| J.p rfl (Q.asg rfl) <| J.p rfl (Q.asg rfl) <| J.p rfl (Q.asg rfl) <| J.nil <| J.then_n <| J.cret <| J.blk_r <| J.then_r <| J.lp_r <| J.blk_r <| J.then_r ?_
     first
      | (refine J.ret3 (B := [G]) rfl rfl rfl rfl ⟨?_, rfl⟩ rfl
         rw [← h3, List.drop_eq_nil_of_le (by omega)]; rfl)
      | (rw [if_pos (by omega)] at hst
         refine J.ret3 (B := [G]) rfl rfl rfl rfl ⟨by rw [← hst]; rfl, rfl⟩ rfl)
      | (rw [if_neg (by omega)] at hst
         refine J.ret3 (B := [G]) rfl rfl rfl rfl ⟨by rw [← hst, Nat.mod_eq_of_lt hw]; rfl, rfl⟩ rfl)
    replace hb33 := X.nm hb33
    refine J.skip rfl rfl <| J.skip rfl rfl <| J.p rfl (Q.pick_f rfl rfl) <| J.nil <| J.then_n <| J.cond_f rfl <| J.cskip <| J.then_n <| J.seq <| J.region <| J.m rfl <| J.m rfl <| J.p rfl (Q.add64 rfl rfl (by omega)) <| J.p rfl (Q.asg rfl) <| J.p rfl (Q.asg rfl) <| J.p rfl (Q.asg rfl) <| J.nil <| J.then_n <| J.cret <| J.blk_r <| J.then_r <| J.lp_r <| J.blk_r <| J.then_r ?_
    first
     | (refine J.ret3 (B := [G]) rfl rfl rfl rfl ⟨?_, rfl⟩ rfl
        rw [← h3, List.drop_eq_nil_of_le (by omega)]; rfl)
     | (rw [if_pos (by omega)] at hst
        refine J.ret3 (B := [G]) rfl rfl rfl rfl ⟨by rw [← hst]; rfl, rfl⟩ rfl)
     | (rw [if_neg (by omega)] at hst
        refine J.ret3 (B := [G]) rfl rfl rfl rfl ⟨by rw [← hst, Nat.mod_eq_of_lt hw]; rfl, rfl⟩ rfl)
   replace hc30 := X.nm hc30
   refine J.cond_f rfl <| J.cskip <| J.blk_n <| J.then_n <| J.region <| J.p rfl (Q.add64 rfl rfl (by omega)) <| J.m rfl <| J.nil ?_
   have hw : ¬ c0 < 128 := of_decide_eq_false hc30
   rw [if_neg hw] at hst
   have hp7 : (2 : Nat) ^ (7 * (i + 1)) = 2 ^ (7 * i) * 128 := by rw [show 7 * (i + 1) = 7 * i + 7 by omega, Nat.pow_add]
   have hlt : 2 ^ (7 * i) * (c0 % 128) + 2 ^ (7 * i) ≤ 2 ^ (7 * i) * 128 := by rw [← Nat.mul_succ]; exact Nat.mul_le_mul_left _ (by omega)
   refine J.again (i + 1, acc + 2 ^ (7 * i) * (c0 % 128)) ⟨by show i + 1 ≤ n; omega, by show i + 1 ≤ 9; omega, hst, ?_⟩ (by show n - (i + 1) < n - i; omega) ⟨rfl, rfl, (by show _ = some (Value.slice p n c); rw [hp]; rfl), rfl, rfl, trivial⟩ rfl
   show acc + 2 ^ (7 * i) * (c0 % 128) < 2 ^ (7 * (i + 1))
   rw [hp7]; omega
  replace hc11 := X.nm hc11
  refine J.cond_f rfl <| J.exit <| J.then_x <| J.lp_x <| J.blk_x <| J.then_n <| J.seq <| J.region <| J.p rfl (Q.asg rfl) <| J.p rfl (Q.asg rfl) <| J.p rfl (Q.asg rfl) <| J.nil <| J.then_n <| J.cret ?_
  first
   | (refine J.ret3 (B := [G]) rfl rfl rfl rfl ⟨?_, rfl⟩ rfl
      rw [← h3, List.drop_eq_nil_of_le (by omega)]; rfl)
   | (rw [if_pos (by omega)] at hst
      refine J.ret3 (B := [G]) rfl rfl rfl rfl ⟨by rw [← hst]; rfl, rfl⟩ rfl)
   | (rw [if_neg (by omega)] at hst
      refine J.ret3 (B := [G]) rfl rfl rfl rfl ⟨by rw [← hst, Nat.mod_eq_of_lt hw]; rfl, rfl⟩ rfl)

theorem slr_part {D : List Assn} {b off n c k m : Nat} {xs : List Value} (h : ReadsN D b off xs) (hl : xs.length = n) (hk : k + m ≤ n) (hc : n ≤ c) :
    ∃ (o2 : Option Addr) (d2 : Nat), SlR D 1 (.slice o2 m d2) ((xs.drop k).take m) ∧ Value.slice (some ⟨b, off + (if c = k then 0 else k) * 1, none⟩) (k + m - k) (c - k) = .slice o2 m d2 := by
  refine ⟨_, _, ?_, by rw [Nat.add_sub_cancel_left]⟩
  by_cases e : m = 0
  · subst e
    exact .inl ⟨_, c - k, rfl, rfl⟩
  · rw [if_neg (by omega), Nat.mul_one]
    refine .inr ⟨b, off + k, m, c - k, rfl, by rw [List.length_take, List.length_drop]; omega, fun j u hu => ?_⟩
    have hj : j < m := by
      have := (List.getElem?_eq_some_iff.1 hu).1
      rw [List.length_take] at this; omega
    rw [List.getElem?_take_of_lt hj, List.getElem?_drop] at hu
    have := h (k + j) u hu
    rwa [← Nat.add_assoc] at this
theorem bytesV_part (bs : List UInt8) (k m : Nat) : bytesV ((bs.drop k).take m) = ((bytesV bs).drop k).take m := by simp [bytesV]

theorem readBytes_spec (G : Assn) (p : Option Addr) (c : Nat) (bs : List UInt8) (most : Nat) (hr : SlR [G] 1 (.slice p bs.length c) (bytesV bs)) (hn : bs.length ≤ 1099511627776) (hm : most ≤ 1099511627776) (hc : bs.length ≤ c) :
    FSpec Tryz.prog 68 [.slice p bs.length c, .int .i64 most] [G] (fun u B => ∃ q d, u = .tuple #[.slice q (rdB bs most).1.length d, .int .i64 (rdB bs most).2.1, .int .i64 (rdB bs most).2.2] ∧ B = [own 5 1 (.slice q (rdB bs most).1.length d) (bytesV (rdB bs most).1), G]) := by
  have hbd := rdN_bd bs
  refine FSpec.of Tryz.func68 rfl Tryz.ntmps68 rfl fun W0 F => ?_
  refine J.seq <| J.region <| J.p rfl (Q.asg rfl) <| J.p rfl (Q.asg rfl) <| J.p rfl (Q.asg rfl) <| J.nil <| J.then_n <| J.seq <| J.region <| J.m rfl ?_
  refine J.callI Tryz.call67 (readNumber_spec G p bs.length c bs hr hn) rfl rfl rfl ?_
  rintro _ _ ⟨rfl, rfl⟩
  refine J.norm rfl <| J.m rfl <| J.p rfl (Q.ext rfl rfl) <| J.p rfl (Q.ext rfl rfl) <| J.p rfl (Q.ext rfl rfl) <| J.p rfl (Q.asg rfl) <| J.p rfl (Q.asg rfl) <| J.p rfl (Q.asg rfl) <| J.nil <| J.then_n <| J.seq <| J.block <| J.seq <| J.region <| J.m rfl <| J.p rfl (Q.neq rfl rfl) <| J.p rfl (Q.asg rfl) <| J.nil <| J.then_n ?_
  refine J.cases 17 rfl (fun hc17 => ?_) (fun hc17 => ?_)
  ·
   replace hc17 := X.nm hc17
   try (first | (cases hc17; done) | (exfalso; simp at hc17; done))
   all_goals
    refine J.cond_t rfl <| J.seq <| J.region <| J.m rfl <| J.p rfl (Q.asg rfl) <| J.p rfl (Q.asg rfl) <| J.p rfl (Q.asg rfl) <| J.nil <| J.then_n <| J.cret <| J.blk_r <| J.then_r ?_
    have he : (rdN bs).2.2 ≠ 0 := by omega
    have e : rdB bs most = ([], 0, (rdN bs).2.2) := by unfold rdB; rw [if_pos he]
    rw [e]
    refine J.give (X := own 5 1 (.slice none 0 0) (bytesV [])) (own.nil _ _ _) ?_
    refine J.keepI ([own 5 1 (.slice none 0 0) (bytesV []), G] ++ [F]) ?_
    refine J.ret3 (B := [own 5 1 (.slice none 0 0) (bytesV []), G]) rfl rfl rfl rfl ⟨none, 0, rfl, rfl⟩ rfl
  replace hc17 := X.nm hc17
  try (first | (cases hc17; done) | (exfalso; simp at hc17; done))
  all_goals
   refine J.cond_f rfl <| J.seq <| J.region <| J.m rfl <| J.m rfl <| J.p rfl (Q.maxI rfl) ?_
   refine J.slot 24 (.int .i64 (most : Int)) rfl (by rw [show (if (0 : Int) > (most : Int) then (0 : Int) else most) = most from if_neg (by omega)]) ?_
   refine J.p rfl (Q.conv Tryz.runUnderlying3 Tryz.runUnderlying40 rfl) ?_
   refine J.slot 25 (.int .u64 (most : Int)) rfl (by rw [wrap64 (by omega)]) ?_
   refine J.p rfl (Q.gtr rfl rfl) <| J.p rfl (Q.asg rfl) <| J.nil <| J.then_n ?_
   refine J.cases 21 rfl (fun hc21 => ?_) (fun hc21 => ?_)
   ·
    replace hc21 := X.nm hc21
    try (first | (cases hc21; done) | (exfalso; simp at hc21; done))
    all_goals
     refine J.cond_t rfl <| J.seq <| J.region <| J.p rfl (Q.asg rfl) <| J.p rfl (Q.asg rfl) <| J.p rfl (Q.asg rfl) <| J.nil <| J.then_n <| J.cret <| J.blk_r <| J.then_r ?_
     have he : ¬ (rdN bs).2.2 ≠ 0 := by omega
     have e : rdB bs most = ([], 0, 3) := by unfold rdB; rw [if_neg he, if_pos (by omega)]
     rw [e]
     refine J.give (X := own 5 1 (.slice none 0 0) (bytesV [])) (own.nil _ _ _) ?_
     refine J.keepI ([own 5 1 (.slice none 0 0) (bytesV []), G] ++ [F]) ?_
     refine J.ret3 (B := [own 5 1 (.slice none 0 0) (bytesV []), G]) rfl rfl rfl rfl ⟨none, 0, rfl, rfl⟩ rfl
   replace hc21 := X.nm hc21
   try (first | (cases hc21; done) | (exfalso; simp at hc21; done))
   all_goals
    refine J.cond_f rfl <| J.seq <| J.region <| J.m rfl <| J.m rfl <| J.p rfl (Q.lenSl Tryz.runUnderlying42 rfl) <| J.m rfl <| J.p rfl (Q.sub64 rfl rfl (by omega)) <| J.p rfl (Q.conv Tryz.runUnderlying3 Tryz.runUnderlying40 rfl) ?_
    refine J.slot 33 (.int .u64 ((bs.length - (rdN bs).2.1 : Nat) : Int)) rfl (by
      rw [show (bs.length : Int) - ((rdN bs).2.1 : Int) = ((bs.length - (rdN bs).2.1 : Nat) : Int) by omega, wrap64 (by omega)]) ?_
    refine J.p rfl (Q.gtr rfl rfl) <| J.p rfl (Q.asg rfl) <| J.nil <| J.then_n ?_
    refine J.cases 27 rfl (fun hc27 => ?_) (fun hc27 => ?_)
    ·
     replace hc27 := X.nm hc27
     try (first | (cases hc27; done) | (exfalso; simp at hc27; done))
     all_goals
      refine J.cond_t rfl <| J.seq <| J.region <| J.p rfl (Q.asg rfl) <| J.p rfl (Q.asg rfl) <| J.p rfl (Q.asg rfl) <| J.nil <| J.then_n <| J.cret <| J.blk_r <| J.then_r ?_
      have he : ¬ (rdN bs).2.2 ≠ 0 := by omega
      have e : rdB bs most = ([], 0, 11) := by unfold rdB; rw [if_neg he, if_neg (by omega), if_pos (by omega)]
      rw [e]
      refine J.give (X := own 5 1 (.slice none 0 0) (bytesV [])) (own.nil _ _ _) ?_
      refine J.keepI ([own 5 1 (.slice none 0 0) (bytesV []), G] ++ [F]) ?_
      refine J.ret3 (B := [own 5 1 (.slice none 0 0) (bytesV []), G]) rfl rfl rfl rfl ⟨none, 0, rfl, rfl⟩ rfl
    replace hc27 := X.nm hc27
    try (first | (cases hc27; done) | (exfalso; simp at hc27; done))
    all_goals
     refine J.cond_f rfl <| J.cskip <| J.blk_n <| J.then_n <| J.seq ?_
     have he : ¬ (rdN bs).2.2 ≠ 0 := by omega
     have e : rdB bs most = ((bs.drop (rdN bs).2.1).take (rdN bs).1, (rdN bs).2.1 + (rdN bs).1, 0) := by unfold rdB; rw [if_neg he, if_neg (by omega), if_neg (by omega)]
     have h1 : 1 ≤ (rdN bs).2.1 := hbd.2.2 (by omega)
     have hlen : ((bs.drop (rdN bs).2.1).take (rdN bs).1).length = (rdN bs).1 := by rw [List.length_take, List.length_drop]; omega
     obtain ⟨b, off, rfl, hrd⟩ := hr.some_ (by omega)
     refine J.region <| J.m rfl <| J.m rfl <| J.p rfl (Q.conv64 Tryz.runUnderlying40 Tryz.runUnderlying3 rfl (by omega)) <| J.p rfl (Q.add64 rfl rfl (by omega)) ?_
     refine J.slot 38 (.int .i64 (((rdN bs).2.1 + (rdN bs).1 : Nat) : Int)) rfl (by rw [Int.natCast_add]) ?_
     refine J.p rfl (Q.asg rfl) <| J.nil <| J.then_n <| J.seq <| J.region <| J.m rfl <| J.m rfl <| J.m rfl <| J.p rfl (Q.slLH Tryz.runUnderlying42 Tryz.sizeOf5 rfl rfl rfl (by omega) (by omega) (by omega)) ?_
     obtain ⟨o2, d2, hsl, hval⟩ := slr_part hrd (show (bytesV bs).length = bs.length by simp [bytesV]) (show (rdN bs).2.1 + (rdN bs).1 ≤ bs.length by omega) hc
     refine J.slot 42 (.slice o2 ((bs.drop (rdN bs).2.1).take (rdN bs).1).length d2) rfl (by rw [hlen, ← hval]; simp; omega) ?_
     refine J.callI Tryz.call82 (clone_spec G o2 d2 ((bs.drop (rdN bs).2.1).take (rdN bs).1) (by rw [hlen, bytesV_part]; exact hsl) (by omega)) rfl rfl rfl ?_
     rintro _ _ ⟨q, d, rfl, rfl⟩
     refine J.norm rfl <| J.m rfl <| J.p rfl (Q.asg rfl) <| J.p rfl (Q.asg rfl) <| J.p rfl (Q.asg rfl) <| J.nil <| J.then_n <| J.cret ?_
     rw [e]
     refine J.keepI ([own 5 1 (.slice q ((bs.drop (rdN bs).2.1).take (rdN bs).1).length d) (bytesV ((bs.drop (rdN bs).2.1).take (rdN bs).1)), G] ++ [F]) ?_
     refine J.ret3 (B := [own 5 1 (.slice q ((bs.drop (rdN bs).2.1).take (rdN bs).1).length d) (bytesV ((bs.drop (rdN bs).2.1).take (rdN bs).1)), G]) rfl rfl rfl rfl ⟨q, d, rfl, rfl⟩ rfl
end Go.Proofs.YtidbcaimgahllaaGreat
namespace Go.Proofs.YtidbcaimgahllaaGreat
set_option linter.unusedSectionVars false
set_option linter.unusedSimpArgs false
set_option linter.unusedVariables false
open Go.X

structure SlP (G : Assn) (p : Option Addr) (c : Nat) (bs : List UInt8) : Prop where
  sl : SlR [G] 1 (.slice p bs.length c) (bytesV bs)
  n : bs.length ≤ 1099511627776
  c : bs.length ≤ c
abbrev rdA (r : Nat) (p : Option Addr) (c : Nat) (s : RS) : Assn := pt r (.cells [Value.slice p s.b.length c, .bool s.bad].toArray 116 (0, 0))

section
variable (G : Assn) (r : Nat) (p : Option Addr) (c : Nat) (s : RS) (hs : SlP G p c s.b)
include hs
theorem rnumber_spec : FSpec Tryz.prog 41 [.pointer (some ⟨r, 0, none⟩)] [rdA r p c s, G] (fun u B => ∃ p' c', u = .int .u64 s.num.1 ∧ SlP G p' c' s.num.2.b ∧ B = [rdA r p' c' s.num.2, G]) := by
  have hbd := rdN_bd s.b
  have hn := hs.n
  have hc := hs.c
  have hnum : s.num.2.b = s.b.drop (rdN s.b).2.1 := rfl
  obtain ⟨p', c', hsl, hc', hq⟩ := slr_tail Tryz.runUnderlying42 Tryz.sizeOf5 hs.sl (j := (rdN s.b).2.1) hbd.2.1 hs.c
  have hl2 : s.num.2.b.length = s.b.length - (rdN s.b).2.1 := by rw [hnum, List.length_drop]
  have hsp : SlP G p' c' s.num.2.b := ⟨by rw [hl2, hnum, show bytesV (s.b.drop (rdN s.b).2.1) = (bytesV s.b).drop (rdN s.b).2.1 by simp [bytesV]]; exact hsl, by omega, by omega⟩
  refine FSpec.of Tryz.func41 rfl Tryz.ntmps41 rfl fun W0 F => ?_
  refine J.seq <| J.region <| J.p rfl (Q.asg rfl) <| J.nil <| J.then_n <| J.seq <| J.region <| J.m rfl <| J.p rfl (Q.nil_ rfl) <| J.p rfl (Q.fa (n := 0) Tryz.runUnderlying116 rfl rfl Tryz.sizeOf42 rfl) ?_
  refine J.p rfl (Q.ld Tryz.isAgg42 rfl (rdI (by exact rfl))) ?_
  refine J.callI Tryz.call67 (readNumber_spec G p s.b.length c s.b hs.sl hn) rfl rfl rfl ?_
  rintro _ _ ⟨rfl, rfl⟩
  refine J.norm rfl <| J.m rfl <| J.p rfl (Q.ext rfl rfl) <| J.p rfl (Q.ext rfl rfl) <| J.p rfl (Q.ext rfl rfl) <| J.p rfl (Q.asg rfl) <| J.p rfl (Q.asg rfl) <| J.p rfl (Q.asg rfl) <| J.nil <| J.then_n <| J.seq <| J.region <| J.m rfl <| J.m rfl <| J.p rfl (Q.nil_ rfl) <| J.p rfl (Q.fa (n := 1) Tryz.runUnderlying116 rfl rfl Tryz.sizeOf4 rfl) ?_
  refine J.p rfl (Q.ld Tryz.isAgg4 rfl (rdI (by exact rfl))) ?_
  refine J.m rfl ?_
  refine J.cases 20 rfl (fun hb20 => ?_) (fun hb20 => ?_)
  ·
   replace hb20 := X.nm hb20
   try (first | (cases hb20; done) | (exfalso; simp at hb20; done))
   all_goals
    refine J.skip rfl rfl <| J.skip rfl rfl <| J.p rfl (Q.pick_t rfl rfl) <| J.p rfl (Q.nil_ rfl) <| J.p rfl (Q.fa (n := 1) Tryz.runUnderlying116 rfl rfl Tryz.sizeOf4 rfl) ?_
    refine J.stI rfl Tryz.sizeOf4 rfl rfl rfl (by exact rfl) (by exact rfl) (by exact rfl) ?_
    refine J.nil <| J.then_n <| J.seq <| J.region <| J.m rfl <| J.m rfl <| J.p rfl (Q.nil_ rfl) <| J.p rfl (Q.fa (n := 0) Tryz.runUnderlying116 rfl rfl Tryz.sizeOf42 rfl) ?_
    refine J.p rfl (Q.ld Tryz.isAgg42 rfl (rdI (by exact rfl))) ?_
    refine J.m rfl ?_
    refine J.p rfl (hq rfl rfl) ?_
    refine J.p rfl (Q.nil_ rfl) <| J.p rfl (Q.fa (n := 0) Tryz.runUnderlying116 rfl rfl Tryz.sizeOf42 rfl) ?_
    refine J.stI rfl Tryz.sizeOf42 rfl rfl rfl (by exact rfl) (by exact rfl) (by exact rfl) ?_
    refine J.nil <| J.then_n <| J.seq <| J.region <| J.m rfl <| J.p rfl (Q.asg rfl) <| J.nil <| J.then_n <| J.cret ?_
    have hbad : s.num.2.bad = (s.bad || decide ((rdN s.b).2.2 ≠ 0)) := rfl
    first
     | (have e : s.num.2.bad = true := by rw [hbad, hb20]; rfl
        refine J.convI (pt r (.cells [Value.slice p' (s.b.length - (rdN s.b).2.1) c', .bool true].toArray 116 (0, 0))) (rdA r p' c' s.num.2) (fun _ h => by unfold rdA; rw [hl2, e]; exact h) ?_
        refine J.ret1I [rdA r p' c' s.num.2, G] rfl rfl ⟨p', c', rfl, hsp, rfl⟩)
     | (have e : s.num.2.bad = !decide (((rdN s.b).2.2 : Int) = 0) := by
          rw [hbad, hb20, Bool.false_or, Bool.eq_iff_iff]; simp
        refine J.convI (pt r (.cells [Value.slice p' (s.b.length - (rdN s.b).2.1) c', .bool (!decide (((rdN s.b).2.2 : Int) = 0))].toArray 116 (0, 0))) (rdA r p' c' s.num.2) (fun _ h => by unfold rdA; rw [hl2, e]; exact h) ?_
        refine J.ret1I [rdA r p' c' s.num.2, G] rfl rfl ⟨p', c', rfl, hsp, rfl⟩)
  replace hb20 := X.nm hb20
  try (first | (cases hb20; done) | (exfalso; simp at hb20; done))
  all_goals
   refine J.m rfl <| J.p rfl (Q.neq rfl rfl) <| J.p rfl (Q.pick_f rfl rfl) <| J.p rfl (Q.nil_ rfl) <| J.p rfl (Q.fa (n := 1) Tryz.runUnderlying116 rfl rfl Tryz.sizeOf4 rfl) ?_
   refine J.stI rfl Tryz.sizeOf4 rfl rfl rfl (by exact rfl) (by exact rfl) (by exact rfl) ?_
   refine J.nil <| J.then_n <| J.seq <| J.region <| J.m rfl <| J.m rfl <| J.p rfl (Q.nil_ rfl) <| J.p rfl (Q.fa (n := 0) Tryz.runUnderlying116 rfl rfl Tryz.sizeOf42 rfl) ?_
   refine J.p rfl (Q.ld Tryz.isAgg42 rfl (rdI (by exact rfl))) ?_
   refine J.m rfl ?_
   refine J.p rfl (hq rfl rfl) ?_
   refine J.p rfl (Q.nil_ rfl) <| J.p rfl (Q.fa (n := 0) Tryz.runUnderlying116 rfl rfl Tryz.sizeOf42 rfl) ?_
   refine J.stI rfl Tryz.sizeOf42 rfl rfl rfl (by exact rfl) (by exact rfl) (by exact rfl) ?_
   refine J.nil <| J.then_n <| J.seq <| J.region <| J.m rfl <| J.p rfl (Q.asg rfl) <| J.nil <| J.then_n <| J.cret ?_
   have hbad : s.num.2.bad = (s.bad || decide ((rdN s.b).2.2 ≠ 0)) := rfl
   first
    | (have e : s.num.2.bad = true := by rw [hbad, hb20]; rfl
       refine J.convI (pt r (.cells [Value.slice p' (s.b.length - (rdN s.b).2.1) c', .bool true].toArray 116 (0, 0))) (rdA r p' c' s.num.2) (fun _ h => by unfold rdA; rw [hl2, e]; exact h) ?_
       refine J.ret1I [rdA r p' c' s.num.2, G] rfl rfl ⟨p', c', rfl, hsp, rfl⟩)
    | (have e : s.num.2.bad = !decide (((rdN s.b).2.2 : Int) = 0) := by
         rw [hbad, hb20, Bool.false_or, Bool.eq_iff_iff]; simp
       refine J.convI (pt r (.cells [Value.slice p' (s.b.length - (rdN s.b).2.1) c', .bool (!decide (((rdN s.b).2.2 : Int) = 0))].toArray 116 (0, 0))) (rdA r p' c' s.num.2) (fun _ h => by unfold rdA; rw [hl2, e]; exact h) ?_
       refine J.ret1I [rdA r p' c' s.num.2, G] rfl rfl ⟨p', c', rfl, hsp, rfl⟩)
theorem rint_spec : FSpec Tryz.prog 42 [.pointer (some ⟨r, 0, none⟩)] [rdA r p c s, G] (fun u B => ∃ p' c', u = .int .i64 s.int.1 ∧ SlP G p' c' s.int.2.b ∧ B = [rdA r p' c' s.int.2, G]) := by
  have hbd := s.num_bd
  refine FSpec.of Tryz.func42 rfl Tryz.ntmps42 rfl fun W0 F => ?_
  refine J.seq <| J.region <| J.p rfl (Q.asg rfl) <| J.nil <| J.then_n <| J.seq <| J.region <| J.m rfl ?_
  refine J.callI Tryz.call41 (rnumber_spec G r p c s hs) rfl rfl rfl ?_
  rintro _ _ ⟨p', c', rfl, hs', rfl⟩
  refine J.norm rfl <| J.p rfl (Q.asg rfl) <| J.nil <| J.then_n <| J.seq <| J.seq <| J.region <| J.m rfl <| J.p rfl (Q.gtr rfl rfl) <| J.nil <| J.then_n ?_
  refine J.cases 7 rfl (fun hc7 => ?_) (fun hc7 => ?_)
  ·
   replace hc7 := X.nm hc7
   refine J.cond_t rfl <| J.seq <| J.region <| J.m rfl <| J.p rfl (Q.nil_ rfl) <| J.p rfl (Q.fa (n := 1) Tryz.runUnderlying116 rfl rfl Tryz.sizeOf4 rfl) ?_
   refine J.stI rfl Tryz.sizeOf4 rfl rfl rfl (by exact rfl) (by exact rfl) (by exact rfl) ?_
   refine J.nil <| J.then_n <| J.seq <| J.region <| J.p rfl (Q.asg rfl) <| J.nil <| J.then_n <| J.cret <| J.then_r ?_
   have e : s.int = (0, ⟨s.num.2.b, true⟩) := by unfold RS.int; rw [if_pos (by omega)]
   refine J.convI (pt r (.cells [Value.slice p' s.num.2.b.length c', .bool true].toArray 116 (0, 0))) (rdA r p' c' s.int.2) (fun _ h => by rw [e]; exact h) ?_
   refine J.ret1I [rdA r p' c' s.int.2, G] rfl rfl ⟨p', c', by rw [e]; rfl, by rw [e]; exact hs', rfl⟩
  replace hc7 := X.nm hc7
  refine J.cond_f rfl <| J.cskip <| J.then_n <| J.seq <| J.region <| J.m rfl <| J.p rfl (Q.conv64 Tryz.runUnderlying40 Tryz.runUnderlying3 rfl (by omega)) <| J.p rfl (Q.asg rfl) <| J.nil <| J.then_n <| J.cret ?_
  have e : s.int = s.num := by unfold RS.int; rw [if_neg (by omega)]
  rw [← e]
  refine J.ret1I [rdA r p' c' s.int.2, G] rfl rfl ⟨p', c', by rw [e], by rw [e]; exact hs', rfl⟩
theorem rbytes_spec : FSpec Tryz.prog 45 [.pointer (some ⟨r, 0, none⟩)] [rdA r p c s, G] (fun u B => ∃ p' c' q d, u = .slice q s.bytes.1.length d ∧ SlP G p' c' s.bytes.2.b ∧ B = [rdA r p' c' s.bytes.2, own 5 1 (.slice q s.bytes.1.length d) (bytesV s.bytes.1), G]) := by
  have hbd := rdB_bd s.b s.b.length
  have hn := hs.n
  have hc := hs.c
  have hnum : s.bytes.2.b = s.b.drop (rdB s.b s.b.length).2.1 := rfl
  obtain ⟨p', c', hsl, hc', hq⟩ := slr_tail Tryz.runUnderlying42 Tryz.sizeOf5 hs.sl (j := (rdB s.b s.b.length).2.1) hbd.2 hs.c
  have hl2 : s.bytes.2.b.length = s.b.length - (rdB s.b s.b.length).2.1 := by rw [hnum, List.length_drop]
  have hsp : SlP G p' c' s.bytes.2.b := ⟨by rw [hl2, hnum, show bytesV (s.b.drop (rdB s.b s.b.length).2.1) = (bytesV s.b).drop (rdB s.b s.b.length).2.1 by simp [bytesV]]; exact hsl, by omega, by omega⟩
  refine FSpec.of Tryz.func45 rfl Tryz.ntmps45 rfl fun W0 F => ?_
  refine J.seq <| J.region <| J.p rfl (Q.asg rfl) <| J.nil <| J.then_n <| J.seq ?_
  refine J.draw [9, 14, 15, 16] Tryz.mixed (by kernel_rfl) fun hR => ?_
  refine RG.p 0 hR rfl (Q.mv rfl) <| RG.p 1 hR rfl (Q.nil_ rfl) <| RG.p 2 hR rfl (Q.fa (n := 0) Tryz.runUnderlying116 rfl rfl Tryz.sizeOf42 rfl) ?_
  refine RG.p 3 hR rfl (Q.ld Tryz.isAgg42 rfl (rdI (by exact rfl))) ?_
  refine RG.p 4 hR rfl (Q.mv rfl) <| RG.p 5 hR rfl (Q.nil_ rfl) <| RG.p 6 hR rfl (Q.fa (n := 0) Tryz.runUnderlying116 rfl rfl Tryz.sizeOf42 rfl) ?_
  refine RG.p 7 hR rfl (Q.ld Tryz.isAgg42 rfl (rdI (by exact rfl))) ?_
  refine RG.p 8 hR rfl (Q.lenSl Tryz.runUnderlying42 rfl) ?_
  refine RG.callI 9 hR rfl rfl rfl rfl rfl rfl Tryz.call68 (readBytes_spec G p c s.b s.b.length hs.sl hn hn hc) rfl ?_
  rintro _ _ ⟨q, d, rfl, rfl⟩
  refine RG.norm rfl <| RG.p 10 hR rfl (Q.mv rfl) <| RG.p 11 hR rfl (Q.ext rfl rfl) <| RG.p 12 hR rfl (Q.ext rfl rfl) <| RG.p 13 hR rfl (Q.ext rfl rfl) ?_
  refine RG.keep 14 hR rfl rfl rfl rfl rfl (Q.asg rfl) ?_
  refine RG.keep 15 hR rfl rfl rfl rfl rfl (Q.asg rfl) ?_
  refine RG.bar 16 hR rfl rfl rfl rfl rfl rfl (Q.asg rfl).toC ?_
  rintro _ _ ⟨rfl, rfl⟩
  refine RG.norm rfl ?_
  refine RG.fin hR rfl ?_
  refine J.norm rfl <| J.then_n <| J.seq <| J.region <| J.m rfl <| J.m rfl <| J.p rfl (Q.nil_ rfl) <| J.p rfl (Q.fa (n := 1) Tryz.runUnderlying116 rfl rfl Tryz.sizeOf4 rfl) ?_
  refine J.p rfl (Q.ld Tryz.isAgg4 rfl (rdI (by exact rfl))) ?_
  refine J.m rfl ?_
  refine J.cases 25 rfl (fun hb25 => ?_) (fun hb25 => ?_)
  ·
   replace hb25 := X.nm hb25
   try (first | (cases hb25; done) | (exfalso; simp at hb25; done))
   all_goals
    refine J.skip rfl rfl <| J.skip rfl rfl <| J.p rfl (Q.pick_t rfl rfl) <| J.p rfl (Q.nil_ rfl) <| J.p rfl (Q.fa (n := 1) Tryz.runUnderlying116 rfl rfl Tryz.sizeOf4 rfl) ?_
    refine J.stI rfl Tryz.sizeOf4 rfl rfl rfl (by exact rfl) (by exact rfl) (by exact rfl) ?_
    refine J.nil <| J.then_n <| J.seq <| J.region <| J.m rfl <| J.m rfl <| J.p rfl (Q.nil_ rfl) <| J.p rfl (Q.fa (n := 0) Tryz.runUnderlying116 rfl rfl Tryz.sizeOf42 rfl) ?_
    refine J.p rfl (Q.ld Tryz.isAgg42 rfl (rdI (by exact rfl))) ?_
    refine J.m rfl ?_
    refine J.p rfl (hq rfl rfl) ?_
    refine J.p rfl (Q.nil_ rfl) <| J.p rfl (Q.fa (n := 0) Tryz.runUnderlying116 rfl rfl Tryz.sizeOf42 rfl) ?_
    refine J.stI rfl Tryz.sizeOf42 rfl rfl rfl (by exact rfl) (by exact rfl) (by exact rfl) ?_
    refine J.nil <| J.then_n <| J.seq <| J.region <| J.m rfl <| J.p rfl (Q.asg rfl) <| J.nil <| J.then_n <| J.cret ?_
    have hbad : s.bytes.2.bad = (s.bad || decide ((rdB s.b s.b.length).2.2 ≠ 0)) := rfl
    first
     | (have e : s.bytes.2.bad = true := by rw [hbad, hb25]; rfl
        refine J.convI (pt r (.cells [Value.slice p' (s.b.length - (rdB s.b s.b.length).2.1) c', .bool true].toArray 116 (0, 0))) (rdA r p' c' s.bytes.2) (fun _ h => by unfold rdA; rw [hl2, e]; exact h) ?_
        refine J.ret1I [rdA r p' c' s.bytes.2, own 5 1 (.slice q (rdB s.b s.b.length).1.length d) (bytesV (rdB s.b s.b.length).1), G] rfl rfl ⟨p', c', q, d, rfl, hsp, rfl⟩)
     | (have e : s.bytes.2.bad = !decide (((rdB s.b s.b.length).2.2 : Int) = 0) := by
          rw [hbad, hb25, Bool.false_or, Bool.eq_iff_iff]; simp
        refine J.convI (pt r (.cells [Value.slice p' (s.b.length - (rdB s.b s.b.length).2.1) c', .bool (!decide (((rdB s.b s.b.length).2.2 : Int) = 0))].toArray 116 (0, 0))) (rdA r p' c' s.bytes.2) (fun _ h => by unfold rdA; rw [hl2, e]; exact h) ?_
        refine J.ret1I [rdA r p' c' s.bytes.2, own 5 1 (.slice q (rdB s.b s.b.length).1.length d) (bytesV (rdB s.b s.b.length).1), G] rfl rfl ⟨p', c', q, d, rfl, hsp, rfl⟩)
  replace hb25 := X.nm hb25
  try (first | (cases hb25; done) | (exfalso; simp at hb25; done))
  all_goals
   refine J.m rfl <| J.p rfl (Q.neq rfl rfl) <| J.p rfl (Q.pick_f rfl rfl) <| J.p rfl (Q.nil_ rfl) <| J.p rfl (Q.fa (n := 1) Tryz.runUnderlying116 rfl rfl Tryz.sizeOf4 rfl) ?_
   refine J.stI rfl Tryz.sizeOf4 rfl rfl rfl (by exact rfl) (by exact rfl) (by exact rfl) ?_
   refine J.nil <| J.then_n <| J.seq <| J.region <| J.m rfl <| J.m rfl <| J.p rfl (Q.nil_ rfl) <| J.p rfl (Q.fa (n := 0) Tryz.runUnderlying116 rfl rfl Tryz.sizeOf42 rfl) ?_
   refine J.p rfl (Q.ld Tryz.isAgg42 rfl (rdI (by exact rfl))) ?_
   refine J.m rfl ?_
   refine J.p rfl (hq rfl rfl) ?_
   refine J.p rfl (Q.nil_ rfl) <| J.p rfl (Q.fa (n := 0) Tryz.runUnderlying116 rfl rfl Tryz.sizeOf42 rfl) ?_
   refine J.stI rfl Tryz.sizeOf42 rfl rfl rfl (by exact rfl) (by exact rfl) (by exact rfl) ?_
   refine J.nil <| J.then_n <| J.seq <| J.region <| J.m rfl <| J.p rfl (Q.asg rfl) <| J.nil <| J.then_n <| J.cret ?_
   have hbad : s.bytes.2.bad = (s.bad || decide ((rdB s.b s.b.length).2.2 ≠ 0)) := rfl
   first
    | (have e : s.bytes.2.bad = true := by rw [hbad, hb25]; rfl
       refine J.convI (pt r (.cells [Value.slice p' (s.b.length - (rdB s.b s.b.length).2.1) c', .bool true].toArray 116 (0, 0))) (rdA r p' c' s.bytes.2) (fun _ h => by unfold rdA; rw [hl2, e]; exact h) ?_
       refine J.ret1I [rdA r p' c' s.bytes.2, own 5 1 (.slice q (rdB s.b s.b.length).1.length d) (bytesV (rdB s.b s.b.length).1), G] rfl rfl ⟨p', c', q, d, rfl, hsp, rfl⟩)
    | (have e : s.bytes.2.bad = !decide (((rdB s.b s.b.length).2.2 : Int) = 0) := by
         rw [hbad, hb25, Bool.false_or, Bool.eq_iff_iff]; simp
       refine J.convI (pt r (.cells [Value.slice p' (s.b.length - (rdB s.b s.b.length).2.1) c', .bool (!decide (((rdB s.b s.b.length).2.2 : Int) = 0))].toArray 116 (0, 0))) (rdA r p' c' s.bytes.2) (fun _ h => by unfold rdA; rw [hl2, e]; exact h) ?_
       refine J.ret1I [rdA r p' c' s.bytes.2, own 5 1 (.slice q (rdB s.b s.b.length).1.length d) (bytesV (rdB s.b s.b.length).1), G] rfl rfl ⟨p', c', q, d, rfl, hsp, rfl⟩)
theorem rtext_spec : FSpec Tryz.prog 43 [.pointer (some ⟨r, 0, none⟩)] [rdA r p c s, G] (fun u B => ∃ p' c', u = .string s.text.1 ∧ SlP G p' c' s.text.2.b ∧ B = [rdA r p' c' s.text.2, G]) := by
  refine FSpec.of Tryz.func43 rfl Tryz.ntmps43 rfl fun W0 F => ?_
  refine J.seq <| J.region <| J.p rfl (Q.asg rfl) <| J.nil <| J.then_n <| J.seq <| J.region <| J.m rfl ?_
  refine J.callI Tryz.call45 (rbytes_spec G r p c s hs) rfl rfl rfl ?_
  rintro _ _ ⟨p', c', q, d, rfl, hs', rfl⟩
  refine J.norm rfl ?_
  refine J.slrI (E0 := 5) (sz := 1) (p := q) (n := s.bytes.1.length) (c := d) (xs := bytesV s.bytes.1) fun hsq => ?_
  refine J.p rfl (Q.b2s Tryz.runUnderlying42 Tryz.runUnderlying9 Tryz.runUnderlying5 rfl hsq.inI) <| J.p rfl (Q.asg rfl) <| J.nil <| J.then_n <| J.cret ?_
  refine J.ret1I [rdA r p' c' s.bytes.2, G] rfl rfl ⟨p', c', rfl, hs', rfl⟩
theorem rints_spec : FSpec Tryz.prog 44 [.pointer (some ⟨r, 0, none⟩)] [rdA r p c s, G] (fun u B => ∃ p' c' q d, u = .slice q s.ints.1.length d ∧ SlP G p' c' s.ints.2.b ∧ B = [rdA r p' c' s.ints.2, own 3 1 (.slice q s.ints.1.length d) (s.ints.1.map fun v : Nat => Value.int .i64 (v : Int)), G]) := by
  have hn := hs.n
  have hc := hs.c
  have hil := s.int_len
  have hib := s.int_bd
  refine FSpec.of Tryz.func44 rfl Tryz.ntmps44 rfl fun W0 F => ?_
  refine J.seq <| J.region <| J.p rfl (Q.asg rfl) <| J.nil <| J.then_n <| J.seq <| J.region <| J.p rfl (Q.asg rfl) <| J.nil <| J.then_n <| J.seq <| J.seq <| J.region <| J.m rfl ?_
  refine J.callI Tryz.call42 (rint_spec G r p c s hs) rfl rfl rfl ?_
  rintro _ _ ⟨p1, c1, rfl, hs1, rfl⟩
  refine J.norm rfl <| J.p rfl (Q.asg rfl) <| J.nil <| J.then_n <| J.block ?_
  refine J.give (own.nil 3 1 _) ?_
  refine J.loop (fun z : Nat × List Nat × RS × (Option Addr × Nat) × (Option Addr × Nat) => z.1 ≤ 1099511627776 ∧ (z.2.1 ++ (RS.intsGo z.1 z.2.2.1).1, (RS.intsGo z.1 z.2.2.1).2) = s.ints ∧ SlP G z.2.2.2.1.1 z.2.2.2.1.2 z.2.2.1.b ∧ z.2.1.length + z.2.2.1.b.length ≤ s.b.length + (if z.2.2.1.bad then 1 else 0)) (fun z => z.1)
   (fun z => [(0, .pointer (some ⟨r, 0, none⟩)), (3, .slice z.2.2.2.2.1 z.2.1.length z.2.2.2.2.2), (4, .int .i64 z.1)])
   (fun z => [own 3 1 (.slice z.2.2.2.2.1 z.2.1.length z.2.2.2.2.2) (z.2.1.map fun v : Nat => Value.int .i64 (v : Int)), rdA r z.2.2.2.1.1 z.2.2.2.1.2 z.2.2.1, G, F]) (s.int.1, [], s.int.2, (p1, c1), (none, 0)) ⟨hib, rfl, hs1, by show 0 + s.int.2.b.length ≤ _; omega⟩ ⟨rfl, rfl, rfl, trivial⟩ rfl fun z hz => ?_
  obtain ⟨k, out, t, ⟨p', c'⟩, ⟨q, d⟩⟩ := z
  obtain ⟨h1, h2, hsp, h4⟩ := hz
  dsimp only at h1 h2 hsp h4
  refine J.seq <| J.seq <| J.region <| J.m rfl <| J.p rfl (Q.gtr rfl rfl) <| J.m rfl ?_
  refine J.cases 9 rfl (fun hb9 => ?_) (fun hb9 => ?_)
  ·
   replace hb9 := X.nm hb9
   try (first | (cases hb9; done) | (exfalso; simp at hb9; done))
   all_goals
    refine J.m rfl <| J.p rfl (Q.nil_ rfl) <| J.p rfl (Q.fa (n := 1) Tryz.runUnderlying116 rfl rfl Tryz.sizeOf4 rfl) ?_
    refine J.p rfl (Q.ld Tryz.isAgg4 rfl (rdI (by exact rfl))) ?_
    refine J.p rfl (Q.not rfl) <| J.p rfl (Q.pick_t rfl rfl) <| J.nil <| J.then_n ?_
    refine J.cases 15 rfl (fun hc15 => ?_) (fun hc15 => ?_)
    ·
     replace hc15 := X.nm hc15
     try (first | (cases hc15; done) | (exfalso; simp at hc15; done))
     all_goals
      refine J.cond_t rfl <| J.cskip <| J.then_n <| J.seq <| J.block ?_
      have hbad : t.bad = false := by simpa using hc15
      obtain ⟨k', rfl⟩ : ∃ k', k = k' + 1 := ⟨k - 1, by omega⟩
      simp only [RS.intsGo, hbad, Bool.false_eq_true, if_false] at h2 h4
      have hl1 := t.int_len
      have hl2 := t.int_less
      have hob : out.length ≤ 1099511627776 := by omega
      refine J.region <| J.m rfl <| J.m rfl ?_
      refine J.callI Tryz.call42 (rint_spec G r p' c' t hsp) rfl rfl rfl ?_
      rintro _ _ ⟨p2, c2, rfl, hsp2, rfl⟩
      refine J.norm rfl ?_
      refine J.c rfl rfl (C.bslG (l := [_]) Tryz.runUnderlying50 Tryz.sizeOf3 Tryz.zeroValue3 (by decide) rfl rfl rfl rfl rfl) ?_
      rintro _ _ ⟨b21, rfl, rfl⟩
      refine J.norm rfl ?_
      refine J.c rfl rfl (C.appI Tryz.runUnderlying50 Tryz.runUnderlying50 Tryz.typeInfo3 Tryz.sizeOf3 Tryz.zeroValue3 rfl rfl (SlR.ptI rfl) (by simp [oneC]) (by simp [Tryz.t3] <;> omega) (by decide)) ?_
      rintro _ _ ⟨p22, c22, rfl, rfl⟩
      refine J.norm rfl <| J.p rfl (Q.asg rfl) <| J.nil <| J.blk_n <| J.then_n <| J.region <| J.m rfl <| J.p rfl (Q.sub64 rfl rfl (by omega)) ?_
      refine J.slot 17 (.int .i64 (k' : Int)) rfl (by congr 1; omega) ?_
      refine J.p rfl (Q.asg rfl) <| J.nil ?_
      have e2 : out.length + 1 = (out ++ [t.int.1]).length := by simp
      have e3 : (out.map fun v : Nat => Value.int .i64 (v : Int)) ++ [Value.int .i64 (t.int.1 : Int)] = (out ++ [t.int.1]).map fun v : Nat => Value.int .i64 (v : Int) := by simp
      rw [e2, e3]
      refine J.againI (k', out ++ [t.int.1], t.int.2, (p2, c2), (p22, c22)) ⟨by show k' ≤ _; omega, by rw [← h2]; simp, hsp2, ?_⟩ (Nat.lt_succ_self _) ⟨rfl, rfl, rfl, trivial⟩
      show (out ++ [t.int.1]).length + t.int.2.b.length ≤ _
      rw [← e2]
      split
      · omega
      · rename_i hx; have := hl2 (by simpa using hx); omega
    replace hc15 := X.nm hc15
    try (first | (cases hc15; done) | (exfalso; simp at hc15; done))
    all_goals
     refine J.cond_f rfl <| J.exit <| J.then_x <| J.lp_x <| J.blk_x <| J.then_n <| J.seq <| J.region <| J.m rfl <| J.p rfl (Q.asg rfl) <| J.nil <| J.then_n <| J.cret ?_
     have hkb : k = 0 ∨ t.bad = true := by
      first
       | exact Or.inl (by omega)
       | exact Or.inr (by simpa using hc15)
     have e : RS.intsGo k t = ([], t) := by
      cases k with
      | zero => rfl
      | succ k =>
       have hb : t.bad = true := hkb.resolve_left (by omega)
       simp [RS.intsGo, hb]
     rw [e, List.append_nil] at h2
     rw [← h2]
     refine J.ret1I [rdA r p' c' t, own 3 1 (.slice q out.length d) (out.map fun v : Nat => Value.int .i64 (v : Int)), G] rfl rfl ⟨p', c', q, d, rfl, hsp, rfl⟩
  replace hb9 := X.nm hb9
  try (first | (cases hb9; done) | (exfalso; simp at hb9; done))
  all_goals
   refine J.skip rfl rfl <| J.skip rfl rfl <| J.skip rfl rfl <| J.skip rfl rfl <| J.skip rfl rfl <| J.p rfl (Q.pick_f rfl rfl) <| J.nil <| J.then_n <| J.cond_f rfl <| J.exit <| J.then_x <| J.lp_x <| J.blk_x <| J.then_n <| J.seq <| J.region <| J.m rfl <| J.p rfl (Q.asg rfl) <| J.nil <| J.then_n <| J.cret ?_
   have hkb : k = 0 ∨ t.bad = true := by
    first
     | exact Or.inl (by omega)
     | exact Or.inr (by simpa using hc15)
   have e : RS.intsGo k t = ([], t) := by
    cases k with
    | zero => rfl
    | succ k =>
     have hb : t.bad = true := hkb.resolve_left (by omega)
     simp [RS.intsGo, hb]
   rw [e, List.append_nil] at h2
   rw [← h2]
   refine J.ret1I [rdA r p' c' t, own 3 1 (.slice q out.length d) (out.map fun v : Nat => Value.int .i64 (v : Int)), G] rfl rfl ⟨p', c', q, d, rfl, hsp, rfl⟩
end
end Go.Proofs.YtidbcaimgahllaaGreat
namespace Go.Proofs.YtidbcaimgahllaaGreat
set_option linter.unusedSectionVars false
set_option linter.unusedSimpArgs false
set_option linter.unusedVariables false
open Go.X

abbrev wrA (w : Nat) (p : Option Addr) (c : Nat) (acc : List UInt8) : Assn := pt w (.cells [Value.slice p acc.length c].toArray 108 (0, 0))
abbrev wrO (p : Option Addr) (c : Nat) (acc : List UInt8) : Assn := own 5 1 (.slice p acc.length c) (bytesV acc)

theorem flat_numB : ∀ (vs : List Nat), (∀ v, v ∈ vs → v ≤ 18446744073709551615) → (vs.flatMap numB).length ≤ 10 * vs.length
  | [], _ => by simp
  | v :: vs, h => by
    have := numB_len v (h v (by simp))
    have := flat_numB vs fun u hu => h u (by simp [hu])
    simp only [List.flatMap_cons, List.length_append, List.length_cons]; omega
theorem flat_encB : ∀ (vs : List ByteArray), (∀ v, v ∈ vs → v.size ≤ 1024) → (vs.flatMap fun s => encB s.data.toList).length ≤ 2000 * vs.length
  | [], _ => by simp
  | v :: vs, h => by
    have h1 := h v (by simp)
    have hl : v.data.toList.length = v.size := by simp
    have := numB_len v.data.toList.length (by omega)
    have := flat_encB vs fun u hu => h u (by simp [hu])
    simp only [List.flatMap_cons, List.length_append, List.length_cons, encB] at this ⊢; omega

section
variable (G : Assn) (w : Nat) (p : Option Addr) (c : Nat) (acc : List UInt8)
theorem wnumbers_spec (vp : Option Addr) (vn vc : Nat) (vs : List Nat) (hr : SlR [G] 1 (.slice vp vn vc) (vs.map encU)) (hn : acc.length + 10 * vs.length ≤ 70368744100000) (hv : ∀ v, v ∈ vs → v ≤ 18446744073709551615) :
    FSpec Tryz.prog 36 [.pointer (some ⟨w, 0, none⟩), .slice vp vn vc] [wrA w p c acc, wrO p c acc, G]
    (fun u B => ∃ p' c', u = .tuple #[] ∧ B = [wrA w p' c' (acc ++ vs.flatMap numB), wrO p' c' (acc ++ vs.flatMap numB), G]) := by
  have hlen : vs.length = vn := by have := hr.len; simp at this; omega
  refine FSpec.of Tryz.func36 rfl Tryz.ntmps36 rfl fun W0 F => ?_
  refine J.seq <| J.region <| J.m rfl <| J.p rfl (Q.lenSl Tryz.runUnderlying151 rfl) <| J.m rfl <| J.nil <| J.then_n <| J.block ?_
  refine J.loop3 (fun (i : Nat) (_ : Option Addr) (_ : Nat) => i ≤ vn ∧ ((vs.take i).flatMap numB).length ≤ 10 * i) (fun i _ _ => vn - i) (fun i p c => [(0, .pointer (some ⟨w, 0, none⟩)), (6, .slice vp vn vc), (7, .int .i64 vn), (8, .int .i64 i)]) (fun i p c => [wrA w p c (acc ++ (vs.take i).flatMap numB), wrO p c (acc ++ (vs.take i).flatMap numB), G, F]) 0 p c ⟨Nat.zero_le _, Nat.le_refl _⟩ ⟨rfl, rfl, rfl, rfl, trivial⟩ (by simp) fun i p c hz => ?_
  obtain ⟨hi, hb⟩ := hz
  refine J.seq <| J.region <| J.p rfl (Q.lss rfl rfl) <| J.nil <| J.then_n <| J.seq ?_
  refine J.cases 9 rfl (fun hc9 => ?_) (fun hc9 => ?_)
  ·
   replace hc9 := X.nm hc9
   refine J.cond_t rfl <| J.cskip <| J.then_n <| J.seq <| J.block <| J.seq ?_
   have hil : i < vn := by omega
   obtain ⟨b, off, hvp, hrd⟩ := hr.some_ (by omega)
   obtain ⟨v, hvi⟩ : ∃ v, vs[i]? = some v := ⟨_, List.getElem?_eq_getElem (by omega)⟩
   have hvb := hv v (List.mem_of_getElem? hvi)
   have hnl := numB_len v hvb
   have hft : (vs.take (i + 1)).flatMap numB = (vs.take i).flatMap numB ++ numB v := by
     obtain ⟨h1, h2⟩ := List.getElem?_eq_some_iff.1 hvi
     rw [List.take_succ_eq_append_getElem h1, List.flatMap_append, h2, List.flatMap_cons, List.flatMap_nil, List.append_nil]
   obtain ⟨ac, hac⟩ : ∃ ac, ac = acc ++ (vs.take i).flatMap numB := ⟨_, rfl⟩
   have hal : ac.length ≤ 70368744100000 := by rw [hac, List.length_append]; omega
   rw [← hac]
   refine J.slot 6 (.slice (some ⟨b, off, none⟩) vn vc) rfl (by rw [hvp]) ?_
   refine J.region <| J.p rfl (Q.ia Tryz.runUnderlying151 Tryz.sizeOf40 rfl rfl (by omega) (by omega)) <| J.p rfl (Q.ld Tryz.isAgg40 rfl ((hrd i (encU v) (by simp [hvi])).cast (by simp)).inI) <| J.p rfl (Q.asg rfl) <| J.nil <| J.then_n <| J.region <| J.m rfl <| J.m rfl <| J.p rfl (Q.nil_ rfl) <| J.p rfl (Q.fa (n := 0) Tryz.runUnderlying108 rfl rfl Tryz.sizeOf42 rfl) ?_
   refine J.p rfl (Q.ld Tryz.isAgg42 rfl (rdI (by exact rfl))) ?_
   refine J.m rfl ?_
   refine J.callI Tryz.call65 (number_spec p c ac v hal hvb) rfl rfl rfl ?_
   rintro _ _ ⟨p18, c18, rfl, rfl⟩
   refine J.norm rfl <| J.p rfl (Q.nil_ rfl) <| J.p rfl (Q.fa (n := 0) Tryz.runUnderlying108 rfl rfl Tryz.sizeOf42 rfl) ?_
   refine J.stI rfl Tryz.sizeOf42 rfl rfl rfl (by exact rfl) (by exact rfl) (by exact rfl) ?_
   refine J.nil <| J.blk_n <| J.then_n <| J.region <| J.p rfl (Q.add64 rfl rfl (by omega)) <| J.m rfl <| J.nil ?_
   have e1 : acc ++ (vs.take (i + 1)).flatMap numB = ac ++ numB v := by rw [hft, ← List.append_assoc, hac]
   rw [← e1]
   refine J.againI (i + 1, p18, c18) ⟨by show i + 1 ≤ vn; omega, by show ((vs.take (i + 1)).flatMap numB).length ≤ 10 * (i + 1); rw [hft, List.length_append]; omega⟩ (by show vn - (i + 1) < vn - i; omega) ⟨rfl, (by show _ = some (Value.slice vp vn vc); rw [hvp]; rfl), rfl, rfl, trivial⟩
  replace hc9 := X.nm hc9
  refine J.cond_f rfl <| J.exit <| J.then_x <| J.lp_x <| J.blk_x ?_
  have htk : vs.take i = vs := List.take_of_length_le (by omega)
  rw [htk]
  refine J.end0I [wrA w p c (acc ++ vs.flatMap numB), wrO p c (acc ++ vs.flatMap numB), G] rfl ⟨p, c, rfl, rfl⟩
theorem wbytes_spec (q : Option Addr) (e : Nat) (bs : List UInt8) (hs : SlR [G] 1 (.slice q bs.length e) (bytesV bs)) (hn : acc.length + bs.length ≤ 70368744000000) :
    FSpec Tryz.prog 39 [.pointer (some ⟨w, 0, none⟩), .slice q bs.length e] [wrA w p c acc, wrO p c acc, G]
    (fun u B => ∃ p' c', u = .tuple #[] ∧ B = [wrA w p' c' (acc ++ encB bs), wrO p' c' (acc ++ encB bs), G]) := by
  refine FSpec.of Tryz.func39 rfl Tryz.ntmps39 rfl fun W0 F => ?_
  refine J.region <| J.m rfl <| J.m rfl <| J.p rfl (Q.nil_ rfl) <| J.p rfl (Q.fa (n := 0) Tryz.runUnderlying108 rfl rfl Tryz.sizeOf42 rfl) ?_
  refine J.p rfl (Q.ld Tryz.isAgg42 rfl (rdI (by exact rfl))) ?_
  refine J.m rfl ?_
  refine J.c rfl rfl (C.bslG (l := [_]) Tryz.runUnderlying175 Tryz.sizeOf42 Tryz.zeroValue42 (by decide) rfl rfl rfl rfl rfl) ?_
  rintro _ _ ⟨b10, rfl, rfl⟩
  refine J.norm rfl ?_
  refine J.callI Tryz.call66 (bytes_spec G q e bs hs (by omega) b10 p c acc (by omega)) rfl rfl rfl ?_
  rintro _ _ ⟨p11, c11, rfl, rfl⟩
  refine J.norm rfl <| J.p rfl (Q.nil_ rfl) <| J.p rfl (Q.fa (n := 0) Tryz.runUnderlying108 rfl rfl Tryz.sizeOf42 rfl) ?_
  refine J.stI rfl Tryz.sizeOf42 rfl rfl rfl (by exact rfl) (by exact rfl) (by exact rfl) ?_
  refine J.nil ?_
  refine J.end0I [wrA w p11 c11 (acc ++ encB bs), wrO p11 c11 (acc ++ encB bs), G] rfl ⟨p11, c11, rfl, rfl⟩
theorem wtexts_spec (vp : Option Addr) (vn vc : Nat) (vs : List ByteArray) (hr : SlR [G] 1 (.slice vp vn vc) (vs.map Value.string)) (hn : acc.length + 2000 * vs.length ≤ 70368740000000) (hv : ∀ v, v ∈ vs → v.size ≤ 1024) :
    FSpec Tryz.prog 37 [.pointer (some ⟨w, 0, none⟩), .slice vp vn vc] [wrA w p c acc, wrO p c acc, G]
    (fun u B => ∃ p' c', u = .tuple #[] ∧ B = [wrA w p' c' (acc ++ vs.flatMap fun s => encB s.data.toList), wrO p' c' (acc ++ vs.flatMap fun s => encB s.data.toList), G]) := by
  have hlen : vs.length = vn := by have := hr.len; simp at this; omega
  refine FSpec.of Tryz.func37 rfl Tryz.ntmps37 rfl fun W0 F => ?_
  refine J.seq <| J.region <| J.m rfl <| J.p rfl (Q.lenSl Tryz.runUnderlying41 rfl) <| J.m rfl <| J.nil <| J.then_n <| J.block ?_
  refine J.loop3 (fun (i : Nat) (_ : Option Addr) (_ : Nat) => i ≤ vn ∧ ((vs.take i).flatMap fun s => encB s.data.toList).length ≤ 2000 * i) (fun i _ _ => vn - i) (fun i p c => [(0, .pointer (some ⟨w, 0, none⟩)), (6, .slice vp vn vc), (7, .int .i64 vn), (8, .int .i64 i)]) (fun i p c => [wrA w p c (acc ++ (vs.take i).flatMap fun s => encB s.data.toList), wrO p c (acc ++ (vs.take i).flatMap fun s => encB s.data.toList), G, F]) 0 p c ⟨Nat.zero_le _, Nat.le_refl _⟩ ⟨rfl, rfl, rfl, rfl, trivial⟩ (by simp) fun i p c hz => ?_
  obtain ⟨hi, hb⟩ := hz
  refine J.seq <| J.region <| J.p rfl (Q.lss rfl rfl) <| J.nil <| J.then_n <| J.seq ?_
  refine J.cases 9 rfl (fun hc9 => ?_) (fun hc9 => ?_)
  ·
   replace hc9 := X.nm hc9
   refine J.cond_t rfl <| J.cskip <| J.then_n <| J.seq <| J.block <| J.seq ?_
   have hil : i < vn := by omega
   obtain ⟨b, off, hvp, hrd⟩ := hr.some_ (by omega)
   obtain ⟨v, hvi⟩ : ∃ v, vs[i]? = some v := ⟨_, List.getElem?_eq_getElem (by omega)⟩
   have hvb := hv v (List.mem_of_getElem? hvi)
   have hvl : v.data.toList.length ≤ 1024 := by have : v.data.toList.length = v.size := by simp
                                                omega
   have hel : (encB v.data.toList).length ≤ 2000 := by unfold encB; rw [List.length_append]; have := numB_len v.data.toList.length (by omega); omega
   have hft : ((vs.take (i + 1)).flatMap fun s => encB s.data.toList) = ((vs.take i).flatMap fun s => encB s.data.toList) ++ encB v.data.toList := by
     obtain ⟨h1, h2⟩ := List.getElem?_eq_some_iff.1 hvi
     rw [List.take_succ_eq_append_getElem h1, List.flatMap_append, h2, List.flatMap_cons, List.flatMap_nil, List.append_nil]
   obtain ⟨ac, hac⟩ : ∃ ac, ac = acc ++ (vs.take i).flatMap fun s => encB s.data.toList := ⟨_, rfl⟩
   have hal : ac.length ≤ 70368740000000 := by rw [hac, List.length_append]; omega
   rw [← hac]
   refine J.slot 6 (.slice (some ⟨b, off, none⟩) vn vc) rfl (by rw [hvp]) ?_
   refine J.region <| J.p rfl (Q.ia Tryz.runUnderlying41 Tryz.sizeOf9 rfl rfl (by omega) (by omega)) <| J.p rfl (Q.ld Tryz.isAgg9 rfl ((hrd i (Value.string v) (by simp [hvi])).cast (by simp)).inI) <| J.p rfl (Q.asg rfl) <| J.nil <| J.then_n <| J.region <| J.m rfl <| J.m rfl ?_
   refine J.c rfl rfl (C.s2bL Tryz.runUnderlying9 Tryz.runUnderlying42 Tryz.runUnderlying5 rfl) ?_
   rintro _ _ ⟨b14, c14, rfl, rfl⟩
   refine J.norm rfl ?_
   refine J.slrI (E0 := 5) (sz := 1) (p := some ⟨b14, 0, none⟩) (n := v.data.toList.length) (c := c14) (xs := bytesV v.data.toList) fun hsq => ?_
   refine J.callI Tryz.call39 (wbytes_spec _ w p c ac (some ⟨b14, 0, none⟩) c14 v.data.toList hsq (by omega)) rfl rfl rfl ?_
   rintro _ _ ⟨p15, c15, rfl, rfl⟩
   refine J.norm rfl <| J.nil <| J.blk_n <| J.then_n <| J.region <| J.p rfl (Q.add64 rfl rfl (by omega)) <| J.m rfl <| J.nil ?_
   have e1 : (acc ++ (vs.take (i + 1)).flatMap fun s => encB s.data.toList) = ac ++ encB v.data.toList := by rw [hft, ← List.append_assoc, hac]
   rw [← e1]
   refine J.againI (i + 1, p15, c15) ⟨by show i + 1 ≤ vn; omega, by show ((vs.take (i + 1)).flatMap fun s => encB s.data.toList).length ≤ 2000 * (i + 1); rw [hft, List.length_append]; omega⟩ (by show vn - (i + 1) < vn - i; omega) ⟨rfl, (by show _ = some (Value.slice vp vn vc); rw [hvp]; rfl), rfl, rfl, trivial⟩
  replace hc9 := X.nm hc9
  refine J.cond_f rfl <| J.exit <| J.then_x <| J.lp_x <| J.blk_x ?_
  have htk : vs.take i = vs := List.take_of_length_le (by omega)
  rw [htk]
  refine J.end0I [wrA w p c (acc ++ vs.flatMap fun s => encB s.data.toList), wrO p c (acc ++ vs.flatMap fun s => encB s.data.toList), G] rfl ⟨p, c, rfl, rfl⟩
theorem wints_spec (vp : Option Addr) (vn vc : Nat) (vs : List Int) (hr : SlR [G] 1 (.slice vp vn vc) (vs.map (Value.int .i64))) (hn : acc.length + 10 * vs.length ≤ 70368744000000) (hv : ∀ v, v ∈ vs → 0 ≤ v ∧ v ≤ 1099511627776) :
    FSpec Tryz.prog 38 [.pointer (some ⟨w, 0, none⟩), .slice vp vn vc] [wrA w p c acc, wrO p c acc, G]
    (fun u B => ∃ p' c', u = .tuple #[] ∧ B = [wrA w p' c' (acc ++ (vs.map Int.toNat).flatMap numB), wrO p' c' (acc ++ (vs.map Int.toNat).flatMap numB), G]) := by
  have hlen : vs.length = vn := by have := hr.len; simp at this; omega
  refine FSpec.of Tryz.func38 rfl Tryz.ntmps38 rfl fun W0 F => ?_
  refine J.seq <| J.region <| J.m rfl <| J.p rfl (Q.lenSl Tryz.runUnderlying50 rfl) <| J.m rfl <| J.nil <| J.then_n <| J.block ?_
  refine J.loop3 (fun (i : Nat) (_ : Option Addr) (_ : Nat) => i ≤ vn ∧ (((vs.take i).map Int.toNat).flatMap numB).length ≤ 10 * i) (fun i _ _ => vn - i) (fun i p c => [(0, .pointer (some ⟨w, 0, none⟩)), (6, .slice vp vn vc), (7, .int .i64 vn), (8, .int .i64 i)]) (fun i p c => [wrA w p c (acc ++ ((vs.take i).map Int.toNat).flatMap numB), wrO p c (acc ++ ((vs.take i).map Int.toNat).flatMap numB), G, F]) 0 p c ⟨Nat.zero_le _, Nat.le_refl _⟩ ⟨rfl, rfl, rfl, rfl, trivial⟩ (by simp) fun i p c hz => ?_
  obtain ⟨hi, hb⟩ := hz
  refine J.seq <| J.region <| J.p rfl (Q.lss rfl rfl) <| J.nil <| J.then_n <| J.seq ?_
  refine J.cases 9 rfl (fun hc9 => ?_) (fun hc9 => ?_)
  ·
   replace hc9 := X.nm hc9
   refine J.cond_t rfl <| J.cskip <| J.then_n <| J.seq <| J.block <| J.seq ?_
   have hil : i < vn := by omega
   obtain ⟨b, off, hvp, hrd⟩ := hr.some_ (by omega)
   obtain ⟨v, hvi⟩ : ∃ v, vs[i]? = some v := ⟨_, List.getElem?_eq_getElem (by omega)⟩
   have hvb := hv v (List.mem_of_getElem? hvi)
   have hnl := numB_len v.toNat (by omega)
   have hft : ((vs.take (i + 1)).map Int.toNat).flatMap numB = ((vs.take i).map Int.toNat).flatMap numB ++ numB v.toNat := by
     obtain ⟨h1, h2⟩ := List.getElem?_eq_some_iff.1 hvi
     rw [List.take_succ_eq_append_getElem h1, List.map_append, List.flatMap_append, h2, List.map_cons, List.map_nil, List.flatMap_cons, List.flatMap_nil, List.append_nil]
   obtain ⟨ac, hac⟩ : ∃ ac, ac = acc ++ ((vs.take i).map Int.toNat).flatMap numB := ⟨_, rfl⟩
   have hal : ac.length ≤ 70368744000000 := by rw [hac, List.length_append]; omega
   rw [← hac]
   refine J.slot 6 (.slice (some ⟨b, off, none⟩) vn vc) rfl (by rw [hvp]) ?_
   refine J.region <| J.p rfl (Q.ia Tryz.runUnderlying50 Tryz.sizeOf3 rfl rfl (by omega) (by omega)) <| J.p rfl (Q.ld Tryz.isAgg3 rfl ((hrd i (.int .i64 v) (by simp [hvi])).cast (by simp)).inI) <| J.p rfl (Q.asg rfl) <| J.nil <| J.then_n <| J.region <| J.m rfl <| J.m rfl <| J.p rfl (Q.conv Tryz.runUnderlying3 Tryz.runUnderlying40 rfl) ?_
   refine J.slot 14 (encU v.toNat) rfl (by show Value.int .u64 (IntKind.u64.wrap v) = Value.int .u64 ((v.toNat : Nat) : Int); congr 1; rw [show v = ((v.toNat : Nat) : Int) by omega, wrap64 (by omega)]; simp) ?_
   refine J.c rfl rfl (C.bslG (l := [_]) Tryz.runUnderlying151 Tryz.sizeOf40 Tryz.zeroValue40 (by decide) rfl rfl rfl rfl rfl) ?_
   rintro _ _ ⟨b15, rfl, rfl⟩
   refine J.norm rfl ?_
   refine J.callI Tryz.call36 (wnumbers_spec (pt b15 (.cells [encU v.toNat].toArray 40 (0, 0))) w p c ac (some ⟨b15, 0, none⟩) 1 1 [v.toNat] (SlR.ptI rfl) (by show _ + 10 * 1 ≤ _; omega) (by intro u hu; rw [List.mem_singleton.1 hu]; omega)) rfl rfl rfl ?_
   rintro _ _ ⟨p15, c15, rfl, rfl⟩
   refine J.norm rfl <| J.nil <| J.blk_n <| J.then_n <| J.region <| J.p rfl (Q.add64 rfl rfl (by omega)) <| J.m rfl <| J.nil ?_
   have e1 : acc ++ ((vs.take (i + 1)).map Int.toNat).flatMap numB = ac ++ [v.toNat].flatMap numB := by rw [hft, ← List.append_assoc, hac]; simp
   rw [← e1]
   refine J.againI (i + 1, p15, c15) ⟨by show i + 1 ≤ vn; omega, by show (((vs.take (i + 1)).map Int.toNat).flatMap numB).length ≤ 10 * (i + 1); rw [hft, List.length_append]; omega⟩ (by show vn - (i + 1) < vn - i; omega) ⟨rfl, (by show _ = some (Value.slice vp vn vc); rw [hvp]; rfl), rfl, rfl, trivial⟩
  replace hc9 := X.nm hc9
  refine J.cond_f rfl <| J.exit <| J.then_x <| J.lp_x <| J.blk_x ?_
  have htk : vs.take i = vs := List.take_of_length_le (by omega)
  rw [htk]
  refine J.end0I [wrA w p c (acc ++ (vs.map Int.toNat).flatMap numB), wrO p c (acc ++ (vs.map Int.toNat).flatMap numB), G] rfl ⟨p, c, rfl, rfl⟩
end
theorem opCommand_spec (G : Assn) (x : OW) (hx : x.ok G) (ho : x.o.fine) : FSpec Tryz.prog 14 [.agg x.cells.toArray] [G] (fun u B => ∃ p c, u = .slice p (opB x.o).length c ∧ B = [wrO p c (opB x.o), G]) := by
  have hk := ho.kind
  have hnn := ho.n
  have hpp := ho.parts
  have htt := ho.texts
  have hdd := ho.data
  have hii := ho.id
  have huu := ho.up
  refine FSpec.of Tryz.func14 rfl Tryz.ntmps14 rfl fun W0 F => ?_
  refine J.seq <| J.region ?_
  refine J.c rfl rfl (C.box (l := [_, _, _, _, _, _, _, _, _]) rfl rfl) ?_
  rintro _ _ ⟨b1, rfl, rfl⟩
  refine J.norm rfl <| J.p rfl (Q.asg rfl) <| J.nil <| J.then_n <| J.seq <| J.region <| J.p rfl (Q.bld (l := [_]) Tryz.runUnderlying108 Tryz.zeroValue108 Tryz.places108 rfl rfl) ?_
  refine J.c rfl rfl (C.box (l := [_]) rfl rfl) ?_
  rintro _ _ ⟨b5, rfl, rfl⟩
  refine J.norm rfl ?_
  refine J.conv (Y := wrA b5 none 0 []) 0 rfl (fun _ h => h) ?_
  refine J.give (X := wrO none 0 []) (own.nil _ _ _) ?_
  refine J.p rfl (Q.asg rfl) <| J.nil <| J.then_n <| J.seq <| J.region <| J.m rfl <| J.p rfl (Q.fa (n := 0) Tryz.runUnderlying52 rfl rfl Tryz.sizeOf40 rfl) ?_
  refine J.p rfl (Q.ld Tryz.isAgg40 rfl (rdI (by exact rfl))) ?_
  refine J.p rfl (Q.fa (n := 1) Tryz.runUnderlying52 rfl rfl Tryz.sizeOf3 rfl) ?_
  refine J.p rfl (Q.ld Tryz.isAgg3 rfl (rdI (by exact rfl))) ?_
  refine J.p rfl (Q.conv Tryz.runUnderlying3 Tryz.runUnderlying40 rfl) ?_
  refine J.slot 11 (encU x.o.kind.toNat) rfl (by show Value.int .u64 (IntKind.u64.wrap x.o.kind) = Value.int .u64 ((x.o.kind.toNat : Nat) : Int); congr 1; rw [show x.o.kind = ((x.o.kind.toNat : Nat) : Int) by omega, wrap64 (by omega)]; simp) ?_
  refine J.c rfl rfl (C.bslG (l := [_, _, _]) Tryz.runUnderlying151 Tryz.sizeOf40 Tryz.zeroValue40 (by decide) rfl rfl rfl rfl rfl) ?_
  rintro _ _ ⟨b12, rfl, rfl⟩
  refine J.norm rfl ?_
  refine J.conv (Y := pt b12 (.cells ([1, x.o.id, x.o.kind.toNat].map encU).toArray 40 (0, 0))) 0 rfl (fun _ h => h) ?_
  refine J.callI Tryz.call36 (wnumbers_spec (pt b12 (.cells ([1, x.o.id, x.o.kind.toNat].map encU).toArray 40 (0, 0))) b5 none 0 [] (some ⟨b12, 0, none⟩) 3 3 [1, x.o.id, x.o.kind.toNat] (SlR.ptI rfl) (by show 0 + 10 * 3 ≤ _; omega) (by intro v hv; simp only [List.mem_cons, List.not_mem_nil, or_false] at hv; omega)) rfl rfl rfl ?_
  rintro _ _ ⟨p13, c13, rfl, rfl⟩
  refine J.norm rfl ?_
  obtain ⟨a1, ha1⟩ : ∃ a, a = [] ++ [1, x.o.id, x.o.kind.toNat].flatMap numB := ⟨_, rfl⟩
  have l1 : a1.length ≤ 30 := by rw [ha1, List.nil_append]; exact flat_numB [1, x.o.id, x.o.kind.toNat] (by intro v hv; simp only [List.mem_cons, List.not_mem_nil, or_false] at hv; omega)
  rw [← ha1]
  refine J.nil <| J.then_n <| J.seq <| J.region <| J.m rfl <| J.p rfl (Q.fa (n := 2) Tryz.runUnderlying52 rfl rfl Tryz.sizeOf9 rfl) ?_
  refine J.p rfl (Q.ld Tryz.isAgg9 rfl (rdI (by exact rfl))) ?_
  refine J.p rfl (Q.fa (n := 3) Tryz.runUnderlying52 rfl rfl Tryz.sizeOf9 rfl) ?_
  refine J.p rfl (Q.ld Tryz.isAgg9 rfl (rdI (by exact rfl))) ?_
  refine J.p rfl (Q.fa (n := 4) Tryz.runUnderlying52 rfl rfl Tryz.sizeOf9 rfl) ?_
  refine J.p rfl (Q.ld Tryz.isAgg9 rfl (rdI (by exact rfl))) ?_
  refine J.c rfl rfl (C.bslG (l := [_, _, _]) Tryz.runUnderlying41 Tryz.sizeOf9 Tryz.zeroValue9 (by decide) rfl rfl rfl rfl rfl) ?_
  rintro _ _ ⟨b21, rfl, rfl⟩
  refine J.norm rfl ?_
  refine J.conv (Y := pt b21 (.cells ([x.o.bucket, x.o.key, x.o.after].map Value.string).toArray 9 (0, 0))) 0 rfl (fun _ h => h) ?_
  refine J.callI Tryz.call37 (wtexts_spec (pt b21 (.cells ([x.o.bucket, x.o.key, x.o.after].map Value.string).toArray 9 (0, 0))) b5 p13 c13 a1 (some ⟨b21, 0, none⟩) 3 3 [x.o.bucket, x.o.key, x.o.after] (SlR.ptI rfl) (by show a1.length + 2000 * 3 ≤ _; omega) (by intro v hv; simp only [List.mem_cons, List.not_mem_nil, or_false] at hv; rcases hv with rfl | rfl | rfl <;> omega)) rfl rfl rfl ?_
  rintro _ _ ⟨p22, c22, rfl, rfl⟩
  refine J.norm rfl ?_
  obtain ⟨a2, ha2⟩ : ∃ a, a = a1 ++ [x.o.bucket, x.o.key, x.o.after].flatMap fun s => encB s.data.toList := ⟨_, rfl⟩
  have l2 : a2.length ≤ 6030 := by rw [ha2, List.length_append]; have := flat_encB [x.o.bucket, x.o.key, x.o.after] (by intro v hv; simp only [List.mem_cons, List.not_mem_nil, or_false] at hv; rcases hv with rfl | rfl | rfl <;> omega)
                                   simp only [List.length_cons, List.length_nil] at this; omega
  rw [← ha2]
  refine J.nil <| J.then_n <| J.seq <| J.region <| J.m rfl <| J.p rfl (Q.fa (n := 5) Tryz.runUnderlying52 rfl rfl Tryz.sizeOf3 rfl) ?_
  refine J.p rfl (Q.ld Tryz.isAgg3 rfl (rdI (by exact rfl))) ?_
  refine J.p rfl (Q.conv Tryz.runUnderlying3 Tryz.runUnderlying40 rfl) ?_
  refine J.slot 26 (encU x.o.n.toNat) rfl (by show Value.int .u64 (IntKind.u64.wrap x.o.n) = Value.int .u64 ((x.o.n.toNat : Nat) : Int); congr 1; rw [show x.o.n = ((x.o.n.toNat : Nat) : Int) by omega, wrap64 (by omega)]; simp) ?_
  refine J.p rfl (Q.fa (n := 6) Tryz.runUnderlying52 rfl rfl Tryz.sizeOf40 rfl) ?_
  refine J.p rfl (Q.ld Tryz.isAgg40 rfl (rdI (by exact rfl))) ?_
  refine J.p rfl (Q.fa (n := 7) Tryz.runUnderlying52 rfl rfl Tryz.sizeOf50 rfl) ?_
  refine J.p rfl (Q.ld Tryz.isAgg50 rfl (rdI (by exact rfl))) ?_
  refine J.p rfl (Q.lenSl Tryz.runUnderlying50 rfl) <| J.p rfl (Q.conv Tryz.runUnderlying3 Tryz.runUnderlying40 rfl) ?_
  refine J.slot 32 (encU x.o.parts.length) rfl (by show Value.int .u64 (IntKind.u64.wrap (x.o.parts.length : Int)) = _; rw [wrap64 (by omega)]; rfl) ?_
  refine J.c rfl rfl (C.bslG (l := [_, _, _]) Tryz.runUnderlying151 Tryz.sizeOf40 Tryz.zeroValue40 (by decide) rfl rfl rfl rfl rfl) ?_
  rintro _ _ ⟨b33, rfl, rfl⟩
  refine J.norm rfl ?_
  refine J.conv (Y := pt b33 (.cells ([x.o.n.toNat, x.o.upload, x.o.parts.length].map encU).toArray 40 (0, 0))) 0 rfl (fun _ h => h) ?_
  refine J.callI Tryz.call36 (wnumbers_spec (pt b33 (.cells ([x.o.n.toNat, x.o.upload, x.o.parts.length].map encU).toArray 40 (0, 0))) b5 p22 c22 a2 (some ⟨b33, 0, none⟩) 3 3 [x.o.n.toNat, x.o.upload, x.o.parts.length] (SlR.ptI rfl) (by show a2.length + 10 * 3 ≤ _; omega) (by intro v hv; simp only [List.mem_cons, List.not_mem_nil, or_false] at hv; omega)) rfl rfl rfl ?_
  rintro _ _ ⟨p34, c34, rfl, rfl⟩
  refine J.norm rfl ?_
  obtain ⟨a3, ha3⟩ : ∃ a, a = a2 ++ [x.o.n.toNat, x.o.upload, x.o.parts.length].flatMap numB := ⟨_, rfl⟩
  have l3 : a3.length ≤ 6060 := by rw [ha3, List.length_append]; have := flat_numB [x.o.n.toNat, x.o.upload, x.o.parts.length] (by intro v hv; simp only [List.mem_cons, List.not_mem_nil, or_false] at hv; omega)
                                   simp only [List.length_cons, List.length_nil] at this; omega
  rw [← ha3]
  refine J.nil <| J.then_n <| J.seq <| J.region <| J.m rfl <| J.p rfl (Q.fa (n := 7) Tryz.runUnderlying52 rfl rfl Tryz.sizeOf50 rfl) ?_
  refine J.p rfl (Q.ld Tryz.isAgg50 rfl (rdI (by exact rfl))) ?_
  refine J.callI Tryz.call38 (wints_spec G b5 p34 c34 a3 x.pp x.o.parts.length x.pc x.o.parts hx.parts (by omega) (by intro v hv; have := hpp.2 v hv; omega)) rfl rfl rfl ?_
  rintro _ _ ⟨p38, c38, rfl, rfl⟩
  refine J.norm rfl ?_
  obtain ⟨a4, ha4⟩ : ∃ a, a = a3 ++ (x.o.parts.map Int.toNat).flatMap numB := ⟨_, rfl⟩
  have l4 : a4.length ≤ 106060 := by rw [ha4, List.length_append]; have := flat_numB (x.o.parts.map Int.toNat) (by
                                      intro v hv
                                      obtain ⟨u, hu, rfl⟩ := List.mem_map.1 hv
                                      have := hpp.2 u hu; omega)
                                     rw [List.length_map] at this; omega
  rw [← ha4]
  refine J.nil <| J.then_n <| J.seq <| J.region <| J.m rfl <| J.p rfl (Q.fa (n := 8) Tryz.runUnderlying52 rfl rfl Tryz.sizeOf42 rfl) ?_
  refine J.p rfl (Q.ld Tryz.isAgg42 rfl (rdI (by exact rfl))) ?_
  refine J.callI Tryz.call39 (wbytes_spec G b5 p38 c38 a4 x.dp x.dc x.o.data hx.data (by omega)) rfl rfl rfl ?_
  rintro _ _ ⟨p42, c42, rfl, rfl⟩
  refine J.norm rfl ?_
  have e : a4 ++ encB x.o.data = opB x.o := by rw [ha4, ha3, ha2, ha1]; simp [opB]
  rw [e]
  refine J.nil <| J.then_n <| J.seq <| J.region <| J.m rfl <| J.p rfl (Q.nil_ rfl) <| J.p rfl (Q.fa (n := 0) Tryz.runUnderlying108 rfl rfl Tryz.sizeOf42 rfl) ?_
  refine J.p rfl (Q.ld Tryz.isAgg42 rfl (rdI (by exact rfl))) ?_
  refine J.p rfl (Q.asg rfl) <| J.nil <| J.then_n <| J.cret ?_
  refine J.ret1I [wrO p42 c42 (opB x.o), G] rfl rfl ⟨p42, c42, rfl, rfl⟩
end Go.Proofs.YtidbcaimgahllaaGreat
namespace Go.Proofs.YtidbcaimgahllaaGreat
set_option linter.unusedSectionVars false
set_option linter.unusedSimpArgs false
set_option linter.unusedVariables false
open Go.X

theorem bequal_spec (G H : Assn) (p q : Option Addr) (c d : Nat) (bs cs : List UInt8) (hb : SlR [G] 1 (.slice p bs.length c) (bytesV bs)) (hc : SlR [H] 1 (.slice q cs.length d) (bytesV cs)) :
    FSpec Tryz.prog 47 [.slice p bs.length c, .slice q cs.length d] [G, H] (fun v B => v = .bool (decide (bs = cs)) ∧ B = [G, H]) := by
  refine FSpec.of Tryz.func47 rfl Tryz.ntmps47 rfl fun W0 F => ?_
  refine J.seq <| J.region <| J.p rfl (Q.asg rfl) <| J.nil <| J.then_n <| J.seq <| J.region <| J.m rfl <| J.p rfl (Q.b2s Tryz.runUnderlying42 Tryz.runUnderlying9 Tryz.runUnderlying5 rfl hb.inI) <| J.m rfl <| J.p rfl (Q.b2s Tryz.runUnderlying42 Tryz.runUnderlying9 Tryz.runUnderlying5 rfl hc.inI) <| J.p rfl (Q.eqls rfl rfl) <| J.p rfl (Q.asg rfl) <| J.nil <| J.then_n ?_
  refine J.cret ?_
  refine J.ret1I [G, H] rfl rfl ⟨by simp, rfl⟩

def OW.asns (x : OW) : List Assn := [own 3 1 (.slice x.pp x.o.parts.length x.pc) (x.o.parts.map (Value.int .i64)), own 5 1 (.slice x.dp x.o.data.length x.dc) (bytesV x.o.data)]
def OW.asn (x : OW) : Assn := star x.asns
theorem OM.fine.small {o : OM} (h : o.fine) : o.bucket.size ≤ 9223372036854775807 ∧ o.key.size ≤ 9223372036854775807 ∧ o.after.size ≤ 9223372036854775807 ∧ o.parts.length ≤ 9223372036854775807 ∧ o.data.length ≤ 9223372036854775807 := by
  have h1 := h.texts
  have h2 := h.parts
  have h3 := h.data
  omega
theorem oasn_ok {x : OW} (hs : x.o.bucket.size ≤ 9223372036854775807 ∧ x.o.key.size ≤ 9223372036854775807 ∧ x.o.after.size ≤ 9223372036854775807 ∧ x.o.parts.length ≤ 9223372036854775807 ∧ x.o.data.length ≤ 9223372036854775807) : ∀ h, x.asn h → x.ok x.asn := by
  intro h hh
  have hh' : HSat h x.asns := hh
  obtain ⟨h1, h2, a, ⟨k1, k2, b, _, _, _, _⟩, _, _, _⟩ := hh'
  exact ⟨(own.slr (i := 0) rfl ⟨h1, X.G.HSat.one a⟩ : SlR [own 3 1 _ _] 1 _ _).into 0 rfl, (own.slr (i := 0) rfl ⟨k1, X.G.HSat.one b⟩ : SlR [own 5 1 _ _] 1 _ _).into 1 rfl, hs⟩

structure PM where
  bucket : ByteArray
  key : ByteArray
  version : Nat
  stripe : Nat
  k : Int
  m : Int
  size : Int
  sum : Nat
  nodes : List Int
structure PW where
  o : PM
  np : Option Addr
  nc : Nat
abbrev PW.cells (z : PW) : List Value := [.string z.o.bucket, .string z.o.key, .int .u64 z.o.version, .int .u64 z.o.stripe, .int .i64 z.o.k, .int .i64 z.o.m, .int .i64 z.o.size, .int .u32 z.o.sum, .slice z.np z.o.nodes.length z.nc]
def P0 : PW := ⟨⟨bt [], bt [], 0, 0, 0, 0, 0, 0, []⟩, none, 0⟩
def O0 : OM := ⟨0, 0, bt [], bt [], bt [], 0, 0, [], []⟩
structure DM where
  o : OM
  point : Bool
  bad : Bool
def DecR (d : DM) (G : Assn) (u : Value) (B : List Assn) : Prop := ∃ (y : OW) (z : PW), u = .tuple #[.agg y.cells.toArray, .agg z.cells.toArray, .bool d.point, .int .i64 (if d.bad then 14 else 0)] ∧ y.o = d.o ∧ y.ok y.asn ∧ B = [y.asn, G]
def DecIs (bs : List UInt8) (d : DM) : Prop := ∀ (G : Assn) (p : Option Addr) (c : Nat), SlP G p c bs → FSpec Tryz.prog 19 [.slice p bs.length c] [G] (DecR d G)

set_option maxHeartbeats 400000 in
theorem decode_op {o : OM} (ho : o.fine) (hc : o.chkB = true) : DecIs (opB o) ⟨o, false, false⟩ := by
  intro G p c hs
  obtain ⟨h1, h2⟩ := op_at ho
  obtain ⟨s0, e0⟩ : ∃ s : RS, s = ⟨opB o, false⟩ := ⟨_, rfl⟩
  rw [← e0] at h1 h2
  have hs0 : SlP G p c s0.b := by rw [e0]; exact hs
  have el : (opB o).length = s0.b.length := by rw [e0]
  rw [el]
  refine FSpec.of Tryz.func19 rfl Tryz.ntmps19 rfl fun W0 F => ?_
  refine J.seq <| J.region ?_
  refine J.c rfl rfl (C.alloc (l := [_, _, _, _, _, _, _, _, _]) Tryz.zeroValue52 rfl) ?_
  rintro _ _ ⟨b2, rfl, rfl⟩
  refine J.norm rfl ?_
  refine J.c rfl rfl (C.alloc (l := [_, _, _, _, _, _, _, _, _]) Tryz.zeroValue67 rfl) ?_
  rintro _ _ ⟨b3, rfl, rfl⟩
  refine J.norm rfl <| J.p rfl (Q.asg rfl) <| J.p rfl (Q.asg rfl) <| J.nil <| J.then_n <| J.seq <| J.region <| J.m rfl <| J.p rfl (Q.bld (l := [_, _]) Tryz.runUnderlying116 Tryz.zeroValue116 Tryz.places116 rfl rfl) ?_
  refine J.c rfl rfl (C.box (l := [_, _]) rfl rfl) ?_
  rintro _ _ ⟨b9, rfl, rfl⟩
  refine J.norm rfl ?_
  refine J.conv (Y := rdA b9 p c s0) 0 rfl (fun _ h => by rw [e0] at h ⊢; exact h) ?_
  refine J.p rfl (Q.asg rfl) <| J.nil <| J.then_n <| J.seq <| J.seq <| J.region <| J.m rfl ?_
  refine J.callI Tryz.call41 (rnumber_spec G b9 p c s0 hs0) rfl rfl rfl ?_
  rintro _ _ ⟨p1, c1, rfl, hs1, rfl⟩
  refine J.norm rfl ?_
  refine J.slot 11 (.int .u64 1) rfl (by rw [h1]; rfl) ?_
  obtain ⟨s1, e1⟩ : ∃ s, s = s0.num.2 := ⟨_, rfl⟩
  rw [← e1] at hs1 h2 ⊢
  refine J.nil <| J.then_n <| J.block <| J.seq <| J.region <| J.p rfl (Q.eql rfl rfl) <| J.p rfl (Q.asg rfl) <| J.nil <| J.then_n <| J.cond_t rfl <| J.seq <| J.region <| J.m rfl ?_
  refine J.callI Tryz.call41 (rnumber_spec G b9 p1 c1 s1 hs1) rfl rfl rfl ?_
  rintro _ _ ⟨p2, c2, rfl, hs2, rfl⟩
  refine J.norm rfl ?_
  obtain ⟨s2, e2⟩ : ∃ s, s = s1.num.2 := ⟨_, rfl⟩
  rw [← e2] at hs2 ⊢
  refine J.m rfl ?_
  refine J.callI Tryz.call42 (rint_spec G b9 p2 c2 s2 hs2) rfl rfl rfl ?_
  rintro _ _ ⟨p3, c3, rfl, hs3, rfl⟩
  refine J.norm rfl ?_
  obtain ⟨s3, e3⟩ : ∃ s, s = s2.int.2 := ⟨_, rfl⟩
  rw [← e3] at hs3 ⊢
  refine J.m rfl ?_
  refine J.callI Tryz.call43 (rtext_spec G b9 p3 c3 s3 hs3) rfl rfl rfl ?_
  rintro _ _ ⟨p4, c4, rfl, hs4, rfl⟩
  refine J.norm rfl ?_
  obtain ⟨s4, e4⟩ : ∃ s, s = s3.text.2 := ⟨_, rfl⟩
  rw [← e4] at hs4 ⊢
  refine J.m rfl ?_
  refine J.callI Tryz.call43 (rtext_spec G b9 p4 c4 s4 hs4) rfl rfl rfl ?_
  rintro _ _ ⟨p5, c5, rfl, hs5, rfl⟩
  refine J.norm rfl ?_
  obtain ⟨s5, e5⟩ : ∃ s, s = s4.text.2 := ⟨_, rfl⟩
  rw [← e5] at hs5 ⊢
  refine J.m rfl ?_
  refine J.callI Tryz.call43 (rtext_spec G b9 p5 c5 s5 hs5) rfl rfl rfl ?_
  rintro _ _ ⟨p6, c6, rfl, hs6, rfl⟩
  refine J.norm rfl ?_
  obtain ⟨s6, e6⟩ : ∃ s, s = s5.text.2 := ⟨_, rfl⟩
  rw [← e6] at hs6 ⊢
  refine J.m rfl ?_
  refine J.callI Tryz.call42 (rint_spec G b9 p6 c6 s6 hs6) rfl rfl rfl ?_
  rintro _ _ ⟨p7, c7, rfl, hs7, rfl⟩
  refine J.norm rfl ?_
  obtain ⟨s7, e7⟩ : ∃ s, s = s6.int.2 := ⟨_, rfl⟩
  rw [← e7] at hs7 ⊢
  refine J.m rfl ?_
  refine J.callI Tryz.call41 (rnumber_spec G b9 p7 c7 s7 hs7) rfl rfl rfl ?_
  rintro _ _ ⟨p8, c8, rfl, hs8, rfl⟩
  refine J.norm rfl ?_
  obtain ⟨s8, e8⟩ : ∃ s, s = s7.num.2 := ⟨_, rfl⟩
  rw [← e8] at hs8 ⊢
  refine J.m rfl ?_
  refine J.callI Tryz.call44 (rints_spec G b9 p8 c8 s8 hs8) rfl rfl rfl ?_
  rintro _ _ ⟨p9, c9, q29, d29, rfl, hs9, rfl⟩
  refine J.norm rfl ?_
  obtain ⟨s9, e9⟩ : ∃ s, s = s8.ints.2 := ⟨_, rfl⟩
  rw [← e9] at hs9 ⊢
  refine J.m rfl ?_
  refine J.callI Tryz.call45 (rbytes_spec G b9 p9 c9 s9 hs9) rfl rfl rfl ?_
  rintro _ _ ⟨p10, c10, q31, d31, rfl, hs10, rfl⟩
  refine J.norm rfl ?_
  obtain ⟨s10, e10⟩ : ∃ s, s = s9.bytes.2 := ⟨_, rfl⟩
  rw [← e10] at hs10 ⊢
  have hop : RS.op s1 = (⟨s1.num.1, s2.int.1, s3.text.1, s4.text.1, s5.text.1, s6.int.1, s7.num.1, s8.ints.1.map Int.ofNat, s9.bytes.1⟩, s10) := by
   unfold RS.op
   dsimp only
   rw [← e2, ← e3, ← e4, ← e5, ← e6, ← e7, ← e8, ← e9, ← e10]
  rw [h2] at hop
  have ho1 := congrArg Prod.fst hop
  have ho2 := congrArg Prod.snd hop
  dsimp only at ho1 ho2
  obtain ⟨y, hy⟩ : ∃ y : OW, y = ⟨o, q29, d29, q31, d31⟩ := ⟨_, rfl⟩
  have hyo : y.o = o := by rw [hy]
  have hyc : y.cells = [.int .u64 s1.num.1, .int .i64 s2.int.1, .string s3.text.1, .string s4.text.1, .string s5.text.1, .int .i64 s6.int.1, .int .u64 s7.num.1, .slice q29 s8.ints.1.length d29, .slice q31 s9.bytes.1.length d31] := by rw [hy, ho1]; simp [OW.cells]
  have hya : ∀ h, HSat h [own 3 1 (.slice q29 s8.ints.1.length d29) (s8.ints.1.map fun v : Nat => Value.int .i64 (v : Int)), own 5 1 (.slice q31 s9.bytes.1.length d31) (bytesV s9.bytes.1)] → y.asn h := by
   intro h hh
   have e : y.asns = [own 3 1 (.slice q29 s8.ints.1.length d29) (s8.ints.1.map fun v : Nat => Value.int .i64 (v : Int)), own 5 1 (.slice q31 s9.bytes.1.length d31) (bytesV s9.bytes.1)] := by rw [hy, ho1]; simp [OW.asns, Function.comp_def]
   show HSat h y.asns
   rw [e]; exact hh
  refine J.shutI [own 3 1 (.slice q29 s8.ints.1.length d29) (s8.ints.1.map fun v : Nat => Value.int .i64 (v : Int)), own 5 1 (.slice q31 s9.bytes.1.length d31) (bytesV s9.bytes.1)] y.asn hya ?_
  have hbd : s10.bad = false := by rw [← ho2]
  subst hyo
  refine J.p rfl (Q.bld (l := [.int .u64 s1.num.1, .int .i64 s2.int.1, .string s3.text.1, .string s4.text.1, .string s5.text.1, .int .i64 s6.int.1, .int .u64 s7.num.1, .slice q29 s8.ints.1.length d29, .slice q31 s9.bytes.1.length d31]) Tryz.runUnderlying52 Tryz.zeroValue52 Tryz.places52 rfl (by kernel_rfl)) ?_
  refine J.slot 32 (.agg y.cells.toArray) rfl (by rw [hyc]) ?_
  refine J.stAI (vs := [_, _, _, _, _, _, _, _, _]) rfl Tryz.sizeOf52 rfl rfl (by exact rfl) (by exact rfl) (by exact rfl) ?_
  refine J.nil <| J.then_n <| J.seq ?_
  refine J.tellsI y.asn (oasn_ok ho.small) fun hyk => ?_
  refine J.region <| J.m rfl <| J.p rfl (Q.nil_ rfl) <| J.p rfl (Q.fa (n := 1) Tryz.runUnderlying116 rfl rfl Tryz.sizeOf4 rfl) ?_
  refine J.p rfl (Q.ld Tryz.isAgg4 rfl (rdI (by exact rfl))) ?_
  refine J.slot 36 (.bool false) rfl (by rw [hbd]) ?_
  refine J.p rfl (Q.not rfl) <| J.m rfl ?_
  refine J.cases 38 rfl (fun hb38 => ?_) (fun hb38 => ?_)
  ·
   replace hb38 := X.nm hb38
   try (first | (cases hb38; done) | (exfalso; simp at hb38; done))
   all_goals
    refine J.p rfl (Q.ldN (vs := [_, _, _, _, _, _, _, _, _]) Tryz.isAgg52 Tryz.sizeOf52 rfl rnI) ?_
    refine J.callI Tryz.call46 (check_yes y.asn y hyk hc) rfl rfl rfl ?_
    rintro _ _ ⟨rfl, rfl⟩
    refine J.norm rfl <| J.p rfl (Q.eql rfl rfl) <| J.p rfl (Q.pick_t rfl rfl) <| J.m rfl ?_
    refine J.cases 43 rfl (fun hb43 => ?_) (fun hb43 => ?_)
    ·
     replace hb43 := X.nm hb43
     try (first | (cases hb43; done) | (exfalso; simp at hb43; done))
     all_goals
      refine J.p rfl (Q.ldN (vs := [_, _, _, _, _, _, _, _, _]) Tryz.isAgg52 Tryz.sizeOf52 rfl rnI) ?_
      refine J.callI Tryz.call14 (opCommand_spec y.asn y hyk ho) rfl rfl rfl ?_
      rintro _ _ ⟨q45, d45, rfl, rfl⟩
      refine J.norm rfl ?_
      refine J.slrI (E0 := 5) (sz := 1) (p := q45) (n := (opB y.o).length) (c := d45) (xs := bytesV (opB y.o)) fun hsq => ?_
      refine J.m rfl ?_
      refine J.callI Tryz.call47 (bequal_spec (wrO q45 d45 (opB y.o)) G q45 p d45 c (opB y.o) s0.b hsq hs0.sl) rfl rfl rfl ?_
      rintro _ _ ⟨rfl, rfl⟩
      refine J.norm rfl ?_
      refine J.slot 47 (.bool true) rfl (by rw [e0]; simp) ?_
      refine J.p rfl (Q.pick_t rfl rfl) <| J.nil <| J.then_n ?_
      refine J.cases 48 rfl (fun hc48 => ?_) (fun hc48 => ?_)
      ·
       replace hc48 := X.nm hc48
       try (first | (cases hc48; done) | (exfalso; simp at hc48; done))
       all_goals
        refine J.cond_t rfl <| J.seq <| J.region ?_
        refine J.p rfl (Q.ldN (vs := [_, _, _, _, _, _, _, _, _]) Tryz.isAgg52 Tryz.sizeOf52 rfl rnI) ?_
        refine J.p rfl (Q.bld (l := [_, _, _, _, _, _, _, _, _]) Tryz.runUnderlying67 Tryz.zeroValue67 Tryz.places67 rfl rfl) ?_
        refine J.stAI (vs := [_, _, _, _, _, _, _, _, _]) rfl Tryz.sizeOf52 rfl rfl (by exact rfl) (by exact rfl) (by exact rfl) ?_
        refine J.stAI (vs := [_, _, _, _, _, _, _, _, _]) rfl Tryz.sizeOf67 rfl rfl (by exact rfl) (by exact rfl) (by exact rfl) ?_
        refine J.p rfl (Q.asg rfl) <| J.p rfl (Q.asg rfl) <| J.nil <| J.then_n <| J.cret <| J.blk_r <| J.then_r ?_
        refine J.retC4I (vs := y.cells) (vs2 := P0.cells) [y.asn, G] rfl rfl rfl rfl rfl Tryz.isAgg52 Tryz.sizeOf52 rnI Tryz.isAgg67 Tryz.sizeOf67 rnI ⟨y, P0, rfl, rfl, hyk, rfl⟩
      replace hc48 := X.nm hc48
      try (first | (cases hc48; done) | (exfalso; simp at hc48; done))
      all_goals
       refine J.cond_f rfl <| J.cskip <| J.blk_n <| J.then_n <| J.seq <| J.region <| J.p rfl (Q.bld (l := [_, _, _, _, _, _, _, _, _]) Tryz.runUnderlying52 Tryz.zeroValue52 Tryz.places52 rfl rfl) <| J.p rfl (Q.bld (l := [_, _, _, _, _, _, _, _, _]) Tryz.runUnderlying67 Tryz.zeroValue67 Tryz.places67 rfl rfl) ?_
       refine J.stAI (vs := [_, _, _, _, _, _, _, _, _]) rfl Tryz.sizeOf52 rfl rfl (by exact rfl) (by exact rfl) (by exact rfl) ?_
       refine J.stAI (vs := [_, _, _, _, _, _, _, _, _]) rfl Tryz.sizeOf67 rfl rfl (by exact rfl) (by exact rfl) (by exact rfl) ?_
       refine J.p rfl (Q.asg rfl) <| J.p rfl (Q.asg rfl) <| J.nil <| J.then_n <| J.cret ?_
       refine J.retC4I (vs := y.cells) (vs2 := P0.cells) [y.asn, G] rfl rfl rfl rfl rfl Tryz.isAgg52 Tryz.sizeOf52 rnI Tryz.isAgg67 Tryz.sizeOf67 rnI ⟨y, P0, rfl, rfl, hyk, rfl⟩
    replace hb43 := X.nm hb43
    try (first | (cases hb43; done) | (exfalso; simp at hb43; done))
    all_goals
     refine J.skip rfl rfl <| J.skip rfl rfl <| J.skip rfl rfl <| J.skip rfl rfl <| J.p rfl (Q.pick_f rfl rfl) <| J.nil <| J.then_n <| J.cond_f rfl <| J.cskip <| J.blk_n <| J.then_n <| J.seq <| J.region <| J.p rfl (Q.bld (l := [_, _, _, _, _, _, _, _, _]) Tryz.runUnderlying52 Tryz.zeroValue52 Tryz.places52 rfl rfl) <| J.p rfl (Q.bld (l := [_, _, _, _, _, _, _, _, _]) Tryz.runUnderlying67 Tryz.zeroValue67 Tryz.places67 rfl rfl) ?_
     refine J.stAI (vs := [_, _, _, _, _, _, _, _, _]) rfl Tryz.sizeOf52 rfl rfl (by exact rfl) (by exact rfl) (by exact rfl) ?_
     refine J.stAI (vs := [_, _, _, _, _, _, _, _, _]) rfl Tryz.sizeOf67 rfl rfl (by exact rfl) (by exact rfl) (by exact rfl) ?_
     refine J.p rfl (Q.asg rfl) <| J.p rfl (Q.asg rfl) <| J.nil <| J.then_n <| J.cret ?_
     refine J.retC4I (vs := y.cells) (vs2 := P0.cells) [y.asn, G] rfl rfl rfl rfl rfl Tryz.isAgg52 Tryz.sizeOf52 rnI Tryz.isAgg67 Tryz.sizeOf67 rnI ⟨y, P0, rfl, rfl, hyk, rfl⟩
  replace hb38 := X.nm hb38
  try (first | (cases hb38; done) | (exfalso; simp at hb38; done))
  all_goals
   refine J.skip rfl rfl <| J.skip rfl rfl <| J.skip rfl rfl <| J.p rfl (Q.pick_f rfl rfl) <| J.m rfl <| J.skip rfl rfl <| J.skip rfl rfl <| J.skip rfl rfl <| J.skip rfl rfl <| J.p rfl (Q.pick_f rfl rfl) <| J.nil <| J.then_n <| J.cond_f rfl <| J.cskip <| J.blk_n <| J.then_n <| J.seq <| J.region <| J.p rfl (Q.bld (l := [_, _, _, _, _, _, _, _, _]) Tryz.runUnderlying52 Tryz.zeroValue52 Tryz.places52 rfl rfl) ?_
   refine J.p rfl (Q.bld (l := [_, _, _, _, _, _, _, _, _]) Tryz.runUnderlying67 Tryz.zeroValue67 Tryz.places67 rfl rfl) ?_
   refine J.stAI (vs := [_, _, _, _, _, _, _, _, _]) rfl Tryz.sizeOf52 rfl rfl (by exact rfl) (by exact rfl) (by exact rfl) ?_
   refine J.stAI (vs := [_, _, _, _, _, _, _, _, _]) rfl Tryz.sizeOf67 rfl rfl (by exact rfl) (by exact rfl) (by exact rfl) ?_
   refine J.p rfl (Q.asg rfl) <| J.p rfl (Q.asg rfl) <| J.nil <| J.then_n <| J.cret ?_
   refine J.retC4I (vs := y.cells) (vs2 := P0.cells) [y.asn, G] rfl rfl rfl rfl rfl Tryz.isAgg52 Tryz.sizeOf52 rnI Tryz.isAgg67 Tryz.sizeOf67 rnI ⟨y, P0, rfl, rfl, hyk, rfl⟩
end Go.Proofs.YtidbcaimgahllaaGreat
namespace Go.Proofs.YtidbcaimgahllaaGreat
set_option linter.unusedSectionVars false
set_option linter.unusedSimpArgs false
set_option linter.unusedVariables false
open Go.X

theorem definite_spec (n : Int) : FSpec Tryz.prog 17 [.int .i64 n] [] (fun v B => v = .bool (decide (n = 200) || decide (n = 400) || decide (n = 404) || decide (n = 409) || decide (n = 413)) ∧ B = []) := by
  refine FSpec.of Tryz.func17 rfl Tryz.ntmps17 rfl fun W0 F => ?_
  refine J.seq <| J.region <| J.p rfl (Q.asg rfl) <| J.nil <| J.then_n <| J.seq <| J.seq <| J.region <| J.m rfl <| J.nil <| J.then_n <| J.block <| J.seq <| J.seq <| J.region <| J.p rfl (Q.eql rfl rfl) <| J.p rfl (Q.asg rfl) <| J.nil <| J.then_n ?_
  refine J.cases 4 rfl (fun hc4 => ?_) (fun hc4 => ?_)
  ·
   replace hc4 := X.nm hc4
   try (first | (cases hc4; done) | (exfalso; simp at hc4; done))
   all_goals
    refine J.cond_t rfl <| J.cskip <| J.then_n <| J.cond_t rfl <| J.seq <| J.region <| J.p rfl (Q.asg rfl) <| J.nil <| J.then_n <| J.cret <| J.blk_r <| J.then_r ?_
    first
     | (have e : (decide (n = 200) || decide (n = 400) || decide (n = 404) || decide (n = 409) || decide (n = 413)) = true := by simp; omega
        refine J.ret1I [] rfl rfl ⟨by rw [e], rfl⟩)
     | (have e : (decide (n = 200) || decide (n = 400) || decide (n = 404) || decide (n = 409) || decide (n = 413)) = false := by simp; omega
        refine J.ret1I [] rfl rfl ⟨by rw [e], rfl⟩)
  replace hc4 := X.nm hc4
  try (first | (cases hc4; done) | (exfalso; simp at hc4; done))
  all_goals
   refine J.cond_f rfl <| J.seq <| J.region <| J.p rfl (Q.eql rfl rfl) <| J.p rfl (Q.asg rfl) <| J.nil <| J.then_n ?_
   refine J.cases 4 rfl (fun hc4 => ?_) (fun hc4 => ?_)
   ·
    replace hc4 := X.nm hc4
    try (first | (cases hc4; done) | (exfalso; simp at hc4; done))
    all_goals
     refine J.cond_t rfl <| J.cskip <| J.then_n <| J.cond_t rfl <| J.seq <| J.region <| J.p rfl (Q.asg rfl) <| J.nil <| J.then_n <| J.cret <| J.blk_r <| J.then_r ?_
     first
      | (have e : (decide (n = 200) || decide (n = 400) || decide (n = 404) || decide (n = 409) || decide (n = 413)) = true := by simp; omega
         refine J.ret1I [] rfl rfl ⟨by rw [e], rfl⟩)
      | (have e : (decide (n = 200) || decide (n = 400) || decide (n = 404) || decide (n = 409) || decide (n = 413)) = false := by simp; omega
         refine J.ret1I [] rfl rfl ⟨by rw [e], rfl⟩)
   replace hc4 := X.nm hc4
   try (first | (cases hc4; done) | (exfalso; simp at hc4; done))
   all_goals
    refine J.cond_f rfl <| J.seq <| J.region <| J.p rfl (Q.eql rfl rfl) <| J.p rfl (Q.asg rfl) <| J.nil <| J.then_n ?_
    refine J.cases 4 rfl (fun hc4 => ?_) (fun hc4 => ?_)
    ·
     replace hc4 := X.nm hc4
     try (first | (cases hc4; done) | (exfalso; simp at hc4; done))
     all_goals
      refine J.cond_t rfl <| J.cskip <| J.then_n <| J.cond_t rfl <| J.seq <| J.region <| J.p rfl (Q.asg rfl) <| J.nil <| J.then_n <| J.cret <| J.blk_r <| J.then_r ?_
      first
       | (have e : (decide (n = 200) || decide (n = 400) || decide (n = 404) || decide (n = 409) || decide (n = 413)) = true := by simp; omega
          refine J.ret1I [] rfl rfl ⟨by rw [e], rfl⟩)
       | (have e : (decide (n = 200) || decide (n = 400) || decide (n = 404) || decide (n = 409) || decide (n = 413)) = false := by simp; omega
          refine J.ret1I [] rfl rfl ⟨by rw [e], rfl⟩)
    replace hc4 := X.nm hc4
    try (first | (cases hc4; done) | (exfalso; simp at hc4; done))
    all_goals
     refine J.cond_f rfl <| J.seq <| J.region <| J.p rfl (Q.eql rfl rfl) <| J.p rfl (Q.asg rfl) <| J.nil <| J.then_n ?_
     refine J.cases 4 rfl (fun hc4 => ?_) (fun hc4 => ?_)
     ·
      replace hc4 := X.nm hc4
      try (first | (cases hc4; done) | (exfalso; simp at hc4; done))
      all_goals
       refine J.cond_t rfl <| J.cskip <| J.then_n <| J.cond_t rfl <| J.seq <| J.region <| J.p rfl (Q.asg rfl) <| J.nil <| J.then_n <| J.cret <| J.blk_r <| J.then_r ?_
       first
        | (have e : (decide (n = 200) || decide (n = 400) || decide (n = 404) || decide (n = 409) || decide (n = 413)) = true := by simp; omega
           refine J.ret1I [] rfl rfl ⟨by rw [e], rfl⟩)
        | (have e : (decide (n = 200) || decide (n = 400) || decide (n = 404) || decide (n = 409) || decide (n = 413)) = false := by simp; omega
           refine J.ret1I [] rfl rfl ⟨by rw [e], rfl⟩)
     replace hc4 := X.nm hc4
     try (first | (cases hc4; done) | (exfalso; simp at hc4; done))
     all_goals
      refine J.cond_f rfl <| J.region <| J.p rfl (Q.eql rfl rfl) <| J.p rfl (Q.asg rfl) <| J.nil <| J.then_n ?_
      refine J.cases 4 rfl (fun hc4 => ?_) (fun hc4 => ?_)
      ·
       replace hc4 := X.nm hc4
       try (first | (cases hc4; done) | (exfalso; simp at hc4; done))
       all_goals
        refine J.cond_t rfl <| J.seq <| J.region <| J.p rfl (Q.asg rfl) <| J.nil <| J.then_n <| J.cret <| J.blk_r <| J.then_r ?_
        first
         | (have e : (decide (n = 200) || decide (n = 400) || decide (n = 404) || decide (n = 409) || decide (n = 413)) = true := by simp; omega
            refine J.ret1I [] rfl rfl ⟨by rw [e], rfl⟩)
         | (have e : (decide (n = 200) || decide (n = 400) || decide (n = 404) || decide (n = 409) || decide (n = 413)) = false := by simp; omega
            refine J.ret1I [] rfl rfl ⟨by rw [e], rfl⟩)
      replace hc4 := X.nm hc4
      try (first | (cases hc4; done) | (exfalso; simp at hc4; done))
      all_goals
       refine J.cond_f rfl <| J.cskip <| J.blk_n <| J.then_n <| J.seq <| J.region <| J.p rfl (Q.asg rfl) <| J.nil <| J.then_n <| J.cret ?_
       first
        | (have e : (decide (n = 200) || decide (n = 400) || decide (n = 404) || decide (n = 409) || decide (n = 413)) = true := by simp; omega
           refine J.ret1I [] rfl rfl ⟨by rw [e], rfl⟩)
        | (have e : (decide (n = 200) || decide (n = 400) || decide (n = 404) || decide (n = 409) || decide (n = 413)) = false := by simp; omega
           refine J.ret1I [] rfl rfl ⟨by rw [e], rfl⟩)

structure CW where
  index : Nat
  bs : List UInt8
  p : Option Addr
  c : Nat
abbrev CW.cells (x : CW) : List Value := [.int .u64 x.index, .slice x.p x.bs.length x.c]
theorem CW.len (x : CW) : x.cells.length = 2 := rfl
structure Coms (G : Assn) (lp : Option Addr) (lc : Nat) (l : List CW) (ds : List DM) : Prop where
  rd : SlR [G] 2 (.slice lp l.length lc) (l.flatMap CW.cells)
  ok : ∀ x, x ∈ l → SlP G x.p x.c x.bs
  small : l.length ≤ 32768
  dec : ∀ (i : Nat) (x : CW), l[i]? = some x → ∃ d, ds[i]? = some d ∧ DecIs x.bs d
  dl : ds.length = l.length

structure SM where
  o : OM
  point : Bool
def DM.m (d : DM) : SM := ⟨d.o, d.point⟩
structure SW where
  y : OW
  point : Bool
def SW.m (w : SW) : SM := ⟨w.y.o, w.point⟩
abbrev SW.cells (w : SW) : List Value := [.int .u64 w.y.o.id, .int .i64 w.y.o.kind, .string w.y.o.bucket, .string w.y.o.key, .string w.y.o.after, .int .i64 w.y.o.n, .int .u64 w.y.o.upload, .slice w.y.pp w.y.o.parts.length w.y.pc, .slice w.y.dp w.y.o.data.length w.y.dc, .bool w.point]
theorem SW.len (x : SW) : x.cells.length = 10 := rfl
theorem SW.one (x : SW) : ∀ v, v ∈ x.cells → oneC v = true := by
  intro v hv
  simp only [SW.cells, List.mem_cons, List.not_mem_nil, or_false] at hv
  rcases hv with rfl | rfl | rfl | rfl | rfl | rfl | rfl | rfl | rfl | rfl <;> rfl
def SW.asn (w : SW) : Assn := w.y.asn

section
variable (G : Assn) (lp : Option Addr) (lc : Nat) (l : List CW) (ds : List DM) (hl : Coms G lp lc l ds)
include hl
theorem read_ok (hi : ∀ (i : Nat) (x : CW), l[i]? = some x → x.index = i + 1) (hb : ∀ d, d ∈ ds → d.bad = false) : FSpec Tryz.prog 20 [.slice lp l.length lc] [G]
    (fun u B => ∃ (ws : List SW) (p : Option Addr) (c : Nat), u = .tuple #[.slice p ws.length c, .int .i64 0] ∧ ws.map SW.m = ds.map DM.m ∧ (∀ w, w ∈ ws → w.y.ok w.asn) ∧ B = [own 127 10 (.slice p ws.length c) (ws.flatMap SW.cells), star (ws.map SW.asn), G]) := by
  have hsml := hl.small
  have hdl := hl.dl
  refine FSpec.of Tryz.func20 rfl Tryz.ntmps20 rfl fun W0 F => ?_
  refine J.seq <| J.region <| J.p rfl (Q.asg rfl) <| J.p rfl (Q.asg rfl) <| J.nil <| J.then_n <| J.seq <| J.region <| J.p rfl (Q.asg rfl) <| J.nil <| J.then_n <| J.seq <| J.seq <| J.region <| J.m rfl <| J.p rfl (Q.lenSl Tryz.runUnderlying25 rfl) <| J.m rfl <| J.nil <| J.then_n <| J.block ?_
  refine J.loop (fun i : Nat => i ≤ l.length) (fun i => l.length - i) (fun i => [(0, .slice lp l.length lc), (4, .slice none 0 0), (13, .slice lp l.length lc), (14, .int .i64 l.length), (15, .int .i64 i)]) (fun _ => [G, F]) 0 (Nat.zero_le _) ⟨rfl, rfl, rfl, rfl, rfl, trivial⟩ rfl fun i hil => ?_
  refine J.seq <| J.region <| J.p rfl (Q.lss rfl rfl) <| J.nil <| J.then_n <| J.seq ?_
  refine J.cases 16 rfl (fun hc16 => ?_) (fun hc16 => ?_)
  ·
   replace hc16 := X.nm hc16
   try (first | (cases hc16; done) | (exfalso; simp at hc16; done))
   all_goals
    refine J.cond_t rfl <| J.cskip <| J.then_n <| J.seq <| J.block <| J.seq ?_
    have hlt : i < l.length := by omega
    obtain ⟨b, off, hlp, hrd⟩ := hl.rd.some_ (by omega)
    obtain ⟨x, hx⟩ : ∃ x, l[i]? = some x := ⟨_, List.getElem?_eq_getElem (by omega)⟩
    have hix := hi i x hx
    refine J.slot 13 (.slice (some ⟨b, off, none⟩) l.length lc) rfl (by rw [hlp]) ?_
    refine J.region <| J.m rfl <| J.p rfl (Q.ia Tryz.runUnderlying25 Tryz.sizeOf56 rfl rfl (by omega) (by omega)) <| J.p rfl (Q.ldN (vs := [_, _]) Tryz.isAgg56 Tryz.sizeOf56 rfl ((rd_elem CW.len hrd hx (by simp)).inI)) ?_
    refine J.c rfl rfl (C.alloc (l := [_, _]) Tryz.zeroValue56 rfl) ?_
    rintro _ _ ⟨b6, rfl, rfl⟩
    refine J.norm rfl <| J.p rfl (Q.asg rfl) ?_
    refine J.stAI (vs := [_, _]) rfl Tryz.sizeOf56 rfl rfl (by exact rfl) (by exact rfl) (by exact rfl) ?_
    refine J.nil <| J.then_n <| J.seq <| J.region <| J.p rfl (Q.fa (n := 0) Tryz.runUnderlying56 rfl rfl Tryz.sizeOf40 rfl) ?_
    refine J.p rfl (Q.ld Tryz.isAgg40 rfl (rdI (by exact rfl))) ?_
    refine J.m rfl <| J.p rfl (Q.add64 rfl rfl (by omega)) <| J.p rfl (Q.conv Tryz.runUnderlying3 Tryz.runUnderlying40 rfl) ?_
    refine J.slot 24 (.int .u64 ((i + 1 : Nat) : Int)) rfl (by rw [show ((i : Int) + 1) = ((i + 1 : Nat) : Int) by omega, wrap64 (by omega)]) ?_
    refine J.p rfl (Q.neq rfl rfl) <| J.nil <| J.then_n ?_
    refine J.cases 25 rfl (fun hc25 => ?_) (fun hc25 => ?_)
    ·
     (exfalso; have hq := X.nm hc25; rw [hix] at hq; exact hq rfl)
    replace hc25 := X.nm hc25
    try (first | (cases hc25; done) | (exfalso; simp at hc25; done))
    all_goals
     refine J.cond_f rfl <| J.cskip <| J.blk_n <| J.then_n <| J.region <| J.p rfl (Q.add64 rfl rfl (by omega)) <| J.m rfl <| J.nil ?_
     refine J.againI (i + 1) (by show i + 1 ≤ _; omega) (by show l.length - (i + 1) < l.length - i; omega) ⟨rfl, rfl, (by show _ = some (Value.slice lp l.length lc); rw [hlp]; rfl), rfl, rfl, trivial⟩
  replace hc16 := X.nm hc16
  try (first | (cases hc16; done) | (exfalso; simp at hc16; done))
  all_goals
   refine J.cond_f rfl <| J.exit <| J.then_x <| J.lp_x <| J.blk_x <| J.then_n <| J.seq <| J.seq <| J.region <| J.m rfl <| J.p rfl (Q.lenSl Tryz.runUnderlying25 rfl) <| J.m rfl <| J.nil <| J.then_n <| J.block ?_
   refine J.give (own.nil 127 10 _) ?_
   refine J.give (X := star (([] : List SW).map SW.asn)) trivial ?_
   refine J.keepI [own 127 10 (.slice none 0 0) [], star (([] : List SW).map SW.asn), G, F] ?_
   refine J.loop4 (fun (j : Nat) (ws : List SW) (_ : Option Addr) (_ : Nat) => j ≤ l.length ∧ ws.length = j ∧ ws.map SW.m = (ds.take j).map DM.m ∧ ∀ w, w ∈ ws → w.y.ok w.asn) (fun j _ _ _ => l.length - j)
    (fun j ws p c => [(4, .slice p ws.length c), (27, .slice lp l.length lc), (28, .int .i64 l.length), (29, .int .i64 j)])
    (fun j ws p c => [own 127 10 (.slice p ws.length c) (ws.flatMap SW.cells), star (ws.map SW.asn), G, F]) 0 [] none 0 ⟨Nat.zero_le _, rfl, rfl, by simp⟩ ⟨rfl, rfl, rfl, rfl, trivial⟩ rfl fun j ws p c hz => ?_
   obtain ⟨hj, hwl, hwm, hwo⟩ := hz
   refine J.seq <| J.region <| J.p rfl (Q.lss rfl rfl) <| J.nil <| J.then_n <| J.seq ?_
   refine J.cases 30 rfl (fun hc30 => ?_) (fun hc30 => ?_)
   ·
    replace hc30 := X.nm hc30
    try (first | (cases hc30; done) | (exfalso; simp at hc30; done))
    all_goals
     refine J.cond_t rfl <| J.cskip <| J.then_n <| J.seq <| J.block <| J.seq ?_
     have hlt : j < l.length := by omega
     obtain ⟨b, off, hlp, hrd⟩ := hl.rd.some_ (by omega)
     obtain ⟨x, hx⟩ : ∃ x, l[j]? = some x := ⟨_, List.getElem?_eq_getElem (by omega)⟩
     obtain ⟨d, hd, hdec⟩ := hl.dec j x hx
     have hdb := hb d (List.mem_of_getElem? hd)
     refine J.slot 27 (.slice (some ⟨b, off, none⟩) l.length lc) rfl (by rw [hlp]) ?_
     refine J.region <| J.p rfl (Q.ia Tryz.runUnderlying25 Tryz.sizeOf56 rfl rfl (by omega) (by omega)) <| J.p rfl (Q.ldN (vs := [_, _]) Tryz.isAgg56 Tryz.sizeOf56 rfl ((rd_elem CW.len hrd hx (by simp)).inI)) ?_
     refine J.c rfl rfl (C.alloc (l := [_, _]) Tryz.zeroValue56 rfl) ?_
     rintro _ _ ⟨b8, rfl, rfl⟩
     refine J.norm rfl ?_
     refine J.stAI (vs := [_, _]) rfl Tryz.sizeOf56 rfl rfl (by exact rfl) (by exact rfl) (by exact rfl) ?_
     refine J.nil <| J.then_n <| J.seq <| J.region <| J.p rfl (Q.fa (n := 1) Tryz.runUnderlying56 rfl rfl Tryz.sizeOf42 rfl) ?_
     refine J.p rfl (Q.ld Tryz.isAgg42 rfl (rdI (by exact rfl))) ?_
     refine J.callI Tryz.call19 (hdec G x.p x.c (hl.ok x (List.mem_of_getElem? hx))) rfl rfl rfl ?_
     rintro _ _ ⟨y, zp, rfl, hyo, hyk, rfl⟩
     refine J.norm rfl ?_
     refine J.slot 36 (.tuple #[.agg y.cells.toArray, .agg zp.cells.toArray, .bool d.point, .int .i64 0]) rfl (by rw [hdb]; rfl) ?_
     refine J.m rfl <| J.p rfl (Q.ext rfl rfl) <| J.p rfl (Q.ext rfl rfl) <| J.p rfl (Q.ext rfl rfl) <| J.p rfl (Q.ext rfl rfl) ?_
     refine J.c rfl rfl (C.alloc (l := [_, _, _, _, _, _, _, _, _]) Tryz.zeroValue52 rfl) ?_
     rintro _ _ ⟨b9, rfl, rfl⟩
     refine J.norm rfl ?_
     refine J.c rfl rfl (C.alloc (l := [_, _, _, _, _, _, _, _, _]) Tryz.zeroValue67 rfl) ?_
     rintro _ _ ⟨b10, rfl, rfl⟩
     refine J.norm rfl ?_
     refine J.stAI (vs := [_, _, _, _, _, _, _, _, _]) rfl Tryz.sizeOf52 rfl rfl (by exact rfl) (by exact rfl) (by exact rfl) ?_
     refine J.stAI (vs := [_, _, _, _, _, _, _, _, _]) rfl Tryz.sizeOf67 rfl rfl (by exact rfl) (by exact rfl) (by exact rfl) ?_
     refine J.p rfl (Q.asg rfl) <| J.p rfl (Q.asg rfl) <| J.nil <| J.then_n <| J.seq <| J.seq <| J.region <| J.m rfl <| J.p rfl (Q.neq rfl rfl) <| J.nil <| J.then_n ?_
     refine J.cases 42 rfl (fun hc42 => ?_) (fun hc42 => ?_)
     ·
      replace hc42 := X.nm hc42
      try (first | (cases hc42; done) | (exfalso; simp at hc42; done))
      all_goals
       refine J.cond_t rfl <| J.seq <| J.region <| J.p rfl (Q.asg rfl) <| J.p rfl (Q.asg rfl) <| J.nil <| J.then_n <| J.cret <| J.then_r <| J.blk_r <| J.then_r <| J.lp_r <| J.blk_r <| J.then_r ?_
       have htk : ds.take j = ds := List.take_of_length_le (by omega)
       rw [htk] at hwm
       refine J.ret2I [own 127 10 (.slice p ws.length c) (ws.flatMap SW.cells), star (ws.map SW.asn), G] rfl rfl rfl ⟨ws, p, c, rfl, hwm, hwo, rfl⟩
     replace hc42 := X.nm hc42
     try (first | (cases hc42; done) | (exfalso; simp at hc42; done))
     all_goals
      refine J.cond_f rfl <| J.cskip <| J.then_n <| J.region <| J.m rfl ?_
      refine J.p rfl (Q.ldN (vs := [_, _, _, _, _, _, _, _, _]) Tryz.isAgg52 Tryz.sizeOf52 rfl rnI) ?_
      refine J.m rfl <| J.p rfl (Q.bld (l := SW.cells ⟨y, d.point⟩) Tryz.runUnderlying127 Tryz.zeroValue127 Tryz.places127 rfl (by kernel_rfl)) ?_
      refine J.c rfl rfl (C.bslG (l := [_, _, _, _, _, _, _, _, _, _]) Tryz.runUnderlying76 Tryz.sizeOf127 Tryz.zeroValue127 (by decide) rfl rfl rfl rfl rfl) ?_
      rintro _ _ ⟨b47, rfl, rfl⟩
      refine J.norm rfl ?_
      refine J.c rfl rfl (C.appI Tryz.runUnderlying76 Tryz.runUnderlying76 Tryz.typeInfo127 Tryz.sizeOf127 Tryz.zeroValue127 rfl rfl (SlR.ptI rfl) (SW.one ⟨y, d.point⟩) (by simp [Tryz.t127] <;> omega) (by decide)) ?_
      rintro _ _ ⟨p48, c48, rfl, rfl⟩
      refine J.norm rfl <| J.p rfl (Q.asg rfl) <| J.nil <| J.blk_n <| J.then_n <| J.region <| J.p rfl (Q.add64 rfl rfl (by omega)) <| J.m rfl <| J.nil ?_
      refine J.convI y.asn (SW.asn ⟨y, d.point⟩) (fun _ h => h) ?_
      refine J.shutI [SW.asn ⟨y, d.point⟩, star (ws.map SW.asn)] (star ((ws ++ [(⟨y, d.point⟩ : SW)]).map SW.asn)) (star_snoc _) ?_
      have e1 : ws.length + 1 = (ws ++ [(⟨y, d.point⟩ : SW)]).length := by simp
      have e2 : ws.flatMap SW.cells ++ SW.cells ⟨y, d.point⟩ = (ws ++ [(⟨y, d.point⟩ : SW)]).flatMap SW.cells := by simp
      have e3 : ds.take (j + 1) = ds.take j ++ [d] := by
       obtain ⟨q1, q2⟩ := List.getElem?_eq_some_iff.1 hd
       rw [List.take_succ_eq_append_getElem q1, q2]
      rw [e1, e2]
      refine J.againI (j + 1, ws ++ [(⟨y, d.point⟩ : SW)], p48, c48) ⟨by show j + 1 ≤ _; omega, by show (ws ++ [(⟨y, d.point⟩ : SW)]).length = j + 1; rw [← e1, hwl], ?_, ?_⟩ (by show l.length - (j + 1) < l.length - j; omega) ⟨rfl, (by show _ = some (Value.slice lp l.length lc); rw [hlp]; rfl), rfl, rfl, trivial⟩
      · show (ws ++ [(⟨y, d.point⟩ : SW)]).map SW.m = (ds.take (j + 1)).map DM.m
        rw [e3, List.map_append, List.map_append, hwm, List.map_singleton, List.map_singleton]
        show _ ++ [SM.mk y.o d.point] = _ ++ [SM.mk d.o d.point]
        rw [hyo]
      · intro w hw
        rcases List.mem_append.1 hw with h | h
        · exact hwo w h
        · rw [List.mem_singleton.1 h]; exact hyk
   replace hc30 := X.nm hc30
   try (first | (cases hc30; done) | (exfalso; simp at hc30; done))
   all_goals
    refine J.cond_f rfl <| J.exit <| J.then_x <| J.lp_x <| J.blk_x <| J.then_n <| J.seq <| J.region <| J.m rfl <| J.p rfl (Q.asg rfl) <| J.p rfl (Q.asg rfl) <| J.nil <| J.then_n <| J.cret ?_
    have htk : ds.take j = ds := List.take_of_length_le (by omega)
    rw [htk] at hwm
    refine J.ret2I [own 127 10 (.slice p ws.length c) (ws.flatMap SW.cells), star (ws.map SW.asn), G] rfl rfl rfl ⟨ws, p, c, rfl, hwm, hwo, rfl⟩
end
end Go.Proofs.YtidbcaimgahllaaGreat
namespace Go.Proofs.YtidbcaimgahllaaGreat
set_option linter.unusedSectionVars false
set_option linter.unusedSimpArgs false
set_option linter.unusedVariables false
open Go.X
open Go.X.G (Ord3 ord3_nat ord3_int ord3_str ltB sget sput sdel Srtd MapAt MapHole valRep)

structure PS where
  M : BM
  rs : List RM
  first : List (Nat × Nat)
def PS.step (z : PS) (s : SM) : PS :=
  if s.point then { z with rs := z.rs ++ [st 0] }
  else ⟨(z.M.run s.o).2, z.rs ++ [(z.M.run s.o).1], if (sget s.o.id z.first).getD 0 = 0 then sput ltN s.o.id (z.rs.length + 1) z.first else z.first⟩
def playP (l : List SM) : PS := l.foldl PS.step ⟨⟨[], [], []⟩, [], []⟩
theorem playP_snoc (l : List SM) (s : SM) : playP (l ++ [s]) = (playP l).step s := by simp [playP]
theorem playP_take {l : List SM} {k : Nat} {s : SM} (h : l[k]? = some s) : playP (l.take (k + 1)) = (playP (l.take k)).step s := by
  obtain ⟨h1, h2⟩ := List.getElem?_eq_some_iff.1 h
  rw [List.take_succ_eq_append_getElem h1, h2, playP_snoc]
structure PS.ok (k : Nat) (z : PS) : Prop where
  m : z.M.ok k
  kok : z.M.kok
  srt : Srtd ltN z.first
  len : z.rs.length = k
  small : ∀ r, r ∈ z.rs → r.keys.length ≤ 1000 ∧ r.data.length ≤ 274877906944
theorem PS.ok.step {k : Nat} {z : PS} (h : z.ok k) (s : SM) : (z.step s).ok (k + 1) := by
  unfold PS.step
  split
  · refine ⟨h.m.mono (Nat.le_succ k), h.kok, h.srt, by simp [h.len], fun r hr => ?_⟩
    rcases List.mem_append.1 hr with q | q
    · exact h.small r q
    · rw [List.mem_singleton.1 q]; simp [st]
  · refine ⟨run_ok h.m s.o, run_kok h.m h.kok s.o, ?_, by simp [h.len], fun r hr => ?_⟩
    · dsimp only
      split
      · exact X.G.srtd_put ord3_nat h.srt _ _
      · exact h.srt
    rcases List.mem_append.1 hr with q | q
    · exact h.small r q
    · rw [List.mem_singleton.1 q]; exact run_small h.m s.o
theorem PS.ok.fold : ∀ (l : List SM) {k : Nat} {z : PS}, z.ok k → (l.foldl PS.step z).ok (k + l.length)
  | [], _, _, h => h
  | s :: l, k, z, h => by
    have := PS.ok.fold l (h.step s)
    rw [List.foldl_cons, List.length_cons, show k + (l.length + 1) = k + 1 + l.length by omega]; exact this
theorem playP_ok (l : List SM) : (playP l).ok l.length := by
  have := PS.ok.fold l (k := 0) (z := ⟨⟨[], [], []⟩, [], []⟩) ⟨BM.ok.new, kok_new, List.Pairwise.nil, rfl, by simp⟩
  rwa [Nat.zero_add] at this
theorem getD_enc (o : Option Nat) : (o.map encU).getD (.int .u64 0) = Value.int .u64 ((o.getD 0 : Nat) : Int) := by cases o <;> rfl

structure JM where
  l : List SM
  rs : List RM
  first : List (Nat × Nat)
  asked : List (Nat × Bool)
  before : List (Nat × Nat)
  most : Nat
structure JM.ok (H : JM) : Prop where
  first : Srtd ltN H.first
  asked : Srtd ltN H.asked
  before : Srtd ltN H.before
  len : H.rs.length = H.l.length
  small : H.l.length ≤ 32768
  rs : ∀ r, r ∈ H.rs → r.keys.length ≤ 1000 ∧ r.data.length ≤ 274877906944
structure HZ where
  ws : List SW
  lp : Option Addr
  lc : Nat
  rws : List RW
  rp : Option Addr
  rc : Nat
  f : Nat
  a : Nat
  b : Nat
abbrev HZ.asns (h : Nat) (H : JM) (z : HZ) : List Assn :=
  [pt h (.cells [.slice z.lp z.ws.length z.lc, .slice z.rp z.rws.length z.rc, .map (some z.f), .map (some z.a), .map (some z.b), .int .u64 H.most].toArray 86 (0, 0)), own 44 5 (.slice z.rp z.rws.length z.rc) (z.rws.flatMap RW.cells), star (z.rws.map RW.asn),
   MapAt encU (valRep encU) z.f H.first, MapAt encU (valRep Value.bool) z.a H.asked, MapAt encU (valRep encU) z.b H.before, own 127 10 (.slice z.lp z.ws.length z.lc) (z.ws.flatMap SW.cells), star (z.ws.map SW.asn)]
structure HZ.of (H : JM) (z : HZ) : Prop where
  l : z.ws.map SW.m = H.l
  rs : z.rws.map (·.r) = H.rs
def HAt (h : Nat) (H : JM) : Assn := fun q => ∃ z : HZ, z.of H ∧ HSat q (z.asns h H)
def begM (l : List SM) : JM := ⟨l, (playP l).rs, (playP l).first, [], [], 0⟩
theorem begM_ok {l : List SM} (h : l.length ≤ 32768) : (begM l).ok := by
  have := playP_ok l
  exact ⟨this.srt, List.Pairwise.nil, List.Pairwise.nil, this.len, h, this.small⟩

theorem ok_star {ws : List SW} {i : Nat} {w : SW} (hi : ws[i]? = some w) (h : w.y.ok w.asn) : w.y.ok (star (ws.map SW.asn)) :=
  ⟨h.parts.into i (by rw [List.getElem?_map, hi]; rfl), h.data.into i (by rw [List.getElem?_map, hi]; rfl), h.small⟩

theorem rw_one (r : RW) : ∀ v, v ∈ r.cells → oneC v = true := by
  have := RW.cells_one (l := [r])
  rwa [List.flatMap_cons, List.flatMap_nil, List.append_nil] at this

theorem jbegin_spec (ws : List SW) (lp : Option Addr) (lc : Nat) (hok : ∀ w, w ∈ ws → w.y.ok w.asn) (hn : ws.length ≤ 32768) : FSpec Tryz.prog 21 [.slice lp ws.length lc] [own 127 10 (.slice lp ws.length lc) (ws.flatMap SW.cells), star (ws.map SW.asn)]
    (fun u B => ∃ h, u = .pointer (some ⟨h, 0, none⟩) ∧ B = [HAt h (begM (ws.map SW.m))]) := by
  refine FSpec.of Tryz.func21 rfl Tryz.ntmps21 rfl fun W0 F => ?_
  refine J.slrI (E0 := 127) (sz := 10) (p := lp) (n := ws.length) (c := lc) (xs := ws.flatMap SW.cells) fun hsl => ?_
  refine J.seq <| J.region <| J.p rfl (Q.asg rfl) <| J.nil <| J.then_n <| J.seq <| J.region <| J.m rfl ?_
  refine J.c rfl rfl C.mkMap ?_
  rintro _ _ ⟨b9, rfl, rfl⟩
  refine J.norm rfl ?_
  refine J.c rfl rfl C.mkMap ?_
  rintro _ _ ⟨b10, rfl, rfl⟩
  refine J.norm rfl ?_
  refine J.c rfl rfl C.mkMap ?_
  rintro _ _ ⟨b11, rfl, rfl⟩
  refine J.norm rfl <| J.p rfl (Q.bld (l := [.slice lp ws.length lc, .slice none 0 0, .map (some b9), .map (some b10), .map (some b11), .int .u64 0]) Tryz.runUnderlying86 Tryz.zeroValue86 Tryz.places86 rfl (by kernel_rfl)) ?_
  refine J.c rfl rfl (C.box (l := [_, _, _, _, _, _]) rfl rfl) ?_
  rintro _ _ ⟨b13, rfl, rfl⟩
  refine J.norm rfl ?_
  refine J.convI (pt b9 (.map #[] 0)) (MapAt encU (valRep encU) b9 ([] : List (Nat × Nat))) X.G.MapAt.new ?_
  refine J.convI (pt b10 (.map #[] 0)) (MapAt encU (valRep Value.bool) b10 ([] : List (Nat × Bool))) X.G.MapAt.new ?_
  refine J.convI (pt b11 (.map #[] 0)) (MapAt encU (valRep encU) b11 ([] : List (Nat × Nat))) X.G.MapAt.new ?_
  refine J.p rfl (Q.asg rfl) <| J.nil <| J.then_n <| J.seq <| J.region ?_
  refine J.callI Tryz.call50 (new_spec) rfl rfl rfl ?_
  rintro _ _ ⟨m, rfl, rfl⟩
  refine J.norm rfl <| J.p rfl (Q.asg rfl) <| J.nil <| J.then_n <| J.seq <| J.seq <| J.region <| J.m rfl <| J.p rfl (Q.lenSl Tryz.runUnderlying76 rfl) <| J.m rfl <| J.nil <| J.then_n <| J.block ?_
  refine J.give (own.nil 44 5 _) ?_
  refine J.give (X := star (([] : List RW).map RW.asn)) trivial ?_
  refine J.keepI [pt b13 (.cells [.slice lp ws.length lc, .slice none 0 0, .map (some b9), .map (some b10), .map (some b11), .int .u64 0].toArray 86 (0, 0)), own 44 5 (.slice none 0 0) [], star (([] : List RW).map RW.asn), MapAt encU (valRep encU) b9 ([] : List (Nat × Nat)), MapAt encU (valRep Value.bool) b10 ([] : List (Nat × Bool)), MapAt encU (valRep encU) b11 ([] : List (Nat × Nat)), BktAt m ⟨[], [], []⟩, own 127 10 (.slice lp ws.length lc) (ws.flatMap SW.cells), star (ws.map SW.asn), F] ?_
  refine J.loop4 (fun (i : Nat) (rws : List RW) (_ : Option Addr) (_ : Nat) => i ≤ ws.length ∧ rws.map (·.r) = (playP ((ws.map SW.m).take i)).rs) (fun i _ _ _ => ws.length - i)
   (fun i rws p c => [(3, .pointer (some ⟨b13, 0, none⟩)), (4, .pointer (some ⟨m, 0, none⟩)), (15, .slice lp ws.length lc), (16, .int .i64 ws.length), (17, .int .i64 i)])
   (fun i rws p c => [pt b13 (.cells [.slice lp ws.length lc, .slice p rws.length c, .map (some b9), .map (some b10), .map (some b11), .int .u64 0].toArray 86 (0, 0)), own 44 5 (.slice p rws.length c) (rws.flatMap RW.cells), star (rws.map RW.asn), MapAt encU (valRep encU) b9 (playP ((ws.map SW.m).take i)).first, MapAt encU (valRep Value.bool) b10 ([] : List (Nat × Bool)), MapAt encU (valRep encU) b11 ([] : List (Nat × Nat)), BktAt m (playP ((ws.map SW.m).take i)).M, own 127 10 (.slice lp ws.length lc) (ws.flatMap SW.cells), star (ws.map SW.asn), F])
   0 [] none 0 ⟨Nat.zero_le _, rfl⟩ ⟨rfl, rfl, rfl, rfl, rfl, trivial⟩ rfl fun i rws p c hz => ?_
  obtain ⟨hi, hrs⟩ := hz
  refine J.seq <| J.region <| J.p rfl (Q.lss rfl rfl) <| J.nil <| J.then_n <| J.seq ?_
  refine J.cases 18 rfl (fun hc18 => ?_) (fun hc18 => ?_)
  ·
   replace hc18 := X.nm hc18
   refine J.cond_t rfl <| J.cskip <| J.then_n <| J.seq <| J.block <| J.seq ?_
   have hlt : i < ws.length := by omega
   obtain ⟨b, off, hlp, hrd⟩ := hsl.some_ (by omega)
   obtain ⟨w, hw⟩ : ∃ w, ws[i]? = some w := ⟨_, List.getElem?_eq_getElem (by omega)⟩
   have hpt := playP_take (l := ws.map SW.m) (k := i) (s := w.m) (by rw [List.getElem?_map, hw]; rfl)
   have hSo := playP_ok ((ws.map SW.m).take i)
   obtain ⟨S, hS⟩ : ∃ S, S = playP ((ws.map SW.m).take i) := ⟨_, rfl⟩
   rw [← hS] at hpt hrs hSo ⊢
   rw [List.length_take, List.length_map, Nat.min_eq_left (by omega)] at hSo
   have hrl : rws.length = i := by rw [← hSo.len, ← hrs, List.length_map]
   have hst := hSo.srt
   refine J.slot 15 (.slice (some ⟨b, off, none⟩) ws.length lc) rfl (by rw [hlp]) ?_
   refine J.region <| J.m rfl <| J.p rfl (Q.ia Tryz.runUnderlying76 Tryz.sizeOf127 rfl rfl (by omega) (by omega)) <| J.p rfl (Q.ldN (vs := [_, _, _, _, _, _, _, _, _, _]) Tryz.isAgg127 Tryz.sizeOf127 rfl ((rd_elem SW.len hrd hw (by simp)).inI)) ?_
   refine J.c rfl rfl (C.alloc (l := [_, _, _, _, _, _, _, _, _, _]) Tryz.zeroValue127 rfl) ?_
   rintro _ _ ⟨b6, rfl, rfl⟩
   refine J.norm rfl <| J.p rfl (Q.asg rfl) ?_
   refine J.stAI (vs := [_, _, _, _, _, _, _, _, _, _]) rfl Tryz.sizeOf127 rfl rfl (by exact rfl) (by exact rfl) (by exact rfl) ?_
   refine J.nil <| J.then_n <| J.seq <| J.region <| J.p rfl (Q.bld (l := [_, _, _, _, _]) Tryz.runUnderlying44 Tryz.zeroValue44 Tryz.places44 rfl rfl) ?_
   refine J.c rfl rfl (C.alloc (l := [_, _, _, _, _]) Tryz.zeroValue44 rfl) ?_
   rintro _ _ ⟨b7, rfl, rfl⟩
   refine J.norm rfl ?_
   refine J.stAI (vs := [_, _, _, _, _]) rfl Tryz.sizeOf44 rfl rfl (by exact rfl) (by exact rfl) (by exact rfl) ?_
   refine J.nil <| J.then_n ?_
   refine J.cut (fun r : RW => r.r = (if w.point then st 0 else (S.M.run w.y.o).1)) (fun r => [(3, .pointer (some ⟨b13, 0, none⟩)), (4, .pointer (some ⟨m, 0, none⟩)), (7, .pointer (some ⟨b7, 0, none⟩)), (15, .slice (some ⟨b, off, none⟩) ws.length lc), (16, .int .i64 ws.length), (17, .int .i64 i)])
    (fun r => [pt b13 (.cells [.slice lp ws.length lc, .slice p rws.length c, .map (some b9), .map (some b10), .map (some b11), .int .u64 0].toArray 86 (0, 0)), own 44 5 (.slice p rws.length c) (rws.flatMap RW.cells), star (rws.map RW.asn), MapAt encU (valRep encU) b9 (S.step w.m).first, MapAt encU (valRep Value.bool) b10 ([] : List (Nat × Bool)), MapAt encU (valRep encU) b11 ([] : List (Nat × Nat)), BktAt m (S.step w.m).M, own 127 10 (.slice lp ws.length lc) (ws.flatMap SW.cells), star (ws.map SW.asn),
     pt b7 (.cells r.cells.toArray 44 (0, 0)), r.asn, F]) ?_ fun r hr => ?_
   ·
    refine J.seq <| J.region <| J.p rfl (Q.fa (n := 9) Tryz.runUnderlying127 rfl rfl Tryz.sizeOf4 rfl) ?_
    refine J.p rfl (Q.ld Tryz.isAgg4 rfl (rdI (by exact rfl))) ?_
    refine J.p rfl (Q.not rfl) <| J.nil <| J.then_n ?_
    refine J.cases 25 rfl (fun hc25 => ?_) (fun hc25 => ?_)
    ·
     replace hc25 := X.nm hc25
     refine J.cond_t rfl <| J.seq <| J.region <| J.m rfl <| J.p rfl (Q.fa (n := 0) Tryz.runUnderlying127 rfl rfl Tryz.sizeOf52 rfl) <| J.p rfl (Q.ldN (vs := [_, _, _, _, _, _, _, _, _]) Tryz.isAgg52 Tryz.sizeOf52 rfl (rnSub 0 rfl)) ?_
     refine J.callI Tryz.call51 (do_all m S.M hSo.m hSo.kok (by omega) w.y (star (ws.map SW.asn)) (ok_star hw (hok w (List.mem_of_getElem? hw)))) rfl rfl rfl ?_
     rintro _ _ ⟨r, rfl, hr, rfl⟩
     refine J.norm rfl ?_
     refine J.stAI (vs := [_, _, _, _, _]) rfl Tryz.sizeOf44 rfl rfl (by exact rfl) (by exact rfl) (by exact rfl) ?_
     refine J.nil <| J.then_n <| J.seq ?_
     refine J.draw [] Tryz.mixed (by kernel_rfl) fun hR => ?_
     refine RG.p 0 hR rfl (Q.mv rfl) <| RG.p 1 hR rfl (Q.nil_ rfl) <| RG.p 2 hR rfl (Q.fa (n := 2) Tryz.runUnderlying86 rfl rfl Tryz.sizeOf84 rfl) ?_
     refine RG.p 3 hR rfl (Q.ld Tryz.isAgg84 rfl (rdI (by exact rfl))) ?_
     refine RG.p 4 hR rfl (Q.fa (n := 0) Tryz.runUnderlying127 rfl rfl Tryz.sizeOf52 rfl) <| RG.p 5 hR rfl (Q.fa (n := 0) Tryz.runUnderlying52 rfl rfl Tryz.sizeOf40 rfl) ?_
     refine RG.p 6 hR rfl (Q.ld Tryz.isAgg40 rfl (rdI (by exact rfl))) ?_
     refine RG.p 7 hR rfl (X.G.Q.lkV (f := encU) S.first ord3_nat hst Tryz.runUnderlying84 keyU Tryz.zeroValue40 rfl rfl) ?_
     refine RG.slot 37 (.int .u64 (((sget w.y.o.id S.first).getD 0 : Nat) : Int)) rfl (getD_enc _) ?_
     refine RG.p 8 hR rfl (Q.eql rfl rfl) ?_
     refine RG.fin hR rfl ?_
     refine J.norm rfl <| J.then_n ?_
     refine J.cases 38 rfl (fun hc38 => ?_) (fun hc38 => ?_)
     ·
      replace hc38 := X.nm hc38
      refine J.cond_t rfl ?_
      refine J.draw [10] Tryz.mixed (by kernel_rfl) fun hR => ?_
      refine RG.p 0 hR rfl (Q.mv rfl) <| RG.p 1 hR rfl (Q.nil_ rfl) <| RG.p 2 hR rfl (Q.fa (n := 2) Tryz.runUnderlying86 rfl rfl Tryz.sizeOf84 rfl) ?_
      refine RG.p 3 hR rfl (Q.ld Tryz.isAgg84 rfl (rdI (by exact rfl))) ?_
      refine RG.p 4 hR rfl (Q.fa (n := 0) Tryz.runUnderlying127 rfl rfl Tryz.sizeOf52 rfl) <| RG.p 5 hR rfl (Q.fa (n := 0) Tryz.runUnderlying52 rfl rfl Tryz.sizeOf40 rfl) ?_
      refine RG.p 6 hR rfl (Q.ld Tryz.isAgg40 rfl (rdI (by exact rfl))) ?_
      refine RG.p 7 hR rfl (Q.mv rfl) <| RG.p 8 hR rfl (Q.add64 rfl rfl (by omega)) <| RG.p 9 hR rfl (Q.conv Tryz.runUnderlying3 Tryz.runUnderlying40 rfl) ?_
      refine RG.slot 48 (encU (rws.length + 1)) rfl (by show Value.int .u64 _ = Value.int .u64 _; rw [hrl, show ((i : Int) + 1) = ((i + 1 : Nat) : Int) by omega, wrap64 (by omega)]) ?_
      refine RG.bar 10 hR rfl rfl rfl rfl rfl rfl (X.G.C.putV encU S.first (rws.length + 1) ord3_nat hst Tryz.runUnderlying84 keyU rfl rfl rfl) ?_
      rintro _ _ ⟨rfl, rfl⟩
      refine RG.norm rfl ?_
      refine RG.fin hR rfl ?_
      refine J.norm rfl ?_
      have hp : w.point = false := by simpa using hc25
      have hf : (sget w.y.o.id S.first).getD 0 = 0 := by omega
      have hrl2 : rws.length = S.rs.length := by rw [← hrs, List.length_map]
      have e : S.step w.m = ⟨(S.M.run w.y.o).2, S.rs ++ [(S.M.run w.y.o).1], sput ltN w.y.o.id (rws.length + 1) S.first⟩ := by simp [PS.step, SW.m, hp, hf, hrl2]
      rw [e]
      exact J.meetI r (by rw [hp]; exact hr) ⟨rfl, rfl, rfl, rfl, rfl, rfl, trivial⟩
     replace hc38 := X.nm hc38
     refine J.cond_f rfl <| J.cskip ?_
     have hp : w.point = false := by simpa using hc25
     have hf : ¬ (sget w.y.o.id S.first).getD 0 = 0 := by omega
     have e : S.step w.m = ⟨(S.M.run w.y.o).2, S.rs ++ [(S.M.run w.y.o).1], S.first⟩ := by simp [PS.step, SW.m, hp, hf]
     rw [e]
     exact J.meetI r (by rw [hp]; exact hr) ⟨rfl, rfl, rfl, rfl, rfl, rfl, trivial⟩
    replace hc25 := X.nm hc25
    refine J.cond_f rfl <| J.cskip ?_
    have hp : w.point = true := by simpa using hc25
    have e : S.step w.m = { S with rs := S.rs ++ [st 0] } := by simp [PS.step, SW.m, hp]
    rw [e]
    refine J.convI (pt b7 (.cells [.int .i64 0, .int .u64 0, .slice none 0 0, .bool false, .slice none 0 0].toArray 44 (0, 0))) (pt b7 (.cells (RW.cells ⟨st 0, none, 0, none, 0⟩).toArray 44 (0, 0))) (fun _ h => h) ?_
    refine J.give (X := RW.asn ⟨st 0, none, 0, none, 0⟩) empty_asn ?_
    exact J.meetI ⟨st 0, none, 0, none, 0⟩ (by rw [hp]; rfl) ⟨rfl, rfl, rfl, rfl, rfl, rfl, trivial⟩
   refine J.norm rfl ?_
   refine J.pickI [pt b13 (.cells [.slice lp ws.length lc, .slice p rws.length c, .map (some b9), .map (some b10), .map (some b11), .int .u64 0].toArray 86 (0, 0)), pt b7 (.cells r.cells.toArray 44 (0, 0))] ?_
   refine J.norm rfl ?_
   refine J.drawE [6, 7, 10] 2 Tryz.mixed (by kernel_rfl) rfl rfl fun hR => ?_
   refine RG.p 0 hR rfl (Q.mv rfl) <| RG.p 1 hR rfl (Q.mv rfl) <| RG.p 2 hR rfl (Q.nil_ rfl) <| RG.p 3 hR rfl (Q.fa (n := 1) Tryz.runUnderlying86 rfl rfl Tryz.sizeOf48 rfl) ?_
   refine RG.p 4 hR rfl (Q.ld Tryz.isAgg48 rfl (rdI (by exact rfl))) ?_
   refine RG.p 5 hR rfl (Q.ldN (vs := [_, _, _, _, _]) Tryz.isAgg44 Tryz.sizeOf44 rfl rnI) ?_
   refine RG.made 6 hR rfl rfl rfl rfl rfl (C.bslG (l := [_, _, _, _, _]) Tryz.runUnderlying48 Tryz.sizeOf44 Tryz.zeroValue44 (by decide) rfl rfl rfl rfl rfl) ?_
   rintro b55
   refine RG.many hR 7 [] rfl ⟨?_, trivial⟩
   ·
    refine RGi.appI rfl rfl rfl rfl Tryz.runUnderlying48 Tryz.runUnderlying48 Tryz.typeInfo44 Tryz.sizeOf44 Tryz.zeroValue44 rfl rfl (SlR.ptI rfl) (rw_one r) (by simp [Tryz.t44] <;> omega) (by decide) ?_
    rintro p56 c56
    refine RG.normE rfl <| RG.p 8 hR rfl (Q.nil_ rfl) <| RG.p 9 hR rfl (Q.fa (n := 1) Tryz.runUnderlying86 rfl rfl Tryz.sizeOf48 rfl) ?_
    refine RG.stI 10 hR rfl rfl rfl rfl rfl Tryz.sizeOf48 rfl rfl rfl (by exact rfl) (by exact rfl) (by exact rfl) ?_
    refine RG.fin hR rfl ?_
    refine J.norm rfl <| J.blk_n <| J.then_n <| J.region <| J.p rfl (Q.add64 rfl rfl (by omega)) <| J.m rfl <| J.nil ?_
    refine J.shutI [RW.asn r, star (rws.map RW.asn)] (star ((rws ++ [r]).map RW.asn)) (star_snoc _) ?_
    have e1 : rws.length + 1 = (rws ++ [r]).length := by simp
    have e2 : rws.flatMap RW.cells ++ r.cells = (rws ++ [r]).flatMap RW.cells := by simp
    have e3 : (S.step w.m).rs = S.rs ++ [r.r] := by
     rw [hr]; unfold PS.step
     cases hp : w.point <;> simp [SW.m, hp]
    rw [e1, e2, ← hpt]
    refine J.againI (i + 1, rws ++ [r], p56, c56) ⟨by show i + 1 ≤ _; omega, by show (rws ++ [r]).map (·.r) = (playP ((ws.map SW.m).take (i + 1))).rs; rw [hpt, e3, List.map_append, hrs]; rfl⟩ (by show ws.length - (i + 1) < ws.length - i; omega) ⟨rfl, rfl, (by show _ = some (Value.slice lp ws.length lc); rw [hlp]; rfl), rfl, rfl, trivial⟩
  replace hc18 := X.nm hc18
  refine J.cond_f rfl <| J.exit <| J.then_x <| J.lp_x <| J.blk_x <| J.then_n <| J.seq <| J.region <| J.m rfl <| J.p rfl (Q.asg rfl) <| J.nil <| J.then_n <| J.cret ?_
  have htk : (ws.map SW.m).take i = ws.map SW.m := List.take_of_length_le (by rw [List.length_map]; omega)
  rw [htk] at hrs ⊢
  refine J.shutI [pt b13 (.cells [.slice lp ws.length lc, .slice p rws.length c, .map (some b9), .map (some b10), .map (some b11), .int .u64 0].toArray 86 (0, 0)), own 44 5 (.slice p rws.length c) (rws.flatMap RW.cells), star (rws.map RW.asn), MapAt encU (valRep encU) b9 (playP (ws.map SW.m)).first, MapAt encU (valRep Value.bool) b10 ([] : List (Nat × Bool)), MapAt encU (valRep encU) b11 ([] : List (Nat × Nat)), own 127 10 (.slice lp ws.length lc) (ws.flatMap SW.cells), star (ws.map SW.asn)]
   (HAt b13 (begM (ws.map SW.m))) (fun h s => ⟨⟨ws, lp, lc, rws, p, c, b9, b10, b11⟩, ⟨rfl, hrs⟩, s⟩) ?_
  refine J.ret1I [HAt b13 (begM (ws.map SW.m))] rfl rfl ⟨b13, rfl, rfl⟩
end Go.Proofs.YtidbcaimgahllaaGreat
namespace Go.Proofs.YtidbcaimgahllaaGreat
set_option linter.unusedSectionVars false
set_option linter.unusedSimpArgs false
set_option linter.unusedVariables false
open Go.X
open Go.X.G (Ord3 ord3_nat ord3_int ord3_str ltB sget sput sdel Srtd MapAt MapHole valRep)

def JM.ask (H : JM) (id : Nat) : JM := { H with before := if (sget id H.before).isSome then H.before else sput ltN id H.most H.before, asked := sput ltN id true H.asked }
theorem ask_spec (h : Nat) (H : JM) (hH : H.ok) (id : Nat) : FSpec Tryz.prog 22 [.pointer (some ⟨h, 0, none⟩), .int .u64 id] [HAt h H] (fun u B => u = .tuple #[] ∧ B = [HAt h (H.ask id)]) := by
  refine FSpec.of Tryz.func22 rfl Tryz.ntmps22 rfl fun W0 F => ?_
  refine J.openI (HAt h H) (fun _ h => h) fun z hz => ?_
  refine J.norm rfl <| J.seq <| J.seq <| J.region <| J.m rfl <| J.p rfl (Q.nil_ rfl) <| J.p rfl (Q.fa (n := 4) Tryz.runUnderlying86 rfl rfl Tryz.sizeOf84 rfl) ?_
  refine J.p rfl (Q.ld Tryz.isAgg84 rfl (rdI (by exact rfl))) ?_
  refine J.m rfl ?_
  refine J.p rfl (X.G.Q.lk2V (f := encU) H.before ord3_nat hH.before Tryz.runUnderlying84 keyU Tryz.zeroValue40 rfl rfl) ?_
  refine J.m rfl <| J.p rfl (Q.ext rfl rfl) <| J.p rfl (Q.ext rfl rfl) <| J.p rfl (Q.asg rfl) <| J.p rfl (Q.asg rfl) <| J.nil <| J.then_n <| J.seq <| J.region <| J.m rfl <| J.p rfl (Q.not rfl) <| J.nil <| J.then_n ?_
  refine J.cases 16 rfl (fun hc16 => ?_) (fun hc16 => ?_)
  ·
   replace hc16 := X.nm hc16
   refine J.cond_t rfl ?_
   refine J.draw [9] Tryz.mixed (by kernel_rfl) fun hR => ?_
   refine RG.p 0 hR rfl (Q.mv rfl) <| RG.p 1 hR rfl (Q.nil_ rfl) <| RG.p 2 hR rfl (Q.fa (n := 4) Tryz.runUnderlying86 rfl rfl Tryz.sizeOf84 rfl) ?_
   refine RG.p 3 hR rfl (Q.ld Tryz.isAgg84 rfl (rdI (by exact rfl))) ?_
   refine RG.p 4 hR rfl (Q.mv rfl) <| RG.p 5 hR rfl (Q.mv rfl) <| RG.p 6 hR rfl (Q.nil_ rfl) <| RG.p 7 hR rfl (Q.fa (n := 5) Tryz.runUnderlying86 rfl rfl Tryz.sizeOf40 rfl) ?_
   refine RG.p 8 hR rfl (Q.ld Tryz.isAgg40 rfl (rdI (by exact rfl))) ?_
   refine RG.bar 9 hR rfl rfl rfl rfl rfl rfl (X.G.C.putV encU H.before H.most ord3_nat hH.before Tryz.runUnderlying84 keyU rfl rfl rfl) ?_
   rintro _ _ ⟨rfl, rfl⟩
   refine RG.norm rfl ?_
   refine RG.fin hR rfl ?_
   refine J.norm rfl <| J.then_n <| J.region <| J.m rfl <| J.p rfl (Q.nil_ rfl) <| J.p rfl (Q.fa (n := 3) Tryz.runUnderlying86 rfl rfl Tryz.sizeOf63 rfl) ?_
   refine J.p rfl (Q.ld Tryz.isAgg63 rfl (rdI (by exact rfl))) ?_
   refine J.m rfl ?_
   refine J.c0 rfl (X.G.C.putV Value.bool H.asked true ord3_nat hH.asked Tryz.runUnderlying63 keyU rfl rfl rfl) ?_
   rintro _ _ ⟨rfl, rfl⟩
   refine J.norm rfl <| J.nil ?_
   first
    | (have hp : (sget id H.before).isSome = false := by simpa using hc16
       have e : H.ask id = ⟨H.l, H.rs, H.first, sput ltN id true H.asked, sput ltN id H.most H.before, H.most⟩ := by unfold JM.ask; rw [hp]; rfl
       rw [e]
       refine J.shutI (z.asns h ⟨H.l, H.rs, H.first, sput ltN id true H.asked, sput ltN id H.most H.before, H.most⟩) (HAt h ⟨H.l, H.rs, H.first, sput ltN id true H.asked, sput ltN id H.most H.before, H.most⟩) (fun _ s => ⟨z, ⟨hz.l, hz.rs⟩, s⟩) ?_
       refine J.end0I [HAt h ⟨H.l, H.rs, H.first, sput ltN id true H.asked, sput ltN id H.most H.before, H.most⟩] rfl ⟨rfl, rfl⟩)
    | (have hp : (sget id H.before).isSome = true := by simpa using hc16
       have e : H.ask id = ⟨H.l, H.rs, H.first, sput ltN id true H.asked, H.before, H.most⟩ := by unfold JM.ask; rw [hp]; rfl
       rw [e]
       refine J.shutI (z.asns h ⟨H.l, H.rs, H.first, sput ltN id true H.asked, H.before, H.most⟩) (HAt h ⟨H.l, H.rs, H.first, sput ltN id true H.asked, H.before, H.most⟩) (fun _ s => ⟨z, ⟨hz.l, hz.rs⟩, s⟩) ?_
       refine J.end0I [HAt h ⟨H.l, H.rs, H.first, sput ltN id true H.asked, H.before, H.most⟩] rfl ⟨rfl, rfl⟩)
  replace hc16 := X.nm hc16
  refine J.cond_f rfl <| J.cskip <| J.then_n <| J.region <| J.m rfl <| J.p rfl (Q.nil_ rfl) <| J.p rfl (Q.fa (n := 3) Tryz.runUnderlying86 rfl rfl Tryz.sizeOf63 rfl) ?_
  refine J.p rfl (Q.ld Tryz.isAgg63 rfl (rdI (by exact rfl))) ?_
  refine J.m rfl ?_
  refine J.c0 rfl (X.G.C.putV Value.bool H.asked true ord3_nat hH.asked Tryz.runUnderlying63 keyU rfl rfl rfl) ?_
  rintro _ _ ⟨rfl, rfl⟩
  refine J.norm rfl <| J.nil ?_
  first
   | (have hp : (sget id H.before).isSome = false := by simpa using hc16
      have e : H.ask id = ⟨H.l, H.rs, H.first, sput ltN id true H.asked, sput ltN id H.most H.before, H.most⟩ := by unfold JM.ask; rw [hp]; rfl
      rw [e]
      refine J.shutI (z.asns h ⟨H.l, H.rs, H.first, sput ltN id true H.asked, sput ltN id H.most H.before, H.most⟩) (HAt h ⟨H.l, H.rs, H.first, sput ltN id true H.asked, sput ltN id H.most H.before, H.most⟩) (fun _ s => ⟨z, ⟨hz.l, hz.rs⟩, s⟩) ?_
      refine J.end0I [HAt h ⟨H.l, H.rs, H.first, sput ltN id true H.asked, sput ltN id H.most H.before, H.most⟩] rfl ⟨rfl, rfl⟩)
   | (have hp : (sget id H.before).isSome = true := by simpa using hc16
      have e : H.ask id = ⟨H.l, H.rs, H.first, sput ltN id true H.asked, H.before, H.most⟩ := by unfold JM.ask; rw [hp]; rfl
      rw [e]
      refine J.shutI (z.asns h ⟨H.l, H.rs, H.first, sput ltN id true H.asked, H.before, H.most⟩) (HAt h ⟨H.l, H.rs, H.first, sput ltN id true H.asked, H.before, H.most⟩) (fun _ s => ⟨z, ⟨hz.l, hz.rs⟩, s⟩) ?_
      refine J.end0I [HAt h ⟨H.l, H.rs, H.first, sput ltN id true H.asked, H.before, H.most⟩] rfl ⟨rfl, rfl⟩)

structure EM where
  answer : Bool
  id : Nat
  index : Nat
  res : RM
structure EW where
  answer : Bool
  id : Nat
  x : OW
  index : Nat
  w : RW
def EW.m (e : EW) : EM := ⟨e.answer, e.id, e.index, e.w.r⟩
abbrev EW.cells (e : EW) : List Value := [.bool e.answer, .int .u64 e.id, .int .u64 e.x.o.id, .int .i64 e.x.o.kind, .string e.x.o.bucket, .string e.x.o.key, .string e.x.o.after, .int .i64 e.x.o.n, .int .u64 e.x.o.upload, .slice e.x.pp e.x.o.parts.length e.x.pc, .slice e.x.dp e.x.o.data.length e.x.dc, .int .u64 e.index, .int .i64 e.w.r.status, .int .u64 e.w.r.upload, .slice e.w.kp e.w.r.keys.length e.w.kc, .bool e.w.r.more, .slice e.w.dp e.w.r.data.length e.w.dc]
theorem EW.len (x : EW) : x.cells.length = 17 := rfl
structure EW.ok (G : Assn) (e : EW) : Prop where
  w : e.w.ok G
  index : e.index ≤ 18446744073709551615

def defB (n : Int) : Bool := decide (n = 200) || decide (n = 400) || decide (n = 404) || decide (n = 409) || decide (n = 413)
def addR (l : List Int) (r : Int) (b : Bool) : List Int := if b then l ++ [r] else l
def thereB (H : JM) (id n : Nat) : Bool := decide (1 ≤ n) && decide (n ≤ H.l.length) && (match H.l[n - 1]? with | some s => !s.point && decide (s.o.id = id) | none => false)
def lateB (H : JM) (e : EM) : Bool := decide (e.index ≠ 0) && (sget e.id H.before).isSome && decide ((sget e.id H.first).getD 0 ≠ 0) && decide ((sget e.id H.first).getD 0 ≤ (sget e.id H.before).getD 0)
def toldB (H : JM) (e : EM) : Bool := defB e.res.status && thereB H e.id e.index && !(match H.rs[max e.index 1 - 1]? with | some r => sameM e.res r | none => true)
def rul1 (H : JM) (e : EM) : List Int := addR [] 2 (!(sget e.id H.asked).getD false)
def rul2 (H : JM) (e : EM) : List Int := addR (rul1 H e) 3 (decide (e.index ≠ 0) && !thereB H e.id e.index)
def rul3 (H : JM) (e : EM) : List Int := addR (rul2 H e) 4 (defB e.res.status && decide (e.index = 0))
def rul4 (H : JM) (e : EM) : List Int := addR (rul3 H e) 5 (lateB H e)
def JM.breaks (H : JM) (e : EM) : List Int := addR (rul4 H e) 6 (toldB H e)
theorem addR_le {l : List Int} {n : Nat} (h : l.length ≤ n) (r : Int) (b : Bool) : (addR l r b).length ≤ n + 1 := by
  unfold addR
  split
  · rw [List.length_append, List.length_singleton]; omega
  · omega
theorem rul_le (H : JM) (e : EM) : (rul1 H e).length ≤ 1 ∧ (rul2 H e).length ≤ 2 ∧ (rul3 H e).length ≤ 3 ∧ (rul4 H e).length ≤ 4 ∧ (H.breaks e).length ≤ 5 := by
  have h1 : (rul1 H e).length ≤ 1 := addR_le (Nat.le_refl 0) _ _
  have h2 : (rul2 H e).length ≤ 2 := addR_le h1 _ _
  have h3 : (rul3 H e).length ≤ 3 := addR_le h2 _ _
  have h4 : (rul4 H e).length ≤ 4 := addR_le h3 _ _
  exact ⟨h1, h2, h3, h4, addR_le h4 _ _⟩

theorem rws_ok {rws : List RW} (hs : ∀ r, r ∈ rws → r.r.keys.length ≤ 1099511627776 ∧ r.r.data.length ≤ 1099511627776) : ∀ h, star (rws.map RW.asn) h → ∀ (i : Nat) (r : RW), rws[i]? = some r → r.ok r.asn := by
  intro h hh i r hr
  have s1 : HSat h (r.asn :: (rws.eraseIdx i).map RW.asn) := HSat.perm (perm_focus RW.asn hr) hh
  obtain ⟨h1, h2, a, _⟩ := s1
  exact asn_ok (hs r (List.mem_of_getElem? hr)) h1 a
theorem RW.ok.into {A : List Assn} {X : Assn} {x : RW} (h : x.ok X) (i : Nat) (e : A[i]? = some X) : x.ok (star A) := ⟨h.keys.into i e, h.data.into i e, h.small⟩

theorem add_spec (q : Nat) (p : Option Addr) (c : Nat) (rs : List Int) (r : Int) (b : Bool) (hn : rs.length ≤ 100) : FSpec Tryz.prog 52 [.int .i64 r, .bool b, .pointer (some ⟨q, 0, none⟩)]
    [pt q (.cells [Value.slice p rs.length c].toArray 82 (0, 0)), own 33 1 (.slice p rs.length c) (rs.map (Value.int .i64))]
    (fun u B => ∃ p' c', u = .tuple #[] ∧ B = [pt q (.cells [Value.slice p' (addR rs r b).length c'].toArray 82 (0, 0)), own 33 1 (.slice p' (addR rs r b).length c') ((addR rs r b).map (Value.int .i64))]) := by
  refine FSpec.of Tryz.func52 rfl Tryz.ntmps52 rfl fun W0 F => ?_
  refine J.seq <| J.region <| J.m rfl <| J.nil <| J.then_n ?_
  refine J.cases 5 rfl (fun hc5 => ?_) (fun hc5 => ?_)
  ·
   replace hc5 := X.nm hc5
   refine J.cond_t rfl <| J.region ?_
   refine J.p rfl (Q.ld Tryz.isAgg82 rfl (rdI (by exact rfl))) ?_
   refine J.m rfl ?_
   refine J.c rfl rfl (C.bslG (l := [_]) Tryz.runUnderlying82 Tryz.sizeOf33 Tryz.zeroValue33 (by decide) rfl rfl rfl rfl rfl) ?_
   rintro _ _ ⟨b8, rfl, rfl⟩
   refine J.norm rfl ?_
   refine J.c rfl rfl (C.appI Tryz.runUnderlying82 Tryz.runUnderlying82 Tryz.typeInfo33 Tryz.sizeOf33 Tryz.zeroValue33 rfl rfl (SlR.ptI rfl) (by simp [oneC]) (by simp [Tryz.t33] <;> omega) (by decide)) ?_
   rintro _ _ ⟨p9, c9, rfl, rfl⟩
   refine J.norm rfl ?_
   refine J.stI rfl Tryz.sizeOf82 rfl rfl rfl (by exact rfl) (by exact rfl) (by exact rfl) ?_
   refine J.nil ?_
   first
    | (have e : addR rs r b = rs ++ [r] := by unfold addR; rw [if_pos hc5]
       rw [e]
       have e1 : rs.length + 1 = (rs ++ [r]).length := by simp
       have e2 : rs.map (Value.int .i64) ++ [Value.int .i64 r] = (rs ++ [r]).map (Value.int .i64) := by simp
       rw [e1, e2]
       refine J.end0I [pt q (.cells [Value.slice p9 (rs ++ [r]).length c9].toArray 82 (0, 0)), own 33 1 (.slice p9 (rs ++ [r]).length c9) ((rs ++ [r]).map (Value.int .i64))] rfl ⟨p9, c9, rfl, rfl⟩)
    | (have e : addR rs r b = rs := by unfold addR; rw [if_neg (by simp [hc5])]
       rw [e]
       refine J.end0I [pt q (.cells [Value.slice p rs.length c].toArray 82 (0, 0)), own 33 1 (.slice p rs.length c) (rs.map (Value.int .i64))] rfl ⟨p, c, rfl, rfl⟩)
  replace hc5 := X.nm hc5
  refine J.cond_f rfl <| J.cskip ?_
  first
   | (have e : addR rs r b = rs ++ [r] := by unfold addR; rw [if_pos hc5]
      rw [e]
      have e1 : rs.length + 1 = (rs ++ [r]).length := by simp
      have e2 : rs.map (Value.int .i64) ++ [Value.int .i64 r] = (rs ++ [r]).map (Value.int .i64) := by simp
      rw [e1, e2]
      refine J.end0I [pt q (.cells [Value.slice p9 (rs ++ [r]).length c9].toArray 82 (0, 0)), own 33 1 (.slice p9 (rs ++ [r]).length c9) ((rs ++ [r]).map (Value.int .i64))] rfl ⟨p9, c9, rfl, rfl⟩)
   | (have e : addR rs r b = rs := by unfold addR; rw [if_neg (by simp [hc5])]
      rw [e]
      refine J.end0I [pt q (.cells [Value.slice p rs.length c].toArray 82 (0, 0)), own 33 1 (.slice p rs.length c) (rs.map (Value.int .i64))] rfl ⟨p, c, rfl, rfl⟩)

theorem getD_bool (o : Option Bool) : (o.map Value.bool).getD (.bool false) = Value.bool (o.getD false) := by cases o <;> rfl
theorem there_in {H : JM} {id n : Nat} (h : thereB H id n = true) : 1 ≤ n ∧ n ≤ H.l.length := by
  simp only [thereB, Bool.and_eq_true, decide_eq_true_eq] at h
  exact h.1

set_option maxHeartbeats 1000000 in
theorem breaks_spec (G : Assn) (h : Nat) (H : JM) (hH : H.ok) (e : EW) (he : e.ok G) : FSpec Tryz.prog 23 [.pointer (some ⟨h, 0, none⟩), .agg e.cells.toArray] [HAt h H, G]
    (fun u B => ∃ p c, u = .slice p (H.breaks e.m).length c ∧ B = [own 33 1 (.slice p (H.breaks e.m).length c) ((H.breaks e.m).map (Value.int .i64)), HAt h H, G]) := by
  obtain ⟨n1, n2, n3, n4, n5⟩ := rul_le H e.m
  have hidx := he.index
  have hsm := hH.small
  refine FSpec.of Tryz.func23 rfl Tryz.ntmps23 rfl fun W0 F => ?_
  refine J.openI (HAt h H) (fun _ h => h) fun z hz => ?_
  refine J.norm rfl ?_
  have hlw : z.ws.length = H.l.length := by rw [← hz.l, List.length_map]
  have hlr : z.rws.length = H.l.length := by rw [← hH.len, ← hz.rs, List.length_map]
  have hrs : ∀ r, r ∈ z.rws → r.r.keys.length ≤ 1099511627776 ∧ r.r.data.length ≤ 1099511627776 := fun r hr => by
   have := hH.rs r.r (by rw [← hz.rs]; exact List.mem_map_of_mem hr)
   omega
  refine J.slrI (E0 := 127) (sz := 10) (p := z.lp) (n := z.ws.length) (c := z.lc) (xs := z.ws.flatMap SW.cells) fun hsl => ?_
  refine J.slrI (E0 := 44) (sz := 5) (p := z.rp) (n := z.rws.length) (c := z.rc) (xs := z.rws.flatMap RW.cells) fun hsr => ?_
  refine J.tellsI (star (z.rws.map RW.asn)) (rws_ok hrs) fun hro => ?_
  refine J.shutI [G, star (z.rws.map RW.asn)] (star [G, star (z.rws.map RW.asn)]) (fun _ s => s) ?_
  refine J.seq <| J.region ?_
  refine J.c rfl rfl (C.box (l := [_, _, _, _, _, _, _, _, _, _, _, _, _, _, _, _, _]) rfl rfl) ?_
  rintro _ _ ⟨b3, rfl, rfl⟩
  refine J.norm rfl <| J.p rfl (Q.asg rfl) <| J.nil <| J.then_n <| J.seq <| J.region ?_
  refine J.c rfl rfl (C.alloc (l := [_]) Tryz.zeroValue82 rfl) ?_
  rintro _ _ ⟨b5, rfl, rfl⟩
  refine J.norm rfl ?_
  refine J.convI (pt b5 (.cells [Value.slice none 0 0].toArray 82 (0, 0))) (pt b5 (.cells [Value.slice none ([] : List Int).length 0].toArray 82 (0, 0))) (fun _ h => h) ?_
  refine J.give (X := own 33 1 (.slice none ([] : List Int).length 0) (([] : List Int).map (Value.int .i64))) (own.nil _ _ _) ?_
  refine J.nil <| J.then_n <| J.seq <| J.region <| J.p rfl (Q.func rfl rfl) <| J.p rfl (Q.asg rfl) <| J.nil <| J.then_n <| J.seq <| J.region <| J.p rfl (Q.fa (n := 12) Tryz.runUnderlying58 rfl rfl Tryz.sizeOf44 rfl) <| J.p rfl (Q.fa (n := 0) Tryz.runUnderlying44 rfl rfl Tryz.sizeOf3 rfl) ?_
  refine J.p rfl (Q.ld Tryz.isAgg3 rfl (rdI (by exact rfl))) ?_
  refine J.callI Tryz.call17 (definite_spec e.w.r.status) rfl rfl rfl ?_
  rintro _ _ ⟨rfl, rfl⟩
  refine J.norm rfl <| J.p rfl (Q.asg rfl) <| J.nil <| J.then_n <| J.seq <| J.region <| J.p rfl (Q.fa (n := 11) Tryz.runUnderlying58 rfl rfl Tryz.sizeOf40 rfl) ?_
  refine J.p rfl (Q.ld Tryz.isAgg40 rfl (rdI (by exact rfl))) ?_
  refine J.p rfl (Q.asg rfl) <| J.nil <| J.then_n ?_
  refine J.cut (fun _ : Unit => True) (fun _ => [(0, .pointer (some ⟨h, 0, none⟩)), (3, .pointer (some ⟨b3, 0, none⟩)), (5, .pointer (some ⟨b5, 0, none⟩)), (6, .func (.func 52) #[] #[.pointer (some ⟨b5, 0, none⟩)]), (7, .bool (defB e.w.r.status)), (8, .int .u64 e.index), (9, .bool (thereB H e.id e.index))]) (fun _ => [pt b3 (.cells e.cells.toArray 58 (0, 0)), pt b5 (.cells [Value.slice none ([] : List Int).length 0].toArray 82 (0, 0)), own 33 1 (.slice none ([] : List Int).length 0) (([] : List Int).map (Value.int .i64)), pt h (.cells [.slice z.lp z.ws.length z.lc, .slice z.rp z.rws.length z.rc, .map (some z.f), .map (some z.a), .map (some z.b), .int .u64 H.most].toArray 86 (0, 0)), own 44 5 (.slice z.rp z.rws.length z.rc) (z.rws.flatMap RW.cells), MapAt encU (valRep encU) z.f H.first, MapAt encU (valRep Value.bool) z.a H.asked, MapAt encU (valRep encU) z.b H.before, own 127 10 (.slice z.lp z.ws.length z.lc) (z.ws.flatMap SW.cells), star (z.ws.map SW.asn), star [G, star (z.rws.map RW.asn)], F]) ?_ fun _ _ => ?_
  ·
   refine J.draw [39] Tryz.mixed (by kernel_rfl) fun hR => ?_
   refine RG.p 0 hR rfl (Q.mv rfl) <| RG.p 1 hR rfl (Q.geq rfl rfl) <| RG.p 2 hR rfl (Q.mv rfl) ?_
   refine RG.cases 21 rfl (fun hb21 => ?_) (fun hb21 => ?_)
   ·
    replace hb21 := X.nm hb21
    try (first | (cases hb21; done) | (exfalso; simp at hb21; done))
    all_goals
     refine RG.p 3 hR rfl (Q.mv rfl) <| RG.p 4 hR rfl (Q.mv rfl) <| RG.p 5 hR rfl (Q.nil_ rfl) <| RG.p 6 hR rfl (Q.fa (n := 0) Tryz.runUnderlying86 rfl rfl Tryz.sizeOf76 rfl) ?_
     refine RG.p 7 hR rfl (Q.ld Tryz.isAgg76 rfl (rdI (by exact rfl))) ?_
     refine RG.p 8 hR rfl (Q.lenSl Tryz.runUnderlying76 rfl) <| RG.p 9 hR rfl (Q.conv Tryz.runUnderlying3 Tryz.runUnderlying40 rfl) ?_
     refine RG.slot 28 (.int .u64 (z.ws.length : Int)) rfl (by rw [wrap64 (by omega)]) ?_
     refine RG.p 10 hR rfl (Q.leq rfl rfl) <| RG.p 11 hR rfl (Q.pick_t rfl rfl) <| RG.p 12 hR rfl (Q.mv rfl) ?_
     refine RG.cases 31 rfl (fun hb31 => ?_) (fun hb31 => ?_)
     ·
      replace hb31 := X.nm hb31
      try (first | (cases hb31; done) | (exfalso; simp at hb31; done))
      all_goals
       have hn1 : 1 ≤ e.index := by omega
       have hn2 : e.index ≤ z.ws.length := by omega
       obtain ⟨b, off, hlp, hrd⟩ := hsl.some_ (by omega)
       obtain ⟨w, hw⟩ : ∃ w, z.ws[e.index - 1]? = some w := ⟨_, List.getElem?_eq_getElem (by omega)⟩
       have hws : H.l[e.index - 1]? = some w.m := by rw [← hz.l, List.getElem?_map, hw]; rfl
       refine RG.p 13 hR rfl (Q.mv rfl) <| RG.p 14 hR rfl (Q.nil_ rfl) <| RG.p 15 hR rfl (Q.fa (n := 0) Tryz.runUnderlying86 rfl rfl Tryz.sizeOf76 rfl) ?_
       refine RG.p 16 hR rfl (Q.ld Tryz.isAgg76 rfl (rdI (by exact rfl))) ?_
       refine RG.slot 35 (.slice (some ⟨b, off, none⟩) z.ws.length z.lc) rfl (by rw [hlp]) ?_
       refine RG.p 17 hR rfl (Q.mv rfl) <| RG.p 18 hR rfl (Q.sub rfl rfl) ?_
       refine RG.slot 37 (.int .u64 ((e.index - 1 : Nat) : Int)) rfl (by rw [show (e.index : Int) - 1 = ((e.index - 1 : Nat) : Int) by omega, wrap64 (by omega)]) ?_
       refine RG.p 19 hR rfl (Q.ia Tryz.runUnderlying76 Tryz.sizeOf127 rfl rfl (by omega) (by omega)) <| RG.p 20 hR rfl (Q.fa (n := 9) Tryz.runUnderlying127 rfl rfl Tryz.sizeOf4 rfl) <| RG.p 21 hR rfl (Q.ld Tryz.isAgg4 rfl ((((rd_elem SW.len hrd hw rfl) 9 (.bool w.point) rfl).cast (by simp)).inI)) <| RG.p 22 hR rfl (Q.not rfl) <| RG.p 23 hR rfl (Q.pick_t rfl rfl) ?_
       refine RG.p 24 hR rfl (Q.mv rfl) ?_
       refine RG.cases 43 rfl (fun hb43 => ?_) (fun hb43 => ?_)
       ·
        replace hb43 := X.nm hb43
        try (first | (cases hb43; done) | (exfalso; simp at hb43; done))
        all_goals
         refine RG.p 25 hR rfl (Q.mv rfl) <| RG.p 26 hR rfl (Q.nil_ rfl) <| RG.p 27 hR rfl (Q.fa (n := 0) Tryz.runUnderlying86 rfl rfl Tryz.sizeOf76 rfl) ?_
         refine RG.p 28 hR rfl (Q.ld Tryz.isAgg76 rfl (rdI (by exact rfl))) ?_
         refine RG.slot 47 (.slice (some ⟨b, off, none⟩) z.ws.length z.lc) rfl (by rw [hlp]) ?_
         refine RG.p 29 hR rfl (Q.mv rfl) <| RG.p 30 hR rfl (Q.sub rfl rfl) ?_
         refine RG.slot 49 (.int .u64 ((e.index - 1 : Nat) : Int)) rfl (by rw [show (e.index : Int) - 1 = ((e.index - 1 : Nat) : Int) by omega, wrap64 (by omega)]) ?_
         refine RG.p 31 hR rfl (Q.ia Tryz.runUnderlying76 Tryz.sizeOf127 rfl rfl (by omega) (by omega)) <| RG.p 32 hR rfl (Q.fa (n := 0) Tryz.runUnderlying127 rfl rfl Tryz.sizeOf52 rfl) <| RG.p 33 hR rfl (Q.fa (n := 0) Tryz.runUnderlying52 rfl rfl Tryz.sizeOf40 rfl) <| RG.p 34 hR rfl (Q.ld Tryz.isAgg40 rfl ((((rd_elem SW.len hrd hw rfl) 0 (.int .u64 w.y.o.id) rfl).cast (by simp)).inI)) ?_
         refine RG.p 35 hR rfl (Q.fa (n := 1) Tryz.runUnderlying58 rfl rfl Tryz.sizeOf40 rfl) ?_
         refine RG.p 36 hR rfl (Q.ld Tryz.isAgg40 rfl (rdI (by exact rfl))) ?_
         refine RG.p 37 hR rfl (Q.eql rfl rfl) <| RG.p 38 hR rfl (Q.pick_t rfl rfl) ?_
         refine RG.bar 39 hR rfl rfl rfl rfl rfl rfl (Q.asg rfl).toC ?_
         rintro _ _ ⟨rfl, rfl⟩
         refine RG.norm rfl ?_
         refine RG.fin hR rfl ?_
         refine J.norm rfl ?_
         have hp : w.point = false := by simpa using hb43
         have ht : decide ((w.y.o.id : Int) = (e.id : Int)) = thereB H e.id e.index := by
          unfold thereB
          rw [hws, decide_eq_true hn1, decide_eq_true (show e.index ≤ H.l.length by omega)]
          simp [SW.m, hp]
          omega
         exact J.meetI () trivial ⟨rfl, rfl, rfl, rfl, rfl, rfl, (by show some (Value.bool (decide ((w.y.o.id : Int) = (e.id : Int)))) = _; rw [ht]), trivial⟩
       replace hb43 := X.nm hb43
       try (first | (cases hb43; done) | (exfalso; simp at hb43; done))
       all_goals
        refine RG.skip 25 hR rfl rfl rfl rfl rfl rfl <| RG.skip 26 hR rfl rfl rfl rfl rfl rfl <| RG.skip 27 hR rfl rfl rfl rfl rfl rfl <| RG.skip 28 hR rfl rfl rfl rfl rfl rfl <| RG.skip 29 hR rfl rfl rfl rfl rfl rfl <| RG.skip 30 hR rfl rfl rfl rfl rfl rfl <| RG.skip 31 hR rfl rfl rfl rfl rfl rfl <| RG.skip 32 hR rfl rfl rfl rfl rfl rfl <| RG.skip 33 hR rfl rfl rfl rfl rfl rfl <| RG.skip 34 hR rfl rfl rfl rfl rfl rfl ?_
        refine RG.skip 35 hR rfl rfl rfl rfl rfl rfl <| RG.skip 36 hR rfl rfl rfl rfl rfl rfl <| RG.skip 37 hR rfl rfl rfl rfl rfl rfl <| RG.p 38 hR rfl (Q.pick_f rfl rfl) ?_
        refine RG.bar 39 hR rfl rfl rfl rfl rfl rfl (Q.asg rfl).toC ?_
        rintro _ _ ⟨rfl, rfl⟩
        refine RG.norm rfl ?_
        refine RG.fin hR rfl ?_
        refine J.norm rfl ?_
        have hp : w.point = true := by simpa using hb43
        have ht : thereB H e.id e.index = false := by
         unfold thereB
         rw [hws]
         simp [SW.m, hp]
        exact J.meetI () trivial ⟨rfl, rfl, rfl, rfl, rfl, rfl, (by rw [ht]; rfl), trivial⟩
     replace hb31 := X.nm hb31
     try (first | (cases hb31; done) | (exfalso; simp at hb31; done))
     all_goals
      refine RG.skip 13 hR rfl rfl rfl rfl rfl rfl <| RG.skip 14 hR rfl rfl rfl rfl rfl rfl <| RG.skip 15 hR rfl rfl rfl rfl rfl rfl <| RG.skip 16 hR rfl rfl rfl rfl rfl rfl <| RG.skip 17 hR rfl rfl rfl rfl rfl rfl <| RG.skip 18 hR rfl rfl rfl rfl rfl rfl <| RG.skip 19 hR rfl rfl rfl rfl rfl rfl <| RG.skip 20 hR rfl rfl rfl rfl rfl rfl <| RG.skip 21 hR rfl rfl rfl rfl rfl rfl <| RG.skip 22 hR rfl rfl rfl rfl rfl rfl ?_
      refine RG.p 23 hR rfl (Q.pick_f rfl rfl) <| RG.p 24 hR rfl (Q.mv rfl) <| RG.skip 25 hR rfl rfl rfl rfl rfl rfl <| RG.skip 26 hR rfl rfl rfl rfl rfl rfl <| RG.skip 27 hR rfl rfl rfl rfl rfl rfl <| RG.skip 28 hR rfl rfl rfl rfl rfl rfl <| RG.skip 29 hR rfl rfl rfl rfl rfl rfl <| RG.skip 30 hR rfl rfl rfl rfl rfl rfl <| RG.skip 31 hR rfl rfl rfl rfl rfl rfl <| RG.skip 32 hR rfl rfl rfl rfl rfl rfl ?_
      refine RG.skip 33 hR rfl rfl rfl rfl rfl rfl <| RG.skip 34 hR rfl rfl rfl rfl rfl rfl <| RG.skip 35 hR rfl rfl rfl rfl rfl rfl <| RG.skip 36 hR rfl rfl rfl rfl rfl rfl <| RG.skip 37 hR rfl rfl rfl rfl rfl rfl <| RG.p 38 hR rfl (Q.pick_f rfl rfl) ?_
      refine RG.bar 39 hR rfl rfl rfl rfl rfl rfl (Q.asg rfl).toC ?_
      rintro _ _ ⟨rfl, rfl⟩
      refine RG.norm rfl ?_
      refine RG.fin hR rfl ?_
      refine J.norm rfl ?_
      have ht : thereB H e.id e.index = false := by
       unfold thereB
       rw [decide_eq_false (show ¬ e.index ≤ H.l.length by omega)]
       simp
      exact J.meetI () trivial ⟨rfl, rfl, rfl, rfl, rfl, rfl, (by rw [ht]; rfl), trivial⟩
   replace hb21 := X.nm hb21
   try (first | (cases hb21; done) | (exfalso; simp at hb21; done))
   all_goals
    refine RG.skip 3 hR rfl rfl rfl rfl rfl rfl <| RG.skip 4 hR rfl rfl rfl rfl rfl rfl <| RG.skip 5 hR rfl rfl rfl rfl rfl rfl <| RG.skip 6 hR rfl rfl rfl rfl rfl rfl <| RG.skip 7 hR rfl rfl rfl rfl rfl rfl <| RG.skip 8 hR rfl rfl rfl rfl rfl rfl <| RG.skip 9 hR rfl rfl rfl rfl rfl rfl <| RG.skip 10 hR rfl rfl rfl rfl rfl rfl <| RG.p 11 hR rfl (Q.pick_f rfl rfl) <| RG.p 12 hR rfl (Q.mv rfl) ?_
    refine RG.skip 13 hR rfl rfl rfl rfl rfl rfl <| RG.skip 14 hR rfl rfl rfl rfl rfl rfl <| RG.skip 15 hR rfl rfl rfl rfl rfl rfl <| RG.skip 16 hR rfl rfl rfl rfl rfl rfl <| RG.skip 17 hR rfl rfl rfl rfl rfl rfl <| RG.skip 18 hR rfl rfl rfl rfl rfl rfl <| RG.skip 19 hR rfl rfl rfl rfl rfl rfl <| RG.skip 20 hR rfl rfl rfl rfl rfl rfl <| RG.skip 21 hR rfl rfl rfl rfl rfl rfl <| RG.skip 22 hR rfl rfl rfl rfl rfl rfl ?_
    refine RG.p 23 hR rfl (Q.pick_f rfl rfl) <| RG.p 24 hR rfl (Q.mv rfl) <| RG.skip 25 hR rfl rfl rfl rfl rfl rfl <| RG.skip 26 hR rfl rfl rfl rfl rfl rfl <| RG.skip 27 hR rfl rfl rfl rfl rfl rfl <| RG.skip 28 hR rfl rfl rfl rfl rfl rfl <| RG.skip 29 hR rfl rfl rfl rfl rfl rfl <| RG.skip 30 hR rfl rfl rfl rfl rfl rfl <| RG.skip 31 hR rfl rfl rfl rfl rfl rfl <| RG.skip 32 hR rfl rfl rfl rfl rfl rfl ?_
    refine RG.skip 33 hR rfl rfl rfl rfl rfl rfl <| RG.skip 34 hR rfl rfl rfl rfl rfl rfl <| RG.skip 35 hR rfl rfl rfl rfl rfl rfl <| RG.skip 36 hR rfl rfl rfl rfl rfl rfl <| RG.skip 37 hR rfl rfl rfl rfl rfl rfl <| RG.p 38 hR rfl (Q.pick_f rfl rfl) ?_
    refine RG.bar 39 hR rfl rfl rfl rfl rfl rfl (Q.asg rfl).toC ?_
    rintro _ _ ⟨rfl, rfl⟩
    refine RG.norm rfl ?_
    refine RG.fin hR rfl ?_
    refine J.norm rfl ?_
    have ht : thereB H e.id e.index = false := by
     unfold thereB
     rw [decide_eq_false (show ¬ 1 ≤ e.index by omega)]
     simp
    exact J.meetI () trivial ⟨rfl, rfl, rfl, rfl, rfl, rfl, (by rw [ht]; rfl), trivial⟩
  refine J.norm rfl <| J.seq ?_
  refine J.draw [9] Tryz.mixed (by kernel_rfl) fun hR => ?_
  refine RG.p 0 hR rfl (Q.mv rfl) <| RG.p 1 hR rfl (Q.mv rfl) <| RG.p 2 hR rfl (Q.nil_ rfl) <| RG.p 3 hR rfl (Q.fa (n := 3) Tryz.runUnderlying86 rfl rfl Tryz.sizeOf63 rfl) ?_
  refine RG.p 4 hR rfl (Q.ld Tryz.isAgg63 rfl (rdI (by exact rfl))) ?_
  refine RG.p 5 hR rfl (Q.fa (n := 1) Tryz.runUnderlying58 rfl rfl Tryz.sizeOf40 rfl) ?_
  refine RG.p 6 hR rfl (Q.ld Tryz.isAgg40 rfl (rdI (by exact rfl))) ?_
  refine RG.p 7 hR rfl (X.G.Q.lkV (f := Value.bool) H.asked ord3_nat hH.asked Tryz.runUnderlying63 keyU Tryz.zeroValue4 rfl rfl) ?_
  refine RG.slot 65 (.bool ((sget e.id H.asked).getD false)) rfl (getD_bool _) ?_
  refine RG.p 8 hR rfl (Q.not rfl) ?_
  refine RG.bar 9 hR rfl rfl rfl rfl rfl rfl (OpC.callvP (first := []) (args := [.int .i64 2, .bool (!(sget e.id H.asked).getD false)]) (cap := [.pointer (some ⟨b5, 0, none⟩)]) Tryz.call52 rfl rfl (add_spec b5 none 0 ([] : List Int) 2 (!(sget e.id H.asked).getD false) (by first | omega | simp))) ?_
  rintro _ _ ⟨_, ⟨p67, c67, rfl, rfl⟩, rfl⟩
  refine RG.norm rfl ?_
  rw [show addR ([] : List Int) 2 (!(sget e.id H.asked).getD false) = rul1 H e.m from rfl]
  refine RG.fin hR rfl ?_
  refine J.norm rfl <| J.then_n ?_
  refine J.cut (fun _ : Option Addr × Nat => True) (fun _ => [(0, .pointer (some ⟨h, 0, none⟩)), (3, .pointer (some ⟨b3, 0, none⟩)), (5, .pointer (some ⟨b5, 0, none⟩)), (6, .func (.func 52) #[] #[.pointer (some ⟨b5, 0, none⟩)]), (7, .bool (defB e.w.r.status)), (8, .int .u64 e.index), (9, .bool (thereB H e.id e.index))]) (fun w => [pt b3 (.cells e.cells.toArray 58 (0, 0)), pt b5 (.cells [Value.slice w.1 (rul2 H e.m).length w.2].toArray 82 (0, 0)), own 33 1 (.slice w.1 (rul2 H e.m).length w.2) ((rul2 H e.m).map (Value.int .i64)), pt h (.cells [.slice z.lp z.ws.length z.lc, .slice z.rp z.rws.length z.rc, .map (some z.f), .map (some z.a), .map (some z.b), .int .u64 H.most].toArray 86 (0, 0)), own 44 5 (.slice z.rp z.rws.length z.rc) (z.rws.flatMap RW.cells), MapAt encU (valRep encU) z.f H.first, MapAt encU (valRep Value.bool) z.a H.asked, MapAt encU (valRep encU) z.b H.before, own 127 10 (.slice z.lp z.ws.length z.lc) (z.ws.flatMap SW.cells), star (z.ws.map SW.asn), star [G, star (z.rws.map RW.asn)], F]) ?_ fun w _ => ?_
  ·
   refine J.region <| J.m rfl <| J.m rfl <| J.p rfl (Q.neq rfl rfl) <| J.m rfl ?_
   refine J.cases 71 rfl (fun hb71 => ?_) (fun hb71 => ?_)
   ·
    replace hb71 := X.nm hb71
    try (first | (cases hb71; done) | (exfalso; simp at hb71; done))
    all_goals
     refine J.m rfl <| J.p rfl (Q.not rfl) <| J.p rfl (Q.pick_t rfl rfl) ?_
     refine J.slot 74 (.bool (decide (e.index ≠ 0) && !thereB H e.id e.index)) rfl (by first | (rw [decide_eq_true (show e.index ≠ 0 by omega)]; rfl) | (rw [decide_eq_false (show ¬ e.index ≠ 0 by omega)]; rfl)) ?_
     refine J.c rfl rfl (OpC.callvP (first := []) (args := [.int .i64 3, .bool (decide (e.index ≠ 0) && !thereB H e.id e.index)]) (cap := [.pointer (some ⟨b5, 0, none⟩)]) Tryz.call52 rfl rfl (add_spec b5 p67 c67 (rul1 H e.m) 3 (decide (e.index ≠ 0) && !thereB H e.id e.index) (by first | omega | simp))) ?_
     rintro _ _ ⟨_, ⟨p75, c75, rfl, rfl⟩, rfl⟩
     refine J.norm rfl ?_
     rw [show addR (rul1 H e.m) 3 (decide (e.index ≠ 0) && !thereB H e.id e.index) = rul2 H e.m from rfl]
     refine J.nil ?_
     exact J.meetI (p75, c75) trivial ⟨rfl, rfl, rfl, rfl, rfl, rfl, rfl, trivial⟩
   replace hb71 := X.nm hb71
   try (first | (cases hb71; done) | (exfalso; simp at hb71; done))
   all_goals
    refine J.skip rfl rfl <| J.skip rfl rfl <| J.p rfl (Q.pick_f rfl rfl) ?_
    refine J.slot 74 (.bool (decide (e.index ≠ 0) && !thereB H e.id e.index)) rfl (by first | (rw [decide_eq_true (show e.index ≠ 0 by omega)]; rfl) | (rw [decide_eq_false (show ¬ e.index ≠ 0 by omega)]; rfl)) ?_
    refine J.c rfl rfl (OpC.callvP (first := []) (args := [.int .i64 3, .bool (decide (e.index ≠ 0) && !thereB H e.id e.index)]) (cap := [.pointer (some ⟨b5, 0, none⟩)]) Tryz.call52 rfl rfl (add_spec b5 p67 c67 (rul1 H e.m) 3 (decide (e.index ≠ 0) && !thereB H e.id e.index) (by first | omega | simp))) ?_
    rintro _ _ ⟨_, ⟨p75, c75, rfl, rfl⟩, rfl⟩
    refine J.norm rfl ?_
    rw [show addR (rul1 H e.m) 3 (decide (e.index ≠ 0) && !thereB H e.id e.index) = rul2 H e.m from rfl]
    refine J.nil ?_
    exact J.meetI (p75, c75) trivial ⟨rfl, rfl, rfl, rfl, rfl, rfl, rfl, trivial⟩
  refine J.norm rfl ?_
  obtain ⟨pw7, cw7⟩ := w
  dsimp only
  refine J.cut (fun _ : Option Addr × Nat => True) (fun _ => [(0, .pointer (some ⟨h, 0, none⟩)), (3, .pointer (some ⟨b3, 0, none⟩)), (5, .pointer (some ⟨b5, 0, none⟩)), (6, .func (.func 52) #[] #[.pointer (some ⟨b5, 0, none⟩)]), (7, .bool (defB e.w.r.status)), (8, .int .u64 e.index), (9, .bool (thereB H e.id e.index))]) (fun w => [pt b3 (.cells e.cells.toArray 58 (0, 0)), pt b5 (.cells [Value.slice w.1 (rul3 H e.m).length w.2].toArray 82 (0, 0)), own 33 1 (.slice w.1 (rul3 H e.m).length w.2) ((rul3 H e.m).map (Value.int .i64)), pt h (.cells [.slice z.lp z.ws.length z.lc, .slice z.rp z.rws.length z.rc, .map (some z.f), .map (some z.a), .map (some z.b), .int .u64 H.most].toArray 86 (0, 0)), own 44 5 (.slice z.rp z.rws.length z.rc) (z.rws.flatMap RW.cells), MapAt encU (valRep encU) z.f H.first, MapAt encU (valRep Value.bool) z.a H.asked, MapAt encU (valRep encU) z.b H.before, own 127 10 (.slice z.lp z.ws.length z.lc) (z.ws.flatMap SW.cells), star (z.ws.map SW.asn), star [G, star (z.rws.map RW.asn)], F]) ?_ fun w _ => ?_
  ·
   refine J.region <| J.m rfl <| J.m rfl <| J.m rfl ?_
   refine J.cases 78 rfl (fun hb78 => ?_) (fun hb78 => ?_)
   ·
    replace hb78 := X.nm hb78
    try (first | (cases hb78; done) | (exfalso; simp at hb78; done))
    all_goals
     refine J.m rfl <| J.p rfl (Q.eql rfl rfl) <| J.p rfl (Q.pick_t rfl rfl) ?_
     refine J.slot 81 (.bool (defB e.w.r.status && decide (e.index = 0))) rfl (by first | (rw [hb78, decide_eq_decide.2 (show (e.index : Int) = 0 ↔ e.index = 0 by omega)]; rfl) | (rw [hb78]; rfl)) ?_
     refine J.c rfl rfl (OpC.callvP (first := []) (args := [.int .i64 4, .bool (defB e.w.r.status && decide (e.index = 0))]) (cap := [.pointer (some ⟨b5, 0, none⟩)]) Tryz.call52 rfl rfl (add_spec b5 pw7 cw7 (rul2 H e.m) 4 (defB e.w.r.status && decide (e.index = 0)) (by first | omega | simp))) ?_
     rintro _ _ ⟨_, ⟨p82, c82, rfl, rfl⟩, rfl⟩
     refine J.norm rfl ?_
     rw [show addR (rul2 H e.m) 4 (defB e.w.r.status && decide (e.index = 0)) = rul3 H e.m from rfl]
     refine J.nil ?_
     exact J.meetI (p82, c82) trivial ⟨rfl, rfl, rfl, rfl, rfl, rfl, rfl, trivial⟩
   replace hb78 := X.nm hb78
   try (first | (cases hb78; done) | (exfalso; simp at hb78; done))
   all_goals
    refine J.skip rfl rfl <| J.skip rfl rfl <| J.p rfl (Q.pick_f rfl rfl) ?_
    refine J.slot 81 (.bool (defB e.w.r.status && decide (e.index = 0))) rfl (by first | (rw [hb78, decide_eq_decide.2 (show (e.index : Int) = 0 ↔ e.index = 0 by omega)]; rfl) | (rw [hb78]; rfl)) ?_
    refine J.c rfl rfl (OpC.callvP (first := []) (args := [.int .i64 4, .bool (defB e.w.r.status && decide (e.index = 0))]) (cap := [.pointer (some ⟨b5, 0, none⟩)]) Tryz.call52 rfl rfl (add_spec b5 pw7 cw7 (rul2 H e.m) 4 (defB e.w.r.status && decide (e.index = 0)) (by first | omega | simp))) ?_
    rintro _ _ ⟨_, ⟨p82, c82, rfl, rfl⟩, rfl⟩
    refine J.norm rfl ?_
    rw [show addR (rul2 H e.m) 4 (defB e.w.r.status && decide (e.index = 0)) = rul3 H e.m from rfl]
    refine J.nil ?_
    exact J.meetI (p82, c82) trivial ⟨rfl, rfl, rfl, rfl, rfl, rfl, rfl, trivial⟩
  refine J.norm rfl ?_
  obtain ⟨pw8, cw8⟩ := w
  dsimp only
  refine J.seq ?_
  refine J.draw [10, 11] Tryz.mixed (by kernel_rfl) fun hR => ?_
  refine RG.p 0 hR rfl (Q.mv rfl) <| RG.p 1 hR rfl (Q.nil_ rfl) <| RG.p 2 hR rfl (Q.fa (n := 4) Tryz.runUnderlying86 rfl rfl Tryz.sizeOf84 rfl) ?_
  refine RG.p 3 hR rfl (Q.ld Tryz.isAgg84 rfl (rdI (by exact rfl))) ?_
  refine RG.p 4 hR rfl (Q.fa (n := 1) Tryz.runUnderlying58 rfl rfl Tryz.sizeOf40 rfl) ?_
  refine RG.p 5 hR rfl (Q.ld Tryz.isAgg40 rfl (rdI (by exact rfl))) ?_
  refine RG.p 6 hR rfl (X.G.Q.lk2V (f := encU) H.before ord3_nat hH.before Tryz.runUnderlying84 keyU Tryz.zeroValue40 rfl rfl) ?_
  refine RG.p 7 hR rfl (Q.mv rfl) <| RG.p 8 hR rfl (Q.ext rfl rfl) ?_
  refine RG.slot 91 (.int .u64 (((sget e.id H.before).getD 0 : Nat) : Int)) rfl (getD_enc _) ?_
  refine RG.p 9 hR rfl (Q.ext rfl rfl) ?_
  refine RG.keep 10 hR rfl rfl rfl rfl rfl (Q.asg rfl) ?_
  refine RG.bar 11 hR rfl rfl rfl rfl rfl rfl (Q.asg rfl).toC ?_
  rintro _ _ ⟨rfl, rfl⟩
  refine RG.norm rfl ?_
  refine RG.fin hR rfl ?_
  refine J.norm rfl <| J.then_n ?_
  refine J.cut (fun _ : Option Addr × Nat => True) (fun _ => [(0, .pointer (some ⟨h, 0, none⟩)), (3, .pointer (some ⟨b3, 0, none⟩)), (5, .pointer (some ⟨b5, 0, none⟩)), (6, .func (.func 52) #[] #[.pointer (some ⟨b5, 0, none⟩)]), (7, .bool (defB e.w.r.status)), (8, .int .u64 e.index), (9, .bool (thereB H e.id e.index))]) (fun w => [pt b3 (.cells e.cells.toArray 58 (0, 0)), pt b5 (.cells [Value.slice w.1 (rul4 H e.m).length w.2].toArray 82 (0, 0)), own 33 1 (.slice w.1 (rul4 H e.m).length w.2) ((rul4 H e.m).map (Value.int .i64)), pt h (.cells [.slice z.lp z.ws.length z.lc, .slice z.rp z.rws.length z.rc, .map (some z.f), .map (some z.a), .map (some z.b), .int .u64 H.most].toArray 86 (0, 0)), own 44 5 (.slice z.rp z.rws.length z.rc) (z.rws.flatMap RW.cells), MapAt encU (valRep encU) z.f H.first, MapAt encU (valRep Value.bool) z.a H.asked, MapAt encU (valRep encU) z.b H.before, own 127 10 (.slice z.lp z.ws.length z.lc) (z.ws.flatMap SW.cells), star (z.ws.map SW.asn), star [G, star (z.rws.map RW.asn)], F]) ?_ fun w _ => ?_
  ·
   refine J.draw [27] Tryz.mixed (by kernel_rfl) fun hR => ?_
   refine RG.p 0 hR rfl (Q.mv rfl) <| RG.p 1 hR rfl (Q.mv rfl) <| RG.p 2 hR rfl (Q.neq rfl rfl) <| RG.p 3 hR rfl (Q.mv rfl) ?_
   refine RG.cases 96 rfl (fun hb96 => ?_) (fun hb96 => ?_)
   ·
    replace hb96 := X.nm hb96
    try (first | (cases hb96; done) | (exfalso; simp at hb96; done))
    all_goals
     refine RG.p 4 hR rfl (Q.mv rfl) <| RG.p 5 hR rfl (Q.pick_t rfl rfl) <| RG.p 6 hR rfl (Q.mv rfl) ?_
     refine RG.cases 99 rfl (fun hb99 => ?_) (fun hb99 => ?_)
     ·
      replace hb99 := X.nm hb99
      try (first | (cases hb99; done) | (exfalso; simp at hb99; done))
      all_goals
       refine RG.p 7 hR rfl (Q.mv rfl) <| RG.p 8 hR rfl (Q.nil_ rfl) <| RG.p 9 hR rfl (Q.fa (n := 2) Tryz.runUnderlying86 rfl rfl Tryz.sizeOf84 rfl) ?_
       refine RG.p 10 hR rfl (Q.ld Tryz.isAgg84 rfl (rdI (by exact rfl))) ?_
       refine RG.p 11 hR rfl (Q.fa (n := 1) Tryz.runUnderlying58 rfl rfl Tryz.sizeOf40 rfl) ?_
       refine RG.p 12 hR rfl (Q.ld Tryz.isAgg40 rfl (rdI (by exact rfl))) ?_
       refine RG.p 13 hR rfl (X.G.Q.lkV (f := encU) H.first ord3_nat hH.first Tryz.runUnderlying84 keyU Tryz.zeroValue40 rfl rfl) ?_
       refine RG.slot 106 (.int .u64 (((sget e.id H.first).getD 0 : Nat) : Int)) rfl (getD_enc _) ?_
       refine RG.p 14 hR rfl (Q.neq rfl rfl) <| RG.p 15 hR rfl (Q.pick_t rfl rfl) <| RG.p 16 hR rfl (Q.mv rfl) ?_
       refine RG.cases 109 rfl (fun hb109 => ?_) (fun hb109 => ?_)
       ·
        replace hb109 := X.nm hb109
        try (first | (cases hb109; done) | (exfalso; simp at hb109; done))
        all_goals
         refine RG.p 17 hR rfl (Q.mv rfl) <| RG.p 18 hR rfl (Q.nil_ rfl) <| RG.p 19 hR rfl (Q.fa (n := 2) Tryz.runUnderlying86 rfl rfl Tryz.sizeOf84 rfl) ?_
         refine RG.p 20 hR rfl (Q.ld Tryz.isAgg84 rfl (rdI (by exact rfl))) ?_
         refine RG.p 21 hR rfl (Q.fa (n := 1) Tryz.runUnderlying58 rfl rfl Tryz.sizeOf40 rfl) ?_
         refine RG.p 22 hR rfl (Q.ld Tryz.isAgg40 rfl (rdI (by exact rfl))) ?_
         refine RG.p 23 hR rfl (X.G.Q.lkV (f := encU) H.first ord3_nat hH.first Tryz.runUnderlying84 keyU Tryz.zeroValue40 rfl rfl) ?_
         refine RG.slot 116 (.int .u64 (((sget e.id H.first).getD 0 : Nat) : Int)) rfl (getD_enc _) ?_
         refine RG.p 24 hR rfl (Q.mv rfl) <| RG.p 25 hR rfl (Q.leq rfl rfl) <| RG.p 26 hR rfl (Q.pick_t rfl rfl) ?_
         refine RG.slot 119 (.bool (lateB H e.m)) rfl (by
           show Value.bool _ = Value.bool (decide (e.index ≠ 0) && (sget e.id H.before).isSome && decide ((sget e.id H.first).getD 0 ≠ 0) && decide ((sget e.id H.first).getD 0 ≤ (sget e.id H.before).getD 0))
           first
            | (rw [decide_eq_false (show ¬ e.index ≠ 0 by omega)]; rfl)
            | (rw [decide_eq_true (show e.index ≠ 0 by omega), show (sget e.id H.before).isSome = false from hb99]; rfl)
            | (rw [decide_eq_true (show e.index ≠ 0 by omega), show (sget e.id H.before).isSome = true from hb99, decide_eq_false (show ¬ (sget e.id H.first).getD 0 ≠ 0 by omega)]; rfl)
            | (rw [decide_eq_true (show e.index ≠ 0 by omega), show (sget e.id H.before).isSome = true from hb99, decide_eq_true (show (sget e.id H.first).getD 0 ≠ 0 by omega), decide_eq_decide.2 (show (sget e.id H.first).getD 0 ≤ (sget e.id H.before).getD 0 ↔ (((sget e.id H.first).getD 0 : Nat) : Int) ≤ (((sget e.id H.before).getD 0 : Nat) : Int) by omega)]; rfl)) ?_
         refine RG.bar 27 hR rfl rfl rfl rfl rfl rfl (OpC.callvP (first := []) (args := [.int .i64 5, .bool (lateB H e.m)]) (cap := [.pointer (some ⟨b5, 0, none⟩)]) Tryz.call52 rfl rfl (add_spec b5 pw8 cw8 (rul3 H e.m) 5 (lateB H e.m) (by first | omega | simp))) ?_
         rintro _ _ ⟨_, ⟨p120, c120, rfl, rfl⟩, rfl⟩
         refine RG.norm rfl ?_
         rw [show addR (rul3 H e.m) 5 (lateB H e.m) = rul4 H e.m from rfl]
         refine RG.fin hR rfl ?_
         refine J.norm rfl ?_
         exact J.meetI (p120, c120) trivial ⟨rfl, rfl, rfl, rfl, rfl, rfl, rfl, trivial⟩
       replace hb109 := X.nm hb109
       try (first | (cases hb109; done) | (exfalso; simp at hb109; done))
       all_goals
        refine RG.skip 17 hR rfl rfl rfl rfl rfl rfl <| RG.skip 18 hR rfl rfl rfl rfl rfl rfl <| RG.skip 19 hR rfl rfl rfl rfl rfl rfl <| RG.skip 20 hR rfl rfl rfl rfl rfl rfl <| RG.skip 21 hR rfl rfl rfl rfl rfl rfl <| RG.skip 22 hR rfl rfl rfl rfl rfl rfl <| RG.skip 23 hR rfl rfl rfl rfl rfl rfl <| RG.skip 24 hR rfl rfl rfl rfl rfl rfl <| RG.skip 25 hR rfl rfl rfl rfl rfl rfl <| RG.p 26 hR rfl (Q.pick_f rfl rfl) ?_
        refine RG.slot 119 (.bool (lateB H e.m)) rfl (by
          show Value.bool _ = Value.bool (decide (e.index ≠ 0) && (sget e.id H.before).isSome && decide ((sget e.id H.first).getD 0 ≠ 0) && decide ((sget e.id H.first).getD 0 ≤ (sget e.id H.before).getD 0))
          first
           | (rw [decide_eq_false (show ¬ e.index ≠ 0 by omega)]; rfl)
           | (rw [decide_eq_true (show e.index ≠ 0 by omega), show (sget e.id H.before).isSome = false from hb99]; rfl)
           | (rw [decide_eq_true (show e.index ≠ 0 by omega), show (sget e.id H.before).isSome = true from hb99, decide_eq_false (show ¬ (sget e.id H.first).getD 0 ≠ 0 by omega)]; rfl)
           | (rw [decide_eq_true (show e.index ≠ 0 by omega), show (sget e.id H.before).isSome = true from hb99, decide_eq_true (show (sget e.id H.first).getD 0 ≠ 0 by omega), decide_eq_decide.2 (show (sget e.id H.first).getD 0 ≤ (sget e.id H.before).getD 0 ↔ (((sget e.id H.first).getD 0 : Nat) : Int) ≤ (((sget e.id H.before).getD 0 : Nat) : Int) by omega)]; rfl)) ?_
        refine RG.bar 27 hR rfl rfl rfl rfl rfl rfl (OpC.callvP (first := []) (args := [.int .i64 5, .bool (lateB H e.m)]) (cap := [.pointer (some ⟨b5, 0, none⟩)]) Tryz.call52 rfl rfl (add_spec b5 pw8 cw8 (rul3 H e.m) 5 (lateB H e.m) (by first | omega | simp))) ?_
        rintro _ _ ⟨_, ⟨p120, c120, rfl, rfl⟩, rfl⟩
        refine RG.norm rfl ?_
        rw [show addR (rul3 H e.m) 5 (lateB H e.m) = rul4 H e.m from rfl]
        refine RG.fin hR rfl ?_
        refine J.norm rfl ?_
        exact J.meetI (p120, c120) trivial ⟨rfl, rfl, rfl, rfl, rfl, rfl, rfl, trivial⟩
     replace hb99 := X.nm hb99
     try (first | (cases hb99; done) | (exfalso; simp at hb99; done))
     all_goals
      refine RG.skip 7 hR rfl rfl rfl rfl rfl rfl <| RG.skip 8 hR rfl rfl rfl rfl rfl rfl <| RG.skip 9 hR rfl rfl rfl rfl rfl rfl <| RG.skip 10 hR rfl rfl rfl rfl rfl rfl <| RG.skip 11 hR rfl rfl rfl rfl rfl rfl <| RG.skip 12 hR rfl rfl rfl rfl rfl rfl <| RG.skip 13 hR rfl rfl rfl rfl rfl rfl <| RG.skip 14 hR rfl rfl rfl rfl rfl rfl <| RG.p 15 hR rfl (Q.pick_f rfl rfl) <| RG.p 16 hR rfl (Q.mv rfl) ?_
      refine RG.skip 17 hR rfl rfl rfl rfl rfl rfl <| RG.skip 18 hR rfl rfl rfl rfl rfl rfl <| RG.skip 19 hR rfl rfl rfl rfl rfl rfl <| RG.skip 20 hR rfl rfl rfl rfl rfl rfl <| RG.skip 21 hR rfl rfl rfl rfl rfl rfl <| RG.skip 22 hR rfl rfl rfl rfl rfl rfl <| RG.skip 23 hR rfl rfl rfl rfl rfl rfl <| RG.skip 24 hR rfl rfl rfl rfl rfl rfl <| RG.skip 25 hR rfl rfl rfl rfl rfl rfl <| RG.p 26 hR rfl (Q.pick_f rfl rfl) ?_
      refine RG.slot 119 (.bool (lateB H e.m)) rfl (by
        show Value.bool _ = Value.bool (decide (e.index ≠ 0) && (sget e.id H.before).isSome && decide ((sget e.id H.first).getD 0 ≠ 0) && decide ((sget e.id H.first).getD 0 ≤ (sget e.id H.before).getD 0))
        first
         | (rw [decide_eq_false (show ¬ e.index ≠ 0 by omega)]; rfl)
         | (rw [decide_eq_true (show e.index ≠ 0 by omega), show (sget e.id H.before).isSome = false from hb99]; rfl)
         | (rw [decide_eq_true (show e.index ≠ 0 by omega), show (sget e.id H.before).isSome = true from hb99, decide_eq_false (show ¬ (sget e.id H.first).getD 0 ≠ 0 by omega)]; rfl)
         | (rw [decide_eq_true (show e.index ≠ 0 by omega), show (sget e.id H.before).isSome = true from hb99, decide_eq_true (show (sget e.id H.first).getD 0 ≠ 0 by omega), decide_eq_decide.2 (show (sget e.id H.first).getD 0 ≤ (sget e.id H.before).getD 0 ↔ (((sget e.id H.first).getD 0 : Nat) : Int) ≤ (((sget e.id H.before).getD 0 : Nat) : Int) by omega)]; rfl)) ?_
      refine RG.bar 27 hR rfl rfl rfl rfl rfl rfl (OpC.callvP (first := []) (args := [.int .i64 5, .bool (lateB H e.m)]) (cap := [.pointer (some ⟨b5, 0, none⟩)]) Tryz.call52 rfl rfl (add_spec b5 pw8 cw8 (rul3 H e.m) 5 (lateB H e.m) (by first | omega | simp))) ?_
      rintro _ _ ⟨_, ⟨p120, c120, rfl, rfl⟩, rfl⟩
      refine RG.norm rfl ?_
      rw [show addR (rul3 H e.m) 5 (lateB H e.m) = rul4 H e.m from rfl]
      refine RG.fin hR rfl ?_
      refine J.norm rfl ?_
      exact J.meetI (p120, c120) trivial ⟨rfl, rfl, rfl, rfl, rfl, rfl, rfl, trivial⟩
   replace hb96 := X.nm hb96
   try (first | (cases hb96; done) | (exfalso; simp at hb96; done))
   all_goals
    refine RG.skip 4 hR rfl rfl rfl rfl rfl rfl <| RG.p 5 hR rfl (Q.pick_f rfl rfl) <| RG.p 6 hR rfl (Q.mv rfl) <| RG.skip 7 hR rfl rfl rfl rfl rfl rfl <| RG.skip 8 hR rfl rfl rfl rfl rfl rfl <| RG.skip 9 hR rfl rfl rfl rfl rfl rfl <| RG.skip 10 hR rfl rfl rfl rfl rfl rfl <| RG.skip 11 hR rfl rfl rfl rfl rfl rfl <| RG.skip 12 hR rfl rfl rfl rfl rfl rfl <| RG.skip 13 hR rfl rfl rfl rfl rfl rfl ?_
    refine RG.skip 14 hR rfl rfl rfl rfl rfl rfl <| RG.p 15 hR rfl (Q.pick_f rfl rfl) <| RG.p 16 hR rfl (Q.mv rfl) <| RG.skip 17 hR rfl rfl rfl rfl rfl rfl <| RG.skip 18 hR rfl rfl rfl rfl rfl rfl <| RG.skip 19 hR rfl rfl rfl rfl rfl rfl <| RG.skip 20 hR rfl rfl rfl rfl rfl rfl <| RG.skip 21 hR rfl rfl rfl rfl rfl rfl <| RG.skip 22 hR rfl rfl rfl rfl rfl rfl <| RG.skip 23 hR rfl rfl rfl rfl rfl rfl ?_
    refine RG.skip 24 hR rfl rfl rfl rfl rfl rfl <| RG.skip 25 hR rfl rfl rfl rfl rfl rfl <| RG.p 26 hR rfl (Q.pick_f rfl rfl) ?_
    refine RG.slot 119 (.bool (lateB H e.m)) rfl (by
      show Value.bool _ = Value.bool (decide (e.index ≠ 0) && (sget e.id H.before).isSome && decide ((sget e.id H.first).getD 0 ≠ 0) && decide ((sget e.id H.first).getD 0 ≤ (sget e.id H.before).getD 0))
      first
       | (rw [decide_eq_false (show ¬ e.index ≠ 0 by omega)]; rfl)
       | (rw [decide_eq_true (show e.index ≠ 0 by omega), show (sget e.id H.before).isSome = false from hb99]; rfl)
       | (rw [decide_eq_true (show e.index ≠ 0 by omega), show (sget e.id H.before).isSome = true from hb99, decide_eq_false (show ¬ (sget e.id H.first).getD 0 ≠ 0 by omega)]; rfl)
       | (rw [decide_eq_true (show e.index ≠ 0 by omega), show (sget e.id H.before).isSome = true from hb99, decide_eq_true (show (sget e.id H.first).getD 0 ≠ 0 by omega), decide_eq_decide.2 (show (sget e.id H.first).getD 0 ≤ (sget e.id H.before).getD 0 ↔ (((sget e.id H.first).getD 0 : Nat) : Int) ≤ (((sget e.id H.before).getD 0 : Nat) : Int) by omega)]; rfl)) ?_
    refine RG.bar 27 hR rfl rfl rfl rfl rfl rfl (OpC.callvP (first := []) (args := [.int .i64 5, .bool (lateB H e.m)]) (cap := [.pointer (some ⟨b5, 0, none⟩)]) Tryz.call52 rfl rfl (add_spec b5 pw8 cw8 (rul3 H e.m) 5 (lateB H e.m) (by first | omega | simp))) ?_
    rintro _ _ ⟨_, ⟨p120, c120, rfl, rfl⟩, rfl⟩
    refine RG.norm rfl ?_
    rw [show addR (rul3 H e.m) 5 (lateB H e.m) = rul4 H e.m from rfl]
    refine RG.fin hR rfl ?_
    refine J.norm rfl ?_
    exact J.meetI (p120, c120) trivial ⟨rfl, rfl, rfl, rfl, rfl, rfl, rfl, trivial⟩
  refine J.norm rfl ?_
  obtain ⟨pw10, cw10⟩ := w
  dsimp only
  refine J.seq ?_
  refine J.pickI [pt b3 (.cells e.cells.toArray 58 (0, 0)), pt h (.cells [.slice z.lp z.ws.length z.lc, .slice z.rp z.rws.length z.rc, .map (some z.f), .map (some z.a), .map (some z.b), .int .u64 H.most].toArray 86 (0, 0)), own 44 5 (.slice z.rp z.rws.length z.rc) (z.rws.flatMap RW.cells)] ?_
  refine J.norm rfl ?_
  refine J.drawE [17, 20] 3 Tryz.mixed (by kernel_rfl) rfl rfl fun hR => ?_
  refine RG.p 0 hR rfl (Q.mv rfl) <| RG.p 1 hR rfl (Q.mv rfl) <| RG.p 2 hR rfl (Q.mv rfl) ?_
  refine RG.cases 123 rfl (fun hb123 => ?_) (fun hb123 => ?_)
  ·
   replace hb123 := X.nm hb123
   try (first | (cases hb123; done) | (exfalso; simp at hb123; done))
   all_goals
    refine RG.p 3 hR rfl (Q.mv rfl) <| RG.p 4 hR rfl (Q.pick_t rfl rfl) <| RG.p 5 hR rfl (Q.mv rfl) ?_
    refine RG.cases 126 rfl (fun hb126 => ?_) (fun hb126 => ?_)
    ·
     replace hb126 := X.nm hb126
     try (first | (cases hb126; done) | (exfalso; simp at hb126; done))
     all_goals
      have hth : thereB H e.id e.index = true := hb126
      obtain ⟨hn1, hn2⟩ := there_in hth
      obtain ⟨b, off, hlp, hrd⟩ := hsr.some_ (by omega)
      obtain ⟨w, hw⟩ : ∃ w, z.rws[e.index - 1]? = some w := ⟨_, List.getElem?_eq_getElem (by omega)⟩
      have hws : H.rs[e.index - 1]? = some w.r := by rw [← hz.rs, List.getElem?_map, hw]; rfl
      refine RG.p 6 hR rfl (Q.fa (n := 12) Tryz.runUnderlying58 rfl rfl Tryz.sizeOf44 rfl) <| RG.p 7 hR rfl (Q.ldN (vs := [_, _, _, _, _]) Tryz.isAgg44 Tryz.sizeOf44 rfl (rnSub 12 rfl)) <| RG.p 8 hR rfl (Q.mv rfl) <| RG.p 9 hR rfl (Q.nil_ rfl) <| RG.p 10 hR rfl (Q.fa (n := 1) Tryz.runUnderlying86 rfl rfl Tryz.sizeOf48 rfl) ?_
      refine RG.p 11 hR rfl (Q.ld Tryz.isAgg48 rfl (rdI (by exact rfl))) ?_
      refine RG.slot 132 (.slice (some ⟨b, off, none⟩) z.rws.length z.rc) rfl (by rw [hlp]) ?_
      refine RG.p 12 hR rfl (Q.mv rfl) <| RG.p 13 hR rfl (Q.maxI rfl) ?_
      refine RG.slot 134 (.int .u64 (e.index : Int)) rfl (by rw [show (if (1 : Int) > (e.index : Int) then (1 : Int) else (e.index : Int)) = (e.index : Int) from if_neg (by omega)]) ?_
      refine RG.p 14 hR rfl (Q.sub rfl rfl) ?_
      refine RG.slot 135 (.int .u64 ((e.index - 1 : Nat) : Int)) rfl (by rw [show (e.index : Int) - 1 = ((e.index - 1 : Nat) : Int) by omega, wrap64 (by omega)]) ?_
      refine RG.p 15 hR rfl (Q.ia Tryz.runUnderlying48 Tryz.sizeOf44 rfl rfl (by omega) (by omega)) <| RG.p 16 hR rfl (Q.ldN (vs := [_, _, _, _, _]) Tryz.isAgg44 Tryz.sizeOf44 rfl ((rd_elem RW.cells_length hrd hw (by simp)).inI)) ?_
      refine RG.callkI 17 hR rfl rfl rfl rfl rfl Tryz.call53 (same_spec (star [G, star (z.rws.map RW.asn)]) e.w w (he.w.into 0 rfl) (((hro _ _ hw).into (e.index - 1) (by rw [List.getElem?_map, hw]; rfl)).into 1 rfl)) rfl ?_
      rintro _ _ ⟨rfl, rfl⟩
      refine RG.normE rfl <| RG.p 18 hR rfl (Q.not rfl) <| RG.p 19 hR rfl (Q.pick_t rfl rfl) ?_
      refine RG.slot 140 (.bool (toldB H e.m)) rfl (by
        show Value.bool _ = Value.bool (defB e.w.r.status && thereB H e.id e.index && !(match H.rs[max e.index 1 - 1]? with | some r => sameM e.w.r r | none => true))
        first
         | (rw [show defB e.w.r.status = false from hb123]; rfl)
         | (rw [show defB e.w.r.status = true from hb123, show thereB H e.id e.index = false from hb126]; rfl)
         | (rw [show defB e.w.r.status = true from hb123, hth, show max e.index 1 - 1 = e.index - 1 by omega, hws]; rfl)) ?_
      refine RG.bar 20 hR rfl rfl rfl rfl rfl rfl (OpC.callvP (first := []) (args := [.int .i64 6, .bool (toldB H e.m)]) (cap := [.pointer (some ⟨b5, 0, none⟩)]) Tryz.call52 rfl rfl (add_spec b5 pw10 cw10 (rul4 H e.m) 6 (toldB H e.m) (by first | omega | simp))) ?_
      rintro _ _ ⟨_, ⟨p141, c141, rfl, rfl⟩, rfl⟩
      refine RG.norm rfl ?_
      rw [show addR (rul4 H e.m) 6 (toldB H e.m) = H.breaks e.m from rfl]
      refine RG.fin hR rfl ?_
      refine J.norm rfl <| J.then_n <| J.seq <| J.region ?_
      refine J.p rfl (Q.ld Tryz.isAgg82 rfl (rdI (by exact rfl))) ?_
      refine J.p rfl (Q.asg rfl) <| J.nil <| J.then_n <| J.cret ?_
      refine J.unpackI [G, star (z.rws.map RW.asn)] ?_
      refine J.norm rfl ?_
      refine J.shutI (z.asns h H) (HAt h H) (fun _ s => ⟨z, hz, s⟩) ?_
      refine J.ret1I [own 33 1 (.slice p141 (H.breaks e.m).length c141) ((H.breaks e.m).map (Value.int .i64)), HAt h H, G] rfl rfl ⟨p141, c141, rfl, rfl⟩
    replace hb126 := X.nm hb126
    try (first | (cases hb126; done) | (exfalso; simp at hb126; done))
    all_goals
     refine RG.skip 6 hR rfl rfl rfl rfl rfl rfl <| RG.skip 7 hR rfl rfl rfl rfl rfl rfl <| RG.skip 8 hR rfl rfl rfl rfl rfl rfl <| RG.skip 9 hR rfl rfl rfl rfl rfl rfl <| RG.skip 10 hR rfl rfl rfl rfl rfl rfl <| RG.skip 11 hR rfl rfl rfl rfl rfl rfl <| RG.skip 12 hR rfl rfl rfl rfl rfl rfl <| RG.skip 13 hR rfl rfl rfl rfl rfl rfl <| RG.skip 14 hR rfl rfl rfl rfl rfl rfl <| RG.skip 15 hR rfl rfl rfl rfl rfl rfl ?_
     refine RG.skip 16 hR rfl rfl rfl rfl rfl rfl ?_
     refine RG.pass 17 hR rfl rfl rfl rfl rfl ?_
     refine RG.skip 18 hR rfl rfl rfl rfl rfl rfl <| RG.p 19 hR rfl (Q.pick_f rfl rfl) ?_
     refine RG.slot 140 (.bool (toldB H e.m)) rfl (by
       show Value.bool _ = Value.bool (defB e.w.r.status && thereB H e.id e.index && !(match H.rs[max e.index 1 - 1]? with | some r => sameM e.w.r r | none => true))
       first
        | (rw [show defB e.w.r.status = false from hb123]; rfl)
        | (rw [show defB e.w.r.status = true from hb123, show thereB H e.id e.index = false from hb126]; rfl)
        | (rw [show defB e.w.r.status = true from hb123, hth, show max e.index 1 - 1 = e.index - 1 by omega, hws]; rfl)) ?_
     refine RG.bar 20 hR rfl rfl rfl rfl rfl rfl (OpC.callvP (first := []) (args := [.int .i64 6, .bool (toldB H e.m)]) (cap := [.pointer (some ⟨b5, 0, none⟩)]) Tryz.call52 rfl rfl (add_spec b5 pw10 cw10 (rul4 H e.m) 6 (toldB H e.m) (by first | omega | simp))) ?_
     rintro _ _ ⟨_, ⟨p141, c141, rfl, rfl⟩, rfl⟩
     refine RG.norm rfl ?_
     rw [show addR (rul4 H e.m) 6 (toldB H e.m) = H.breaks e.m from rfl]
     refine RG.fin hR rfl ?_
     refine J.norm rfl <| J.then_n <| J.seq <| J.region ?_
     refine J.p rfl (Q.ld Tryz.isAgg82 rfl (rdI (by exact rfl))) ?_
     refine J.p rfl (Q.asg rfl) <| J.nil <| J.then_n <| J.cret ?_
     refine J.unpackI [G, star (z.rws.map RW.asn)] ?_
     refine J.norm rfl ?_
     refine J.shutI (z.asns h H) (HAt h H) (fun _ s => ⟨z, hz, s⟩) ?_
     refine J.ret1I [own 33 1 (.slice p141 (H.breaks e.m).length c141) ((H.breaks e.m).map (Value.int .i64)), HAt h H, G] rfl rfl ⟨p141, c141, rfl, rfl⟩
  replace hb123 := X.nm hb123
  try (first | (cases hb123; done) | (exfalso; simp at hb123; done))
  all_goals
   refine RG.skip 3 hR rfl rfl rfl rfl rfl rfl <| RG.p 4 hR rfl (Q.pick_f rfl rfl) <| RG.p 5 hR rfl (Q.mv rfl) <| RG.skip 6 hR rfl rfl rfl rfl rfl rfl <| RG.skip 7 hR rfl rfl rfl rfl rfl rfl <| RG.skip 8 hR rfl rfl rfl rfl rfl rfl <| RG.skip 9 hR rfl rfl rfl rfl rfl rfl <| RG.skip 10 hR rfl rfl rfl rfl rfl rfl <| RG.skip 11 hR rfl rfl rfl rfl rfl rfl <| RG.skip 12 hR rfl rfl rfl rfl rfl rfl ?_
   refine RG.skip 13 hR rfl rfl rfl rfl rfl rfl <| RG.skip 14 hR rfl rfl rfl rfl rfl rfl <| RG.skip 15 hR rfl rfl rfl rfl rfl rfl <| RG.skip 16 hR rfl rfl rfl rfl rfl rfl ?_
   refine RG.pass 17 hR rfl rfl rfl rfl rfl ?_
   refine RG.skip 18 hR rfl rfl rfl rfl rfl rfl <| RG.p 19 hR rfl (Q.pick_f rfl rfl) ?_
   refine RG.slot 140 (.bool (toldB H e.m)) rfl (by
     show Value.bool _ = Value.bool (defB e.w.r.status && thereB H e.id e.index && !(match H.rs[max e.index 1 - 1]? with | some r => sameM e.w.r r | none => true))
     first
      | (rw [show defB e.w.r.status = false from hb123]; rfl)
      | (rw [show defB e.w.r.status = true from hb123, show thereB H e.id e.index = false from hb126]; rfl)
      | (rw [show defB e.w.r.status = true from hb123, hth, show max e.index 1 - 1 = e.index - 1 by omega, hws]; rfl)) ?_
   refine RG.bar 20 hR rfl rfl rfl rfl rfl rfl (OpC.callvP (first := []) (args := [.int .i64 6, .bool (toldB H e.m)]) (cap := [.pointer (some ⟨b5, 0, none⟩)]) Tryz.call52 rfl rfl (add_spec b5 pw10 cw10 (rul4 H e.m) 6 (toldB H e.m) (by first | omega | simp))) ?_
   rintro _ _ ⟨_, ⟨p141, c141, rfl, rfl⟩, rfl⟩
   refine RG.norm rfl ?_
   rw [show addR (rul4 H e.m) 6 (toldB H e.m) = H.breaks e.m from rfl]
   refine RG.fin hR rfl ?_
   refine J.norm rfl <| J.then_n <| J.seq <| J.region ?_
   refine J.p rfl (Q.ld Tryz.isAgg82 rfl (rdI (by exact rfl))) ?_
   refine J.p rfl (Q.asg rfl) <| J.nil <| J.then_n <| J.cret ?_
   refine J.unpackI [G, star (z.rws.map RW.asn)] ?_
   refine J.norm rfl ?_
   refine J.shutI (z.asns h H) (HAt h H) (fun _ s => ⟨z, hz, s⟩) ?_
   refine J.ret1I [own 33 1 (.slice p141 (H.breaks e.m).length c141) ((H.breaks e.m).map (Value.int .i64)), HAt h H, G] rfl rfl ⟨p141, c141, rfl, rfl⟩
end Go.Proofs.YtidbcaimgahllaaGreat
namespace Go.Proofs.YtidbcaimgahllaaGreat
set_option linter.unusedSectionVars false
set_option linter.unusedSimpArgs false
set_option linter.unusedVariables false
open Go.X
open Go.X.G (Ord3 ord3_nat ord3_int ord3_str ltB sget sput sdel Srtd MapAt MapHole valRep)

def JM.told (H : JM) (e : EM) : JM := { H with asked := sput ltN e.id false H.asked, most := if defB e.res.status then max H.most e.index else H.most }
structure FM where
  rule : Int
  event : Int
abbrev FM.cells (f : FM) : List Value := [.int .i64 f.rule, .int .i64 f.event]
theorem FM.len (f : FM) : f.cells.length = 2 := rfl
theorem FM.one (f : FM) : ∀ v, v ∈ f.cells → oneC v = true := by
  intro v hv
  simp only [FM.cells, List.mem_cons, List.not_mem_nil, or_false] at hv
  rcases hv with rfl | rfl <;> rfl
structure ES where
  H : JM
  fs : List FM
  n : Nat
def ES.step (z : ES) (e : EM) : ES :=
  if e.answer then ⟨z.H.told e, z.fs ++ (z.H.breaks e).map (fun r => ⟨r, z.n⟩), z.n + 1⟩ else ⟨z.H.ask e.id, z.fs, z.n + 1⟩
def runE (H : JM) (l : List EM) : ES := l.foldl ES.step ⟨H, [], 0⟩
def faults (H : JM) (l : List EM) : List FM := (runE H l).fs
theorem runE_snoc (H : JM) (l : List EM) (e : EM) : runE H (l ++ [e]) = (runE H l).step e := by simp [runE]
theorem runE_take {H : JM} {l : List EM} {k : Nat} {e : EM} (h : l[k]? = some e) : runE H (l.take (k + 1)) = (runE H (l.take k)).step e := by
  obtain ⟨h1, h2⟩ := List.getElem?_eq_some_iff.1 h
  rw [List.take_succ_eq_append_getElem h1, h2, runE_snoc]
theorem JM.ok.ask {H : JM} (h : H.ok) (id : Nat) : (H.ask id).ok := by
  refine ⟨h.first, X.G.srtd_put ord3_nat h.asked _ _, ?_, h.len, h.small, h.rs⟩
  show Srtd ltN (if (sget id H.before).isSome then H.before else sput ltN id H.most H.before)
  split
  · exact h.before
  · exact X.G.srtd_put ord3_nat h.before _ _
theorem JM.ok.told {H : JM} (h : H.ok) (e : EM) : (H.told e).ok := ⟨h.first, X.G.srtd_put ord3_nat h.asked _ _, h.before, h.len, h.small, h.rs⟩
structure ES.ok (k : Nat) (z : ES) : Prop where
  h : z.H.ok
  n : z.n = k
  fs : z.fs.length ≤ 5 * k
theorem ES.ok.step {k : Nat} {z : ES} (h : z.ok k) (e : EM) : (z.step e).ok (k + 1) := by
  obtain ⟨h1, h2, h3⟩ := h
  obtain ⟨_, _, _, _, n5⟩ := rul_le z.H e
  unfold ES.step
  split
  · exact ⟨h1.told e, by show z.n + 1 = k + 1; omega, by show (z.fs ++ _).length ≤ _; rw [List.length_append, List.length_map]; omega⟩
  · exact ⟨h1.ask e.id, by show z.n + 1 = k + 1; omega, by show z.fs.length ≤ _; omega⟩
theorem ES.ok.fold : ∀ (l : List EM) {k : Nat} {z : ES}, z.ok k → (l.foldl ES.step z).ok (k + l.length)
  | [], _, _, h => h
  | e :: l, k, z, h => by
    have := ES.ok.fold l (h.step e)
    rw [List.foldl_cons, List.length_cons, show k + (l.length + 1) = k + 1 + l.length by omega]; exact this
theorem runE_ok {H : JM} (h : H.ok) (l : List EM) : (runE H l).ok l.length := by
  have := ES.ok.fold l (k := 0) (z := ⟨H, [], 0⟩) ⟨h, rfl, Nat.zero_le _⟩
  rwa [Nat.zero_add] at this

structure Evs (G : Assn) (ep : Option Addr) (ec : Nat) (l : List EW) : Prop where
  rd : SlR [G] 17 (.slice ep l.length ec) (l.flatMap EW.cells)
  ok : ∀ e, e ∈ l → e.ok G
  small : l.length ≤ 32768

theorem check_ok (G1 G2 : Assn) (lp : Option Addr) (lc : Nat) (l : List CW) (ds : List DM) (hl : Coms G1 lp lc l ds) (hi : ∀ (i : Nat) (x : CW), l[i]? = some x → x.index = i + 1) (hb : ∀ d, d ∈ ds → d.bad = false)
    (ep : Option Addr) (ec : Nat) (es : List EW) (he : Evs G2 ep ec es) : FSpec Tryz.prog 8 [.slice lp l.length lc, .slice ep es.length ec] [G1, G2]
    (fun u B => ∃ p c, u = .slice p (faults (begM (ds.map DM.m)) (es.map EW.m)).length c ∧ B = [own 35 2 (.slice p (faults (begM (ds.map DM.m)) (es.map EW.m)).length c) ((faults (begM (ds.map DM.m)) (es.map EW.m)).flatMap FM.cells), G1, G2]) := by
  have hesm := he.small
  have hlsm := hl.small
  refine FSpec.of Tryz.func8 rfl Tryz.ntmps8 rfl fun W0 F => ?_
  refine J.seq <| J.region <| J.p rfl (Q.asg rfl) <| J.nil <| J.then_n <| J.scope <| J.seq <| J.region <| J.m rfl ?_
  refine J.callI Tryz.call20 (read_ok G1 lp lc l ds hl hi hb) rfl rfl rfl ?_
  rintro _ _ ⟨ws, wp, wc, rfl, hwm, hwo, rfl⟩
  refine J.norm rfl ?_
  have hwl : ws.length = l.length := by
   have := congrArg List.length hwm
   rw [List.length_map, List.length_map] at this
   rw [this, hl.dl]
  refine J.m rfl <| J.p rfl (Q.ext rfl rfl) <| J.p rfl (Q.ext rfl rfl) <| J.p rfl (Q.asg rfl) <| J.p rfl (Q.asg rfl) <| J.nil <| J.then_n <| J.seq <| J.seq <| J.region <| J.m rfl <| J.p rfl (Q.neq rfl rfl) <| J.nil <| J.then_n ?_
  refine J.cases 19 rfl (fun hc19 => ?_) (fun hc19 => ?_)
  ·
   replace hc19 := X.nm hc19
   try (first | (cases hc19; done) | (exfalso; simp at hc19; done))
   all_goals
    refine J.cond_t rfl <| J.seq <| J.region <| J.p rfl (Q.bld (l := [_, _]) Tryz.runUnderlying35 Tryz.zeroValue35 Tryz.places35 rfl rfl) ?_
    refine J.c rfl rfl (C.bslG (l := [_, _]) Tryz.runUnderlying29 Tryz.sizeOf35 Tryz.zeroValue35 (by decide) rfl rfl rfl rfl rfl) ?_
    rintro _ _ ⟨b21, rfl, rfl⟩
    refine J.norm rfl <| J.p rfl (Q.asg rfl) <| J.nil <| J.then_n <| J.cret <| J.then_r <| J.scp_r ?_
    have htk : (es.map EW.m).take i = es.map EW.m := List.take_of_length_le (by rw [List.length_map]; omega)
    rw [htk]
    rw [hH0, show (runE (begM (ds.map DM.m)) (es.map EW.m)).fs = faults (begM (ds.map DM.m)) (es.map EW.m) from rfl]
    refine J.ret1I [own 35 2 (.slice p (faults (begM (ds.map DM.m)) (es.map EW.m)).length c) ((faults (begM (ds.map DM.m)) (es.map EW.m)).flatMap FM.cells), G1, G2] rfl rfl ⟨p, c, rfl, rfl⟩
  replace hc19 := X.nm hc19
  try (first | (cases hc19; done) | (exfalso; simp at hc19; done))
  all_goals
   refine J.cond_f rfl <| J.cskip <| J.then_n <| J.seq <| J.region <| J.m rfl ?_
   refine J.callI Tryz.call21 (jbegin_spec ws wp wc hwo (by omega)) rfl rfl rfl ?_
   rintro _ _ ⟨h, rfl, rfl⟩
   refine J.norm rfl ?_
   obtain ⟨H0, hH0⟩ : ∃ H0, H0 = begM (ds.map DM.m) := ⟨_, rfl⟩
   have hH0o : H0.ok := by rw [hH0]; exact begM_ok (by rw [List.length_map, hl.dl]; omega)
   rw [hwm, ← hH0]
   refine J.p rfl (Q.asg rfl) <| J.nil <| J.then_n <| J.seq <| J.region <| J.p rfl (Q.asg rfl) <| J.nil <| J.then_n <| J.seq ?_
   refine J.clabel ?_
   refine J.then_n <| J.seq <| J.seq <| J.region <| J.m rfl <| J.p rfl (Q.lenSl Tryz.runUnderlying23 rfl) <| J.m rfl <| J.nil <| J.then_n <| J.block ?_
   refine J.give (own.nil 35 2 _) ?_
   refine J.keepI [own 35 2 (.slice none 0 0) [], HAt h H0, G1, G2, F] ?_
   refine J.loop3 (fun (i : Nat) (_ : Option Addr) (_ : Nat) => i ≤ es.length) (fun i _ _ => es.length - i)
    (fun i p c => [(7, .pointer (some ⟨h, 0, none⟩)), (8, .slice p (runE H0 ((es.map EW.m).take i)).fs.length c), (24, .slice ep es.length ec), (25, .int .i64 es.length), (26, .int .i64 i)])
    (fun i p c => [own 35 2 (.slice p (runE H0 ((es.map EW.m).take i)).fs.length c) ((runE H0 ((es.map EW.m).take i)).fs.flatMap FM.cells), HAt h (runE H0 ((es.map EW.m).take i)).H, G1, G2, F]) 0 none 0 (Nat.zero_le _) ⟨rfl, rfl, rfl, rfl, rfl, trivial⟩ rfl fun i p c hil => ?_
   refine J.seq <| J.region <| J.p rfl (Q.lss rfl rfl) <| J.nil <| J.then_n <| J.seq ?_
   refine J.cases 27 rfl (fun hc27 => ?_) (fun hc27 => ?_)
   ·
    replace hc27 := X.nm hc27
    try (first | (cases hc27; done) | (exfalso; simp at hc27; done))
    all_goals
     refine J.cond_t rfl <| J.cskip <| J.then_n <| J.seq <| J.block <| J.seq ?_
     have hlt : i < es.length := by omega
     obtain ⟨b, off, hep, hrd⟩ := he.rd.some_ (by omega)
     obtain ⟨e, hex⟩ : ∃ e, es[i]? = some e := ⟨_, List.getElem?_eq_getElem (by omega)⟩
     have heo := he.ok e (List.mem_of_getElem? hex)
     have hidx := heo.index
     have hpt := runE_take (H := H0) (l := es.map EW.m) (k := i) (e := e.m) (by rw [List.getElem?_map, hex]; rfl)
     have hSo := runE_ok hH0o ((es.map EW.m).take i)
     rw [List.length_take, List.length_map, Nat.min_eq_left (by omega)] at hSo
     obtain ⟨S, hS⟩ : ∃ S, S = runE H0 ((es.map EW.m).take i) := ⟨_, rfl⟩
     rw [← hS] at hpt hSo ⊢
     have hfl := hSo.fs
     have hSh := hSo.h
     obtain ⟨n1, n2, n3, n4, n5⟩ := rul_le S.H e.m
     refine J.slot 24 (.slice (some ⟨b, off, none⟩) es.length ec) rfl (by rw [hep]) ?_
     refine J.region <| J.m rfl <| J.p rfl (Q.ia Tryz.runUnderlying23 Tryz.sizeOf58 rfl rfl (by omega) (by omega)) <| J.p rfl (Q.ldN (vs := [_, _, _, _, _, _, _, _, _, _, _, _, _, _, _, _, _]) Tryz.isAgg58 Tryz.sizeOf58 rfl ((rd_elem EW.len hrd hex (by simp)).inI)) ?_
     refine J.c rfl rfl (C.alloc (l := [_, _, _, _, _, _, _, _, _, _, _, _, _, _, _, _, _]) Tryz.zeroValue58 rfl) ?_
     rintro _ _ ⟨b10, rfl, rfl⟩
     refine J.norm rfl <| J.p rfl (Q.asg rfl) ?_
     refine J.stAI (vs := [_, _, _, _, _, _, _, _, _, _, _, _, _, _, _, _, _]) rfl Tryz.sizeOf58 rfl rfl (by exact rfl) (by exact rfl) (by exact rfl) ?_
     refine J.nil <| J.then_n <| J.seq <| J.seq <| J.region <| J.p rfl (Q.fa (n := 0) Tryz.runUnderlying58 rfl rfl Tryz.sizeOf4 rfl) ?_
     refine J.p rfl (Q.ld Tryz.isAgg4 rfl (rdI (by exact rfl))) ?_
     refine J.p rfl (Q.not rfl) <| J.nil <| J.then_n ?_
     refine J.cases 33 rfl (fun hc33 => ?_) (fun hc33 => ?_)
     ·
      replace hc33 := X.nm hc33
      try (first | (cases hc33; done) | (exfalso; simp at hc33; done))
      all_goals
       refine J.cond_t rfl <| J.seq <| J.region <| J.m rfl <| J.p rfl (Q.fa (n := 1) Tryz.runUnderlying58 rfl rfl Tryz.sizeOf40 rfl) ?_
       refine J.p rfl (Q.ld Tryz.isAgg40 rfl (rdI (by exact rfl))) ?_
       refine J.callI Tryz.call22 (ask_spec h S.H hSh e.id) rfl rfl rfl ?_
       rintro _ _ ⟨rfl, rfl⟩
       refine J.norm rfl <| J.nil <| J.then_n <| J.exit <| J.then_x <| J.blk_x <| J.then_n <| J.region <| J.p rfl (Q.add64 rfl rfl (by omega)) <| J.m rfl <| J.nil ?_
       have hp : e.answer = false := by simpa using hc33
       have hst : S.step e.m = ⟨S.H.ask e.id, S.fs, S.n + 1⟩ := by unfold ES.step; rw [if_neg (by show ¬ e.answer = true; rw [hp]; simp)]; rfl
       have e3 : S.fs = (runE H0 ((es.map EW.m).take (i + 1))).fs := by rw [hpt, hst]
       have e4 : S.H.ask e.id = (runE H0 ((es.map EW.m).take (i + 1))).H := by rw [hpt, hst]
       rw [e3, e4]
       refine J.againI (i + 1, p, c) (by show i + 1 ≤ _; omega) (by show es.length - (i + 1) < es.length - i; omega) ⟨rfl, rfl, (by show _ = some (Value.slice ep es.length ec); rw [hep]; rfl), rfl, rfl, trivial⟩
     replace hc33 := X.nm hc33
     try (first | (cases hc33; done) | (exfalso; simp at hc33; done))
     all_goals
      refine J.cond_f rfl <| J.cskip <| J.then_n <| J.seq <| J.seq <| J.region <| J.m rfl ?_
      refine J.p rfl (Q.ldN (vs := [_, _, _, _, _, _, _, _, _, _, _, _, _, _, _, _, _]) Tryz.isAgg58 Tryz.sizeOf58 rfl rnI) ?_
      refine J.callI Tryz.call23 (breaks_spec G2 h S.H hSh e heo) rfl rfl rfl ?_
      rintro _ _ ⟨q, d, rfl, rfl⟩
      refine J.norm rfl ?_
      obtain ⟨rs, hrs⟩ : ∃ rs, rs = S.H.breaks e.m := ⟨_, rfl⟩
      rw [← hrs] at n5 ⊢
      refine J.slrI (E0 := 33) (sz := 1) (p := q) (n := rs.length) (c := d) (xs := rs.map (Value.int .i64)) fun hsr => ?_
      refine J.p rfl (Q.lenSl Tryz.runUnderlying82 rfl) <| J.m rfl <| J.nil <| J.then_n <| J.block ?_
      refine J.pickI [own 35 2 (.slice p S.fs.length c) (S.fs.flatMap FM.cells), own 33 1 (.slice q rs.length d) (rs.map (Value.int .i64)), HAt h S.H, pt b10 (.cells e.cells.toArray 58 (0, 0)), G1, G2, F] ?_
      refine J.keepI [own 35 2 (.slice p S.fs.length c) (S.fs.flatMap FM.cells), own 33 1 (.slice q rs.length d) (rs.map (Value.int .i64)), HAt h S.H, pt b10 (.cells e.cells.toArray 58 (0, 0)), G1, G2, F] ?_
      refine J.loop3 (fun (j : Nat) (_ : Option Addr) (_ : Nat) => j ≤ rs.length) (fun j _ _ => rs.length - j)
       (fun j p c => [(7, .pointer (some ⟨h, 0, none⟩)), (8, .slice p (S.fs ++ (rs.take j).map fun r => (⟨r, S.n⟩ : FM)).length c), (9, .int .i64 i), (10, .pointer (some ⟨b10, 0, none⟩)), (24, .slice (some ⟨b, off, none⟩) es.length ec), (25, .int .i64 es.length), (26, .int .i64 i), (40, .slice q rs.length d), (41, .int .i64 rs.length), (42, .int .i64 j)])
       (fun j p c => [own 35 2 (.slice p (S.fs ++ (rs.take j).map fun r => (⟨r, S.n⟩ : FM)).length c) ((S.fs ++ (rs.take j).map fun r => (⟨r, S.n⟩ : FM)).flatMap FM.cells), own 33 1 (.slice q rs.length d) (rs.map (Value.int .i64)), HAt h S.H, pt b10 (.cells e.cells.toArray 58 (0, 0)), G1, G2, F]) 0 p c (Nat.zero_le _) ⟨rfl, (by rw [List.take_zero, List.map_nil, List.append_nil]; rfl), rfl, rfl, rfl, rfl, rfl, rfl, rfl, rfl, trivial⟩ (by rw [List.take_zero, List.map_nil, List.append_nil]) fun j p c hjl => ?_
      refine J.seq <| J.region <| J.p rfl (Q.lss rfl rfl) <| J.nil <| J.then_n <| J.seq ?_
      refine J.cases 43 rfl (fun hc43 => ?_) (fun hc43 => ?_)
      ·
       replace hc43 := X.nm hc43
       try (first | (cases hc43; done) | (exfalso; simp at hc43; done))
       all_goals
        refine J.cond_t rfl <| J.cskip <| J.then_n <| J.seq <| J.block <| J.seq ?_
        have hjt : j < rs.length := by omega
        obtain ⟨b1, o1, hq, hrr⟩ := hsr.some_ (by omega)
        obtain ⟨r, hr⟩ : ∃ r, rs[j]? = some r := ⟨_, List.getElem?_eq_getElem (by omega)⟩
        refine J.slot 40 (.slice (some ⟨b1, o1, none⟩) rs.length d) rfl (by rw [hq]) ?_
        have hjn : rs.take (j + 1) = rs.take j ++ [r] := by
         obtain ⟨q1, q2⟩ := List.getElem?_eq_some_iff.1 hr
         rw [List.take_succ_eq_append_getElem q1, q2]
        have hfn : (S.fs ++ (rs.take j).map fun r => (⟨r, S.n⟩ : FM)).length ≤ 5 * i + 5 := by rw [List.length_append, List.length_map, List.length_take]; omega
        obtain ⟨fs, hfs⟩ : ∃ fs, fs = S.fs ++ (rs.take j).map fun r => (⟨r, S.n⟩ : FM) := ⟨_, rfl⟩
        have hfs2 : S.fs ++ (rs.take (j + 1)).map (fun r => (⟨r, S.n⟩ : FM)) = fs ++ [⟨r, S.n⟩] := by rw [hjn, List.map_append, ← List.append_assoc, ← hfs]; rfl
        rw [← hfs] at hfn ⊢
        refine J.region <| J.p rfl (Q.ia Tryz.runUnderlying82 Tryz.sizeOf33 rfl rfl (by omega) (by omega)) <| J.p rfl (Q.ld Tryz.isAgg33 rfl ((hrr j (.int .i64 r) (by simp [hr])).cast (by simp)).inI) <| J.p rfl (Q.asg rfl) <| J.nil <| J.then_n <| J.region <| J.m rfl <| J.m rfl <| J.m rfl <| J.p rfl (Q.bld (l := [.int .i64 r, .int .i64 i]) Tryz.runUnderlying35 Tryz.zeroValue35 Tryz.places35 rfl (by kernel_rfl)) ?_
        refine J.slot 49 (.agg (FM.cells ⟨r, S.n⟩).toArray) rfl (by rw [hSo.n]) ?_
        refine J.c rfl rfl (C.bslG (l := [_, _]) Tryz.runUnderlying29 Tryz.sizeOf35 Tryz.zeroValue35 (by decide) rfl rfl rfl rfl rfl) ?_
        rintro _ _ ⟨b50, rfl, rfl⟩
        refine J.norm rfl ?_
        refine J.c rfl rfl (C.appI Tryz.runUnderlying29 Tryz.runUnderlying29 Tryz.typeInfo35 Tryz.sizeOf35 Tryz.zeroValue35 rfl rfl (SlR.ptI rfl) (FM.one ⟨r, S.n⟩) (by simp [Tryz.t35] <;> omega) (by decide)) ?_
        rintro _ _ ⟨p51, c51, rfl, rfl⟩
        refine J.norm rfl <| J.p rfl (Q.asg rfl) <| J.nil <| J.blk_n <| J.then_n <| J.region <| J.p rfl (Q.add64 rfl rfl (by omega)) <| J.m rfl <| J.nil ?_
        have e1 : fs.length + 1 = (fs ++ [(⟨r, S.n⟩ : FM)]).length := by simp
        have e2 : fs.flatMap FM.cells ++ FM.cells ⟨r, S.n⟩ = (fs ++ [(⟨r, S.n⟩ : FM)]).flatMap FM.cells := by simp
        rw [e1, e2, ← hfs2]
        refine J.againI (j + 1, p51, c51) (by show j + 1 ≤ _; omega) (by show rs.length - (j + 1) < rs.length - j; omega) ⟨rfl, rfl, rfl, rfl, rfl, rfl, rfl, (by show _ = some (Value.slice q rs.length d); rw [hq]; rfl), rfl, rfl, trivial⟩
      replace hc43 := X.nm hc43
      try (first | (cases hc43; done) | (exfalso; simp at hc43; done))
      all_goals
       refine J.cond_f rfl <| J.exit <| J.then_x <| J.lp_x <| J.blk_x <| J.then_n <| J.seq ?_
       have htk : rs.take j = rs := List.take_of_length_le (by omega)
       rw [htk]
       have hans : e.answer = true := by simpa using hc33
       refine J.openI (HAt h S.H) (fun _ h => h) fun z hz => ?_
       refine J.norm rfl ?_
       refine J.draw [6] Tryz.mixed (by kernel_rfl) fun hR => ?_
       refine RG.p 0 hR rfl (Q.mv rfl) <| RG.p 1 hR rfl (Q.nil_ rfl) <| RG.p 2 hR rfl (Q.fa (n := 3) Tryz.runUnderlying86 rfl rfl Tryz.sizeOf63 rfl) ?_
       refine RG.p 3 hR rfl (Q.ld Tryz.isAgg63 rfl (rdI (by exact rfl))) ?_
       refine RG.p 4 hR rfl (Q.fa (n := 1) Tryz.runUnderlying58 rfl rfl Tryz.sizeOf40 rfl) ?_
       refine RG.p 5 hR rfl (Q.ld Tryz.isAgg40 rfl (rdI (by exact rfl))) ?_
       refine RG.bar 6 hR rfl rfl rfl rfl rfl rfl (X.G.C.putV Value.bool S.H.asked false ord3_nat hSh.asked Tryz.runUnderlying63 keyU rfl rfl rfl) ?_
       rintro _ _ ⟨rfl, rfl⟩
       refine RG.norm rfl ?_
       refine RG.fin hR rfl ?_
       refine J.norm rfl <| J.then_n <| J.seq <| J.region <| J.p rfl (Q.fa (n := 12) Tryz.runUnderlying58 rfl rfl Tryz.sizeOf44 rfl) <| J.p rfl (Q.fa (n := 0) Tryz.runUnderlying44 rfl rfl Tryz.sizeOf3 rfl) ?_
       refine J.p rfl (Q.ld Tryz.isAgg3 rfl (rdI (by exact rfl))) ?_
       refine J.callI Tryz.call17 (definite_spec e.w.r.status) rfl rfl rfl ?_
       rintro _ _ ⟨rfl, rfl⟩
       refine J.norm rfl <| J.nil <| J.then_n ?_
       refine J.cases 62 rfl (fun hc62 => ?_) (fun hc62 => ?_)
       ·
        replace hc62 := X.nm hc62
        try (first | (cases hc62; done) | (exfalso; simp at hc62; done))
        all_goals
         refine J.cond_t rfl ?_
         refine J.draw [10] Tryz.mixed (by kernel_rfl) fun hR => ?_
         refine RG.p 0 hR rfl (Q.mv rfl) <| RG.p 1 hR rfl (Q.mv rfl) <| RG.p 2 hR rfl (Q.nil_ rfl) <| RG.p 3 hR rfl (Q.fa (n := 5) Tryz.runUnderlying86 rfl rfl Tryz.sizeOf40 rfl) ?_
         refine RG.p 4 hR rfl (Q.ld Tryz.isAgg40 rfl (rdI (by exact rfl))) ?_
         refine RG.p 5 hR rfl (Q.fa (n := 11) Tryz.runUnderlying58 rfl rfl Tryz.sizeOf40 rfl) ?_
         refine RG.p 6 hR rfl (Q.ld Tryz.isAgg40 rfl (rdI (by exact rfl))) ?_
         refine RG.p 7 hR rfl (Q.maxI rfl) ?_
         refine RG.slot 70 (.int .u64 ((max S.H.most e.index : Nat) : Int)) rfl (by
           show Value.int .u64 (if (e.index : Int) > (S.H.most : Int) then (e.index : Int) else (S.H.most : Int)) = _
           congr 1
           split <;> omega) ?_
         refine RG.p 8 hR rfl (Q.nil_ rfl) <| RG.p 9 hR rfl (Q.fa (n := 5) Tryz.runUnderlying86 rfl rfl Tryz.sizeOf40 rfl) ?_
         refine RG.stI 10 hR rfl rfl rfl rfl rfl Tryz.sizeOf40 rfl rfl rfl (by exact rfl) (by exact rfl) (by exact rfl) ?_
         refine RG.fin hR rfl ?_
         refine J.norm rfl <| J.blk_n <| J.then_n <| J.region <| J.p rfl (Q.add64 rfl rfl (by omega)) <| J.m rfl <| J.nil ?_
         have hst : S.step e.m = ⟨S.H.told e.m, S.fs ++ rs.map (fun r => (⟨r, S.n⟩ : FM)), S.n + 1⟩ := by unfold ES.step; rw [if_pos (show e.m.answer = true from hans), hrs]
         have e3 : S.fs ++ rs.map (fun r => (⟨r, S.n⟩ : FM)) = (runE H0 ((es.map EW.m).take (i + 1))).fs := by rw [hpt, hst]
         have e4 : S.H.told e.m = (runE H0 ((es.map EW.m).take (i + 1))).H := by rw [hpt, hst]
         first
          | (have hd : defB e.w.r.status = true := hc62
             have ht : S.H.told e.m = ⟨S.H.l, S.H.rs, S.H.first, sput ltN e.id false S.H.asked, S.H.before, max S.H.most e.index⟩ := by unfold JM.told; rw [show defB e.m.res.status = true from hd]; rfl
             refine J.shutI (z.asns h ⟨S.H.l, S.H.rs, S.H.first, sput ltN e.id false S.H.asked, S.H.before, max S.H.most e.index⟩) (HAt h (S.H.told e.m)) (fun _ s => by rw [ht]; exact ⟨z, ⟨hz.l, hz.rs⟩, s⟩) ?_
             rw [e3, e4]
             refine J.againI (i + 1, p, c) (by show i + 1 ≤ _; omega) (by show es.length - (i + 1) < es.length - i; omega) ⟨rfl, rfl, (by show _ = some (Value.slice ep es.length ec); rw [hep]; rfl), rfl, rfl, trivial⟩)
          | (have hd : defB e.w.r.status = false := hc62
             have ht : S.H.told e.m = ⟨S.H.l, S.H.rs, S.H.first, sput ltN e.id false S.H.asked, S.H.before, S.H.most⟩ := by unfold JM.told; rw [show defB e.m.res.status = false from hd]; rfl
             refine J.shutI (z.asns h ⟨S.H.l, S.H.rs, S.H.first, sput ltN e.id false S.H.asked, S.H.before, S.H.most⟩) (HAt h (S.H.told e.m)) (fun _ s => by rw [ht]; exact ⟨z, ⟨hz.l, hz.rs⟩, s⟩) ?_
             rw [e3, e4]
             refine J.againI (i + 1, p, c) (by show i + 1 ≤ _; omega) (by show es.length - (i + 1) < es.length - i; omega) ⟨rfl, rfl, (by show _ = some (Value.slice ep es.length ec); rw [hep]; rfl), rfl, rfl, trivial⟩)
       replace hc62 := X.nm hc62
       try (first | (cases hc62; done) | (exfalso; simp at hc62; done))
       all_goals
        refine J.cond_f rfl <| J.cskip <| J.blk_n <| J.then_n <| J.region <| J.p rfl (Q.add64 rfl rfl (by omega)) <| J.m rfl <| J.nil ?_
        have hst : S.step e.m = ⟨S.H.told e.m, S.fs ++ rs.map (fun r => (⟨r, S.n⟩ : FM)), S.n + 1⟩ := by unfold ES.step; rw [if_pos (show e.m.answer = true from hans), hrs]
        have e3 : S.fs ++ rs.map (fun r => (⟨r, S.n⟩ : FM)) = (runE H0 ((es.map EW.m).take (i + 1))).fs := by rw [hpt, hst]
        have e4 : S.H.told e.m = (runE H0 ((es.map EW.m).take (i + 1))).H := by rw [hpt, hst]
        first
         | (have hd : defB e.w.r.status = true := hc62
            have ht : S.H.told e.m = ⟨S.H.l, S.H.rs, S.H.first, sput ltN e.id false S.H.asked, S.H.before, max S.H.most e.index⟩ := by unfold JM.told; rw [show defB e.m.res.status = true from hd]; rfl
            refine J.shutI (z.asns h ⟨S.H.l, S.H.rs, S.H.first, sput ltN e.id false S.H.asked, S.H.before, max S.H.most e.index⟩) (HAt h (S.H.told e.m)) (fun _ s => by rw [ht]; exact ⟨z, ⟨hz.l, hz.rs⟩, s⟩) ?_
            rw [e3, e4]
            refine J.againI (i + 1, p, c) (by show i + 1 ≤ _; omega) (by show es.length - (i + 1) < es.length - i; omega) ⟨rfl, rfl, (by show _ = some (Value.slice ep es.length ec); rw [hep]; rfl), rfl, rfl, trivial⟩)
         | (have hd : defB e.w.r.status = false := hc62
            have ht : S.H.told e.m = ⟨S.H.l, S.H.rs, S.H.first, sput ltN e.id false S.H.asked, S.H.before, S.H.most⟩ := by unfold JM.told; rw [show defB e.m.res.status = false from hd]; rfl
            refine J.shutI (z.asns h ⟨S.H.l, S.H.rs, S.H.first, sput ltN e.id false S.H.asked, S.H.before, S.H.most⟩) (HAt h (S.H.told e.m)) (fun _ s => by rw [ht]; exact ⟨z, ⟨hz.l, hz.rs⟩, s⟩) ?_
            rw [e3, e4]
            refine J.againI (i + 1, p, c) (by show i + 1 ≤ _; omega) (by show es.length - (i + 1) < es.length - i; omega) ⟨rfl, rfl, (by show _ = some (Value.slice ep es.length ec); rw [hep]; rfl), rfl, rfl, trivial⟩)
   replace hc27 := X.nm hc27
   try (first | (cases hc27; done) | (exfalso; simp at hc27; done))
   all_goals
    refine J.cond_f rfl <| J.exit <| J.then_x <| J.lp_x <| J.blk_x <| J.then_n <| J.seq <| J.region <| J.m rfl <| J.p rfl (Q.asg rfl) <| J.nil <| J.then_n <| J.cret <| J.scp_r ?_
    have htk : (es.map EW.m).take i = es.map EW.m := List.take_of_length_le (by rw [List.length_map]; omega)
    rw [htk]
    rw [hH0, show (runE (begM (ds.map DM.m)) (es.map EW.m)).fs = faults (begM (ds.map DM.m)) (es.map EW.m) from rfl]
    refine J.ret1I [own 35 2 (.slice p (faults (begM (ds.map DM.m)) (es.map EW.m)).length c) ((faults (begM (ds.map DM.m)) (es.map EW.m)).flatMap FM.cells), G1, G2] rfl rfl ⟨p, c, rfl, rfl⟩
end Go.Proofs.YtidbcaimgahllaaGreat
namespace Go.Proofs.YtidbcaimgahllaaGreat
set_option linter.unusedSectionVars false
set_option linter.unusedSimpArgs false
set_option linter.unusedVariables false
open Go.X
open Go.X.G (Ord3 ord3_nat ord3_int ord3_str ltB sget sput sdel Srtd MapAt MapHole valRep)

abbrev CW.asn (x : CW) : Assn := wrO x.p x.c x.bs
abbrev comA (p : Option Addr) (c : Nat) (l : List CW) : Assn := star [own 56 2 (.slice p l.length c) (l.flatMap CW.cells), star (l.map CW.asn)]
theorem CW.one (x : CW) : ∀ v, v ∈ x.cells → oneC v = true := by
  intro v hv
  simp only [CW.cells, List.mem_cons, List.not_mem_nil, or_false] at hv
  rcases hv with rfl | rfl <;> rfl
theorem EW.one (x : EW) : ∀ v, v ∈ x.cells → oneC v = true := by
  intro v hv
  simp only [EW.cells, List.mem_cons, List.not_mem_nil, or_false] at hv
  rcases hv with rfl | rfl | rfl | rfl | rfl | rfl | rfl | rfl | rfl | rfl | rfl | rfl | rfl | rfl | rfl | rfl | rfl <;> rfl
theorem coms_tells {p : Option Addr} {c : Nat} {l : List CW} {ds : List DM} (hs : l.length ≤ 32768) (hd : ∀ (i : Nat) (x : CW), l[i]? = some x → ∃ d, ds[i]? = some d ∧ DecIs x.bs d) (hdl : ds.length = l.length) (hb : ∀ x, x ∈ l → x.bs.length ≤ 1099511627776) : ∀ h, comA p c l h → Coms (comA p c l) p c l ds := by
  intro h hh
  have hh' : HSat h [own 56 2 (.slice p l.length c) (l.flatMap CW.cells), star (l.map CW.asn)] := hh
  obtain ⟨h1, h2, a, ⟨k1, k2, b, _, _, _, _⟩, _, _, _⟩ := hh'
  refine ⟨(own.slr (i := 0) rfl ⟨h1, X.G.HSat.one a⟩ : SlR [own 56 2 _ _] 2 _ _).into 0 rfl, fun x hx => ?_, hs, hd, hdl⟩
  obtain ⟨i, hi⟩ := List.getElem?_of_mem hx
  have s1 : HSat k1 (x.asn :: (l.eraseIdx i).map CW.asn) := HSat.perm (perm_focus CW.asn hi) b
  obtain ⟨j1, j2, q, _⟩ := s1
  have hsl : SlR [x.asn] 1 (.slice x.p x.bs.length x.c) (bytesV x.bs) := own.slr (i := 0) rfl ⟨j1, X.G.HSat.one q⟩
  exact ⟨(hsl.into i (by rw [List.getElem?_map, hi]; rfl)).into 1 rfl, hb x hx, (own.len _ q).2⟩

theorem opB_len {o : OM} (h : o.fine) : (opB o).length ≤ 17000000 := by
  have h1 := h.kind
  have h2 := h.n
  have h3 := h.parts
  have h4 := h.texts
  have h5 := h.data
  have h6 := h.id
  have h7 := h.up
  have a1 := flat_numB [1, o.id, o.kind.toNat] (by intro v hv; simp only [List.mem_cons, List.not_mem_nil, or_false] at hv; omega)
  have a2 := flat_encB [o.bucket, o.key, o.after] (by intro v hv; simp only [List.mem_cons, List.not_mem_nil, or_false] at hv; rcases hv with rfl | rfl | rfl <;> omega)
  have a3 := flat_numB [o.n.toNat, o.upload, o.parts.length] (by intro v hv; simp only [List.mem_cons, List.not_mem_nil, or_false] at hv; omega)
  have a4 := flat_numB (o.parts.map Int.toNat) (by
    intro v hv
    obtain ⟨u, hu, rfl⟩ := List.mem_map.1 hv
    have := h3.2 u hu; omega)
  have a5 := numB_len o.data.length (by omega)
  rw [List.length_map] at a4
  simp only [List.length_cons, List.length_nil] at a1 a2 a3
  unfold opB
  simp only [List.length_append, encB] at a2 ⊢
  omega

def stW (n : Int) : RW := ⟨st n, none, 0, none, 0⟩
theorem stW_ok (G : Assn) (n : Int) : (stW n).ok G := ⟨.inl ⟨none, 0, rfl, rfl⟩, .inl ⟨none, 0, rfl, rfl⟩, by show 0 ≤ _ ∧ 0 ≤ _; omega⟩
theorem evs2_ok (G : Assn) (e f : EW) (h1 : e.w.ok G) (h2 : e.index ≤ 18446744073709551615) (h3 : f.w.ok G) (h4 : f.index ≤ 18446744073709551615) : ∀ x, x ∈ [e, f] → x.ok G := by
  intro x hx
  simp only [List.mem_cons, List.not_mem_nil, or_false] at hx
  rcases hx with rfl | rfl
  · exact ⟨h1, h2⟩
  · exact ⟨h3, h4⟩
def bareW (o : OM) : OW := ⟨o, none, 0, none, 0⟩
theorem bareW_ok (G : Assn) {o : OM} (h : o.fine) (hp : o.parts = []) (hd : o.data = []) : (bareW o).ok G := by
  refine ⟨?_, ?_, h.small⟩
  · refine .inl ⟨none, 0, ?_, ?_⟩ <;> simp [bareW, hp]
  · refine .inl ⟨none, 0, ?_, ?_⟩ <;> simp [bareW, hd, bytesV]
def oA : OM := ⟨1, 1, bt [98], bt [], bt [], 0, 0, [], []⟩
theorem oA_chk : oA.chkB = true := by kernel_rfl
theorem oA_fine : oA.fine := chk_fine oA_chk (by decide) (by decide)
def dA : DM := ⟨oA, false, false⟩
def evA : EW := ⟨false, 1, bareW oA, 0, stW 0⟩
def evB : EW := ⟨true, 1, bareW O0, 1, stW 200⟩
def evX : EW := ⟨true, 1, bareW O0, 1, stW 409⟩
theorem fk1 : faults (begM ([dA].map DM.m)) ([evA, evX].map EW.m) = [⟨6, 1⟩] := by kernel_rfl
theorem fk2 : faults (begM ([dA].map DM.m)) ([evA, evB].map EW.m) = [] := by kernel_rfl

theorem known_spec : FSpec Tryz.prog 6 [] [] (fun v B => v = .bool true ∧ B = []) := by
  refine FSpec.of Tryz.func6 rfl Tryz.ntmps6 rfl fun W1 F => ?_
  refine J.give (X := star ([] : List Assn)) trivial ?_
  refine J.seq <| J.region <| J.p rfl (Q.asg rfl) <| J.nil <| J.then_n <| J.seq <| J.region <| J.p rfl (Q.bld (l := OW.cells (bareW oA)) Tryz.runUnderlying52 Tryz.zeroValue52 Tryz.places52 rfl (by kernel_rfl)) ?_
  refine J.c rfl rfl (C.alloc (l := [_, _, _, _, _, _, _, _, _]) Tryz.zeroValue52 rfl) ?_
  rintro _ _ ⟨b1, rfl, rfl⟩
  refine J.norm rfl ?_
  refine J.stAI (vs := [_, _, _, _, _, _, _, _, _]) rfl Tryz.sizeOf52 rfl rfl (by exact rfl) (by exact rfl) (by exact rfl) ?_
  refine J.nil <| J.then_n <| J.seq <| J.region ?_
  refine J.p rfl (Q.ldN (vs := [_, _, _, _, _, _, _, _, _]) Tryz.isAgg52 Tryz.sizeOf52 rfl rnI) ?_
  refine J.callI Tryz.call14 (opCommand_spec (star []) (bareW oA) (bareW_ok _ oA_fine rfl rfl) oA_fine) rfl rfl rfl ?_
  rintro _ _ ⟨q9, d9, rfl, rfl⟩
  refine J.norm rfl ?_
  rw [show (bareW oA).o = oA from rfl]
  refine J.p rfl (Q.bld (l := CW.cells ⟨1, opB oA, q9, d9⟩) Tryz.runUnderlying56 Tryz.zeroValue56 Tryz.places56 rfl (by kernel_rfl)) ?_
  refine J.c rfl rfl (C.bslG (l := [_, _]) Tryz.runUnderlying25 Tryz.sizeOf56 Tryz.zeroValue56 (by decide) rfl rfl rfl rfl rfl) ?_
  rintro _ _ ⟨b11, rfl, rfl⟩
  refine J.norm rfl ?_
  obtain ⟨x, hx⟩ : ∃ x : CW, x = ⟨1, opB oA, q9, d9⟩ := ⟨_, rfl⟩
  refine J.convI (pt b11 (.cells (CW.cells ⟨1, opB oA, q9, d9⟩).toArray 56 (0, 0))) (own 56 2 (.slice (some ⟨b11, 0, none⟩) [x].length 1) ([x].flatMap CW.cells)) (fun h hh => by rw [hx]; exact own_of_block (l := [CW.mk 1 (opB oA) q9 d9].flatMap CW.cells) rfl h hh) ?_
  refine J.shutI [wrO q9 d9 (opB oA)] (star ([x].map CW.asn)) (fun _ s => by rw [hx]; exact s) ?_
  refine J.shutI [own 56 2 (.slice (some ⟨b11, 0, none⟩) [x].length 1) ([x].flatMap CW.cells), star ([x].map CW.asn)] (comA (some ⟨b11, 0, none⟩) 1 [x]) (fun _ s => s) ?_
  refine J.tellsI (comA (some ⟨b11, 0, none⟩) 1 [x]) (coms_tells (ds := [dA]) (by show 1 ≤ 32768; omega) (by
    intro i y hy
    cases i with
    | zero =>
     cases hy
     exact ⟨dA, rfl, by rw [hx]; exact decode_op oA_fine oA_chk⟩
    | succ i => cases hy) rfl (by
    intro y hy
    rw [List.mem_singleton.1 hy, hx]
    have := opB_len oA_fine
    show (opB oA).length ≤ _
    omega)) fun hcs => ?_
  have hix : ∀ (i : Nat) (y : CW), [x][i]? = some y → y.index = i + 1 := by
   intro i y hy
   cases i with
   | zero => cases hy; rw [hx]
   | succ i => cases hy
  have hbd : ∀ d, d ∈ [dA] → d.bad = false := by intro d hd; rw [List.mem_singleton.1 hd]; rfl
  refine J.p rfl (Q.asg rfl) <| J.nil <| J.then_n <| J.seq <| J.region ?_
  refine J.p rfl (Q.ldN (vs := [_, _, _, _, _, _, _, _, _]) Tryz.isAgg52 Tryz.sizeOf52 rfl rnI) ?_
  refine J.p rfl (Q.bld (l := EW.cells evA) Tryz.runUnderlying58 Tryz.zeroValue58 Tryz.places58 rfl (by kernel_rfl)) ?_
  refine J.c rfl rfl (C.alloc (l := [_, _, _, _, _, _, _, _, _, _, _, _, _, _, _, _, _]) Tryz.zeroValue58 rfl) ?_
  rintro _ _ ⟨b3, rfl, rfl⟩
  refine J.norm rfl ?_
  refine J.stAI (vs := [_, _, _, _, _, _, _, _, _, _, _, _, _, _, _, _, _]) rfl Tryz.sizeOf58 rfl rfl (by exact rfl) (by exact rfl) (by exact rfl) ?_
  refine J.nil <| J.then_n <| J.seq <| J.region <| J.p rfl (Q.bld (l := RW.cells (stW 200)) Tryz.runUnderlying44 Tryz.zeroValue44 Tryz.places44 rfl (by kernel_rfl)) <| J.p rfl (Q.bld (l := EW.cells evB) Tryz.runUnderlying58 Tryz.zeroValue58 Tryz.places58 rfl (by kernel_rfl)) ?_
  refine J.c rfl rfl (C.alloc (l := [_, _, _, _, _, _, _, _, _, _, _, _, _, _, _, _, _]) Tryz.zeroValue58 rfl) ?_
  rintro _ _ ⟨b4, rfl, rfl⟩
  refine J.norm rfl ?_
  refine J.stAI (vs := [_, _, _, _, _, _, _, _, _, _, _, _, _, _, _, _, _]) rfl Tryz.sizeOf58 rfl rfl (by exact rfl) (by exact rfl) (by exact rfl) ?_
  refine J.nil <| J.then_n <| J.seq <| J.region <| J.p rfl (Q.bld (l := RW.cells (stW 409)) Tryz.runUnderlying44 Tryz.zeroValue44 Tryz.places44 rfl (by kernel_rfl)) <| J.p rfl (Q.bld (l := EW.cells evX) Tryz.runUnderlying58 Tryz.zeroValue58 Tryz.places58 rfl (by kernel_rfl)) ?_
  refine J.c rfl rfl (C.alloc (l := [_, _, _, _, _, _, _, _, _, _, _, _, _, _, _, _, _]) Tryz.zeroValue58 rfl) ?_
  rintro _ _ ⟨b5, rfl, rfl⟩
  refine J.norm rfl ?_
  refine J.stAI (vs := [_, _, _, _, _, _, _, _, _, _, _, _, _, _, _, _, _]) rfl Tryz.sizeOf58 rfl rfl (by exact rfl) (by exact rfl) (by exact rfl) ?_
  refine J.nil <| J.then_n <| J.seq <| J.region <| J.m rfl ?_
  refine J.p rfl (Q.ldN (vs := [_, _, _, _, _, _, _, _, _, _, _, _, _, _, _, _, _]) Tryz.isAgg58 Tryz.sizeOf58 rfl rnI) ?_
  refine J.p rfl (Q.ldN (vs := [_, _, _, _, _, _, _, _, _, _, _, _, _, _, _, _, _]) Tryz.isAgg58 Tryz.sizeOf58 rfl rnI) ?_
  refine J.c rfl rfl (C.bslG (sz := 17) (len := 2) (l := [evA, evX].flatMap EW.cells) Tryz.runUnderlying23 Tryz.sizeOf58 Tryz.zeroValue58 (by decide) rfl rfl rfl (by kernel_rfl) (by kernel_rfl)) ?_
  rintro _ _ ⟨b21, rfl, rfl⟩
  refine J.norm rfl ?_
  refine J.convI (pt b21 (.cells ([evA, evX].flatMap EW.cells).toArray 58 (0, 0))) (own 58 17 (.slice (some ⟨b21, 0, none⟩) [evA, evX].length 2) ([evA, evX].flatMap EW.cells)) (own_of_block rfl) ?_
  refine J.slrI (E0 := 58) (sz := 17) (p := some ⟨b21, 0, none⟩) (n := [evA, evX].length) (c := 2) (xs := [evA, evX].flatMap EW.cells) fun hs21 => ?_
  refine J.callI Tryz.call8 (check_ok (comA (some ⟨b11, 0, none⟩) 1 [x]) (own 58 17 (.slice (some ⟨b21, 0, none⟩) [evA, evX].length 2) ([evA, evX].flatMap EW.cells)) (some ⟨b11, 0, none⟩) 1 [x] [dA] hcs hix hbd (some ⟨b21, 0, none⟩) 2 [evA, evX] ⟨hs21, evs2_ok _ _ _ (stW_ok _ _) (by decide) (stW_ok _ _) (by decide), by decide⟩) rfl rfl rfl ?_
  rintro _ _ ⟨p22, c22, rfl, rfl⟩
  refine J.norm rfl ?_
  rw [fk1]
  refine J.slrI (E0 := 35) (sz := 2) (p := p22) (n := [FM.mk 6 1].length) (c := c22) (xs := [FM.mk 6 1].flatMap FM.cells) fun hs22 => ?_
  obtain ⟨b22, o22, rfl, hr22⟩ := hs22.some_ (by decide)
  refine J.p rfl (Q.asg rfl) <| J.nil <| J.then_n <| J.seq <| J.region <| J.m rfl ?_
  refine J.p rfl (Q.ldN (vs := [_, _, _, _, _, _, _, _, _, _, _, _, _, _, _, _, _]) Tryz.isAgg58 Tryz.sizeOf58 rfl rnI) ?_
  refine J.p rfl (Q.ldN (vs := [_, _, _, _, _, _, _, _, _, _, _, _, _, _, _, _, _]) Tryz.isAgg58 Tryz.sizeOf58 rfl rnI) ?_
  refine J.c rfl rfl (C.bslG (sz := 17) (len := 2) (l := [evA, evB].flatMap EW.cells) Tryz.runUnderlying23 Tryz.sizeOf58 Tryz.zeroValue58 (by decide) rfl rfl rfl (by kernel_rfl) (by kernel_rfl)) ?_
  rintro _ _ ⟨b26, rfl, rfl⟩
  refine J.norm rfl ?_
  refine J.convI (pt b26 (.cells ([evA, evB].flatMap EW.cells).toArray 58 (0, 0))) (own 58 17 (.slice (some ⟨b26, 0, none⟩) [evA, evB].length 2) ([evA, evB].flatMap EW.cells)) (own_of_block rfl) ?_
  refine J.slrI (E0 := 58) (sz := 17) (p := some ⟨b26, 0, none⟩) (n := [evA, evB].length) (c := 2) (xs := [evA, evB].flatMap EW.cells) fun hs26 => ?_
  refine J.callI Tryz.call8 (check_ok (comA (some ⟨b11, 0, none⟩) 1 [x]) (own 58 17 (.slice (some ⟨b26, 0, none⟩) [evA, evB].length 2) ([evA, evB].flatMap EW.cells)) (some ⟨b11, 0, none⟩) 1 [x] [dA] hcs hix hbd (some ⟨b26, 0, none⟩) 2 [evA, evB] ⟨hs26, evs2_ok _ _ _ (stW_ok _ _) (by decide) (stW_ok _ _) (by decide), by decide⟩) rfl rfl rfl ?_
  rintro _ _ ⟨p27, c27, rfl, rfl⟩
  refine J.norm rfl ?_
  rw [fk2]
  refine J.p rfl (Q.lenSl Tryz.runUnderlying29 rfl) <| J.p rfl (Q.eql rfl rfl) <| J.m rfl ?_
  refine J.cases 30 rfl (fun hb30 => ?_) (fun hb30 => ?_)
  ·
   replace hb30 := X.nm hb30
   try (first | (cases hb30; done) | (exfalso; simp at hb30; done))
   all_goals
    refine J.m rfl <| J.p rfl (Q.lenSl Tryz.runUnderlying29 rfl) <| J.p rfl (Q.eql rfl rfl) <| J.p rfl (Q.pick_t rfl rfl) <| J.m rfl ?_
    refine J.cases 35 rfl (fun hb35 => ?_) (fun hb35 => ?_)
    ·
     replace hb35 := X.nm hb35
     try (first | (cases hb35; done) | (exfalso; simp at hb35; done))
     all_goals
      refine J.m rfl <| J.p rfl (Q.ia Tryz.runUnderlying29 Tryz.sizeOf35 rfl rfl (by omega) (by omega)) ?_
      refine J.p rfl (Q.ldN (vs := [_, _]) Tryz.isAgg35 Tryz.sizeOf35 rfl ((rd_elem FM.len hr22 (i := 0) (x := FM.mk 6 1) rfl (by simp)).inI)) ?_
      refine J.p rfl (Q.bld (l := [.int .i64 6, .int .i64 1]) Tryz.runUnderlying35 Tryz.zeroValue35 Tryz.places35 rfl (by kernel_rfl)) <| J.p rfl (Q.eql2 Tryz.underlying35 Tryz.stoodInHeld35 Tryz.eqGuardType35 Tryz.underlying33 Tryz.underlying3 Tryz.isAgg33 Tryz.isAgg3 (by decide) (by decide) rfl rfl rfl rfl) <| J.p rfl (Q.pick_t rfl rfl) <| J.m rfl ?_
      refine J.cases 42 rfl (fun hb42 => ?_) (fun hb42 => ?_)
      ·
       replace hb42 := X.nm hb42
       try (first | (cases hb42; done) | (exfalso; simp at hb42; done))
       all_goals
        refine J.callI Tryz.call17 (definite_spec 404) rfl rfl rfl ?_
        rintro _ _ ⟨rfl, rfl⟩
        refine J.norm rfl <| J.p rfl (Q.pick_t rfl rfl) <| J.m rfl ?_
        refine J.cases 45 rfl (fun hb45 => ?_) (fun hb45 => ?_)
        ·
         replace hb45 := X.nm hb45
         try (first | (cases hb45; done) | (exfalso; simp at hb45; done))
         all_goals
          refine J.callI Tryz.call17 (definite_spec 503) rfl rfl rfl ?_
          rintro _ _ ⟨rfl, rfl⟩
          refine J.norm rfl <| J.p rfl (Q.not rfl) <| J.p rfl (Q.pick_t rfl rfl) <| J.p rfl (Q.asg rfl) <| J.nil <| J.then_n <| J.cret ?_
          refine J.ret1I [] rfl rfl ⟨rfl, rfl⟩
        replace hb45 := X.nm hb45
        try (first | (cases hb45; done) | (exfalso; simp at hb45; done))
        all_goals
         refine J.skip rfl rfl <| J.skip rfl rfl <| J.p rfl (Q.pick_f rfl rfl) <| J.p rfl (Q.asg rfl) <| J.nil <| J.then_n <| J.cret ?_
         refine J.ret1I [] rfl rfl ⟨rfl, rfl⟩
      replace hb42 := X.nm hb42
      try (first | (cases hb42; done) | (exfalso; simp at hb42; done))
      all_goals
       refine J.skip rfl rfl <| J.p rfl (Q.pick_f rfl rfl) <| J.m rfl <| J.skip rfl rfl <| J.skip rfl rfl <| J.p rfl (Q.pick_f rfl rfl) <| J.p rfl (Q.asg rfl) <| J.nil <| J.then_n <| J.cret ?_
       refine J.ret1I [] rfl rfl ⟨rfl, rfl⟩
    replace hb35 := X.nm hb35
    try (first | (cases hb35; done) | (exfalso; simp at hb35; done))
    all_goals
     refine J.skip rfl rfl <| J.skip rfl rfl <| J.skip rfl rfl <| J.skip rfl rfl <| J.skip rfl rfl <| J.p rfl (Q.pick_f rfl rfl) <| J.m rfl <| J.skip rfl rfl <| J.p rfl (Q.pick_f rfl rfl) <| J.m rfl <| J.skip rfl rfl <| J.skip rfl rfl <| J.p rfl (Q.pick_f rfl rfl) <| J.p rfl (Q.asg rfl) <| J.nil <| J.then_n <| J.cret ?_
     refine J.ret1I [] rfl rfl ⟨rfl, rfl⟩
  replace hb30 := X.nm hb30
  try (first | (cases hb30; done) | (exfalso; simp at hb30; done))
  all_goals
   refine J.skip rfl rfl <| J.skip rfl rfl <| J.skip rfl rfl <| J.p rfl (Q.pick_f rfl rfl) <| J.m rfl <| J.skip rfl rfl <| J.skip rfl rfl <| J.skip rfl rfl <| J.skip rfl rfl <| J.skip rfl rfl <| J.p rfl (Q.pick_f rfl rfl) <| J.m rfl <| J.skip rfl rfl <| J.p rfl (Q.pick_f rfl rfl) <| J.m rfl <| J.skip rfl rfl <| J.skip rfl rfl <| J.p rfl (Q.pick_f rfl rfl) ?_
   refine J.p rfl (Q.asg rfl) <| J.nil <| J.then_n <| J.cret ?_
   refine J.ret1I [] rfl rfl ⟨rfl, rfl⟩
end Go.Proofs.YtidbcaimgahllaaGreat
namespace Go.Proofs.YtidbcaimgahllaaGreat
set_option linter.unusedSectionVars false
set_option linter.unusedSimpArgs false
set_option linter.unusedVariables false
open Go.X
open Go.X.G (Ord3 ord3_nat ord3_int ord3_str ltB sget sput sdel Srtd sget_put)

structure SG where
  o : OM
  d : Bool
def SG.com (s : SG) : List SM := if s.d then [⟨s.o, false⟩, ⟨s.o, false⟩] else [⟨s.o, false⟩]
def cmts (S : List SG) : List SM := S.flatMap SG.com
theorem com_len (s : SG) : 1 ≤ s.com.length := by unfold SG.com; split <;> simp
theorem cmts_take {S : List SG} {k : Nat} {s : SG} (h : S[k]? = some s) : cmts (S.take (k + 1)) = cmts (S.take k) ++ s.com := by
  obtain ⟨h1, h2⟩ := List.getElem?_eq_some_iff.1 h
  unfold cmts
  rw [List.take_succ_eq_append_getElem h1, h2, List.flatMap_append, List.flatMap_cons, List.flatMap_nil, List.append_nil]
theorem cmts_front (S : List SG) (k : Nat) : ∃ t, cmts S = cmts (S.take k) ++ t := ⟨cmts (S.drop k), by unfold cmts; rw [← List.flatMap_append, List.take_append_drop]⟩

def lastR (l : List SM) : RM := ((playP l).rs[l.length - 1]?).getD (st 0)
theorem playP_len (l : List SM) : (playP l).rs.length = l.length := (playP_ok l).len
theorem play_front (l : List SM) : ∀ m : List SM, ∃ t, (playP (l ++ m)).rs = (playP l).rs ++ t
  | [] => ⟨[], by simp⟩
  | s :: m => by
    obtain ⟨t, ht⟩ := play_front (l ++ [s]) m
    rw [List.append_assoc, List.singleton_append] at ht
    rw [ht, playP_snoc]
    unfold PS.step
    split
    · exact ⟨[st 0] ++ t, by rw [← List.append_assoc]⟩
    · exact ⟨[((playP l).M.run s.o).1] ++ t, by rw [← List.append_assoc]⟩
theorem last_at (l m : List SM) (hl : 1 ≤ l.length) : (playP (l ++ m)).rs[l.length - 1]? = some (lastR l) := by
  obtain ⟨t, ht⟩ := play_front l m
  rw [ht, List.getElem?_append_left (by rw [playP_len]; omega)]
  unfold lastR
  rw [List.getElem?_eq_getElem (by rw [playP_len]; omega)]; rfl
theorem last_snoc (l : List SM) (o : OM) : lastR (l ++ [⟨o, false⟩]) = ((playP l).M.run o).1 := by
  unfold lastR
  rw [playP_snoc, List.length_append, List.length_singleton, Nat.add_sub_cancel]
  have h : ((playP l).step ⟨o, false⟩).rs = (playP l).rs ++ [((playP l).M.run o).1] := by simp [PS.step]
  rw [h, List.getElem?_append_right (by rw [playP_len]; omega), playP_len, Nat.sub_self]; rfl

theorem first_step {z : PS} {o : OM} (h : sget o.id z.first = none) (i : Nat) : sget i (z.step ⟨o, false⟩).first = if i = o.id then some (z.rs.length + 1) else sget i z.first := by
  have e : (z.step ⟨o, false⟩).first = sput ltN o.id (z.rs.length + 1) z.first := by simp [PS.step, h]
  rw [e, sget_put ord3_nat]
theorem first_again {z : PS} {o : OM} {v : Nat} (h : sget o.id z.first = some (v + 1)) (i : Nat) : sget i (z.step ⟨o, false⟩).first = sget i z.first := by
  have e : (z.step ⟨o, false⟩).first = z.first := by simp [PS.step, h]
  rw [e]
theorem first_com {l : List SM} {s : SG} (h : sget s.o.id (playP l).first = none) (i : Nat) : sget i (playP (l ++ s.com)).first = if i = s.o.id then some (l.length + 1) else sget i (playP l).first := by
  unfold SG.com
  split
  · rw [show l ++ [(⟨s.o, false⟩ : SM), ⟨s.o, false⟩] = (l ++ [⟨s.o, false⟩]) ++ [⟨s.o, false⟩] by simp, playP_snoc, playP_snoc]
    rw [first_again (v := l.length), first_step h, playP_len]
    rw [first_step h, if_pos rfl, playP_len]
  · rw [playP_snoc, first_step h, playP_len]
structure DisI (S : List SG) : Prop where
  d : ∀ (i j : Nat) (s t : SG), S[i]? = some s → S[j]? = some t → s.o.id = t.o.id → i = j
theorem firsts {S : List SG} (h : DisI S) : ∀ k, k ≤ S.length → (∀ j s, j < k → S[j]? = some s → sget s.o.id (playP (cmts (S.take k))).first = some ((cmts (S.take j)).length + 1)) ∧ (∀ i, (∀ j s, j < k → S[j]? = some s → s.o.id ≠ i) → sget i (playP (cmts (S.take k))).first = none)
  | 0, _ => ⟨fun j s hj => by omega, fun i _ => rfl⟩
  | k + 1, hk => by
    obtain ⟨h1, h2⟩ := firsts h k (by omega)
    obtain ⟨s, hs⟩ : ∃ s, S[k]? = some s := ⟨_, List.getElem?_eq_getElem (by omega)⟩
    have hn : sget s.o.id (playP (cmts (S.take k))).first = none := h2 _ fun j t hj ht e => by
      have := h.d j k t s ht hs e; omega
    rw [cmts_take hs]
    refine ⟨fun j t hj ht => ?_, fun i hi => ?_⟩
    · rw [first_com hn]
      by_cases e : t.o.id = s.o.id
      · have := h.d j k t s ht hs e
        subst this
        rw [if_pos e]
      · rw [if_neg e]
        refine h1 j t ?_ ht
        rcases Nat.lt_or_ge j k with q | q
        · exact q
        · obtain rfl : j = k := by omega
          rw [hs] at ht
          cases ht
          exact absurd rfl e
    · rw [first_com hn, if_neg (fun e => hi k s (Nat.lt_succ_self k) hs e.symm)]
      exact h2 i fun j t hj ht => hi j t (by omega) ht
theorem first_all {S : List SG} (h : DisI S) {j : Nat} {s : SG} (hs : S[j]? = some s) : sget s.o.id (playP (cmts S)).first = some ((cmts (S.take j)).length + 1) := by
  have := (firsts h S.length (Nat.le_refl _)).1 j s (List.getElem?_eq_some_iff.1 hs).1 hs
  rwa [List.take_length] at this

def askE (s : SG) : EM := ⟨false, s.o.id, 0, st 0⟩
def ansE (S : List SG) (i : Nat) (s : SG) (w : RM) : EM := ⟨true, s.o.id, (cmts (S.take (i + 1))).length, w⟩
def evsM (S : List SG) (ws : List RM) (k : Nat) : List EM := (List.range k).flatMap fun i => match S[i]?, ws[i]? with | some s, some w => [askE s, ansE S i s w] | _, _ => []
theorem evsM_succ {S : List SG} {ws : List RM} {k : Nat} {s : SG} {w : RM} (h1 : S[k]? = some s) (h2 : ws[k]? = some w) : evsM S ws (k + 1) = evsM S ws k ++ [askE s, ansE S k s w] := by
  unfold evsM
  rw [List.range_succ, List.flatMap_append, List.flatMap_cons, List.flatMap_nil, List.append_nil, h1, h2]
def fltM (S : List SG) (ws : List RM) (k : Nat) : List FM := (List.range k).flatMap fun i => match ws[i]? with | some w => if defB w.status && !sameM w (lastR (cmts (S.take (i + 1)))) then [⟨6, 2 * i + 1⟩] else [] | none => []
theorem fltM_succ {S : List SG} {ws : List RM} {k : Nat} {w : RM} (h2 : ws[k]? = some w) : fltM S ws (k + 1) = fltM S ws k ++ (if defB w.status && !sameM w (lastR (cmts (S.take (k + 1)))) then [⟨6, 2 * k + 1⟩] else []) := by
  unfold fltM
  rw [List.range_succ, List.flatMap_append, List.flatMap_cons, List.flatMap_nil, List.append_nil, h2]

structure LInv (S : List SG) (ws : List RM) (k : Nat) (z : ES) : Prop where
  l : z.H.l = cmts S
  rs : z.H.rs = (playP (cmts S)).rs
  first : z.H.first = (playP (cmts S)).first
  most : z.H.most ≤ (cmts (S.take k)).length
  bef : ∀ i, (∀ j s, j < k → S[j]? = some s → s.o.id ≠ i) → sget i z.H.before = none
  n : z.n = 2 * k
  fs : z.fs = fltM S ws k

theorem linv {S : List SG} {ws : List RM} (hd : DisI S) (hw : ws.length = S.length) : ∀ k, k ≤ S.length → LInv S ws k (runE (begM (cmts S)) (evsM S ws k))
  | 0, _ => ⟨rfl, rfl, rfl, Nat.zero_le _, fun _ _ => rfl, rfl, rfl⟩
  | k + 1, hk => by
    have ih := linv hd hw k (by omega)
    obtain ⟨s, hs⟩ : ∃ s, S[k]? = some s := ⟨_, List.getElem?_eq_getElem (by omega)⟩
    obtain ⟨w, hwk⟩ : ∃ w, ws[k]? = some w := ⟨_, List.getElem?_eq_getElem (by omega)⟩
    obtain ⟨z, hz⟩ : ∃ z, z = runE (begM (cmts S)) (evsM S ws k) := ⟨_, rfl⟩
    rw [evsM_succ hs hwk, show evsM S ws k ++ [askE s, ansE S k s w] = (evsM S ws k ++ [askE s]) ++ [ansE S k s w] by simp, runE_snoc, runE_snoc, ← hz]
    rw [← hz] at ih
    obtain ⟨il, irs, ifi, imo, ibe, inn, ifs⟩ := ih
    have hct := cmts_take hs
    have hcl := com_len s
    have hlen : (cmts (S.take (k + 1))).length = (cmts (S.take k)).length + s.com.length := by rw [hct, List.length_append]
    have e1 : z.step (askE s) = ⟨z.H.ask s.o.id, z.fs, z.n + 1⟩ := by unfold ES.step; rw [if_neg (by simp [askE])]; rfl
    obtain ⟨H, hH⟩ : ∃ H, H = z.H.ask s.o.id := ⟨_, rfl⟩
    have hbn : sget s.o.id z.H.before = none := ibe _ fun j t hj ht e => by
      have := hd.d j k t s ht hs e; omega
    have hHl : H.l = cmts S := by rw [hH]; exact il
    have hHr : H.rs = (playP (cmts S)).rs := by rw [hH]; exact irs
    have hHf : H.first = (playP (cmts S)).first := by rw [hH]; exact ifi
    have hHm : H.most = z.H.most := by rw [hH]; rfl
    have hHa : sget s.o.id H.asked = some true := by
      rw [hH]; show sget s.o.id (sput ltN s.o.id true z.H.asked) = _
      rw [sget_put ord3_nat, if_pos rfl]
    have hHbe : H.before = sput ltN s.o.id z.H.most z.H.before := by
      rw [hH]; show (if (sget s.o.id z.H.before).isSome then z.H.before else sput ltN s.o.id z.H.most z.H.before) = _
      rw [hbn]; rfl
    have hHb : sget s.o.id H.before = some z.H.most := by rw [hHbe, sget_put ord3_nat, if_pos rfl]
    obtain ⟨t, ht⟩ := cmts_front S (k + 1)
    have hat : H.l[(ansE S k s w).index - 1]? = some ⟨s.o, false⟩ := by
      rw [hHl, ht]
      show (cmts (S.take (k + 1)) ++ t)[(cmts (S.take (k + 1))).length - 1]? = _
      rw [List.getElem?_append_left (by omega), hct, List.length_append, List.getElem?_append_right (by omega)]
      unfold SG.com
      split
      · rw [show (cmts (S.take k)).length + [(⟨s.o, false⟩ : SM), ⟨s.o, false⟩].length - 1 - (cmts (S.take k)).length = 1 by simp]; rfl
      · rw [show (cmts (S.take k)).length + [(⟨s.o, false⟩ : SM)].length - 1 - (cmts (S.take k)).length = 0 by simp]; rfl
    have hil : (ansE S k s w).index ≤ H.l.length := by
      rw [hHl, ht, List.length_append]; show (cmts (S.take (k + 1))).length ≤ _; omega
    have hi1 : 1 ≤ (ansE S k s w).index := by show 1 ≤ (cmts (S.take (k + 1))).length; omega
    have hth : thereB H s.o.id (ansE S k s w).index = true := by
      unfold thereB
      rw [hat, decide_eq_true hi1, decide_eq_true hil]
      simp
    have hfi : sget s.o.id H.first = some ((cmts (S.take k)).length + 1) := by rw [hHf]; exact first_all hd hs
    have hla : lateB H (ansE S k s w) = false := by
      unfold lateB
      rw [show (ansE S k s w).id = s.o.id from rfl, hfi, hHb]
      simp only [Option.getD_some]
      rw [decide_eq_false (show ¬ (cmts (S.take k)).length + 1 ≤ z.H.most by omega), Bool.and_false]
    have hto : toldB H (ansE S k s w) = (defB w.status && !sameM w (lastR (cmts (S.take (k + 1))))) := by
      unfold toldB
      rw [show (ansE S k s w).id = s.o.id from rfl, hth, Nat.max_eq_left hi1, hHr, ht]
      show (defB w.status && true && !(match (playP (cmts (S.take (k + 1)) ++ t)).rs[(cmts (S.take (k + 1))).length - 1]? with | some r => sameM w r | none => true)) = _
      rw [last_at _ _ (by omega), Bool.and_true]
    have hbr : H.breaks (ansE S k s w) = if defB w.status && !sameM w (lastR (cmts (S.take (k + 1)))) then [6] else [] := by
      have r1 : rul1 H (ansE S k s w) = [] := by unfold rul1; rw [show (ansE S k s w).id = s.o.id from rfl, hHa]; rfl
      have r2 : rul2 H (ansE S k s w) = [] := by unfold rul2; rw [r1, show (ansE S k s w).id = s.o.id from rfl, hth]; simp [addR]
      have r3 : rul3 H (ansE S k s w) = [] := by unfold rul3; rw [r2, decide_eq_false (show ¬ (ansE S k s w).index = 0 by omega)]; simp [addR]
      have r4 : rul4 H (ansE S k s w) = [] := by unfold rul4; rw [r3, hla]; rfl
      unfold JM.breaks
      rw [r4, hto]
      unfold addR
      rfl
    have e2 : (z.step (askE s)).step (ansE S k s w) = ⟨H.told (ansE S k s w), z.fs ++ (H.breaks (ansE S k s w)).map (fun r => ⟨r, (z.n + 1 : Nat)⟩), z.n + 1 + 1⟩ := by
      rw [e1, ← hH]; unfold ES.step; rw [if_pos (show (ansE S k s w).answer = true from rfl)]
    rw [e2]
    refine ⟨hHl, hHr, hHf, ?_, ?_, by show z.n + 1 + 1 = _; omega, ?_⟩
    · show (if defB w.status then max H.most (cmts (S.take (k + 1))).length else H.most) ≤ _
      split <;> omega
    · intro i hi
      show sget i H.before = none
      rw [hHbe, sget_put ord3_nat, if_neg (fun e => hi k s (Nat.lt_succ_self k) hs e.symm)]
      exact ibe i fun j t hj htj => hi j t (by omega) htj
    · show z.fs ++ _ = _
      rw [hbr, ifs, fltM_succ hwk]
      congr 1
      split
      · simp; omega
      · rfl

theorem evsM_len (S : List SG) (ws : List RM) (hw : ws.length = S.length) : ∀ k, k ≤ S.length → (evsM S ws k).length = 2 * k
  | 0, _ => rfl
  | k + 1, hk => by
    obtain ⟨s, hs⟩ : ∃ s, S[k]? = some s := ⟨_, List.getElem?_eq_getElem (by omega)⟩
    obtain ⟨w, hwk⟩ : ∃ w, ws[k]? = some w := ⟨_, List.getElem?_eq_getElem (by omega)⟩
    rw [evsM_succ hs hwk, List.length_append, evsM_len S ws hw k (by omega)]
    show 2 * k + 2 = _; omega
theorem order_law {S : List SG} {ws : List RM} (hd : DisI S) (hw : ws.length = S.length) : faults (begM (cmts S)) (evsM S ws S.length) = fltM S ws S.length := (linv hd hw S.length (Nat.le_refl _)).fs
def tells (S : List SG) : List RM := (List.range S.length).map fun i => lastR (cmts (S.take (i + 1)))
theorem tells_at {S : List SG} {i : Nat} (h : i < S.length) : (tells S)[i]? = some (lastR (cmts (S.take (i + 1)))) := by
  unfold tells
  rw [List.getElem?_map, List.getElem?_range h]; rfl
theorem same_self (r : RM) : sameM r r = true := (sameM_iff r r).2 rfl
theorem flt_none {S : List SG} {ws : List RM} {k : Nat} (h : ∀ i w, i < k → ws[i]? = some w → (defB w.status && !sameM w (lastR (cmts (S.take (i + 1))))) = false) : fltM S ws k = [] := by
  unfold fltM
  rw [List.flatMap_eq_nil_iff]
  intro i hi
  cases hw : ws[i]? with
  | none => rfl
  | some w =>
    dsimp only
    rw [h i w (List.mem_range.1 hi) hw]; rfl
theorem takes_law {S : List SG} (hd : DisI S) : faults (begM (cmts S)) (evsM S (tells S) S.length) = [] := by
  rw [order_law hd (by simp [tells])]
  refine flt_none fun i w hi hw => ?_
  rw [tells_at hi] at hw
  cases hw
  rw [same_self]; simp
end Go.Proofs.YtidbcaimgahllaaGreat
namespace Go.Proofs.YtidbcaimgahllaaGreat
set_option linter.unusedSectionVars false
set_option linter.unusedSimpArgs false
set_option linter.unusedVariables false
open Go.X
open Go.X.G (Ord3 ord3_nat ord3_int ord3_str ltB sget sput sdel Srtd sget_put sget_del)

theorem run_idle {M : BM} {o : OM} (h : readsK o.kind = true ∨ o.chkB = false) : (M.run o).2 = M := by
  unfold BM.run
  split
  · rename_i hc
    rcases h with h | h
    · rw [if_pos h]
      unfold BM.act
      have hk : o.kind = 4 ∨ o.kind = 6 := by simpa [readsK] using h
      rcases hk with e | e
      · rw [if_neg (by omega), if_neg (by omega), if_neg (by omega), if_pos e]
        unfold BM.get; repeat' split
        all_goals rfl
      · rw [if_neg (by omega), if_neg (by omega), if_neg (by omega), if_neg (by omega), if_neg (by omega), if_pos e]
        unfold BM.list; split <;> rfl
    · rw [h] at hc; cases hc
  · rfl
theorem act_ups {M : BM} {o : OM} {n : Nat} {u : UM} (h : sget n (M.act o).2.uploads = some u) : n = o.id ∨ (sget n M.uploads).isSome = true := by
  have put : ∀ {a : Nat} {v : UM}, sget n (sput ltN a v M.uploads) = some u → (a = o.id ∨ (sget a M.uploads).isSome = true) → n = o.id ∨ (sget n M.uploads).isSome = true := by
    intro a v h1 h2
    rw [sget_put ord3_nat] at h1
    split at h1
    · rename_i e; rw [e]; exact h2
    · exact .inr (by rw [h1]; rfl)
  have del : ∀ {a : Nat}, sget n (sdel a M.uploads) = some u → n = o.id ∨ (sget n M.uploads).isSome = true := by
    intro a h1
    rw [sget_del] at h1
    split at h1
    · cases h1
    · exact .inr (by rw [h1]; rfl)
  have same : sget n M.uploads = some u → n = o.id ∨ (sget n M.uploads).isSome = true := fun h1 => .inr (by rw [h1]; rfl)
  unfold BM.act at h
  split at h
  · unfold BM.make at h; split at h <;> exact same h
  split at h
  · unfold BM.unmake at h
    split at h
    · exact same h
    · split at h <;> exact same h
  split at h
  · unfold BM.put at h; split at h <;> exact same h
  split at h
  · unfold BM.get at h
    split at h
    · exact same h
    · split at h <;> exact same h
  split at h
  · unfold BM.delete at h
    split at h
    · exact same h
    · split at h <;> exact same h
  split at h
  · unfold BM.list at h; split at h <;> exact same h
  split at h
  · unfold BM.begin at h
    split at h
    · exact same h
    · exact put h (.inl rfl)
  split at h
  · unfold BM.part at h
    split at h
    · exact same h
    · rename_i hu; exact put h (.inr (by rw [hu]; rfl))
  split at h
  · unfold BM.complete at h
    split at h
    · exact same h
    · split at h
      · exact same h
      · exact del h
  · unfold BM.abort at h
    split at h
    · exact same h
    · exact del h

theorem run_kin {M : BM} (h : M.kin) (o : OM) : (M.run o).2.kin := by
  by_cases hi : readsK o.kind = true ∨ o.chkB = false
  · rw [run_idle hi]; exact h
  · have hc : o.chkB = true := by
      cases e : o.chkB with
      | true => rfl
      | false => exact absurd (.inr e) hi
    unfold BM.run
    rw [if_pos hc, if_neg (fun e => hi (.inl e))]
    split
    · exact h
    · intro n u hu
      show (sget n (sput ltN o.id (M.act o).1 M.done)).isSome = true
      rw [sget_put ord3_nat]
      split
      · rfl
      · rename_i hne
        rcases act_ups hu with e | e
        · exact absurd e hne
        · obtain ⟨v, hv⟩ := Option.isSome_iff_exists.1 e
          exact h n v hv

structure BM.inv (k : Nat) (M : BM) : Prop where
  ok : M.ok k
  kok : M.kok
  fit : M.fit k 131072
  kin : M.kin
theorem inv_new : BM.inv 0 ⟨[], [], []⟩ := ⟨BM.ok.new, kok_new, fit_new _, fun _ _ h => by cases h⟩
theorem BM.inv.run {k : Nat} {M : BM} (h : M.inv k) {o : OM} (hd : o.data.length ≤ 131072) (hi : o.id ≤ U64) : (M.run o).2.inv (k + 1) :=
  ⟨run_ok h.ok o, run_kok h.ok h.kok o, run_fit h.ok h.fit hd hi, run_kin h.kin o⟩
theorem BM.inv.lite {k : Nat} {M : BM} (h : M.inv k) (hk : k ≤ 32768) : M.lite :=
  ⟨h.ok.bs, h.ok.us, h.ok.ds, by have := h.ok.len; omega, fun n u hu => by have := (h.fit.up n u hu).2.1; omega⟩

end Go.Proofs.YtidbcaimgahllaaGreat

