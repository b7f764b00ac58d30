/-
  What a file's name is; the two functions that tell it.
-/
import Derived.Test.YtkekcdcmmggbaaaXt
namespace Go.Proofs.Ytkekcdcmmggbaaa
open Go.X

def nameCh (c : UInt8) : Bool := (decide (97 ≤ c.toNat) && decide (c.toNat ≤ 122)) || (decide (48 ≤ c.toNat) && decide (c.toNat ≤ 57)) || decide (c.toNat = 45) || decide (c.toNat = 46)
def nameOK (s : List UInt8) : Bool := decide (1 ≤ s.length) && decide (s.length ≤ 64) && s.all nameCh

theorem nameCh_iff (c : UInt8) : nameCh c = true ↔ ((97 ≤ (c.toNat : Int) ∧ (c.toNat : Int) ≤ 122) ∨ (48 ≤ (c.toNat : Int) ∧ (c.toNat : Int) ≤ 57) ∨ (c.toNat : Int) = 45 ∨ (c.toNat : Int) = 46) := by
  simp only [nameCh, Bool.or_eq_true, Bool.and_eq_true, decide_eq_true_eq]; omega
theorem nameCh_not (c : UInt8) : nameCh c = false ↔ ¬ ((97 ≤ (c.toNat : Int) ∧ (c.toNat : Int) ≤ 122) ∨ (48 ≤ (c.toNat : Int) ∧ (c.toNat : Int) ≤ 57) ∨ (c.toNat : Int) = 45 ∨ (c.toNat : Int) = 46) := by
  rw [← nameCh_iff]; simp
theorem all_take_succ {l : List UInt8} {k : Nat} {c : UInt8} (h : (l.take k).all nameCh = true) (hc : l[k]? = some c) (hk : nameCh c = true) : (l.take (k + 1)).all nameCh = true := by
  obtain ⟨h1, h2⟩ := List.getElem?_eq_some_iff.1 hc
  rw [List.take_succ_eq_append_getElem h1, List.all_append, h, h2]; simp [hk]
theorem nameOK_short {l : List UInt8} (h : l.length < 1) : nameOK l = false := by
  have : ¬ 1 ≤ l.length := by omega
  simp only [nameOK, this, decide_false, Bool.false_and]
theorem nameOK_long {l : List UInt8} (h : 64 < l.length) : nameOK l = false := by
  have : ¬ l.length ≤ 64 := by omega
  simp only [nameOK, this, decide_false, Bool.false_and, Bool.and_false]
theorem nameOK_bad {l : List UInt8} {k : Nat} {c : UInt8} (hc : l[k]? = some c) (hk : nameCh c = false) : nameOK l = false := by
  have : l.all nameCh = false := by
    cases h : l.all nameCh with
    | false => rfl
    | true => rw [List.all_eq_true] at h; have := h c (List.mem_of_getElem? hc); rw [hk] at this; cases this
  simp [nameOK, this]
theorem nameOK_good {l : List UInt8} (h1 : 1 ≤ l.length) (h2 : l.length ≤ 64) (h3 : l.all nameCh = true) : nameOK l = true := by
  simp only [nameOK, h1, h2, h3, decide_true, Bool.and_self]

theorem name_spec (s : ByteArray) (hs : s.size ≤ 140737488355328) : FSpec Try.prog 30 [.string s] [] (fun v B => v = .bool (nameOK s.data.toList) ∧ B = []) := by
  have hlen : s.data.toList.length = s.size := by simp
  refine FSpec.of Try.func30 rfl Try.ntmps30 rfl fun W0 F => ?_
  refine J.seq ?_
  refine J.region ?_
  refine J.q rfl rfl (Q.asg rfl) ?_
  refine J.nil ?_
  refine J.then_n ?_
  refine J.seq ?_
  refine J.seq ?_
  refine J.region ?_
  refine J.q rfl rfl (Q.mv rfl) ?_
  refine J.q rfl rfl (Q.lenS Try.runUnderlying9 rfl) ?_
  refine J.q rfl rfl (Q.lss rfl rfl) ?_
  refine J.q rfl rfl (Q.mv rfl) ?_
  refine J.cases 8 rfl (fun hb8 => ?_) (fun hb8 => ?_)
  ·
    first | replace hb8 := X.tt_dec hb8 | replace hb8 := X.tt_not hb8 | replace hb8 := X.ff_dec hb8 | replace hb8 := X.ff_not hb8 | skip
    refine J.skip rfl rfl ?_
    refine J.skip rfl rfl ?_
    refine J.skip rfl rfl ?_
    refine J.q rfl rfl (Q.pick_t rfl rfl) ?_
    refine J.nil ?_
    refine J.then_n ?_
    refine J.cond_t rfl ?_
    refine J.seq ?_
    refine J.region ?_
    refine J.q rfl rfl (Q.asg rfl) ?_
    refine J.nil ?_
    refine J.then_n ?_
    refine J.cret ?_
    refine J.then_r ?_
    refine J.ret1 (B := []) rfl rfl ⟨?_, rfl⟩ rfl
    rw [nameOK_short (l := s.data.toList) (by omega)]
  ·
    first | replace hb8 := X.tt_dec hb8 | replace hb8 := X.tt_not hb8 | replace hb8 := X.ff_dec hb8 | replace hb8 := X.ff_not hb8 | skip
    refine J.q rfl rfl (Q.mv rfl) ?_
    refine J.q rfl rfl (Q.lenS Try.runUnderlying9 rfl) ?_
    refine J.q rfl rfl (Q.gtr rfl rfl) ?_
    refine J.q rfl rfl (Q.pick_f rfl rfl) ?_
    refine J.nil ?_
    refine J.then_n ?_
    refine J.cond rfl (fun hc12 => ?_) (fun hc12 => ?_)
    ·
      first | replace hc12 := X.tt_dec hc12 | replace hc12 := X.tt_not hc12 | replace hc12 := X.ff_dec hc12 | replace hc12 := X.ff_not hc12 | skip
      refine J.seq ?_
      refine J.region ?_
      refine J.q rfl rfl (Q.asg rfl) ?_
      refine J.nil ?_
      refine J.then_n ?_
      refine J.cret ?_
      refine J.then_r ?_
      refine J.ret1 (B := []) rfl rfl ⟨?_, rfl⟩ rfl
      rw [nameOK_long (l := s.data.toList) (by omega)]
    ·
      first | replace hc12 := X.tt_dec hc12 | replace hc12 := X.tt_not hc12 | replace hc12 := X.ff_dec hc12 | replace hc12 := X.ff_not hc12 | skip
      refine J.cskip ?_
      refine J.then_n ?_
      refine J.seq ?_
      refine J.seq ?_
      refine J.region ?_
      refine J.q rfl rfl (Q.mv rfl) ?_
      refine J.q rfl rfl (Q.lenS Try.runUnderlying9 rfl) ?_
      refine J.q rfl rfl (Q.mv rfl) ?_
      refine J.nil ?_
      refine J.then_n ?_
      refine J.block ?_
      refine J.loop (fun k : Nat => k ≤ s.size ∧ (s.data.toList.take k).all nameCh = true) (fun k => s.size - k) (fun k => [(0, .string s), (14, .int .i64 s.size), (15, .int .i64 k)]) (fun _ => [F]) 0 ⟨by omega, rfl⟩ ⟨rfl, rfl, rfl, trivial⟩ rfl fun k hk => ?_
      obtain ⟨hk, hall⟩ := hk
      refine J.seq ?_
      refine J.region ?_
      refine J.q rfl rfl (Q.lss rfl rfl) ?_
      refine J.nil ?_
      refine J.then_n ?_
      refine J.seq ?_
      refine J.cond rfl (fun hc16 => ?_) (fun hc16 => ?_)
      ·
        first | replace hc16 := X.tt_dec hc16 | replace hc16 := X.tt_not hc16 | replace hc16 := X.ff_dec hc16 | replace hc16 := X.ff_not hc16 | skip
        have hlt : k < s.size := by omega
        refine J.cskip ?_
        refine J.then_n ?_
        refine J.seq ?_
        refine J.block ?_
        refine J.seq ?_
        refine J.region ?_
        refine J.q rfl rfl (Q.mv rfl) ?_
        refine J.q rfl rfl (Q.asg rfl) ?_
        refine J.nil ?_
        refine J.then_n ?_
        refine J.seq ?_
        refine J.region ?_
        refine J.q rfl rfl (Q.mv rfl) ?_
        refine J.q rfl rfl (Q.mv rfl) ?_
        obtain ⟨c, hc⟩ : ∃ c, s.data.toList[((k : Int)).toNat]? = some c := ⟨_, List.getElem?_eq_getElem (by simp only [Int.toNat_natCast]; omega)⟩
        refine J.q rfl rfl (Q.idxs Try.runUnderlying9 rfl rfl (by omega) hc) ?_
        refine J.q rfl rfl (Q.asg rfl) ?_
        refine J.nil ?_
        refine J.then_n ?_
        refine J.seq ?_
        refine J.region ?_
        refine J.q rfl rfl (Q.mv rfl) ?_
        refine J.q rfl rfl (Q.geq rfl rfl) ?_
        refine J.q rfl rfl (Q.mv rfl) ?_
        refine J.cases 23 rfl (fun hb23 => ?_) (fun hb23 => ?_)
        ·
          first | replace hb23 := X.tt_dec hb23 | replace hb23 := X.tt_not hb23 | replace hb23 := X.ff_dec hb23 | replace hb23 := X.ff_not hb23 | skip
          refine J.q rfl rfl (Q.mv rfl) ?_
          refine J.q rfl rfl (Q.leq rfl rfl) ?_
          refine J.q rfl rfl (Q.pick_t rfl rfl) ?_
          refine J.q rfl rfl (Q.mv rfl) ?_
          refine J.cases 27 rfl (fun hb27 => ?_) (fun hb27 => ?_)
          ·
            first | replace hb27 := X.tt_dec hb27 | replace hb27 := X.tt_not hb27 | replace hb27 := X.ff_dec hb27 | replace hb27 := X.ff_not hb27 | skip
            refine J.skip rfl rfl ?_
            refine J.skip rfl rfl ?_
            refine J.skip rfl rfl ?_
            refine J.skip rfl rfl ?_
            refine J.skip rfl rfl ?_
            refine J.skip rfl rfl ?_
            refine J.q rfl rfl (Q.pick_t rfl rfl) ?_
            refine J.q rfl rfl (Q.mv rfl) ?_
            refine J.skip rfl rfl ?_
            refine J.skip rfl rfl ?_
            refine J.q rfl rfl (Q.pick_t rfl rfl) ?_
            refine J.q rfl rfl (Q.mv rfl) ?_
            refine J.skip rfl rfl ?_
            refine J.skip rfl rfl ?_
            refine J.q rfl rfl (Q.pick_t rfl rfl) ?_
            refine J.q rfl rfl (Q.not rfl) ?_
            refine J.nil ?_
            refine J.then_n ?_
            refine J.cond_f rfl ?_
            refine J.cskip ?_
            refine J.blk_n ?_
            refine J.then_n ?_
            refine J.region ?_
            refine J.q rfl rfl (Q.add64 rfl rfl (by omega)) ?_
            refine J.q rfl rfl (Q.mv rfl) ?_
            refine J.nil ?_
            have hck : nameCh c = true := by rw [nameCh_iff]; omega
            refine J.again (k + 1) ⟨by omega, all_take_succ hall (by simpa using hc) hck⟩ (by omega) ⟨rfl, rfl, rfl, trivial⟩ rfl
          ·
            first | replace hb27 := X.tt_dec hb27 | replace hb27 := X.tt_not hb27 | replace hb27 := X.ff_dec hb27 | replace hb27 := X.ff_not hb27 | skip
            refine J.q rfl rfl (Q.mv rfl) ?_
            refine J.q rfl rfl (Q.geq rfl rfl) ?_
            refine J.q rfl rfl (Q.mv rfl) ?_
            refine J.cases 30 rfl (fun hb30 => ?_) (fun hb30 => ?_)
            ·
              first | replace hb30 := X.tt_dec hb30 | replace hb30 := X.tt_not hb30 | replace hb30 := X.ff_dec hb30 | replace hb30 := X.ff_not hb30 | skip
              refine J.q rfl rfl (Q.mv rfl) ?_
              refine J.q rfl rfl (Q.leq rfl rfl) ?_
              refine J.q rfl rfl (Q.pick_t rfl rfl) ?_
              refine J.q rfl rfl (Q.pick_f rfl rfl) ?_
              refine J.q rfl rfl (Q.mv rfl) ?_
              refine J.cases 35 rfl (fun hb35 => ?_) (fun hb35 => ?_)
              ·
                first | replace hb35 := X.tt_dec hb35 | replace hb35 := X.tt_not hb35 | replace hb35 := X.ff_dec hb35 | replace hb35 := X.ff_not hb35 | skip
                refine J.skip rfl rfl ?_
                refine J.skip rfl rfl ?_
                refine J.q rfl rfl (Q.pick_t rfl rfl) ?_
                refine J.q rfl rfl (Q.mv rfl) ?_
                refine J.skip rfl rfl ?_
                refine J.skip rfl rfl ?_
                refine J.q rfl rfl (Q.pick_t rfl rfl) ?_
                refine J.q rfl rfl (Q.not rfl) ?_
                refine J.nil ?_
                refine J.then_n ?_
                refine J.cond_f rfl ?_
                refine J.cskip ?_
                refine J.blk_n ?_
                refine J.then_n ?_
                refine J.region ?_
                refine J.q rfl rfl (Q.add64 rfl rfl (by omega)) ?_
                refine J.q rfl rfl (Q.mv rfl) ?_
                refine J.nil ?_
                have hck : nameCh c = true := by rw [nameCh_iff]; omega
                refine J.again (k + 1) ⟨by omega, all_take_succ hall (by simpa using hc) hck⟩ (by omega) ⟨rfl, rfl, rfl, trivial⟩ rfl
              ·
                first | replace hb35 := X.tt_dec hb35 | replace hb35 := X.tt_not hb35 | replace hb35 := X.ff_dec hb35 | replace hb35 := X.ff_not hb35 | skip
                refine J.q rfl rfl (Q.mv rfl) ?_
                refine J.q rfl rfl (Q.eql rfl rfl) ?_
                refine J.q rfl rfl (Q.pick_f rfl rfl) ?_
                refine J.q rfl rfl (Q.mv rfl) ?_
                refine J.cases 39 rfl (fun hb39 => ?_) (fun hb39 => ?_)
                ·
                  first | replace hb39 := X.tt_dec hb39 | replace hb39 := X.tt_not hb39 | replace hb39 := X.ff_dec hb39 | replace hb39 := X.ff_not hb39 | skip
                  refine J.skip rfl rfl ?_
                  refine J.skip rfl rfl ?_
                  refine J.q rfl rfl (Q.pick_t rfl rfl) ?_
                  refine J.q rfl rfl (Q.not rfl) ?_
                  refine J.nil ?_
                  refine J.then_n ?_
                  refine J.cond_f rfl ?_
                  refine J.cskip ?_
                  refine J.blk_n ?_
                  refine J.then_n ?_
                  refine J.region ?_
                  refine J.q rfl rfl (Q.add64 rfl rfl (by omega)) ?_
                  refine J.q rfl rfl (Q.mv rfl) ?_
                  refine J.nil ?_
                  have hck : nameCh c = true := by rw [nameCh_iff]; omega
                  refine J.again (k + 1) ⟨by omega, all_take_succ hall (by simpa using hc) hck⟩ (by omega) ⟨rfl, rfl, rfl, trivial⟩ rfl
                ·
                  first | replace hb39 := X.tt_dec hb39 | replace hb39 := X.tt_not hb39 | replace hb39 := X.ff_dec hb39 | replace hb39 := X.ff_not hb39 | skip
                  refine J.q rfl rfl (Q.mv rfl) ?_
                  refine J.q rfl rfl (Q.eql rfl rfl) ?_
                  refine J.q rfl rfl (Q.pick_f rfl rfl) ?_
                  refine J.q rfl rfl (Q.not rfl) ?_
                  refine J.nil ?_
                  refine J.then_n ?_
                  refine J.cond rfl (fun hc43 => ?_) (fun hc43 => ?_)
                  ·
                    first | replace hc43 := X.tt_dec hc43 | replace hc43 := X.tt_not hc43 | replace hc43 := X.ff_dec hc43 | replace hc43 := X.ff_not hc43 | skip
                    refine J.seq ?_
                    refine J.region ?_
                    refine J.q rfl rfl (Q.asg rfl) ?_
                    refine J.nil ?_
                    refine J.then_n ?_
                    refine J.cret ?_
                    refine J.blk_r ?_
                    refine J.then_r ?_
                    refine J.lp_r ?_
                    refine J.blk_r ?_
                    refine J.then_r ?_
                    first
                      | (have hck : nameCh c = false := by rw [nameCh_not]; omega
                         refine J.ret1 (B := []) rfl rfl ⟨?_, rfl⟩ rfl
                         rw [nameOK_bad (by simpa using hc) hck])
                      | (refine J.ret1 (B := []) rfl rfl ⟨?_, rfl⟩ rfl
                         rw [nameOK_good (by omega) (by omega) (by rw [← hall, hge, List.take_of_length_le (by omega)])])
                  ·
                    first | replace hc43 := X.tt_dec hc43 | replace hc43 := X.tt_not hc43 | replace hc43 := X.ff_dec hc43 | replace hc43 := X.ff_not hc43 | skip
                    refine J.cskip ?_
                    refine J.blk_n ?_
                    refine J.then_n ?_
                    refine J.region ?_
                    refine J.q rfl rfl (Q.add64 rfl rfl (by omega)) ?_
                    refine J.q rfl rfl (Q.mv rfl) ?_
                    refine J.nil ?_
                    have hck : nameCh c = true := by rw [nameCh_iff]; omega
                    refine J.again (k + 1) ⟨by omega, all_take_succ hall (by simpa using hc) hck⟩ (by omega) ⟨rfl, rfl, rfl, trivial⟩ rfl
            ·
              first | replace hb30 := X.tt_dec hb30 | replace hb30 := X.tt_not hb30 | replace hb30 := X.ff_dec hb30 | replace hb30 := X.ff_not hb30 | skip
              refine J.skip rfl rfl ?_
              refine J.skip rfl rfl ?_
              refine J.q rfl rfl (Q.pick_f rfl rfl) ?_
              refine J.q rfl rfl (Q.pick_f rfl rfl) ?_
              refine J.q rfl rfl (Q.mv rfl) ?_
              refine J.q rfl rfl (Q.mv rfl) ?_
              refine J.q rfl rfl (Q.eql rfl rfl) ?_
              refine J.q rfl rfl (Q.pick_f rfl rfl) ?_
              refine J.q rfl rfl (Q.mv rfl) ?_
              refine J.cases 39 rfl (fun hb39 => ?_) (fun hb39 => ?_)
              ·
                first | replace hb39 := X.tt_dec hb39 | replace hb39 := X.tt_not hb39 | replace hb39 := X.ff_dec hb39 | replace hb39 := X.ff_not hb39 | skip
                refine J.skip rfl rfl ?_
                refine J.skip rfl rfl ?_
                refine J.q rfl rfl (Q.pick_t rfl rfl) ?_
                refine J.q rfl rfl (Q.not rfl) ?_
                refine J.nil ?_
                refine J.then_n ?_
                refine J.cond_f rfl ?_
                refine J.cskip ?_
                refine J.blk_n ?_
                refine J.then_n ?_
                refine J.region ?_
                refine J.q rfl rfl (Q.add64 rfl rfl (by omega)) ?_
                refine J.q rfl rfl (Q.mv rfl) ?_
                refine J.nil ?_
                have hck : nameCh c = true := by rw [nameCh_iff]; omega
                refine J.again (k + 1) ⟨by omega, all_take_succ hall (by simpa using hc) hck⟩ (by omega) ⟨rfl, rfl, rfl, trivial⟩ rfl
              ·
                first | replace hb39 := X.tt_dec hb39 | replace hb39 := X.tt_not hb39 | replace hb39 := X.ff_dec hb39 | replace hb39 := X.ff_not hb39 | skip
                refine J.q rfl rfl (Q.mv rfl) ?_
                refine J.q rfl rfl (Q.eql rfl rfl) ?_
                refine J.q rfl rfl (Q.pick_f rfl rfl) ?_
                refine J.q rfl rfl (Q.not rfl) ?_
                refine J.nil ?_
                refine J.then_n ?_
                refine J.cond rfl (fun hc43 => ?_) (fun hc43 => ?_)
                ·
                  first | replace hc43 := X.tt_dec hc43 | replace hc43 := X.tt_not hc43 | replace hc43 := X.ff_dec hc43 | replace hc43 := X.ff_not hc43 | skip
                  refine J.seq ?_
                  refine J.region ?_
                  refine J.q rfl rfl (Q.asg rfl) ?_
                  refine J.nil ?_
                  refine J.then_n ?_
                  refine J.cret ?_
                  refine J.blk_r ?_
                  refine J.then_r ?_
                  refine J.lp_r ?_
                  refine J.blk_r ?_
                  refine J.then_r ?_
                  first
                    | (have hck : nameCh c = false := by rw [nameCh_not]; omega
                       refine J.ret1 (B := []) rfl rfl ⟨?_, rfl⟩ rfl
                       rw [nameOK_bad (by simpa using hc) hck])
                    | (refine J.ret1 (B := []) rfl rfl ⟨?_, rfl⟩ rfl
                       rw [nameOK_good (by omega) (by omega) (by rw [← hall, hge, List.take_of_length_le (by omega)])])
                ·
                  first | replace hc43 := X.tt_dec hc43 | replace hc43 := X.tt_not hc43 | replace hc43 := X.ff_dec hc43 | replace hc43 := X.ff_not hc43 | skip
                  refine J.cskip ?_
                  refine J.blk_n ?_
                  refine J.then_n ?_
                  refine J.region ?_
                  refine J.q rfl rfl (Q.add64 rfl rfl (by omega)) ?_
                  refine J.q rfl rfl (Q.mv rfl) ?_
                  refine J.nil ?_
                  have hck : nameCh c = true := by rw [nameCh_iff]; omega
                  refine J.again (k + 1) ⟨by omega, all_take_succ hall (by simpa using hc) hck⟩ (by omega) ⟨rfl, rfl, rfl, trivial⟩ rfl
        ·
          first | replace hb23 := X.tt_dec hb23 | replace hb23 := X.tt_not hb23 | replace hb23 := X.ff_dec hb23 | replace hb23 := X.ff_not hb23 | skip
          refine J.skip rfl rfl ?_
          refine J.skip rfl rfl ?_
          refine J.q rfl rfl (Q.pick_f rfl rfl) ?_
          refine J.q rfl rfl (Q.mv rfl) ?_
          refine J.q rfl rfl (Q.mv rfl) ?_
          refine J.q rfl rfl (Q.geq rfl rfl) ?_
          refine J.q rfl rfl (Q.mv rfl) ?_
          refine J.cases 30 rfl (fun hb30 => ?_) (fun hb30 => ?_)
          ·
            first | replace hb30 := X.tt_dec hb30 | replace hb30 := X.tt_not hb30 | replace hb30 := X.ff_dec hb30 | replace hb30 := X.ff_not hb30 | skip
            refine J.q rfl rfl (Q.mv rfl) ?_
            refine J.q rfl rfl (Q.leq rfl rfl) ?_
            refine J.q rfl rfl (Q.pick_t rfl rfl) ?_
            refine J.q rfl rfl (Q.pick_f rfl rfl) ?_
            refine J.q rfl rfl (Q.mv rfl) ?_
            refine J.cases 35 rfl (fun hb35 => ?_) (fun hb35 => ?_)
            ·
              first | replace hb35 := X.tt_dec hb35 | replace hb35 := X.tt_not hb35 | replace hb35 := X.ff_dec hb35 | replace hb35 := X.ff_not hb35 | skip
              refine J.skip rfl rfl ?_
              refine J.skip rfl rfl ?_
              refine J.q rfl rfl (Q.pick_t rfl rfl) ?_
              refine J.q rfl rfl (Q.mv rfl) ?_
              refine J.skip rfl rfl ?_
              refine J.skip rfl rfl ?_
              refine J.q rfl rfl (Q.pick_t rfl rfl) ?_
              refine J.q rfl rfl (Q.not rfl) ?_
              refine J.nil ?_
              refine J.then_n ?_
              refine J.cond_f rfl ?_
              refine J.cskip ?_
              refine J.blk_n ?_
              refine J.then_n ?_
              refine J.region ?_
              refine J.q rfl rfl (Q.add64 rfl rfl (by omega)) ?_
              refine J.q rfl rfl (Q.mv rfl) ?_
              refine J.nil ?_
              have hck : nameCh c = true := by rw [nameCh_iff]; omega
              refine J.again (k + 1) ⟨by omega, all_take_succ hall (by simpa using hc) hck⟩ (by omega) ⟨rfl, rfl, rfl, trivial⟩ rfl
            ·
              first | replace hb35 := X.tt_dec hb35 | replace hb35 := X.tt_not hb35 | replace hb35 := X.ff_dec hb35 | replace hb35 := X.ff_not hb35 | skip
              refine J.q rfl rfl (Q.mv rfl) ?_
              refine J.q rfl rfl (Q.eql rfl rfl) ?_
              refine J.q rfl rfl (Q.pick_f rfl rfl) ?_
              refine J.q rfl rfl (Q.mv rfl) ?_
              refine J.cases 39 rfl (fun hb39 => ?_) (fun hb39 => ?_)
              ·
                first | replace hb39 := X.tt_dec hb39 | replace hb39 := X.tt_not hb39 | replace hb39 := X.ff_dec hb39 | replace hb39 := X.ff_not hb39 | skip
                refine J.skip rfl rfl ?_
                refine J.skip rfl rfl ?_
                refine J.q rfl rfl (Q.pick_t rfl rfl) ?_
                refine J.q rfl rfl (Q.not rfl) ?_
                refine J.nil ?_
                refine J.then_n ?_
                refine J.cond_f rfl ?_
                refine J.cskip ?_
                refine J.blk_n ?_
                refine J.then_n ?_
                refine J.region ?_
                refine J.q rfl rfl (Q.add64 rfl rfl (by omega)) ?_
                refine J.q rfl rfl (Q.mv rfl) ?_
                refine J.nil ?_
                have hck : nameCh c = true := by rw [nameCh_iff]; omega
                refine J.again (k + 1) ⟨by omega, all_take_succ hall (by simpa using hc) hck⟩ (by omega) ⟨rfl, rfl, rfl, trivial⟩ rfl
              ·
                first | replace hb39 := X.tt_dec hb39 | replace hb39 := X.tt_not hb39 | replace hb39 := X.ff_dec hb39 | replace hb39 := X.ff_not hb39 | skip
                refine J.q rfl rfl (Q.mv rfl) ?_
                refine J.q rfl rfl (Q.eql rfl rfl) ?_
                refine J.q rfl rfl (Q.pick_f rfl rfl) ?_
                refine J.q rfl rfl (Q.not rfl) ?_
                refine J.nil ?_
                refine J.then_n ?_
                refine J.cond rfl (fun hc43 => ?_) (fun hc43 => ?_)
                ·
                  first | replace hc43 := X.tt_dec hc43 | replace hc43 := X.tt_not hc43 | replace hc43 := X.ff_dec hc43 | replace hc43 := X.ff_not hc43 | skip
                  refine J.seq ?_
                  refine J.region ?_
                  refine J.q rfl rfl (Q.asg rfl) ?_
                  refine J.nil ?_
                  refine J.then_n ?_
                  refine J.cret ?_
                  refine J.blk_r ?_
                  refine J.then_r ?_
                  refine J.lp_r ?_
                  refine J.blk_r ?_
                  refine J.then_r ?_
                  first
                    | (have hck : nameCh c = false := by rw [nameCh_not]; omega
                       refine J.ret1 (B := []) rfl rfl ⟨?_, rfl⟩ rfl
                       rw [nameOK_bad (by simpa using hc) hck])
                    | (refine J.ret1 (B := []) rfl rfl ⟨?_, rfl⟩ rfl
                       rw [nameOK_good (by omega) (by omega) (by rw [← hall, hge, List.take_of_length_le (by omega)])])
                ·
                  first | replace hc43 := X.tt_dec hc43 | replace hc43 := X.tt_not hc43 | replace hc43 := X.ff_dec hc43 | replace hc43 := X.ff_not hc43 | skip
                  refine J.cskip ?_
                  refine J.blk_n ?_
                  refine J.then_n ?_
                  refine J.region ?_
                  refine J.q rfl rfl (Q.add64 rfl rfl (by omega)) ?_
                  refine J.q rfl rfl (Q.mv rfl) ?_
                  refine J.nil ?_
                  have hck : nameCh c = true := by rw [nameCh_iff]; omega
                  refine J.again (k + 1) ⟨by omega, all_take_succ hall (by simpa using hc) hck⟩ (by omega) ⟨rfl, rfl, rfl, trivial⟩ rfl
          ·
            first | replace hb30 := X.tt_dec hb30 | replace hb30 := X.tt_not hb30 | replace hb30 := X.ff_dec hb30 | replace hb30 := X.ff_not hb30 | skip
            refine J.skip rfl rfl ?_
            refine J.skip rfl rfl ?_
            refine J.q rfl rfl (Q.pick_f rfl rfl) ?_
            refine J.q rfl rfl (Q.pick_f rfl rfl) ?_
            refine J.q rfl rfl (Q.mv rfl) ?_
            refine J.q rfl rfl (Q.mv rfl) ?_
            refine J.q rfl rfl (Q.eql rfl rfl) ?_
            refine J.q rfl rfl (Q.pick_f rfl rfl) ?_
            refine J.q rfl rfl (Q.mv rfl) ?_
            refine J.cases 39 rfl (fun hb39 => ?_) (fun hb39 => ?_)
            ·
              first | replace hb39 := X.tt_dec hb39 | replace hb39 := X.tt_not hb39 | replace hb39 := X.ff_dec hb39 | replace hb39 := X.ff_not hb39 | skip
              refine J.skip rfl rfl ?_
              refine J.skip rfl rfl ?_
              refine J.q rfl rfl (Q.pick_t rfl rfl) ?_
              refine J.q rfl rfl (Q.not rfl) ?_
              refine J.nil ?_
              refine J.then_n ?_
              refine J.cond_f rfl ?_
              refine J.cskip ?_
              refine J.blk_n ?_
              refine J.then_n ?_
              refine J.region ?_
              refine J.q rfl rfl (Q.add64 rfl rfl (by omega)) ?_
              refine J.q rfl rfl (Q.mv rfl) ?_
              refine J.nil ?_
              have hck : nameCh c = true := by rw [nameCh_iff]; omega
              refine J.again (k + 1) ⟨by omega, all_take_succ hall (by simpa using hc) hck⟩ (by omega) ⟨rfl, rfl, rfl, trivial⟩ rfl
            ·
              first | replace hb39 := X.tt_dec hb39 | replace hb39 := X.tt_not hb39 | replace hb39 := X.ff_dec hb39 | replace hb39 := X.ff_not hb39 | skip
              refine J.q rfl rfl (Q.mv rfl) ?_
              refine J.q rfl rfl (Q.eql rfl rfl) ?_
              refine J.q rfl rfl (Q.pick_f rfl rfl) ?_
              refine J.q rfl rfl (Q.not rfl) ?_
              refine J.nil ?_
              refine J.then_n ?_
              refine J.cond rfl (fun hc43 => ?_) (fun hc43 => ?_)
              ·
                first | replace hc43 := X.tt_dec hc43 | replace hc43 := X.tt_not hc43 | replace hc43 := X.ff_dec hc43 | replace hc43 := X.ff_not hc43 | skip
                refine J.seq ?_
                refine J.region ?_
                refine J.q rfl rfl (Q.asg rfl) ?_
                refine J.nil ?_
                refine J.then_n ?_
                refine J.cret ?_
                refine J.blk_r ?_
                refine J.then_r ?_
                refine J.lp_r ?_
                refine J.blk_r ?_
                refine J.then_r ?_
                first
                  | (have hck : nameCh c = false := by rw [nameCh_not]; omega
                     refine J.ret1 (B := []) rfl rfl ⟨?_, rfl⟩ rfl
                     rw [nameOK_bad (by simpa using hc) hck])
                  | (refine J.ret1 (B := []) rfl rfl ⟨?_, rfl⟩ rfl
                     rw [nameOK_good (by omega) (by omega) (by rw [← hall, hge, List.take_of_length_le (by omega)])])
              ·
                first | replace hc43 := X.tt_dec hc43 | replace hc43 := X.tt_not hc43 | replace hc43 := X.ff_dec hc43 | replace hc43 := X.ff_not hc43 | skip
                refine J.cskip ?_
                refine J.blk_n ?_
                refine J.then_n ?_
                refine J.region ?_
                refine J.q rfl rfl (Q.add64 rfl rfl (by omega)) ?_
                refine J.q rfl rfl (Q.mv rfl) ?_
                refine J.nil ?_
                have hck : nameCh c = true := by rw [nameCh_iff]; omega
                refine J.again (k + 1) ⟨by omega, all_take_succ hall (by simpa using hc) hck⟩ (by omega) ⟨rfl, rfl, rfl, trivial⟩ rfl
      ·
        first | replace hc16 := X.tt_dec hc16 | replace hc16 := X.tt_not hc16 | replace hc16 := X.ff_dec hc16 | replace hc16 := X.ff_not hc16 | skip
        have hge : k = s.size := by omega
        refine J.exit ?_
        refine J.then_x ?_
        refine J.lp_x ?_
        refine J.blk_x ?_
        refine J.then_n ?_
        refine J.seq ?_
        refine J.region ?_
        refine J.q rfl rfl (Q.asg rfl) ?_
        refine J.nil ?_
        refine J.then_n ?_
        refine J.cret ?_
        first
          | (have hck : nameCh c = false := by rw [nameCh_not]; omega
             refine J.ret1 (B := []) rfl rfl ⟨?_, rfl⟩ rfl
             rw [nameOK_bad (by simpa using hc) hck])
          | (refine J.ret1 (B := []) rfl rfl ⟨?_, rfl⟩ rfl
             rw [nameOK_good (by omega) (by omega) (by rw [← hall, hge, List.take_of_length_le (by omega)])])

end Go.Proofs.Ytkekcdcmmggbaaa
