/-
  What a bucket's name is, which numbers of parts may be; the functions that tell it.
-/
import Derived.Test.YtdancegklkifaaaXt
import Derived.Test.YtdancegklkifaaaXu
namespace Go.Proofs.Ytdancegklkifaaa
set_option linter.unusedSectionVars false
set_option linter.unusedSimpArgs false
set_option linter.unusedVariables false
open Go.X

def nameCh (c : UInt8) : Bool := (decide (97 ≤ c.toNat) && decide (c.toNat ≤ 122)) || (decide (48 ≤ c.toNat) && decide (c.toNat ≤ 57)) || decide (c.toNat = 45) || decide (c.toNat = 46)
def nameOK (s : List UInt8) : Bool := decide (1 ≤ s.length) && decide (s.length ≤ 64) && s.all nameCh

theorem nameCh_iff (c : UInt8) : nameCh c = true ↔ ((97 ≤ (c.toNat : Int) ∧ (c.toNat : Int) ≤ 122) ∨ (48 ≤ (c.toNat : Int) ∧ (c.toNat : Int) ≤ 57) ∨ (c.toNat : Int) = 45 ∨ (c.toNat : Int) = 46) := by
  simp only [nameCh, Bool.or_eq_true, Bool.and_eq_true, decide_eq_true_eq]; omega
theorem nameCh_not (c : UInt8) : nameCh c = false ↔ ¬ ((97 ≤ (c.toNat : Int) ∧ (c.toNat : Int) ≤ 122) ∨ (48 ≤ (c.toNat : Int) ∧ (c.toNat : Int) ≤ 57) ∨ (c.toNat : Int) = 45 ∨ (c.toNat : Int) = 46) := by
  rw [← nameCh_iff]; simp
theorem all_take_succ {l : List UInt8} {k : Nat} {c : UInt8} (h : (l.take k).all nameCh = true) (hc : l[k]? = some c) (hk : nameCh c = true) : (l.take (k + 1)).all nameCh = true := by
  obtain ⟨h1, h2⟩ := List.getElem?_eq_some_iff.1 hc
  rw [List.take_succ_eq_append_getElem h1, List.all_append, h, h2]; simp [hk]
theorem nameOK_short {l : List UInt8} (h : l.length < 1) : nameOK l = false := by
  have : ¬ 1 ≤ l.length := by omega
  simp only [nameOK, this, decide_false, Bool.false_and]
theorem nameOK_long {l : List UInt8} (h : 64 < l.length) : nameOK l = false := by
  have : ¬ l.length ≤ 64 := by omega
  simp only [nameOK, this, decide_false, Bool.false_and, Bool.and_false]
theorem nameOK_bad {l : List UInt8} {k : Nat} {c : UInt8} (hc : l[k]? = some c) (hk : nameCh c = false) : nameOK l = false := by
  have : l.all nameCh = false := by
    cases h : l.all nameCh with
    | false => rfl
    | true => rw [List.all_eq_true] at h; have := h c (List.mem_of_getElem? hc); rw [hk] at this; cases this
  simp [nameOK, this]
theorem nameOK_good {l : List UInt8} (h1 : 1 ≤ l.length) (h2 : l.length ≤ 64) (h3 : l.all nameCh = true) : nameOK l = true := by
  simp only [nameOK, h1, h2, h3, decide_true, Bool.and_self]

/-- So many bytes, at least and at the most. -/
def longB (n : Nat) (a b : Int) : Bool := decide (a ≤ n) && decide ((n : Int) ≤ b)

theorem long_spec (s : ByteArray) (a b : Int) : FSpec Try.prog 19 [.string s, .int .i64 a, .int .i64 b] [] (fun v B => v = .bool (longB s.size a b) ∧ B = []) := by
  refine FSpec.of Try.func19 rfl Try.ntmps19 rfl fun W0 F => ?_
  refine J.seq ?_
  refine J.region ?_
  refine J.q rfl rfl (Q.asg rfl) ?_
  refine J.nil ?_
  refine J.then_n ?_
  refine J.seq ?_
  refine J.region ?_
  refine J.q rfl rfl (Q.mv rfl) ?_
  refine J.q rfl rfl (Q.lenS Try.runUnderlying9 rfl) ?_
  refine J.q rfl rfl (Q.mv rfl) ?_
  refine J.q rfl rfl (Q.geq rfl rfl) ?_
  refine J.q rfl rfl (Q.mv rfl) ?_
  refine J.cases 11 rfl (fun hb11 => ?_) (fun hb11 => ?_)
  ·
    first | replace hb11 := X.tt_dec hb11 | replace hb11 := X.tt_not hb11 | replace hb11 := X.ff_dec hb11 | replace hb11 := X.ff_not hb11 | skip
    refine J.q rfl rfl (Q.mv rfl) ?_
    refine J.q rfl rfl (Q.lenS Try.runUnderlying9 rfl) ?_
    refine J.q rfl rfl (Q.mv rfl) ?_
    refine J.q rfl rfl (Q.leq rfl rfl) ?_
    refine J.q rfl rfl (Q.pick_t rfl rfl) ?_
    refine J.q rfl rfl (Q.asg rfl) ?_
    refine J.nil ?_
    refine J.then_n ?_
    refine J.cret ?_
    refine J.ret1 (B := []) rfl rfl ⟨?_, rfl⟩ rfl
    simp [longB, *]
  ·
    first | replace hb11 := X.tt_dec hb11 | replace hb11 := X.tt_not hb11 | replace hb11 := X.ff_dec hb11 | replace hb11 := X.ff_not hb11 | skip
    refine J.skip rfl rfl ?_
    refine J.skip rfl rfl ?_
    refine J.skip rfl rfl ?_
    refine J.skip rfl rfl ?_
    refine J.q rfl rfl (Q.pick_f rfl rfl) ?_
    refine J.q rfl rfl (Q.asg rfl) ?_
    refine J.nil ?_
    refine J.then_n ?_
    refine J.cret ?_
    refine J.ret1 (B := []) rfl rfl ⟨?_, rfl⟩ rfl
    simp [longB, *]

theorem named_spec (s : ByteArray) (hs : s.size ≤ 9223372036854775807) : FSpec Try.prog 18 [.string s] [] (fun v B => v = .bool (nameOK s.data.toList) ∧ B = []) := by
  have hlen : s.data.toList.length = s.size := by simp
  refine FSpec.of Try.func18 rfl Try.ntmps18 rfl fun W0 F => ?_
  refine J.seq ?_
  refine J.region ?_
  refine J.q rfl rfl (Q.asg rfl) ?_
  refine J.nil ?_
  refine J.then_n ?_
  refine J.seq ?_
  refine J.seq ?_
  refine J.region ?_
  refine J.q rfl rfl (Q.mv rfl) ?_
  refine J.q rfl rfl (Q.lenS Try.runUnderlying9 rfl) ?_
  refine J.q rfl rfl (Q.mv rfl) ?_
  refine J.nil ?_
  refine J.then_n ?_
  refine J.block ?_
  refine J.loop (fun k : Nat => k ≤ s.size ∧ (s.data.toList.take k).all nameCh = true) (fun k => s.size - k) (fun k => [(0, .string s), (6, .int .i64 s.size), (7, .int .i64 k)]) (fun _ => [F]) 0 ⟨by omega, rfl⟩ ⟨rfl, rfl, rfl, trivial⟩ rfl fun k hk => ?_
  obtain ⟨hk, hall⟩ := hk
  refine J.seq ?_
  refine J.region ?_
  refine J.q rfl rfl (Q.lss rfl rfl) ?_
  refine J.nil ?_
  refine J.then_n ?_
  refine J.seq ?_
  refine J.cases 8 rfl (fun hc8 => ?_) (fun hc8 => ?_)
  ·
    first | replace hc8 := X.tt_dec hc8 | replace hc8 := X.tt_not hc8 | replace hc8 := X.ff_dec hc8 | replace hc8 := X.ff_not hc8 | skip
    have hlt : k < s.size := by omega
    refine J.cond_t rfl ?_
    refine J.cskip ?_
    refine J.then_n ?_
    refine J.seq ?_
    refine J.block ?_
    refine J.seq ?_
    refine J.region ?_
    refine J.q rfl rfl (Q.mv rfl) ?_
    refine J.q rfl rfl (Q.asg rfl) ?_
    refine J.nil ?_
    refine J.then_n ?_
    refine J.seq ?_
    refine J.region ?_
    refine J.q rfl rfl (Q.mv rfl) ?_
    refine J.q rfl rfl (Q.mv rfl) ?_
    obtain ⟨c, hc⟩ : ∃ c, s.data.toList[((k : Int)).toNat]? = some c := ⟨_, List.getElem?_eq_getElem (by simp only [Int.toNat_natCast]; omega)⟩
    refine J.q rfl rfl (Q.idxs Try.runUnderlying9 rfl rfl (by omega) hc) ?_
    refine J.q rfl rfl (Q.asg rfl) ?_
    refine J.nil ?_
    refine J.then_n ?_
    refine J.seq ?_
    refine J.region ?_
    refine J.q rfl rfl (Q.mv rfl) ?_
    refine J.q rfl rfl (Q.geq rfl rfl) ?_
    refine J.q rfl rfl (Q.mv rfl) ?_
    refine J.cases 15 rfl (fun hb15 => ?_) (fun hb15 => ?_)
    ·
      first | replace hb15 := X.tt_dec hb15 | replace hb15 := X.tt_not hb15 | replace hb15 := X.ff_dec hb15 | replace hb15 := X.ff_not hb15 | skip
      refine J.q rfl rfl (Q.mv rfl) ?_
      refine J.q rfl rfl (Q.leq rfl rfl) ?_
      refine J.q rfl rfl (Q.pick_t rfl rfl) ?_
      refine J.q rfl rfl (Q.mv rfl) ?_
      refine J.cases 19 rfl (fun hb19 => ?_) (fun hb19 => ?_)
      ·
        first | replace hb19 := X.tt_dec hb19 | replace hb19 := X.tt_not hb19 | replace hb19 := X.ff_dec hb19 | replace hb19 := X.ff_not hb19 | skip
        refine J.skip rfl rfl ?_
        refine J.skip rfl rfl ?_
        refine J.skip rfl rfl ?_
        refine J.skip rfl rfl ?_
        refine J.skip rfl rfl ?_
        refine J.skip rfl rfl ?_
        refine J.q rfl rfl (Q.pick_t rfl rfl) ?_
        refine J.q rfl rfl (Q.mv rfl) ?_
        refine J.skip rfl rfl ?_
        refine J.skip rfl rfl ?_
        refine J.q rfl rfl (Q.pick_t rfl rfl) ?_
        refine J.q rfl rfl (Q.mv rfl) ?_
        refine J.skip rfl rfl ?_
        refine J.skip rfl rfl ?_
        refine J.q rfl rfl (Q.pick_t rfl rfl) ?_
        refine J.q rfl rfl (Q.not rfl) ?_
        refine J.nil ?_
        refine J.then_n ?_
        refine J.cond_f rfl ?_
        refine J.cskip ?_
        refine J.blk_n ?_
        refine J.then_n ?_
        refine J.region ?_
        refine J.q rfl rfl (Q.add64 rfl rfl (by omega)) ?_
        refine J.q rfl rfl (Q.mv rfl) ?_
        refine J.nil ?_
        have hck : nameCh c = true := by rw [nameCh_iff]; omega
        refine J.again (k + 1) ⟨by omega, all_take_succ hall (by simpa using hc) hck⟩ (by omega) ⟨rfl, rfl, rfl, trivial⟩ rfl
      ·
        first | replace hb19 := X.tt_dec hb19 | replace hb19 := X.tt_not hb19 | replace hb19 := X.ff_dec hb19 | replace hb19 := X.ff_not hb19 | skip
        refine J.q rfl rfl (Q.mv rfl) ?_
        refine J.q rfl rfl (Q.geq rfl rfl) ?_
        refine J.q rfl rfl (Q.mv rfl) ?_
        refine J.cases 22 rfl (fun hb22 => ?_) (fun hb22 => ?_)
        ·
          first | replace hb22 := X.tt_dec hb22 | replace hb22 := X.tt_not hb22 | replace hb22 := X.ff_dec hb22 | replace hb22 := X.ff_not hb22 | skip
          refine J.q rfl rfl (Q.mv rfl) ?_
          refine J.q rfl rfl (Q.leq rfl rfl) ?_
          refine J.q rfl rfl (Q.pick_t rfl rfl) ?_
          refine J.q rfl rfl (Q.pick_f rfl rfl) ?_
          refine J.q rfl rfl (Q.mv rfl) ?_
          refine J.cases 27 rfl (fun hb27 => ?_) (fun hb27 => ?_)
          ·
            first | replace hb27 := X.tt_dec hb27 | replace hb27 := X.tt_not hb27 | replace hb27 := X.ff_dec hb27 | replace hb27 := X.ff_not hb27 | skip
            refine J.skip rfl rfl ?_
            refine J.skip rfl rfl ?_
            refine J.q rfl rfl (Q.pick_t rfl rfl) ?_
            refine J.q rfl rfl (Q.mv rfl) ?_
            refine J.skip rfl rfl ?_
            refine J.skip rfl rfl ?_
            refine J.q rfl rfl (Q.pick_t rfl rfl) ?_
            refine J.q rfl rfl (Q.not rfl) ?_
            refine J.nil ?_
            refine J.then_n ?_
            refine J.cond_f rfl ?_
            refine J.cskip ?_
            refine J.blk_n ?_
            refine J.then_n ?_
            refine J.region ?_
            refine J.q rfl rfl (Q.add64 rfl rfl (by omega)) ?_
            refine J.q rfl rfl (Q.mv rfl) ?_
            refine J.nil ?_
            have hck : nameCh c = true := by rw [nameCh_iff]; omega
            refine J.again (k + 1) ⟨by omega, all_take_succ hall (by simpa using hc) hck⟩ (by omega) ⟨rfl, rfl, rfl, trivial⟩ rfl
          ·
            first | replace hb27 := X.tt_dec hb27 | replace hb27 := X.tt_not hb27 | replace hb27 := X.ff_dec hb27 | replace hb27 := X.ff_not hb27 | skip
            refine J.q rfl rfl (Q.mv rfl) ?_
            refine J.q rfl rfl (Q.eql rfl rfl) ?_
            refine J.q rfl rfl (Q.pick_f rfl rfl) ?_
            refine J.q rfl rfl (Q.mv rfl) ?_
            refine J.cases 31 rfl (fun hb31 => ?_) (fun hb31 => ?_)
            ·
              first | replace hb31 := X.tt_dec hb31 | replace hb31 := X.tt_not hb31 | replace hb31 := X.ff_dec hb31 | replace hb31 := X.ff_not hb31 | skip
              refine J.skip rfl rfl ?_
              refine J.skip rfl rfl ?_
              refine J.q rfl rfl (Q.pick_t rfl rfl) ?_
              refine J.q rfl rfl (Q.not rfl) ?_
              refine J.nil ?_
              refine J.then_n ?_
              refine J.cond_f rfl ?_
              refine J.cskip ?_
              refine J.blk_n ?_
              refine J.then_n ?_
              refine J.region ?_
              refine J.q rfl rfl (Q.add64 rfl rfl (by omega)) ?_
              refine J.q rfl rfl (Q.mv rfl) ?_
              refine J.nil ?_
              have hck : nameCh c = true := by rw [nameCh_iff]; omega
              refine J.again (k + 1) ⟨by omega, all_take_succ hall (by simpa using hc) hck⟩ (by omega) ⟨rfl, rfl, rfl, trivial⟩ rfl
            ·
              first | replace hb31 := X.tt_dec hb31 | replace hb31 := X.tt_not hb31 | replace hb31 := X.ff_dec hb31 | replace hb31 := X.ff_not hb31 | skip
              refine J.q rfl rfl (Q.mv rfl) ?_
              refine J.q rfl rfl (Q.eql rfl rfl) ?_
              refine J.q rfl rfl (Q.pick_f rfl rfl) ?_
              refine J.q rfl rfl (Q.not rfl) ?_
              refine J.nil ?_
              refine J.then_n ?_
              refine J.cases 35 rfl (fun hc35 => ?_) (fun hc35 => ?_)
              ·
                first | replace hc35 := X.tt_dec hc35 | replace hc35 := X.tt_not hc35 | replace hc35 := X.ff_dec hc35 | replace hc35 := X.ff_not hc35 | skip
                refine J.cond_t rfl ?_
                refine J.seq ?_
                refine J.region ?_
                refine J.q rfl rfl (Q.asg rfl) ?_
                refine J.nil ?_
                refine J.then_n ?_
                refine J.cret ?_
                refine J.blk_r ?_
                refine J.then_r ?_
                refine J.lp_r ?_
                refine J.blk_r ?_
                refine J.then_r ?_
                first
                  | (have hck : nameCh c = false := by rw [nameCh_not]; omega
                     refine J.ret1 (B := []) rfl rfl ⟨?_, rfl⟩ rfl
                     rw [nameOK_bad (by simpa using hc) hck])
                  | (refine J.ret1 (B := []) rfl rfl ⟨?_, rfl⟩ rfl
                     have h3 : s.data.toList.all nameCh = true := by rw [← hall, hge, List.take_of_length_le (by omega)]
                     simp only [nameOK, longB, h3, hlen, Bool.and_true]
                     congr 2 <;> exact decide_eq_decide.2 (by omega))
              ·
                first | replace hc35 := X.tt_dec hc35 | replace hc35 := X.tt_not hc35 | replace hc35 := X.ff_dec hc35 | replace hc35 := X.ff_not hc35 | skip
                refine J.cond_f rfl ?_
                refine J.cskip ?_
                refine J.blk_n ?_
                refine J.then_n ?_
                refine J.region ?_
                refine J.q rfl rfl (Q.add64 rfl rfl (by omega)) ?_
                refine J.q rfl rfl (Q.mv rfl) ?_
                refine J.nil ?_
                have hck : nameCh c = true := by rw [nameCh_iff]; omega
                refine J.again (k + 1) ⟨by omega, all_take_succ hall (by simpa using hc) hck⟩ (by omega) ⟨rfl, rfl, rfl, trivial⟩ rfl
        ·
          first | replace hb22 := X.tt_dec hb22 | replace hb22 := X.tt_not hb22 | replace hb22 := X.ff_dec hb22 | replace hb22 := X.ff_not hb22 | skip
          refine J.skip rfl rfl ?_
          refine J.skip rfl rfl ?_
          refine J.q rfl rfl (Q.pick_f rfl rfl) ?_
          refine J.q rfl rfl (Q.pick_f rfl rfl) ?_
          refine J.q rfl rfl (Q.mv rfl) ?_
          refine J.q rfl rfl (Q.mv rfl) ?_
          refine J.q rfl rfl (Q.eql rfl rfl) ?_
          refine J.q rfl rfl (Q.pick_f rfl rfl) ?_
          refine J.q rfl rfl (Q.mv rfl) ?_
          refine J.cases 31 rfl (fun hb31 => ?_) (fun hb31 => ?_)
          ·
            first | replace hb31 := X.tt_dec hb31 | replace hb31 := X.tt_not hb31 | replace hb31 := X.ff_dec hb31 | replace hb31 := X.ff_not hb31 | skip
            refine J.skip rfl rfl ?_
            refine J.skip rfl rfl ?_
            refine J.q rfl rfl (Q.pick_t rfl rfl) ?_
            refine J.q rfl rfl (Q.not rfl) ?_
            refine J.nil ?_
            refine J.then_n ?_
            refine J.cond_f rfl ?_
            refine J.cskip ?_
            refine J.blk_n ?_
            refine J.then_n ?_
            refine J.region ?_
            refine J.q rfl rfl (Q.add64 rfl rfl (by omega)) ?_
            refine J.q rfl rfl (Q.mv rfl) ?_
            refine J.nil ?_
            have hck : nameCh c = true := by rw [nameCh_iff]; omega
            refine J.again (k + 1) ⟨by omega, all_take_succ hall (by simpa using hc) hck⟩ (by omega) ⟨rfl, rfl, rfl, trivial⟩ rfl
          ·
            first | replace hb31 := X.tt_dec hb31 | replace hb31 := X.tt_not hb31 | replace hb31 := X.ff_dec hb31 | replace hb31 := X.ff_not hb31 | skip
            refine J.q rfl rfl (Q.mv rfl) ?_
            refine J.q rfl rfl (Q.eql rfl rfl) ?_
            refine J.q rfl rfl (Q.pick_f rfl rfl) ?_
            refine J.q rfl rfl (Q.not rfl) ?_
            refine J.nil ?_
            refine J.then_n ?_
            refine J.cases 35 rfl (fun hc35 => ?_) (fun hc35 => ?_)
            ·
              first | replace hc35 := X.tt_dec hc35 | replace hc35 := X.tt_not hc35 | replace hc35 := X.ff_dec hc35 | replace hc35 := X.ff_not hc35 | skip
              refine J.cond_t rfl ?_
              refine J.seq ?_
              refine J.region ?_
              refine J.q rfl rfl (Q.asg rfl) ?_
              refine J.nil ?_
              refine J.then_n ?_
              refine J.cret ?_
              refine J.blk_r ?_
              refine J.then_r ?_
              refine J.lp_r ?_
              refine J.blk_r ?_
              refine J.then_r ?_
              first
                | (have hck : nameCh c = false := by rw [nameCh_not]; omega
                   refine J.ret1 (B := []) rfl rfl ⟨?_, rfl⟩ rfl
                   rw [nameOK_bad (by simpa using hc) hck])
                | (refine J.ret1 (B := []) rfl rfl ⟨?_, rfl⟩ rfl
                   have h3 : s.data.toList.all nameCh = true := by rw [← hall, hge, List.take_of_length_le (by omega)]
                   simp only [nameOK, longB, h3, hlen, Bool.and_true]
                   congr 2 <;> exact decide_eq_decide.2 (by omega))
            ·
              first | replace hc35 := X.tt_dec hc35 | replace hc35 := X.tt_not hc35 | replace hc35 := X.ff_dec hc35 | replace hc35 := X.ff_not hc35 | skip
              refine J.cond_f rfl ?_
              refine J.cskip ?_
              refine J.blk_n ?_
              refine J.then_n ?_
              refine J.region ?_
              refine J.q rfl rfl (Q.add64 rfl rfl (by omega)) ?_
              refine J.q rfl rfl (Q.mv rfl) ?_
              refine J.nil ?_
              have hck : nameCh c = true := by rw [nameCh_iff]; omega
              refine J.again (k + 1) ⟨by omega, all_take_succ hall (by simpa using hc) hck⟩ (by omega) ⟨rfl, rfl, rfl, trivial⟩ rfl
    ·
      first | replace hb15 := X.tt_dec hb15 | replace hb15 := X.tt_not hb15 | replace hb15 := X.ff_dec hb15 | replace hb15 := X.ff_not hb15 | skip
      refine J.skip rfl rfl ?_
      refine J.skip rfl rfl ?_
      refine J.q rfl rfl (Q.pick_f rfl rfl) ?_
      refine J.q rfl rfl (Q.mv rfl) ?_
      refine J.q rfl rfl (Q.mv rfl) ?_
      refine J.q rfl rfl (Q.geq rfl rfl) ?_
      refine J.q rfl rfl (Q.mv rfl) ?_
      refine J.cases 22 rfl (fun hb22 => ?_) (fun hb22 => ?_)
      ·
        first | replace hb22 := X.tt_dec hb22 | replace hb22 := X.tt_not hb22 | replace hb22 := X.ff_dec hb22 | replace hb22 := X.ff_not hb22 | skip
        refine J.q rfl rfl (Q.mv rfl) ?_
        refine J.q rfl rfl (Q.leq rfl rfl) ?_
        refine J.q rfl rfl (Q.pick_t rfl rfl) ?_
        refine J.q rfl rfl (Q.pick_f rfl rfl) ?_
        refine J.q rfl rfl (Q.mv rfl) ?_
        refine J.cases 27 rfl (fun hb27 => ?_) (fun hb27 => ?_)
        ·
          first | replace hb27 := X.tt_dec hb27 | replace hb27 := X.tt_not hb27 | replace hb27 := X.ff_dec hb27 | replace hb27 := X.ff_not hb27 | skip
          refine J.skip rfl rfl ?_
          refine J.skip rfl rfl ?_
          refine J.q rfl rfl (Q.pick_t rfl rfl) ?_
          refine J.q rfl rfl (Q.mv rfl) ?_
          refine J.skip rfl rfl ?_
          refine J.skip rfl rfl ?_
          refine J.q rfl rfl (Q.pick_t rfl rfl) ?_
          refine J.q rfl rfl (Q.not rfl) ?_
          refine J.nil ?_
          refine J.then_n ?_
          refine J.cond_f rfl ?_
          refine J.cskip ?_
          refine J.blk_n ?_
          refine J.then_n ?_
          refine J.region ?_
          refine J.q rfl rfl (Q.add64 rfl rfl (by omega)) ?_
          refine J.q rfl rfl (Q.mv rfl) ?_
          refine J.nil ?_
          have hck : nameCh c = true := by rw [nameCh_iff]; omega
          refine J.again (k + 1) ⟨by omega, all_take_succ hall (by simpa using hc) hck⟩ (by omega) ⟨rfl, rfl, rfl, trivial⟩ rfl
        ·
          first | replace hb27 := X.tt_dec hb27 | replace hb27 := X.tt_not hb27 | replace hb27 := X.ff_dec hb27 | replace hb27 := X.ff_not hb27 | skip
          refine J.q rfl rfl (Q.mv rfl) ?_
          refine J.q rfl rfl (Q.eql rfl rfl) ?_
          refine J.q rfl rfl (Q.pick_f rfl rfl) ?_
          refine J.q rfl rfl (Q.mv rfl) ?_
          refine J.cases 31 rfl (fun hb31 => ?_) (fun hb31 => ?_)
          ·
            first | replace hb31 := X.tt_dec hb31 | replace hb31 := X.tt_not hb31 | replace hb31 := X.ff_dec hb31 | replace hb31 := X.ff_not hb31 | skip
            refine J.skip rfl rfl ?_
            refine J.skip rfl rfl ?_
            refine J.q rfl rfl (Q.pick_t rfl rfl) ?_
            refine J.q rfl rfl (Q.not rfl) ?_
            refine J.nil ?_
            refine J.then_n ?_
            refine J.cond_f rfl ?_
            refine J.cskip ?_
            refine J.blk_n ?_
            refine J.then_n ?_
            refine J.region ?_
            refine J.q rfl rfl (Q.add64 rfl rfl (by omega)) ?_
            refine J.q rfl rfl (Q.mv rfl) ?_
            refine J.nil ?_
            have hck : nameCh c = true := by rw [nameCh_iff]; omega
            refine J.again (k + 1) ⟨by omega, all_take_succ hall (by simpa using hc) hck⟩ (by omega) ⟨rfl, rfl, rfl, trivial⟩ rfl
          ·
            first | replace hb31 := X.tt_dec hb31 | replace hb31 := X.tt_not hb31 | replace hb31 := X.ff_dec hb31 | replace hb31 := X.ff_not hb31 | skip
            refine J.q rfl rfl (Q.mv rfl) ?_
            refine J.q rfl rfl (Q.eql rfl rfl) ?_
            refine J.q rfl rfl (Q.pick_f rfl rfl) ?_
            refine J.q rfl rfl (Q.not rfl) ?_
            refine J.nil ?_
            refine J.then_n ?_
            refine J.cases 35 rfl (fun hc35 => ?_) (fun hc35 => ?_)
            ·
              first | replace hc35 := X.tt_dec hc35 | replace hc35 := X.tt_not hc35 | replace hc35 := X.ff_dec hc35 | replace hc35 := X.ff_not hc35 | skip
              refine J.cond_t rfl ?_
              refine J.seq ?_
              refine J.region ?_
              refine J.q rfl rfl (Q.asg rfl) ?_
              refine J.nil ?_
              refine J.then_n ?_
              refine J.cret ?_
              refine J.blk_r ?_
              refine J.then_r ?_
              refine J.lp_r ?_
              refine J.blk_r ?_
              refine J.then_r ?_
              first
                | (have hck : nameCh c = false := by rw [nameCh_not]; omega
                   refine J.ret1 (B := []) rfl rfl ⟨?_, rfl⟩ rfl
                   rw [nameOK_bad (by simpa using hc) hck])
                | (refine J.ret1 (B := []) rfl rfl ⟨?_, rfl⟩ rfl
                   have h3 : s.data.toList.all nameCh = true := by rw [← hall, hge, List.take_of_length_le (by omega)]
                   simp only [nameOK, longB, h3, hlen, Bool.and_true]
                   congr 2 <;> exact decide_eq_decide.2 (by omega))
            ·
              first | replace hc35 := X.tt_dec hc35 | replace hc35 := X.tt_not hc35 | replace hc35 := X.ff_dec hc35 | replace hc35 := X.ff_not hc35 | skip
              refine J.cond_f rfl ?_
              refine J.cskip ?_
              refine J.blk_n ?_
              refine J.then_n ?_
              refine J.region ?_
              refine J.q rfl rfl (Q.add64 rfl rfl (by omega)) ?_
              refine J.q rfl rfl (Q.mv rfl) ?_
              refine J.nil ?_
              have hck : nameCh c = true := by rw [nameCh_iff]; omega
              refine J.again (k + 1) ⟨by omega, all_take_succ hall (by simpa using hc) hck⟩ (by omega) ⟨rfl, rfl, rfl, trivial⟩ rfl
      ·
        first | replace hb22 := X.tt_dec hb22 | replace hb22 := X.tt_not hb22 | replace hb22 := X.ff_dec hb22 | replace hb22 := X.ff_not hb22 | skip
        refine J.skip rfl rfl ?_
        refine J.skip rfl rfl ?_
        refine J.q rfl rfl (Q.pick_f rfl rfl) ?_
        refine J.q rfl rfl (Q.pick_f rfl rfl) ?_
        refine J.q rfl rfl (Q.mv rfl) ?_
        refine J.q rfl rfl (Q.mv rfl) ?_
        refine J.q rfl rfl (Q.eql rfl rfl) ?_
        refine J.q rfl rfl (Q.pick_f rfl rfl) ?_
        refine J.q rfl rfl (Q.mv rfl) ?_
        refine J.cases 31 rfl (fun hb31 => ?_) (fun hb31 => ?_)
        ·
          first | replace hb31 := X.tt_dec hb31 | replace hb31 := X.tt_not hb31 | replace hb31 := X.ff_dec hb31 | replace hb31 := X.ff_not hb31 | skip
          refine J.skip rfl rfl ?_
          refine J.skip rfl rfl ?_
          refine J.q rfl rfl (Q.pick_t rfl rfl) ?_
          refine J.q rfl rfl (Q.not rfl) ?_
          refine J.nil ?_
          refine J.then_n ?_
          refine J.cond_f rfl ?_
          refine J.cskip ?_
          refine J.blk_n ?_
          refine J.then_n ?_
          refine J.region ?_
          refine J.q rfl rfl (Q.add64 rfl rfl (by omega)) ?_
          refine J.q rfl rfl (Q.mv rfl) ?_
          refine J.nil ?_
          have hck : nameCh c = true := by rw [nameCh_iff]; omega
          refine J.again (k + 1) ⟨by omega, all_take_succ hall (by simpa using hc) hck⟩ (by omega) ⟨rfl, rfl, rfl, trivial⟩ rfl
        ·
          first | replace hb31 := X.tt_dec hb31 | replace hb31 := X.tt_not hb31 | replace hb31 := X.ff_dec hb31 | replace hb31 := X.ff_not hb31 | skip
          refine J.q rfl rfl (Q.mv rfl) ?_
          refine J.q rfl rfl (Q.eql rfl rfl) ?_
          refine J.q rfl rfl (Q.pick_f rfl rfl) ?_
          refine J.q rfl rfl (Q.not rfl) ?_
          refine J.nil ?_
          refine J.then_n ?_
          refine J.cases 35 rfl (fun hc35 => ?_) (fun hc35 => ?_)
          ·
            first | replace hc35 := X.tt_dec hc35 | replace hc35 := X.tt_not hc35 | replace hc35 := X.ff_dec hc35 | replace hc35 := X.ff_not hc35 | skip
            refine J.cond_t rfl ?_
            refine J.seq ?_
            refine J.region ?_
            refine J.q rfl rfl (Q.asg rfl) ?_
            refine J.nil ?_
            refine J.then_n ?_
            refine J.cret ?_
            refine J.blk_r ?_
            refine J.then_r ?_
            refine J.lp_r ?_
            refine J.blk_r ?_
            refine J.then_r ?_
            first
              | (have hck : nameCh c = false := by rw [nameCh_not]; omega
                 refine J.ret1 (B := []) rfl rfl ⟨?_, rfl⟩ rfl
                 rw [nameOK_bad (by simpa using hc) hck])
              | (refine J.ret1 (B := []) rfl rfl ⟨?_, rfl⟩ rfl
                 have h3 : s.data.toList.all nameCh = true := by rw [← hall, hge, List.take_of_length_le (by omega)]
                 simp only [nameOK, longB, h3, hlen, Bool.and_true]
                 congr 2 <;> exact decide_eq_decide.2 (by omega))
          ·
            first | replace hc35 := X.tt_dec hc35 | replace hc35 := X.tt_not hc35 | replace hc35 := X.ff_dec hc35 | replace hc35 := X.ff_not hc35 | skip
            refine J.cond_f rfl ?_
            refine J.cskip ?_
            refine J.blk_n ?_
            refine J.then_n ?_
            refine J.region ?_
            refine J.q rfl rfl (Q.add64 rfl rfl (by omega)) ?_
            refine J.q rfl rfl (Q.mv rfl) ?_
            refine J.nil ?_
            have hck : nameCh c = true := by rw [nameCh_iff]; omega
            refine J.again (k + 1) ⟨by omega, all_take_succ hall (by simpa using hc) hck⟩ (by omega) ⟨rfl, rfl, rfl, trivial⟩ rfl
  ·
    first | replace hc8 := X.tt_dec hc8 | replace hc8 := X.tt_not hc8 | replace hc8 := X.ff_dec hc8 | replace hc8 := X.ff_not hc8 | skip
    have hge : k = s.size := by omega
    refine J.cond_f rfl ?_
    refine J.exit ?_
    refine J.then_x ?_
    refine J.lp_x ?_
    refine J.blk_x ?_
    refine J.then_n ?_
    refine J.seq ?_
    refine J.region ?_
    refine J.q rfl rfl (Q.mv rfl) ?_
    refine J.call Try.call19 (long_spec s 1 64) [] rfl rfl rfl rfl ?_
    rintro _ _ ⟨rfl, rfl⟩
    refine J.norm rfl ?_
    refine J.q rfl rfl (Q.asg rfl) ?_
    refine J.nil ?_
    refine J.then_n ?_
    refine J.cret ?_
    first
      | (have hck : nameCh c = false := by rw [nameCh_not]; omega
         refine J.ret1 (B := []) rfl rfl ⟨?_, rfl⟩ rfl
         rw [nameOK_bad (by simpa using hc) hck])
      | (refine J.ret1 (B := []) rfl rfl ⟨?_, rfl⟩ rfl
         have h3 : s.data.toList.all nameCh = true := by rw [← hall, hge, List.take_of_length_le (by omega)]
         simp only [nameOK, longB, h3, hlen, Bool.and_true]
         congr 2 <;> exact decide_eq_decide.2 (by omega))

theorem rname_spec (s : ByteArray) (hs : s.size ≤ 9223372036854775807) : FSpec Try.prog 21 [.string s] [] (fun v B => v = .bool (nameOK s.data.toList) ∧ B = []) := by
  have hlen : s.data.toList.length = s.size := by simp
  refine FSpec.of Try.func21 rfl Try.ntmps21 rfl fun W0 F => ?_
  refine J.seq ?_
  refine J.region ?_
  refine J.q rfl rfl (Q.asg rfl) ?_
  refine J.nil ?_
  refine J.then_n ?_
  refine J.seq ?_
  refine J.seq ?_
  refine J.region ?_
  refine J.q rfl rfl (Q.mv rfl) ?_
  refine J.q rfl rfl (Q.lenS Try.runUnderlying9 rfl) ?_
  refine J.q rfl rfl (Q.lss rfl rfl) ?_
  refine J.q rfl rfl (Q.mv rfl) ?_
  refine J.cases 8 rfl (fun hb8 => ?_) (fun hb8 => ?_)
  ·
    first | replace hb8 := X.tt_dec hb8 | replace hb8 := X.tt_not hb8 | replace hb8 := X.ff_dec hb8 | replace hb8 := X.ff_not hb8 | skip
    refine J.skip rfl rfl ?_
    refine J.skip rfl rfl ?_
    refine J.skip rfl rfl ?_
    refine J.q rfl rfl (Q.pick_t rfl rfl) ?_
    refine J.nil ?_
    refine J.then_n ?_
    refine J.cond_t rfl ?_
    refine J.seq ?_
    refine J.region ?_
    refine J.q rfl rfl (Q.asg rfl) ?_
    refine J.nil ?_
    refine J.then_n ?_
    refine J.cret ?_
    refine J.then_r ?_
    refine J.ret1 (B := []) rfl rfl ⟨?_, rfl⟩ rfl
    rw [nameOK_short (l := s.data.toList) (by omega)]
  ·
    first | replace hb8 := X.tt_dec hb8 | replace hb8 := X.tt_not hb8 | replace hb8 := X.ff_dec hb8 | replace hb8 := X.ff_not hb8 | skip
    refine J.q rfl rfl (Q.mv rfl) ?_
    refine J.q rfl rfl (Q.lenS Try.runUnderlying9 rfl) ?_
    refine J.q rfl rfl (Q.gtr rfl rfl) ?_
    refine J.q rfl rfl (Q.pick_f rfl rfl) ?_
    refine J.nil ?_
    refine J.then_n ?_
    refine J.cases 12 rfl (fun hc12 => ?_) (fun hc12 => ?_)
    ·
      first | replace hc12 := X.tt_dec hc12 | replace hc12 := X.tt_not hc12 | replace hc12 := X.ff_dec hc12 | replace hc12 := X.ff_not hc12 | skip
      refine J.cond_t rfl ?_
      refine J.seq ?_
      refine J.region ?_
      refine J.q rfl rfl (Q.asg rfl) ?_
      refine J.nil ?_
      refine J.then_n ?_
      refine J.cret ?_
      refine J.then_r ?_
      refine J.ret1 (B := []) rfl rfl ⟨?_, rfl⟩ rfl
      rw [nameOK_long (l := s.data.toList) (by omega)]
    ·
      first | replace hc12 := X.tt_dec hc12 | replace hc12 := X.tt_not hc12 | replace hc12 := X.ff_dec hc12 | replace hc12 := X.ff_not hc12 | skip
      refine J.cond_f rfl ?_
      refine J.cskip ?_
      refine J.then_n ?_
      refine J.seq ?_
      refine J.seq ?_
      refine J.region ?_
      refine J.q rfl rfl (Q.asg rfl) ?_
      refine J.nil ?_
      refine J.then_n ?_
      refine J.block ?_
      refine J.loop (fun k : Nat => k ≤ s.size ∧ (s.data.toList.take k).all nameCh = true) (fun k => s.size - k) (fun k => [(0, .string s), (3, .int .i64 k)]) (fun _ => [F]) 0 ⟨by omega, rfl⟩ ⟨rfl, rfl, trivial⟩ rfl fun k hk => ?_
      obtain ⟨hk, hall⟩ := hk
      refine J.seq ?_
      refine J.seq ?_
      refine J.region ?_
      refine J.q rfl rfl (Q.mv rfl) ?_
      refine J.q rfl rfl (Q.mv rfl) ?_
      refine J.q rfl rfl (Q.lenS Try.runUnderlying9 rfl) ?_
      refine J.q rfl rfl (Q.lss rfl rfl) ?_
      refine J.nil ?_
      refine J.then_n ?_
      refine J.cases 16 rfl (fun hc16 => ?_) (fun hc16 => ?_)
      ·
        first | replace hc16 := X.tt_dec hc16 | replace hc16 := X.tt_not hc16 | replace hc16 := X.ff_dec hc16 | replace hc16 := X.ff_not hc16 | skip
        have hlt : k < s.size := by omega
        refine J.cond_t rfl ?_
        refine J.cskip ?_
        refine J.then_n ?_
        refine J.seq ?_
        refine J.block ?_
        refine J.seq ?_
        refine J.region ?_
        refine J.q rfl rfl (Q.mv rfl) ?_
        refine J.q rfl rfl (Q.mv rfl) ?_
        obtain ⟨c, hc⟩ : ∃ c, s.data.toList[((k : Int)).toNat]? = some c := ⟨_, List.getElem?_eq_getElem (by simp only [Int.toNat_natCast]; omega)⟩
        refine J.q rfl rfl (Q.idxs Try.runUnderlying9 rfl rfl (by omega) hc) ?_
        refine J.q rfl rfl (Q.asg rfl) ?_
        refine J.nil ?_
        refine J.then_n ?_
        refine J.seq ?_
        refine J.region ?_
        refine J.q rfl rfl (Q.mv rfl) ?_
        refine J.q rfl rfl (Q.geq rfl rfl) ?_
        refine J.q rfl rfl (Q.mv rfl) ?_
        refine J.cases 24 rfl (fun hb24 => ?_) (fun hb24 => ?_)
        ·
          first | replace hb24 := X.tt_dec hb24 | replace hb24 := X.tt_not hb24 | replace hb24 := X.ff_dec hb24 | replace hb24 := X.ff_not hb24 | skip
          refine J.q rfl rfl (Q.mv rfl) ?_
          refine J.q rfl rfl (Q.leq rfl rfl) ?_
          refine J.q rfl rfl (Q.pick_t rfl rfl) ?_
          refine J.q rfl rfl (Q.mv rfl) ?_
          refine J.cases 28 rfl (fun hb28 => ?_) (fun hb28 => ?_)
          ·
            first | replace hb28 := X.tt_dec hb28 | replace hb28 := X.tt_not hb28 | replace hb28 := X.ff_dec hb28 | replace hb28 := X.ff_not hb28 | skip
            refine J.skip rfl rfl ?_
            refine J.skip rfl rfl ?_
            refine J.skip rfl rfl ?_
            refine J.skip rfl rfl ?_
            refine J.skip rfl rfl ?_
            refine J.skip rfl rfl ?_
            refine J.q rfl rfl (Q.pick_t rfl rfl) ?_
            refine J.q rfl rfl (Q.mv rfl) ?_
            refine J.skip rfl rfl ?_
            refine J.skip rfl rfl ?_
            refine J.q rfl rfl (Q.pick_t rfl rfl) ?_
            refine J.q rfl rfl (Q.mv rfl) ?_
            refine J.skip rfl rfl ?_
            refine J.skip rfl rfl ?_
            refine J.q rfl rfl (Q.pick_t rfl rfl) ?_
            refine J.q rfl rfl (Q.not rfl) ?_
            refine J.nil ?_
            refine J.then_n ?_
            refine J.cond_f rfl ?_
            refine J.cskip ?_
            refine J.blk_n ?_
            refine J.then_n ?_
            refine J.region ?_
            refine J.q rfl rfl (Q.mv rfl) ?_
            refine J.q rfl rfl (Q.add64 rfl rfl (by omega)) ?_
            refine J.q rfl rfl (Q.asg rfl) ?_
            refine J.nil ?_
            have hck : nameCh c = true := by rw [nameCh_iff]; omega
            refine J.again (k + 1) ⟨by omega, all_take_succ hall (by simpa using hc) hck⟩ (by omega) ⟨rfl, rfl, trivial⟩ rfl
          ·
            first | replace hb28 := X.tt_dec hb28 | replace hb28 := X.tt_not hb28 | replace hb28 := X.ff_dec hb28 | replace hb28 := X.ff_not hb28 | skip
            refine J.q rfl rfl (Q.mv rfl) ?_
            refine J.q rfl rfl (Q.geq rfl rfl) ?_
            refine J.q rfl rfl (Q.mv rfl) ?_
            refine J.cases 31 rfl (fun hb31 => ?_) (fun hb31 => ?_)
            ·
              first | replace hb31 := X.tt_dec hb31 | replace hb31 := X.tt_not hb31 | replace hb31 := X.ff_dec hb31 | replace hb31 := X.ff_not hb31 | skip
              refine J.q rfl rfl (Q.mv rfl) ?_
              refine J.q rfl rfl (Q.leq rfl rfl) ?_
              refine J.q rfl rfl (Q.pick_t rfl rfl) ?_
              refine J.q rfl rfl (Q.pick_f rfl rfl) ?_
              refine J.q rfl rfl (Q.mv rfl) ?_
              refine J.cases 36 rfl (fun hb36 => ?_) (fun hb36 => ?_)
              ·
                first | replace hb36 := X.tt_dec hb36 | replace hb36 := X.tt_not hb36 | replace hb36 := X.ff_dec hb36 | replace hb36 := X.ff_not hb36 | skip
                refine J.skip rfl rfl ?_
                refine J.skip rfl rfl ?_
                refine J.q rfl rfl (Q.pick_t rfl rfl) ?_
                refine J.q rfl rfl (Q.mv rfl) ?_
                refine J.skip rfl rfl ?_
                refine J.skip rfl rfl ?_
                refine J.q rfl rfl (Q.pick_t rfl rfl) ?_
                refine J.q rfl rfl (Q.not rfl) ?_
                refine J.nil ?_
                refine J.then_n ?_
                refine J.cond_f rfl ?_
                refine J.cskip ?_
                refine J.blk_n ?_
                refine J.then_n ?_
                refine J.region ?_
                refine J.q rfl rfl (Q.mv rfl) ?_
                refine J.q rfl rfl (Q.add64 rfl rfl (by omega)) ?_
                refine J.q rfl rfl (Q.asg rfl) ?_
                refine J.nil ?_
                have hck : nameCh c = true := by rw [nameCh_iff]; omega
                refine J.again (k + 1) ⟨by omega, all_take_succ hall (by simpa using hc) hck⟩ (by omega) ⟨rfl, rfl, trivial⟩ rfl
              ·
                first | replace hb36 := X.tt_dec hb36 | replace hb36 := X.tt_not hb36 | replace hb36 := X.ff_dec hb36 | replace hb36 := X.ff_not hb36 | skip
                refine J.q rfl rfl (Q.mv rfl) ?_
                refine J.q rfl rfl (Q.eql rfl rfl) ?_
                refine J.q rfl rfl (Q.pick_f rfl rfl) ?_
                refine J.q rfl rfl (Q.mv rfl) ?_
                refine J.cases 40 rfl (fun hb40 => ?_) (fun hb40 => ?_)
                ·
                  first | replace hb40 := X.tt_dec hb40 | replace hb40 := X.tt_not hb40 | replace hb40 := X.ff_dec hb40 | replace hb40 := X.ff_not hb40 | skip
                  refine J.skip rfl rfl ?_
                  refine J.skip rfl rfl ?_
                  refine J.q rfl rfl (Q.pick_t rfl rfl) ?_
                  refine J.q rfl rfl (Q.not rfl) ?_
                  refine J.nil ?_
                  refine J.then_n ?_
                  refine J.cond_f rfl ?_
                  refine J.cskip ?_
                  refine J.blk_n ?_
                  refine J.then_n ?_
                  refine J.region ?_
                  refine J.q rfl rfl (Q.mv rfl) ?_
                  refine J.q rfl rfl (Q.add64 rfl rfl (by omega)) ?_
                  refine J.q rfl rfl (Q.asg rfl) ?_
                  refine J.nil ?_
                  have hck : nameCh c = true := by rw [nameCh_iff]; omega
                  refine J.again (k + 1) ⟨by omega, all_take_succ hall (by simpa using hc) hck⟩ (by omega) ⟨rfl, rfl, trivial⟩ rfl
                ·
                  first | replace hb40 := X.tt_dec hb40 | replace hb40 := X.tt_not hb40 | replace hb40 := X.ff_dec hb40 | replace hb40 := X.ff_not hb40 | skip
                  refine J.q rfl rfl (Q.mv rfl) ?_
                  refine J.q rfl rfl (Q.eql rfl rfl) ?_
                  refine J.q rfl rfl (Q.pick_f rfl rfl) ?_
                  refine J.q rfl rfl (Q.not rfl) ?_
                  refine J.nil ?_
                  refine J.then_n ?_
                  refine J.cases 44 rfl (fun hc44 => ?_) (fun hc44 => ?_)
                  ·
                    first | replace hc44 := X.tt_dec hc44 | replace hc44 := X.tt_not hc44 | replace hc44 := X.ff_dec hc44 | replace hc44 := X.ff_not hc44 | skip
                    refine J.cond_t rfl ?_
                    refine J.seq ?_
                    refine J.region ?_
                    refine J.q rfl rfl (Q.asg rfl) ?_
                    refine J.nil ?_
                    refine J.then_n ?_
                    refine J.cret ?_
                    refine J.blk_r ?_
                    refine J.then_r ?_
                    refine J.lp_r ?_
                    refine J.blk_r ?_
                    refine J.then_r ?_
                    first
                      | (have hck : nameCh c = false := by rw [nameCh_not]; omega
                         refine J.ret1 (B := []) rfl rfl ⟨?_, rfl⟩ rfl
                         rw [nameOK_bad (by simpa using hc) hck])
                      | (refine J.ret1 (B := []) rfl rfl ⟨?_, rfl⟩ rfl
                         rw [nameOK_good (by omega) (by omega) (by rw [← hall, hge, List.take_of_length_le (by omega)])])
                  ·
                    first | replace hc44 := X.tt_dec hc44 | replace hc44 := X.tt_not hc44 | replace hc44 := X.ff_dec hc44 | replace hc44 := X.ff_not hc44 | skip
                    refine J.cond_f rfl ?_
                    refine J.cskip ?_
                    refine J.blk_n ?_
                    refine J.then_n ?_
                    refine J.region ?_
                    refine J.q rfl rfl (Q.mv rfl) ?_
                    refine J.q rfl rfl (Q.add64 rfl rfl (by omega)) ?_
                    refine J.q rfl rfl (Q.asg rfl) ?_
                    refine J.nil ?_
                    have hck : nameCh c = true := by rw [nameCh_iff]; omega
                    refine J.again (k + 1) ⟨by omega, all_take_succ hall (by simpa using hc) hck⟩ (by omega) ⟨rfl, rfl, trivial⟩ rfl
            ·
              first | replace hb31 := X.tt_dec hb31 | replace hb31 := X.tt_not hb31 | replace hb31 := X.ff_dec hb31 | replace hb31 := X.ff_not hb31 | skip
              refine J.skip rfl rfl ?_
              refine J.skip rfl rfl ?_
              refine J.q rfl rfl (Q.pick_f rfl rfl) ?_
              refine J.q rfl rfl (Q.pick_f rfl rfl) ?_
              refine J.q rfl rfl (Q.mv rfl) ?_
              refine J.q rfl rfl (Q.mv rfl) ?_
              refine J.q rfl rfl (Q.eql rfl rfl) ?_
              refine J.q rfl rfl (Q.pick_f rfl rfl) ?_
              refine J.q rfl rfl (Q.mv rfl) ?_
              refine J.cases 40 rfl (fun hb40 => ?_) (fun hb40 => ?_)
              ·
                first | replace hb40 := X.tt_dec hb40 | replace hb40 := X.tt_not hb40 | replace hb40 := X.ff_dec hb40 | replace hb40 := X.ff_not hb40 | skip
                refine J.skip rfl rfl ?_
                refine J.skip rfl rfl ?_
                refine J.q rfl rfl (Q.pick_t rfl rfl) ?_
                refine J.q rfl rfl (Q.not rfl) ?_
                refine J.nil ?_
                refine J.then_n ?_
                refine J.cond_f rfl ?_
                refine J.cskip ?_
                refine J.blk_n ?_
                refine J.then_n ?_
                refine J.region ?_
                refine J.q rfl rfl (Q.mv rfl) ?_
                refine J.q rfl rfl (Q.add64 rfl rfl (by omega)) ?_
                refine J.q rfl rfl (Q.asg rfl) ?_
                refine J.nil ?_
                have hck : nameCh c = true := by rw [nameCh_iff]; omega
                refine J.again (k + 1) ⟨by omega, all_take_succ hall (by simpa using hc) hck⟩ (by omega) ⟨rfl, rfl, trivial⟩ rfl
              ·
                first | replace hb40 := X.tt_dec hb40 | replace hb40 := X.tt_not hb40 | replace hb40 := X.ff_dec hb40 | replace hb40 := X.ff_not hb40 | skip
                refine J.q rfl rfl (Q.mv rfl) ?_
                refine J.q rfl rfl (Q.eql rfl rfl) ?_
                refine J.q rfl rfl (Q.pick_f rfl rfl) ?_
                refine J.q rfl rfl (Q.not rfl) ?_
                refine J.nil ?_
                refine J.then_n ?_
                refine J.cases 44 rfl (fun hc44 => ?_) (fun hc44 => ?_)
                ·
                  first | replace hc44 := X.tt_dec hc44 | replace hc44 := X.tt_not hc44 | replace hc44 := X.ff_dec hc44 | replace hc44 := X.ff_not hc44 | skip
                  refine J.cond_t rfl ?_
                  refine J.seq ?_
                  refine J.region ?_
                  refine J.q rfl rfl (Q.asg rfl) ?_
                  refine J.nil ?_
                  refine J.then_n ?_
                  refine J.cret ?_
                  refine J.blk_r ?_
                  refine J.then_r ?_
                  refine J.lp_r ?_
                  refine J.blk_r ?_
                  refine J.then_r ?_
                  first
                    | (have hck : nameCh c = false := by rw [nameCh_not]; omega
                       refine J.ret1 (B := []) rfl rfl ⟨?_, rfl⟩ rfl
                       rw [nameOK_bad (by simpa using hc) hck])
                    | (refine J.ret1 (B := []) rfl rfl ⟨?_, rfl⟩ rfl
                       rw [nameOK_good (by omega) (by omega) (by rw [← hall, hge, List.take_of_length_le (by omega)])])
                ·
                  first | replace hc44 := X.tt_dec hc44 | replace hc44 := X.tt_not hc44 | replace hc44 := X.ff_dec hc44 | replace hc44 := X.ff_not hc44 | skip
                  refine J.cond_f rfl ?_
                  refine J.cskip ?_
                  refine J.blk_n ?_
                  refine J.then_n ?_
                  refine J.region ?_
                  refine J.q rfl rfl (Q.mv rfl) ?_
                  refine J.q rfl rfl (Q.add64 rfl rfl (by omega)) ?_
                  refine J.q rfl rfl (Q.asg rfl) ?_
                  refine J.nil ?_
                  have hck : nameCh c = true := by rw [nameCh_iff]; omega
                  refine J.again (k + 1) ⟨by omega, all_take_succ hall (by simpa using hc) hck⟩ (by omega) ⟨rfl, rfl, trivial⟩ rfl
        ·
          first | replace hb24 := X.tt_dec hb24 | replace hb24 := X.tt_not hb24 | replace hb24 := X.ff_dec hb24 | replace hb24 := X.ff_not hb24 | skip
          refine J.skip rfl rfl ?_
          refine J.skip rfl rfl ?_
          refine J.q rfl rfl (Q.pick_f rfl rfl) ?_
          refine J.q rfl rfl (Q.mv rfl) ?_
          refine J.q rfl rfl (Q.mv rfl) ?_
          refine J.q rfl rfl (Q.geq rfl rfl) ?_
          refine J.q rfl rfl (Q.mv rfl) ?_
          refine J.cases 31 rfl (fun hb31 => ?_) (fun hb31 => ?_)
          ·
            first | replace hb31 := X.tt_dec hb31 | replace hb31 := X.tt_not hb31 | replace hb31 := X.ff_dec hb31 | replace hb31 := X.ff_not hb31 | skip
            refine J.q rfl rfl (Q.mv rfl) ?_
            refine J.q rfl rfl (Q.leq rfl rfl) ?_
            refine J.q rfl rfl (Q.pick_t rfl rfl) ?_
            refine J.q rfl rfl (Q.pick_f rfl rfl) ?_
            refine J.q rfl rfl (Q.mv rfl) ?_
            refine J.cases 36 rfl (fun hb36 => ?_) (fun hb36 => ?_)
            ·
              first | replace hb36 := X.tt_dec hb36 | replace hb36 := X.tt_not hb36 | replace hb36 := X.ff_dec hb36 | replace hb36 := X.ff_not hb36 | skip
              refine J.skip rfl rfl ?_
              refine J.skip rfl rfl ?_
              refine J.q rfl rfl (Q.pick_t rfl rfl) ?_
              refine J.q rfl rfl (Q.mv rfl) ?_
              refine J.skip rfl rfl ?_
              refine J.skip rfl rfl ?_
              refine J.q rfl rfl (Q.pick_t rfl rfl) ?_
              refine J.q rfl rfl (Q.not rfl) ?_
              refine J.nil ?_
              refine J.then_n ?_
              refine J.cond_f rfl ?_
              refine J.cskip ?_
              refine J.blk_n ?_
              refine J.then_n ?_
              refine J.region ?_
              refine J.q rfl rfl (Q.mv rfl) ?_
              refine J.q rfl rfl (Q.add64 rfl rfl (by omega)) ?_
              refine J.q rfl rfl (Q.asg rfl) ?_
              refine J.nil ?_
              have hck : nameCh c = true := by rw [nameCh_iff]; omega
              refine J.again (k + 1) ⟨by omega, all_take_succ hall (by simpa using hc) hck⟩ (by omega) ⟨rfl, rfl, trivial⟩ rfl
            ·
              first | replace hb36 := X.tt_dec hb36 | replace hb36 := X.tt_not hb36 | replace hb36 := X.ff_dec hb36 | replace hb36 := X.ff_not hb36 | skip
              refine J.q rfl rfl (Q.mv rfl) ?_
              refine J.q rfl rfl (Q.eql rfl rfl) ?_
              refine J.q rfl rfl (Q.pick_f rfl rfl) ?_
              refine J.q rfl rfl (Q.mv rfl) ?_
              refine J.cases 40 rfl (fun hb40 => ?_) (fun hb40 => ?_)
              ·
                first | replace hb40 := X.tt_dec hb40 | replace hb40 := X.tt_not hb40 | replace hb40 := X.ff_dec hb40 | replace hb40 := X.ff_not hb40 | skip
                refine J.skip rfl rfl ?_
                refine J.skip rfl rfl ?_
                refine J.q rfl rfl (Q.pick_t rfl rfl) ?_
                refine J.q rfl rfl (Q.not rfl) ?_
                refine J.nil ?_
                refine J.then_n ?_
                refine J.cond_f rfl ?_
                refine J.cskip ?_
                refine J.blk_n ?_
                refine J.then_n ?_
                refine J.region ?_
                refine J.q rfl rfl (Q.mv rfl) ?_
                refine J.q rfl rfl (Q.add64 rfl rfl (by omega)) ?_
                refine J.q rfl rfl (Q.asg rfl) ?_
                refine J.nil ?_
                have hck : nameCh c = true := by rw [nameCh_iff]; omega
                refine J.again (k + 1) ⟨by omega, all_take_succ hall (by simpa using hc) hck⟩ (by omega) ⟨rfl, rfl, trivial⟩ rfl
              ·
                first | replace hb40 := X.tt_dec hb40 | replace hb40 := X.tt_not hb40 | replace hb40 := X.ff_dec hb40 | replace hb40 := X.ff_not hb40 | skip
                refine J.q rfl rfl (Q.mv rfl) ?_
                refine J.q rfl rfl (Q.eql rfl rfl) ?_
                refine J.q rfl rfl (Q.pick_f rfl rfl) ?_
                refine J.q rfl rfl (Q.not rfl) ?_
                refine J.nil ?_
                refine J.then_n ?_
                refine J.cases 44 rfl (fun hc44 => ?_) (fun hc44 => ?_)
                ·
                  first | replace hc44 := X.tt_dec hc44 | replace hc44 := X.tt_not hc44 | replace hc44 := X.ff_dec hc44 | replace hc44 := X.ff_not hc44 | skip
                  refine J.cond_t rfl ?_
                  refine J.seq ?_
                  refine J.region ?_
                  refine J.q rfl rfl (Q.asg rfl) ?_
                  refine J.nil ?_
                  refine J.then_n ?_
                  refine J.cret ?_
                  refine J.blk_r ?_
                  refine J.then_r ?_
                  refine J.lp_r ?_
                  refine J.blk_r ?_
                  refine J.then_r ?_
                  first
                    | (have hck : nameCh c = false := by rw [nameCh_not]; omega
                       refine J.ret1 (B := []) rfl rfl ⟨?_, rfl⟩ rfl
                       rw [nameOK_bad (by simpa using hc) hck])
                    | (refine J.ret1 (B := []) rfl rfl ⟨?_, rfl⟩ rfl
                       rw [nameOK_good (by omega) (by omega) (by rw [← hall, hge, List.take_of_length_le (by omega)])])
                ·
                  first | replace hc44 := X.tt_dec hc44 | replace hc44 := X.tt_not hc44 | replace hc44 := X.ff_dec hc44 | replace hc44 := X.ff_not hc44 | skip
                  refine J.cond_f rfl ?_
                  refine J.cskip ?_
                  refine J.blk_n ?_
                  refine J.then_n ?_
                  refine J.region ?_
                  refine J.q rfl rfl (Q.mv rfl) ?_
                  refine J.q rfl rfl (Q.add64 rfl rfl (by omega)) ?_
                  refine J.q rfl rfl (Q.asg rfl) ?_
                  refine J.nil ?_
                  have hck : nameCh c = true := by rw [nameCh_iff]; omega
                  refine J.again (k + 1) ⟨by omega, all_take_succ hall (by simpa using hc) hck⟩ (by omega) ⟨rfl, rfl, trivial⟩ rfl
          ·
            first | replace hb31 := X.tt_dec hb31 | replace hb31 := X.tt_not hb31 | replace hb31 := X.ff_dec hb31 | replace hb31 := X.ff_not hb31 | skip
            refine J.skip rfl rfl ?_
            refine J.skip rfl rfl ?_
            refine J.q rfl rfl (Q.pick_f rfl rfl) ?_
            refine J.q rfl rfl (Q.pick_f rfl rfl) ?_
            refine J.q rfl rfl (Q.mv rfl) ?_
            refine J.q rfl rfl (Q.mv rfl) ?_
            refine J.q rfl rfl (Q.eql rfl rfl) ?_
            refine J.q rfl rfl (Q.pick_f rfl rfl) ?_
            refine J.q rfl rfl (Q.mv rfl) ?_
            refine J.cases 40 rfl (fun hb40 => ?_) (fun hb40 => ?_)
            ·
              first | replace hb40 := X.tt_dec hb40 | replace hb40 := X.tt_not hb40 | replace hb40 := X.ff_dec hb40 | replace hb40 := X.ff_not hb40 | skip
              refine J.skip rfl rfl ?_
              refine J.skip rfl rfl ?_
              refine J.q rfl rfl (Q.pick_t rfl rfl) ?_
              refine J.q rfl rfl (Q.not rfl) ?_
              refine J.nil ?_
              refine J.then_n ?_
              refine J.cond_f rfl ?_
              refine J.cskip ?_
              refine J.blk_n ?_
              refine J.then_n ?_
              refine J.region ?_
              refine J.q rfl rfl (Q.mv rfl) ?_
              refine J.q rfl rfl (Q.add64 rfl rfl (by omega)) ?_
              refine J.q rfl rfl (Q.asg rfl) ?_
              refine J.nil ?_
              have hck : nameCh c = true := by rw [nameCh_iff]; omega
              refine J.again (k + 1) ⟨by omega, all_take_succ hall (by simpa using hc) hck⟩ (by omega) ⟨rfl, rfl, trivial⟩ rfl
            ·
              first | replace hb40 := X.tt_dec hb40 | replace hb40 := X.tt_not hb40 | replace hb40 := X.ff_dec hb40 | replace hb40 := X.ff_not hb40 | skip
              refine J.q rfl rfl (Q.mv rfl) ?_
              refine J.q rfl rfl (Q.eql rfl rfl) ?_
              refine J.q rfl rfl (Q.pick_f rfl rfl) ?_
              refine J.q rfl rfl (Q.not rfl) ?_
              refine J.nil ?_
              refine J.then_n ?_
              refine J.cases 44 rfl (fun hc44 => ?_) (fun hc44 => ?_)
              ·
                first | replace hc44 := X.tt_dec hc44 | replace hc44 := X.tt_not hc44 | replace hc44 := X.ff_dec hc44 | replace hc44 := X.ff_not hc44 | skip
                refine J.cond_t rfl ?_
                refine J.seq ?_
                refine J.region ?_
                refine J.q rfl rfl (Q.asg rfl) ?_
                refine J.nil ?_
                refine J.then_n ?_
                refine J.cret ?_
                refine J.blk_r ?_
                refine J.then_r ?_
                refine J.lp_r ?_
                refine J.blk_r ?_
                refine J.then_r ?_
                first
                  | (have hck : nameCh c = false := by rw [nameCh_not]; omega
                     refine J.ret1 (B := []) rfl rfl ⟨?_, rfl⟩ rfl
                     rw [nameOK_bad (by simpa using hc) hck])
                  | (refine J.ret1 (B := []) rfl rfl ⟨?_, rfl⟩ rfl
                     rw [nameOK_good (by omega) (by omega) (by rw [← hall, hge, List.take_of_length_le (by omega)])])
              ·
                first | replace hc44 := X.tt_dec hc44 | replace hc44 := X.tt_not hc44 | replace hc44 := X.ff_dec hc44 | replace hc44 := X.ff_not hc44 | skip
                refine J.cond_f rfl ?_
                refine J.cskip ?_
                refine J.blk_n ?_
                refine J.then_n ?_
                refine J.region ?_
                refine J.q rfl rfl (Q.mv rfl) ?_
                refine J.q rfl rfl (Q.add64 rfl rfl (by omega)) ?_
                refine J.q rfl rfl (Q.asg rfl) ?_
                refine J.nil ?_
                have hck : nameCh c = true := by rw [nameCh_iff]; omega
                refine J.again (k + 1) ⟨by omega, all_take_succ hall (by simpa using hc) hck⟩ (by omega) ⟨rfl, rfl, trivial⟩ rfl
      ·
        first | replace hc16 := X.tt_dec hc16 | replace hc16 := X.tt_not hc16 | replace hc16 := X.ff_dec hc16 | replace hc16 := X.ff_not hc16 | skip
        have hge : k = s.size := by omega
        refine J.cond_f rfl ?_
        refine J.exit ?_
        refine J.then_x ?_
        refine J.lp_x ?_
        refine J.blk_x ?_
        refine J.then_n ?_
        refine J.seq ?_
        refine J.region ?_
        refine J.q rfl rfl (Q.asg rfl) ?_
        refine J.nil ?_
        refine J.then_n ?_
        refine J.cret ?_
        first
          | (have hck : nameCh c = false := by rw [nameCh_not]; omega
             refine J.ret1 (B := []) rfl rfl ⟨?_, rfl⟩ rfl
             rw [nameOK_bad (by simpa using hc) hck])
          | (refine J.ret1 (B := []) rfl rfl ⟨?_, rfl⟩ rfl
             rw [nameOK_good (by omega) (by omega) (by rw [← hall, hge, List.take_of_length_le (by omega)])])

theorem key_spec (s : ByteArray) : FSpec Try.prog 22 [.string s] [] (fun v B => v = .bool (longB s.size 1 1024) ∧ B = []) := by
  refine FSpec.of Try.func22 rfl Try.ntmps22 rfl fun W0 F => ?_
  refine J.seq ?_
  refine J.region ?_
  refine J.q rfl rfl (Q.asg rfl) ?_
  refine J.nil ?_
  refine J.then_n ?_
  refine J.seq ?_
  refine J.region ?_
  refine J.q rfl rfl (Q.mv rfl) ?_
  refine J.q rfl rfl (Q.lenS Try.runUnderlying9 rfl) ?_
  refine J.q rfl rfl (Q.geq rfl rfl) ?_
  refine J.q rfl rfl (Q.mv rfl) ?_
  refine J.cases 6 rfl (fun hb6 => ?_) (fun hb6 => ?_)
  ·
    first | replace hb6 := X.tt_dec hb6 | replace hb6 := X.tt_not hb6 | replace hb6 := X.ff_dec hb6 | replace hb6 := X.ff_not hb6 | skip
    refine J.q rfl rfl (Q.mv rfl) ?_
    refine J.q rfl rfl (Q.lenS Try.runUnderlying9 rfl) ?_
    refine J.q rfl rfl (Q.leq rfl rfl) ?_
    refine J.q rfl rfl (Q.pick_t rfl rfl) ?_
    refine J.q rfl rfl (Q.asg rfl) ?_
    refine J.nil ?_
    refine J.then_n ?_
    refine J.cret ?_
    refine J.ret1 (B := []) rfl rfl ⟨?_, rfl⟩ rfl
    simp [longB, *]
  ·
    first | replace hb6 := X.tt_dec hb6 | replace hb6 := X.tt_not hb6 | replace hb6 := X.ff_dec hb6 | replace hb6 := X.ff_not hb6 | skip
    refine J.skip rfl rfl ?_
    refine J.skip rfl rfl ?_
    refine J.skip rfl rfl ?_
    refine J.q rfl rfl (Q.pick_f rfl rfl) ?_
    refine J.q rfl rfl (Q.asg rfl) ?_
    refine J.nil ?_
    refine J.then_n ?_
    refine J.cret ?_
    refine J.ret1 (B := []) rfl rfl ⟨?_, rfl⟩ rfl
    simp [longB, *]

/-- Does number i of parts' numbers suit? -/
def rise1 (l : List Int) (i : Nat) : Bool := decide (1 ≤ l.getD i 0) && decide (l.getD i 0 ≤ 10000) && (decide (i = 0) || decide (l.getD (i - 1) 0 < l.getD i 0))
def rises (l : List Int) (k : Nat) : Bool := (List.range k).all (rise1 l)
def partsOK (l : List Int) : Bool := decide (1 ≤ l.length) && decide (l.length ≤ 10000) && rises l l.length
theorem rises_succ {l : List Int} {k : Nat} : rises l (k + 1) = (rises l k && rise1 l k) := by simp [rises, List.range_succ]
theorem rises_bad {l : List Int} {k : Nat} (h : rise1 l k = false) : ∀ n, k < n → rises l n = false := by
  intro n hn
  cases e : rises l n with
  | false => rfl
  | true =>
    unfold rises at e
    rw [List.all_eq_true] at e
    have := e k (List.mem_range.2 hn); rw [h] at this; cases this

theorem getD_of {l : List Int} {k : Nat} {v : Int} (h : l[k]? = some v) : l.getD k 0 = v := by rw [List.getD_eq_getElem?_getD, h]; rfl

theorem rising_spec (G : Assn) (p : Option Addr) (n c : Nat) (l : List Int) (hl : SlR [G] 1 (.slice p n c) (l.map (Value.int .i64))) (hn : n ≤ 9223372036854775807) : FSpec Try.prog 20 [.slice p n c] [G] (fun v B => v = .bool (partsOK l) ∧ B = [G]) := by
  have hlen : l.length = n := by have := hl.len; simpa using this
  refine FSpec.of Try.func20 rfl Try.ntmps20 rfl fun W0 F => ?_
  refine J.seq ?_
  refine J.region ?_
  refine J.q rfl rfl (Q.asg rfl) ?_
  refine J.nil ?_
  refine J.then_n ?_
  refine J.seq ?_
  refine J.seq ?_
  refine J.region ?_
  refine J.q rfl rfl (Q.mv rfl) ?_
  refine J.q rfl rfl (Q.lenSl Try.runUnderlying23 rfl) ?_
  refine J.q rfl rfl (Q.lss rfl rfl) ?_
  refine J.q rfl rfl (Q.mv rfl) ?_
  refine J.cases 8 rfl (fun hb8 => ?_) (fun hb8 => ?_)
  ·
    first | replace hb8 := X.tt_dec hb8 | replace hb8 := X.tt_not hb8 | replace hb8 := X.ff_dec hb8 | replace hb8 := X.ff_not hb8 | skip
    refine J.skip rfl rfl ?_
    refine J.skip rfl rfl ?_
    refine J.skip rfl rfl ?_
    refine J.q rfl rfl (Q.pick_t rfl rfl) ?_
    refine J.nil ?_
    refine J.then_n ?_
    refine J.cond_t rfl ?_
    refine J.seq ?_
    refine J.region ?_
    refine J.q rfl rfl (Q.asg rfl) ?_
    refine J.nil ?_
    refine J.then_n ?_
    refine J.cret ?_
    refine J.then_r ?_
    refine J.ret1 (B := [G]) rfl rfl ⟨?_, rfl⟩ rfl
    have : ¬ 1 ≤ l.length := by omega
    simp [partsOK, this]
  ·
    first | replace hb8 := X.tt_dec hb8 | replace hb8 := X.tt_not hb8 | replace hb8 := X.ff_dec hb8 | replace hb8 := X.ff_not hb8 | skip
    refine J.q rfl rfl (Q.mv rfl) ?_
    refine J.q rfl rfl (Q.lenSl Try.runUnderlying23 rfl) ?_
    refine J.q rfl rfl (Q.gtr rfl rfl) ?_
    refine J.q rfl rfl (Q.pick_f rfl rfl) ?_
    refine J.nil ?_
    refine J.then_n ?_
    refine J.cases 12 rfl (fun hc12 => ?_) (fun hc12 => ?_)
    ·
      first | replace hc12 := X.tt_dec hc12 | replace hc12 := X.tt_not hc12 | replace hc12 := X.ff_dec hc12 | replace hc12 := X.ff_not hc12 | skip
      refine J.cond_t rfl ?_
      refine J.seq ?_
      refine J.region ?_
      refine J.q rfl rfl (Q.asg rfl) ?_
      refine J.nil ?_
      refine J.then_n ?_
      refine J.cret ?_
      refine J.then_r ?_
      refine J.ret1 (B := [G]) rfl rfl ⟨?_, rfl⟩ rfl
      have : ¬ l.length ≤ 10000 := by omega
      simp [partsOK, this]
    ·
      first | replace hc12 := X.tt_dec hc12 | replace hc12 := X.tt_not hc12 | replace hc12 := X.ff_dec hc12 | replace hc12 := X.ff_not hc12 | skip
      refine J.cond_f rfl ?_
      refine J.cskip ?_
      refine J.then_n ?_
      refine J.seq ?_
      refine J.seq ?_
      refine J.region ?_
      refine J.q rfl rfl (Q.mv rfl) ?_
      refine J.q rfl rfl (Q.lenSl Try.runUnderlying23 rfl) ?_
      refine J.q rfl rfl (Q.mv rfl) ?_
      refine J.nil ?_
      refine J.then_n ?_
      refine J.block ?_
      refine J.loop (fun k : Nat => k ≤ n ∧ rises l k = true) (fun k => n - k) (fun k => [(0, .slice p n c), (13, .slice p n c), (14, .int .i64 n), (15, .int .i64 k)]) (fun _ => [G, F]) 0 ⟨by omega, rfl⟩ ⟨rfl, rfl, rfl, rfl, trivial⟩ rfl fun k hk => ?_
      obtain ⟨hk, hall⟩ := hk
      refine J.seq ?_
      refine J.region ?_
      refine J.q rfl rfl (Q.lss rfl rfl) ?_
      refine J.nil ?_
      refine J.then_n ?_
      refine J.seq ?_
      refine J.cases 16 rfl (fun hc16 => ?_) (fun hc16 => ?_)
      ·
        first | replace hc16 := X.tt_dec hc16 | replace hc16 := X.tt_not hc16 | replace hc16 := X.ff_dec hc16 | replace hc16 := X.ff_not hc16 | skip
        refine J.cond_t rfl ?_
        refine J.cskip ?_
        refine J.then_n ?_
        refine J.seq ?_
        refine J.block ?_
        refine J.seq ?_
        have hlt : k < n := by omega
        obtain ⟨b, off, rfl, hrd⟩ := hl.some_ (by omega)
        obtain ⟨v, hv⟩ : ∃ v, l[k]? = some v := ⟨_, List.getElem?_eq_getElem (by omega)⟩
        have hvd := getD_of hv
        refine J.region ?_
        refine J.q rfl rfl (Q.mv rfl) ?_
        refine J.q rfl rfl (Q.ia Try.runUnderlying23 Try.sizeOf3 rfl rfl (by omega) (by omega)) ?_
        refine J.q rfl rfl (Q.ld Try.isAgg3 rfl (((hrd k (.int .i64 v) (by simp [hv])).within (i := 0) rfl).cast (by simp))) ?_
        refine J.q rfl rfl (Q.asg rfl) ?_
        refine J.q rfl rfl (Q.asg rfl) ?_
        refine J.nil ?_
        refine J.then_n ?_
        refine J.seq ?_
        refine J.region ?_
        refine J.q rfl rfl (Q.mv rfl) ?_
        refine J.q rfl rfl (Q.lss rfl rfl) ?_
        refine J.q rfl rfl (Q.mv rfl) ?_
        refine J.cases 22 rfl (fun hb22 => ?_) (fun hb22 => ?_)
        ·
          first | replace hb22 := X.tt_dec hb22 | replace hb22 := X.tt_not hb22 | replace hb22 := X.ff_dec hb22 | replace hb22 := X.ff_not hb22 | skip
          refine J.skip rfl rfl ?_
          refine J.skip rfl rfl ?_
          refine J.q rfl rfl (Q.pick_t rfl rfl) ?_
          refine J.q rfl rfl (Q.mv rfl) ?_
          refine J.skip rfl rfl ?_
          refine J.skip rfl rfl ?_
          refine J.skip rfl rfl ?_
          refine J.skip rfl rfl ?_
          refine J.skip rfl rfl ?_
          refine J.skip rfl rfl ?_
          refine J.skip rfl rfl ?_
          refine J.skip rfl rfl ?_
          refine J.skip rfl rfl ?_
          refine J.skip rfl rfl ?_
          refine J.skip rfl rfl ?_
          refine J.q rfl rfl (Q.pick_t rfl rfl) ?_
          refine J.nil ?_
          refine J.then_n ?_
          refine J.cond_t rfl ?_
          refine J.seq ?_
          refine J.region ?_
          refine J.q rfl rfl (Q.asg rfl) ?_
          refine J.nil ?_
          refine J.then_n ?_
          refine J.cret ?_
          refine J.blk_r ?_
          refine J.then_r ?_
          refine J.lp_r ?_
          refine J.blk_r ?_
          refine J.then_r ?_
          first
            | (have hr1 : rise1 l k = false := by
                 unfold rise1
                 rw [hvd]
                 first | rw [hud] | skip
                 simp only [Bool.and_eq_false_iff, Bool.or_eq_false_iff, decide_eq_false_iff_not]; omega
               refine J.ret1 (B := [G]) rfl rfl ⟨?_, rfl⟩ rfl
               simp [partsOK, rises_bad hr1 l.length (by omega)])
            | (refine J.ret1 (B := [G]) rfl rfl ⟨?_, rfl⟩ rfl
               have hkn : k = n := by omega
               rw [hkn, ← hlen] at hall
               simp only [partsOK, hall, Bool.and_true]
               simp; omega)
        ·
          first | replace hb22 := X.tt_dec hb22 | replace hb22 := X.tt_not hb22 | replace hb22 := X.ff_dec hb22 | replace hb22 := X.ff_not hb22 | skip
          refine J.q rfl rfl (Q.mv rfl) ?_
          refine J.q rfl rfl (Q.gtr rfl rfl) ?_
          refine J.q rfl rfl (Q.pick_f rfl rfl) ?_
          refine J.q rfl rfl (Q.mv rfl) ?_
          refine J.cases 26 rfl (fun hb26 => ?_) (fun hb26 => ?_)
          ·
            first | replace hb26 := X.tt_dec hb26 | replace hb26 := X.tt_not hb26 | replace hb26 := X.ff_dec hb26 | replace hb26 := X.ff_not hb26 | skip
            refine J.skip rfl rfl ?_
            refine J.skip rfl rfl ?_
            refine J.skip rfl rfl ?_
            refine J.skip rfl rfl ?_
            refine J.skip rfl rfl ?_
            refine J.skip rfl rfl ?_
            refine J.skip rfl rfl ?_
            refine J.skip rfl rfl ?_
            refine J.skip rfl rfl ?_
            refine J.skip rfl rfl ?_
            refine J.skip rfl rfl ?_
            refine J.q rfl rfl (Q.pick_t rfl rfl) ?_
            refine J.nil ?_
            refine J.then_n ?_
            refine J.cond_t rfl ?_
            refine J.seq ?_
            refine J.region ?_
            refine J.q rfl rfl (Q.asg rfl) ?_
            refine J.nil ?_
            refine J.then_n ?_
            refine J.cret ?_
            refine J.blk_r ?_
            refine J.then_r ?_
            refine J.lp_r ?_
            refine J.blk_r ?_
            refine J.then_r ?_
            first
              | (have hr1 : rise1 l k = false := by
                   unfold rise1
                   rw [hvd]
                   first | rw [hud] | skip
                   simp only [Bool.and_eq_false_iff, Bool.or_eq_false_iff, decide_eq_false_iff_not]; omega
                 refine J.ret1 (B := [G]) rfl rfl ⟨?_, rfl⟩ rfl
                 simp [partsOK, rises_bad hr1 l.length (by omega)])
              | (refine J.ret1 (B := [G]) rfl rfl ⟨?_, rfl⟩ rfl
                 have hkn : k = n := by omega
                 rw [hkn, ← hlen] at hall
                 simp only [partsOK, hall, Bool.and_true]
                 simp; omega)
          ·
            first | replace hb26 := X.tt_dec hb26 | replace hb26 := X.tt_not hb26 | replace hb26 := X.ff_dec hb26 | replace hb26 := X.ff_not hb26 | skip
            refine J.q rfl rfl (Q.mv rfl) ?_
            refine J.q rfl rfl (Q.gtr rfl rfl) ?_
            refine J.q rfl rfl (Q.mv rfl) ?_
            refine J.cases 29 rfl (fun hb29 => ?_) (fun hb29 => ?_)
            ·
              first | replace hb29 := X.tt_dec hb29 | replace hb29 := X.tt_not hb29 | replace hb29 := X.ff_dec hb29 | replace hb29 := X.ff_not hb29 | skip
              refine J.q rfl rfl (Q.mv rfl) ?_
              refine J.q rfl rfl (Q.mv rfl) ?_
              refine J.q rfl rfl (Q.mv rfl) ?_
              refine J.q rfl rfl (Q.sub64 rfl rfl (by omega)) ?_
              obtain ⟨u, hu⟩ : ∃ u, l[k - 1]? = some u := ⟨_, List.getElem?_eq_getElem (by omega)⟩
              have hud := getD_of hu
              refine J.q rfl rfl (Q.ia Try.runUnderlying23 Try.sizeOf3 rfl rfl (by omega) (by omega)) ?_
              refine J.q rfl rfl (Q.ld Try.isAgg3 rfl (((hrd (k - 1) (.int .i64 u) (by simp [hu])).within (i := 0) rfl).cast (by simp))) ?_
              refine J.q rfl rfl (Q.leq rfl rfl) ?_
              refine J.q rfl rfl (Q.pick_t rfl rfl) ?_
              refine J.q rfl rfl (Q.pick_f rfl rfl) ?_
              refine J.nil ?_
              refine J.then_n ?_
              refine J.cases 38 rfl (fun hc38 => ?_) (fun hc38 => ?_)
              ·
                first | replace hc38 := X.tt_dec hc38 | replace hc38 := X.tt_not hc38 | replace hc38 := X.ff_dec hc38 | replace hc38 := X.ff_not hc38 | skip
                refine J.cond_t rfl ?_
                refine J.seq ?_
                refine J.region ?_
                refine J.q rfl rfl (Q.asg rfl) ?_
                refine J.nil ?_
                refine J.then_n ?_
                refine J.cret ?_
                refine J.blk_r ?_
                refine J.then_r ?_
                refine J.lp_r ?_
                refine J.blk_r ?_
                refine J.then_r ?_
                first
                  | (have hr1 : rise1 l k = false := by
                       unfold rise1
                       rw [hvd]
                       first | rw [hud] | skip
                       simp only [Bool.and_eq_false_iff, Bool.or_eq_false_iff, decide_eq_false_iff_not]; omega
                     refine J.ret1 (B := [G]) rfl rfl ⟨?_, rfl⟩ rfl
                     simp [partsOK, rises_bad hr1 l.length (by omega)])
                  | (refine J.ret1 (B := [G]) rfl rfl ⟨?_, rfl⟩ rfl
                     have hkn : k = n := by omega
                     rw [hkn, ← hlen] at hall
                     simp only [partsOK, hall, Bool.and_true]
                     simp; omega)
              ·
                first | replace hc38 := X.tt_dec hc38 | replace hc38 := X.tt_not hc38 | replace hc38 := X.ff_dec hc38 | replace hc38 := X.ff_not hc38 | skip
                refine J.cond_f rfl ?_
                refine J.cskip ?_
                refine J.blk_n ?_
                refine J.then_n ?_
                refine J.region ?_
                refine J.q rfl rfl (Q.add64 rfl rfl (by omega)) ?_
                refine J.q rfl rfl (Q.mv rfl) ?_
                refine J.nil ?_
                have hr1 : rise1 l k = true := by
                  unfold rise1
                  rw [hvd]
                  first | rw [hud] | skip
                  simp only [Bool.and_eq_true, Bool.or_eq_true, decide_eq_true_eq]; omega
                refine J.again (k + 1) ⟨by omega, by rw [rises_succ, hall, hr1]; rfl⟩ (by omega) ⟨rfl, rfl, rfl, rfl, trivial⟩ rfl
            ·
              first | replace hb29 := X.tt_dec hb29 | replace hb29 := X.tt_not hb29 | replace hb29 := X.ff_dec hb29 | replace hb29 := X.ff_not hb29 | skip
              refine J.skip rfl rfl ?_
              refine J.skip rfl rfl ?_
              refine J.skip rfl rfl ?_
              refine J.skip rfl rfl ?_
              refine J.skip rfl rfl ?_
              refine J.skip rfl rfl ?_
              refine J.skip rfl rfl ?_
              refine J.q rfl rfl (Q.pick_f rfl rfl) ?_
              refine J.q rfl rfl (Q.pick_f rfl rfl) ?_
              refine J.nil ?_
              refine J.then_n ?_
              refine J.cond_f rfl ?_
              refine J.cskip ?_
              refine J.blk_n ?_
              refine J.then_n ?_
              refine J.region ?_
              refine J.q rfl rfl (Q.add64 rfl rfl (by omega)) ?_
              refine J.q rfl rfl (Q.mv rfl) ?_
              refine J.nil ?_
              have hr1 : rise1 l k = true := by
                unfold rise1
                rw [hvd]
                first | rw [hud] | skip
                simp only [Bool.and_eq_true, Bool.or_eq_true, decide_eq_true_eq]; omega
              refine J.again (k + 1) ⟨by omega, by rw [rises_succ, hall, hr1]; rfl⟩ (by omega) ⟨rfl, rfl, rfl, rfl, trivial⟩ rfl
      ·
        first | replace hc16 := X.tt_dec hc16 | replace hc16 := X.tt_not hc16 | replace hc16 := X.ff_dec hc16 | replace hc16 := X.ff_not hc16 | skip
        refine J.cond_f rfl ?_
        refine J.exit ?_
        refine J.then_x ?_
        refine J.lp_x ?_
        refine J.blk_x ?_
        refine J.then_n ?_
        refine J.seq ?_
        refine J.region ?_
        refine J.q rfl rfl (Q.asg rfl) ?_
        refine J.nil ?_
        refine J.then_n ?_
        refine J.cret ?_
        first
          | (have hr1 : rise1 l k = false := by
               unfold rise1
               rw [hvd]
               first | rw [hud] | skip
               simp only [Bool.and_eq_false_iff, Bool.or_eq_false_iff, decide_eq_false_iff_not]; omega
             refine J.ret1 (B := [G]) rfl rfl ⟨?_, rfl⟩ rfl
             simp [partsOK, rises_bad hr1 l.length (by omega)])
          | (refine J.ret1 (B := [G]) rfl rfl ⟨?_, rfl⟩ rfl
             have hkn : k = n := by omega
             rw [hkn, ← hlen] at hall
             simp only [partsOK, hall, Bool.and_true]
             simp; omega)

theorem parts_spec (G : Assn) (p : Option Addr) (n c : Nat) (l : List Int) (hl : SlR [G] 1 (.slice p n c) (l.map (Value.int .i64))) (hn : n ≤ 9223372036854775807) : FSpec Try.prog 23 [.slice p n c] [G] (fun v B => v = .bool (partsOK l) ∧ B = [G]) := by
  have hlen : l.length = n := by have := hl.len; simpa using this
  refine FSpec.of Try.func23 rfl Try.ntmps23 rfl fun W0 F => ?_
  refine J.seq ?_
  refine J.region ?_
  refine J.q rfl rfl (Q.asg rfl) ?_
  refine J.nil ?_
  refine J.then_n ?_
  refine J.seq ?_
  refine J.seq ?_
  refine J.region ?_
  refine J.q rfl rfl (Q.mv rfl) ?_
  refine J.q rfl rfl (Q.lenSl Try.runUnderlying23 rfl) ?_
  refine J.q rfl rfl (Q.lss rfl rfl) ?_
  refine J.q rfl rfl (Q.mv rfl) ?_
  refine J.cases 7 rfl (fun hb7 => ?_) (fun hb7 => ?_)
  ·
    first | replace hb7 := X.tt_dec hb7 | replace hb7 := X.tt_not hb7 | replace hb7 := X.ff_dec hb7 | replace hb7 := X.ff_not hb7 | skip
    refine J.skip rfl rfl ?_
    refine J.skip rfl rfl ?_
    refine J.skip rfl rfl ?_
    refine J.q rfl rfl (Q.pick_t rfl rfl) ?_
    refine J.nil ?_
    refine J.then_n ?_
    refine J.cond_t rfl ?_
    refine J.seq ?_
    refine J.region ?_
    refine J.q rfl rfl (Q.asg rfl) ?_
    refine J.nil ?_
    refine J.then_n ?_
    refine J.cret ?_
    refine J.then_r ?_
    refine J.ret1 (B := [G]) rfl rfl ⟨?_, rfl⟩ rfl
    have : ¬ 1 ≤ l.length := by omega
    simp [partsOK, this]
  ·
    first | replace hb7 := X.tt_dec hb7 | replace hb7 := X.tt_not hb7 | replace hb7 := X.ff_dec hb7 | replace hb7 := X.ff_not hb7 | skip
    refine J.q rfl rfl (Q.mv rfl) ?_
    refine J.q rfl rfl (Q.lenSl Try.runUnderlying23 rfl) ?_
    refine J.q rfl rfl (Q.gtr rfl rfl) ?_
    refine J.q rfl rfl (Q.pick_f rfl rfl) ?_
    refine J.nil ?_
    refine J.then_n ?_
    refine J.cases 11 rfl (fun hc11 => ?_) (fun hc11 => ?_)
    ·
      first | replace hc11 := X.tt_dec hc11 | replace hc11 := X.tt_not hc11 | replace hc11 := X.ff_dec hc11 | replace hc11 := X.ff_not hc11 | skip
      refine J.cond_t rfl ?_
      refine J.seq ?_
      refine J.region ?_
      refine J.q rfl rfl (Q.asg rfl) ?_
      refine J.nil ?_
      refine J.then_n ?_
      refine J.cret ?_
      refine J.then_r ?_
      refine J.ret1 (B := [G]) rfl rfl ⟨?_, rfl⟩ rfl
      have : ¬ l.length ≤ 10000 := by omega
      simp [partsOK, this]
    ·
      first | replace hc11 := X.tt_dec hc11 | replace hc11 := X.tt_not hc11 | replace hc11 := X.ff_dec hc11 | replace hc11 := X.ff_not hc11 | skip
      refine J.cond_f rfl ?_
      refine J.cskip ?_
      refine J.then_n ?_
      refine J.seq ?_
      refine J.seq ?_
      refine J.region ?_
      refine J.q rfl rfl (Q.asg rfl) ?_
      refine J.nil ?_
      refine J.then_n ?_
      refine J.block ?_
      refine J.loop (fun k : Nat => k ≤ n ∧ rises l k = true) (fun k => n - k) (fun k => [(0, .slice p n c), (3, .int .i64 k)]) (fun _ => [G, F]) 0 ⟨by omega, rfl⟩ ⟨rfl, rfl, trivial⟩ rfl fun k hk => ?_
      obtain ⟨hk, hall⟩ := hk
      refine J.seq ?_
      refine J.seq ?_
      refine J.region ?_
      refine J.q rfl rfl (Q.mv rfl) ?_
      refine J.q rfl rfl (Q.mv rfl) ?_
      refine J.q rfl rfl (Q.lenSl Try.runUnderlying23 rfl) ?_
      refine J.q rfl rfl (Q.lss rfl rfl) ?_
      refine J.nil ?_
      refine J.then_n ?_
      refine J.cases 15 rfl (fun hc15 => ?_) (fun hc15 => ?_)
      ·
        first | replace hc15 := X.tt_dec hc15 | replace hc15 := X.tt_not hc15 | replace hc15 := X.ff_dec hc15 | replace hc15 := X.ff_not hc15 | skip
        refine J.cond_t rfl ?_
        refine J.cskip ?_
        refine J.then_n ?_
        refine J.seq ?_
        refine J.block ?_
        refine J.seq ?_
        have hlt : k < n := by omega
        obtain ⟨b, off, rfl, hrd⟩ := hl.some_ (by omega)
        obtain ⟨v, hv⟩ : ∃ v, l[k]? = some v := ⟨_, List.getElem?_eq_getElem (by omega)⟩
        have hvd := getD_of hv
        refine J.draw [] Try.mixed (by kernel_rfl) fun hR => ?_
        refine RG.q 0 hR rfl rfl rfl rfl rfl rfl (Q.mv rfl) ?_
        refine RG.q 1 hR rfl rfl rfl rfl rfl rfl (Q.mv rfl) ?_
        refine RG.q 2 hR rfl rfl rfl rfl rfl rfl (Q.ia Try.runUnderlying23 Try.sizeOf3 rfl rfl (by omega) (by omega)) ?_
        refine RG.q 3 hR rfl rfl rfl rfl rfl rfl (Q.ld Try.isAgg3 rfl (((hrd k (.int .i64 v) (by simp [hv])).within (i := 0) rfl).cast (by simp))) ?_
        refine RG.q 4 hR rfl rfl rfl rfl rfl rfl (Q.lss rfl rfl) ?_
        refine RG.q 5 hR rfl rfl rfl rfl rfl rfl (Q.mv rfl) ?_
        refine RG.cases 23 rfl (fun hb23 => ?_) (fun hb23 => ?_)
        ·
          first | replace hb23 := X.tt_dec hb23 | replace hb23 := X.tt_not hb23 | replace hb23 := X.ff_dec hb23 | replace hb23 := X.ff_not hb23 | skip
          refine RG.skip 6 hR rfl rfl rfl rfl rfl rfl ?_
          refine RG.skip 7 hR rfl rfl rfl rfl rfl rfl ?_
          refine RG.skip 8 hR rfl rfl rfl rfl rfl rfl ?_
          refine RG.skip 9 hR rfl rfl rfl rfl rfl rfl ?_
          refine RG.skip 10 hR rfl rfl rfl rfl rfl rfl ?_
          refine RG.q 11 hR rfl rfl rfl rfl rfl rfl (Q.pick_t rfl rfl) ?_
          refine RG.q 12 hR rfl rfl rfl rfl rfl rfl (Q.mv rfl) ?_
          refine RG.skip 13 hR rfl rfl rfl rfl rfl rfl ?_
          refine RG.skip 14 hR rfl rfl rfl rfl rfl rfl ?_
          refine RG.skip 15 hR rfl rfl rfl rfl rfl rfl ?_
          refine RG.skip 16 hR rfl rfl rfl rfl rfl rfl ?_
          refine RG.skip 17 hR rfl rfl rfl rfl rfl rfl ?_
          refine RG.skip 18 hR rfl rfl rfl rfl rfl rfl ?_
          refine RG.skip 19 hR rfl rfl rfl rfl rfl rfl ?_
          refine RG.skip 20 hR rfl rfl rfl rfl rfl rfl ?_
          refine RG.skip 21 hR rfl rfl rfl rfl rfl rfl ?_
          refine RG.skip 22 hR rfl rfl rfl rfl rfl rfl ?_
          refine RG.skip 23 hR rfl rfl rfl rfl rfl rfl ?_
          refine RG.skip 24 hR rfl rfl rfl rfl rfl rfl ?_
          refine RG.skip 25 hR rfl rfl rfl rfl rfl rfl ?_
          refine RG.skip 26 hR rfl rfl rfl rfl rfl rfl ?_
          refine RG.q 27 hR rfl rfl rfl rfl rfl rfl (Q.pick_t rfl rfl) ?_
          refine RG.fin hR rfl ?_
          refine J.norm rfl ?_
          refine J.then_n ?_
          refine J.cond_t rfl ?_
          refine J.seq ?_
          refine J.region ?_
          refine J.q rfl rfl (Q.asg rfl) ?_
          refine J.nil ?_
          refine J.then_n ?_
          refine J.cret ?_
          refine J.blk_r ?_
          refine J.then_r ?_
          refine J.lp_r ?_
          refine J.blk_r ?_
          refine J.then_r ?_
          first
            | (have hr1 : rise1 l k = false := by
                 unfold rise1
                 rw [hvd]
                 first | rw [hud] | skip
                 simp only [Bool.and_eq_false_iff, Bool.or_eq_false_iff, decide_eq_false_iff_not]; omega
               refine J.ret1 (B := [G]) rfl rfl ⟨?_, rfl⟩ rfl
               simp [partsOK, rises_bad hr1 l.length (by omega)])
            | (refine J.ret1 (B := [G]) rfl rfl ⟨?_, rfl⟩ rfl
               have hkn : k = n := by omega
               rw [hkn, ← hlen] at hall
               simp only [partsOK, hall, Bool.and_true]
               simp; omega)
        ·
          first | replace hb23 := X.tt_dec hb23 | replace hb23 := X.tt_not hb23 | replace hb23 := X.ff_dec hb23 | replace hb23 := X.ff_not hb23 | skip
          refine RG.q 6 hR rfl rfl rfl rfl rfl rfl (Q.mv rfl) ?_
          refine RG.q 7 hR rfl rfl rfl rfl rfl rfl (Q.mv rfl) ?_
          refine RG.q 8 hR rfl rfl rfl rfl rfl rfl (Q.ia Try.runUnderlying23 Try.sizeOf3 rfl rfl (by omega) (by omega)) ?_
          refine RG.q 9 hR rfl rfl rfl rfl rfl rfl (Q.ld Try.isAgg3 rfl (((hrd k (.int .i64 v) (by simp [hv])).within (i := 0) rfl).cast (by simp))) ?_
          refine RG.q 10 hR rfl rfl rfl rfl rfl rfl (Q.gtr rfl rfl) ?_
          refine RG.q 11 hR rfl rfl rfl rfl rfl rfl (Q.pick_f rfl rfl) ?_
          refine RG.q 12 hR rfl rfl rfl rfl rfl rfl (Q.mv rfl) ?_
          refine RG.cases 30 rfl (fun hb30 => ?_) (fun hb30 => ?_)
          ·
            first | replace hb30 := X.tt_dec hb30 | replace hb30 := X.tt_not hb30 | replace hb30 := X.ff_dec hb30 | replace hb30 := X.ff_not hb30 | skip
            refine RG.skip 13 hR rfl rfl rfl rfl rfl rfl ?_
            refine RG.skip 14 hR rfl rfl rfl rfl rfl rfl ?_
            refine RG.skip 15 hR rfl rfl rfl rfl rfl rfl ?_
            refine RG.skip 16 hR rfl rfl rfl rfl rfl rfl ?_
            refine RG.skip 17 hR rfl rfl rfl rfl rfl rfl ?_
            refine RG.skip 18 hR rfl rfl rfl rfl rfl rfl ?_
            refine RG.skip 19 hR rfl rfl rfl rfl rfl rfl ?_
            refine RG.skip 20 hR rfl rfl rfl rfl rfl rfl ?_
            refine RG.skip 21 hR rfl rfl rfl rfl rfl rfl ?_
            refine RG.skip 22 hR rfl rfl rfl rfl rfl rfl ?_
            refine RG.skip 23 hR rfl rfl rfl rfl rfl rfl ?_
            refine RG.skip 24 hR rfl rfl rfl rfl rfl rfl ?_
            refine RG.skip 25 hR rfl rfl rfl rfl rfl rfl ?_
            refine RG.skip 26 hR rfl rfl rfl rfl rfl rfl ?_
            refine RG.q 27 hR rfl rfl rfl rfl rfl rfl (Q.pick_t rfl rfl) ?_
            refine RG.fin hR rfl ?_
            refine J.norm rfl ?_
            refine J.then_n ?_
            refine J.cond_t rfl ?_
            refine J.seq ?_
            refine J.region ?_
            refine J.q rfl rfl (Q.asg rfl) ?_
            refine J.nil ?_
            refine J.then_n ?_
            refine J.cret ?_
            refine J.blk_r ?_
            refine J.then_r ?_
            refine J.lp_r ?_
            refine J.blk_r ?_
            refine J.then_r ?_
            first
              | (have hr1 : rise1 l k = false := by
                   unfold rise1
                   rw [hvd]
                   first | rw [hud] | skip
                   simp only [Bool.and_eq_false_iff, Bool.or_eq_false_iff, decide_eq_false_iff_not]; omega
                 refine J.ret1 (B := [G]) rfl rfl ⟨?_, rfl⟩ rfl
                 simp [partsOK, rises_bad hr1 l.length (by omega)])
              | (refine J.ret1 (B := [G]) rfl rfl ⟨?_, rfl⟩ rfl
                 have hkn : k = n := by omega
                 rw [hkn, ← hlen] at hall
                 simp only [partsOK, hall, Bool.and_true]
                 simp; omega)
          ·
            first | replace hb30 := X.tt_dec hb30 | replace hb30 := X.tt_not hb30 | replace hb30 := X.ff_dec hb30 | replace hb30 := X.ff_not hb30 | skip
            refine RG.q 13 hR rfl rfl rfl rfl rfl rfl (Q.mv rfl) ?_
            refine RG.q 14 hR rfl rfl rfl rfl rfl rfl (Q.gtr rfl rfl) ?_
            refine RG.q 15 hR rfl rfl rfl rfl rfl rfl (Q.mv rfl) ?_
            refine RG.cases 33 rfl (fun hb33 => ?_) (fun hb33 => ?_)
            ·
              first | replace hb33 := X.tt_dec hb33 | replace hb33 := X.tt_not hb33 | replace hb33 := X.ff_dec hb33 | replace hb33 := X.ff_not hb33 | skip
              refine RG.q 16 hR rfl rfl rfl rfl rfl rfl (Q.mv rfl) ?_
              refine RG.q 17 hR rfl rfl rfl rfl rfl rfl (Q.mv rfl) ?_
              refine RG.q 18 hR rfl rfl rfl rfl rfl rfl (Q.sub64 rfl rfl (by omega)) ?_
              obtain ⟨u, hu⟩ : ∃ u, l[k - 1]? = some u := ⟨_, List.getElem?_eq_getElem (by omega)⟩
              have hud := getD_of hu
              refine RG.q 19 hR rfl rfl rfl rfl rfl rfl (Q.ia Try.runUnderlying23 Try.sizeOf3 rfl rfl (by omega) (by omega)) ?_
              refine RG.q 20 hR rfl rfl rfl rfl rfl rfl (Q.ld Try.isAgg3 rfl (((hrd (k - 1) (.int .i64 u) (by simp [hu])).within (i := 0) rfl).cast (by simp))) ?_
              refine RG.q 21 hR rfl rfl rfl rfl rfl rfl (Q.mv rfl) ?_
              refine RG.q 22 hR rfl rfl rfl rfl rfl rfl (Q.mv rfl) ?_
              refine RG.q 23 hR rfl rfl rfl rfl rfl rfl (Q.ia Try.runUnderlying23 Try.sizeOf3 rfl rfl (by omega) (by omega)) ?_
              refine RG.q 24 hR rfl rfl rfl rfl rfl rfl (Q.ld Try.isAgg3 rfl (((hrd k (.int .i64 v) (by simp [hv])).within (i := 0) rfl).cast (by simp))) ?_
              refine RG.q 25 hR rfl rfl rfl rfl rfl rfl (Q.geq rfl rfl) ?_
              refine RG.q 26 hR rfl rfl rfl rfl rfl rfl (Q.pick_t rfl rfl) ?_
              refine RG.q 27 hR rfl rfl rfl rfl rfl rfl (Q.pick_f rfl rfl) ?_
              refine RG.fin hR rfl ?_
              refine J.norm rfl ?_
              refine J.then_n ?_
              refine J.cases 45 rfl (fun hc45 => ?_) (fun hc45 => ?_)
              ·
                first | replace hc45 := X.tt_dec hc45 | replace hc45 := X.tt_not hc45 | replace hc45 := X.ff_dec hc45 | replace hc45 := X.ff_not hc45 | skip
                refine J.cond_t rfl ?_
                refine J.seq ?_
                refine J.region ?_
                refine J.q rfl rfl (Q.asg rfl) ?_
                refine J.nil ?_
                refine J.then_n ?_
                refine J.cret ?_
                refine J.blk_r ?_
                refine J.then_r ?_
                refine J.lp_r ?_
                refine J.blk_r ?_
                refine J.then_r ?_
                first
                  | (have hr1 : rise1 l k = false := by
                       unfold rise1
                       rw [hvd]
                       first | rw [hud] | skip
                       simp only [Bool.and_eq_false_iff, Bool.or_eq_false_iff, decide_eq_false_iff_not]; omega
                     refine J.ret1 (B := [G]) rfl rfl ⟨?_, rfl⟩ rfl
                     simp [partsOK, rises_bad hr1 l.length (by omega)])
                  | (refine J.ret1 (B := [G]) rfl rfl ⟨?_, rfl⟩ rfl
                     have hkn : k = n := by omega
                     rw [hkn, ← hlen] at hall
                     simp only [partsOK, hall, Bool.and_true]
                     simp; omega)
              ·
                first | replace hc45 := X.tt_dec hc45 | replace hc45 := X.tt_not hc45 | replace hc45 := X.ff_dec hc45 | replace hc45 := X.ff_not hc45 | skip
                refine J.cond_f rfl ?_
                refine J.cskip ?_
                refine J.blk_n ?_
                refine J.then_n ?_
                refine J.region ?_
                refine J.q rfl rfl (Q.mv rfl) ?_
                refine J.q rfl rfl (Q.add64 rfl rfl (by omega)) ?_
                refine J.q rfl rfl (Q.asg rfl) ?_
                refine J.nil ?_
                have hr1 : rise1 l k = true := by
                  unfold rise1
                  rw [hvd]
                  first | rw [hud] | skip
                  simp only [Bool.and_eq_true, Bool.or_eq_true, decide_eq_true_eq]; omega
                refine J.again (k + 1) ⟨by omega, by rw [rises_succ, hall, hr1]; rfl⟩ (by omega) ⟨rfl, rfl, trivial⟩ rfl
            ·
              first | replace hb33 := X.tt_dec hb33 | replace hb33 := X.tt_not hb33 | replace hb33 := X.ff_dec hb33 | replace hb33 := X.ff_not hb33 | skip
              refine RG.skip 16 hR rfl rfl rfl rfl rfl rfl ?_
              refine RG.skip 17 hR rfl rfl rfl rfl rfl rfl ?_
              refine RG.skip 18 hR rfl rfl rfl rfl rfl rfl ?_
              refine RG.skip 19 hR rfl rfl rfl rfl rfl rfl ?_
              refine RG.skip 20 hR rfl rfl rfl rfl rfl rfl ?_
              refine RG.skip 21 hR rfl rfl rfl rfl rfl rfl ?_
              refine RG.skip 22 hR rfl rfl rfl rfl rfl rfl ?_
              refine RG.skip 23 hR rfl rfl rfl rfl rfl rfl ?_
              refine RG.skip 24 hR rfl rfl rfl rfl rfl rfl ?_
              refine RG.skip 25 hR rfl rfl rfl rfl rfl rfl ?_
              refine RG.q 26 hR rfl rfl rfl rfl rfl rfl (Q.pick_f rfl rfl) ?_
              refine RG.q 27 hR rfl rfl rfl rfl rfl rfl (Q.pick_f rfl rfl) ?_
              refine RG.fin hR rfl ?_
              refine J.norm rfl ?_
              refine J.then_n ?_
              refine J.cond_f rfl ?_
              refine J.cskip ?_
              refine J.blk_n ?_
              refine J.then_n ?_
              refine J.region ?_
              refine J.q rfl rfl (Q.mv rfl) ?_
              refine J.q rfl rfl (Q.add64 rfl rfl (by omega)) ?_
              refine J.q rfl rfl (Q.asg rfl) ?_
              refine J.nil ?_
              have hr1 : rise1 l k = true := by
                unfold rise1
                rw [hvd]
                first | rw [hud] | skip
                simp only [Bool.and_eq_true, Bool.or_eq_true, decide_eq_true_eq]; omega
              refine J.again (k + 1) ⟨by omega, by rw [rises_succ, hall, hr1]; rfl⟩ (by omega) ⟨rfl, rfl, trivial⟩ rfl
      ·
        first | replace hc15 := X.tt_dec hc15 | replace hc15 := X.tt_not hc15 | replace hc15 := X.ff_dec hc15 | replace hc15 := X.ff_not hc15 | skip
        refine J.cond_f rfl ?_
        refine J.exit ?_
        refine J.then_x ?_
        refine J.lp_x ?_
        refine J.blk_x ?_
        refine J.then_n ?_
        refine J.seq ?_
        refine J.region ?_
        refine J.q rfl rfl (Q.asg rfl) ?_
        refine J.nil ?_
        refine J.then_n ?_
        refine J.cret ?_
        first
          | (have hr1 : rise1 l k = false := by
               unfold rise1
               rw [hvd]
               first | rw [hud] | skip
               simp only [Bool.and_eq_false_iff, Bool.or_eq_false_iff, decide_eq_false_iff_not]; omega
             refine J.ret1 (B := [G]) rfl rfl ⟨?_, rfl⟩ rfl
             simp [partsOK, rises_bad hr1 l.length (by omega)])
          | (refine J.ret1 (B := [G]) rfl rfl ⟨?_, rfl⟩ rfl
             have hkn : k = n := by omega
             rw [hkn, ← hlen] at hall
             simp only [partsOK, hall, Bool.and_true]
             simp; omega)

theorem reads_spec (n : Int) : FSpec Try.prog 9 [.int .i64 n] [] (fun v B => v = .bool (decide (n = 4) || decide (n = 6)) ∧ B = []) := by
  refine FSpec.of Try.func9 rfl Try.ntmps9 rfl fun W0 F => ?_
  refine J.seq ?_
  refine J.region ?_
  refine J.q rfl rfl (Q.asg rfl) ?_
  refine J.nil ?_
  refine J.then_n ?_
  refine J.seq ?_
  refine J.region ?_
  refine J.q rfl rfl (Q.mv rfl) ?_
  refine J.q rfl rfl (Q.eql rfl rfl) ?_
  refine J.q rfl rfl (Q.mv rfl) ?_
  refine J.cases 5 rfl (fun hb5 => ?_) (fun hb5 => ?_)
  ·
    first | replace hb5 := X.tt_dec hb5 | replace hb5 := X.tt_not hb5 | replace hb5 := X.ff_dec hb5 | replace hb5 := X.ff_not hb5 | skip
    refine J.skip rfl rfl ?_
    refine J.skip rfl rfl ?_
    refine J.q rfl rfl (Q.pick_t rfl rfl) ?_
    refine J.q rfl rfl (Q.asg rfl) ?_
    refine J.nil ?_
    refine J.then_n ?_
    refine J.cret ?_
    refine J.ret1 (B := []) rfl rfl ⟨?_, rfl⟩ rfl
    simp [*]
  ·
    first | replace hb5 := X.tt_dec hb5 | replace hb5 := X.tt_not hb5 | replace hb5 := X.ff_dec hb5 | replace hb5 := X.ff_not hb5 | skip
    refine J.q rfl rfl (Q.mv rfl) ?_
    refine J.q rfl rfl (Q.eql rfl rfl) ?_
    refine J.q rfl rfl (Q.pick_f rfl rfl) ?_
    refine J.q rfl rfl (Q.asg rfl) ?_
    refine J.nil ?_
    refine J.then_n ?_
    refine J.cret ?_
    refine J.ret1 (B := []) rfl rfl ⟨?_, rfl⟩ rfl
    simp [*]

theorem rreads_spec (n : Int) : FSpec Try.prog 10 [.int .i64 n] [] (fun v B => v = .bool (decide (n = 4) || decide (n = 6)) ∧ B = []) := by
  refine FSpec.of Try.func10 rfl Try.ntmps10 rfl fun W0 F => ?_
  refine J.seq ?_
  refine J.region ?_
  refine J.q rfl rfl (Q.asg rfl) ?_
  refine J.nil ?_
  refine J.then_n ?_
  refine J.seq ?_
  refine J.region ?_
  refine J.q rfl rfl (Q.mv rfl) ?_
  refine J.q rfl rfl (Q.eql rfl rfl) ?_
  refine J.q rfl rfl (Q.mv rfl) ?_
  refine J.cases 5 rfl (fun hb5 => ?_) (fun hb5 => ?_)
  ·
    first | replace hb5 := X.tt_dec hb5 | replace hb5 := X.tt_not hb5 | replace hb5 := X.ff_dec hb5 | replace hb5 := X.ff_not hb5 | skip
    refine J.skip rfl rfl ?_
    refine J.skip rfl rfl ?_
    refine J.q rfl rfl (Q.pick_t rfl rfl) ?_
    refine J.q rfl rfl (Q.asg rfl) ?_
    refine J.nil ?_
    refine J.then_n ?_
    refine J.cret ?_
    refine J.ret1 (B := []) rfl rfl ⟨?_, rfl⟩ rfl
    simp [*]
  ·
    first | replace hb5 := X.tt_dec hb5 | replace hb5 := X.tt_not hb5 | replace hb5 := X.ff_dec hb5 | replace hb5 := X.ff_not hb5 | skip
    refine J.q rfl rfl (Q.mv rfl) ?_
    refine J.q rfl rfl (Q.eql rfl rfl) ?_
    refine J.q rfl rfl (Q.pick_f rfl rfl) ?_
    refine J.q rfl rfl (Q.asg rfl) ?_
    refine J.nil ?_
    refine J.then_n ?_
    refine J.cret ?_
    refine J.ret1 (B := []) rfl rfl ⟨?_, rfl⟩ rfl
    simp [*]
end Go.Proofs.Ytdancegklkifaaa
