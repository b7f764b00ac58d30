/-
  The document's disk: a file at its place, a file gone; names, sums.
-/
import Derived.Test.YtkekcdcmmggbaaaRefA
import Derived.Test.YtkekcdcmmggbaaaXn
namespace Go.Proofs.Ytkekcdcmmggbaaa
open Go.X

theorem rname_spec (s : ByteArray) (hs : s.size ≤ 140737488355328) : FSpec Try.prog 31 [.string s] [] (fun v B => v = .bool (nameOK s.data.toList) ∧ B = []) := by
  have hlen : s.data.toList.length = s.size := by simp
  refine FSpec.of Try.func31 rfl Try.ntmps31 rfl fun W0 F => ?_
  refine J.seq ?_
  refine J.region ?_
  refine J.q rfl rfl (Q.asg rfl) ?_
  refine J.nil ?_
  refine J.then_n ?_
  refine J.seq ?_
  refine J.seq ?_
  refine J.region ?_
  refine J.q rfl rfl (Q.mv rfl) ?_
  refine J.q rfl rfl (Q.lenS Try.runUnderlying9 rfl) ?_
  refine J.q rfl rfl (Q.lss rfl rfl) ?_
  refine J.q rfl rfl (Q.mv rfl) ?_
  refine J.cases 8 rfl (fun hb8 => ?_) (fun hb8 => ?_)
  ·
    first | replace hb8 := X.tt_dec hb8 | replace hb8 := X.tt_not hb8 | replace hb8 := X.ff_dec hb8 | replace hb8 := X.ff_not hb8 | skip
    refine J.skip rfl rfl ?_
    refine J.skip rfl rfl ?_
    refine J.skip rfl rfl ?_
    refine J.q rfl rfl (Q.pick_t rfl rfl) ?_
    refine J.nil ?_
    refine J.then_n ?_
    refine J.cond_t rfl ?_
    refine J.seq ?_
    refine J.region ?_
    refine J.q rfl rfl (Q.asg rfl) ?_
    refine J.nil ?_
    refine J.then_n ?_
    refine J.cret ?_
    refine J.then_r ?_
    refine J.ret1 (B := []) rfl rfl ⟨?_, rfl⟩ rfl
    rw [nameOK_short (l := s.data.toList) (by omega)]
  ·
    first | replace hb8 := X.tt_dec hb8 | replace hb8 := X.tt_not hb8 | replace hb8 := X.ff_dec hb8 | replace hb8 := X.ff_not hb8 | skip
    refine J.q rfl rfl (Q.mv rfl) ?_
    refine J.q rfl rfl (Q.lenS Try.runUnderlying9 rfl) ?_
    refine J.q rfl rfl (Q.gtr rfl rfl) ?_
    refine J.q rfl rfl (Q.pick_f rfl rfl) ?_
    refine J.nil ?_
    refine J.then_n ?_
    refine J.cond rfl (fun hc12 => ?_) (fun hc12 => ?_)
    ·
      first | replace hc12 := X.tt_dec hc12 | replace hc12 := X.tt_not hc12 | replace hc12 := X.ff_dec hc12 | replace hc12 := X.ff_not hc12 | skip
      refine J.seq ?_
      refine J.region ?_
      refine J.q rfl rfl (Q.asg rfl) ?_
      refine J.nil ?_
      refine J.then_n ?_
      refine J.cret ?_
      refine J.then_r ?_
      refine J.ret1 (B := []) rfl rfl ⟨?_, rfl⟩ rfl
      rw [nameOK_long (l := s.data.toList) (by omega)]
    ·
      first | replace hc12 := X.tt_dec hc12 | replace hc12 := X.tt_not hc12 | replace hc12 := X.ff_dec hc12 | replace hc12 := X.ff_not hc12 | skip
      refine J.cskip ?_
      refine J.then_n ?_
      refine J.seq ?_
      refine J.seq ?_
      refine J.region ?_
      refine J.q rfl rfl (Q.asg rfl) ?_
      refine J.nil ?_
      refine J.then_n ?_
      refine J.block ?_
      refine J.loop (fun k : Nat => k ≤ s.size ∧ (s.data.toList.take k).all nameCh = true) (fun k => s.size - k) (fun k => [(0, .string s), (3, .int .i64 k)]) (fun _ => [F]) 0 ⟨by omega, rfl⟩ ⟨rfl, rfl, trivial⟩ rfl fun k hk => ?_
      obtain ⟨hk, hall⟩ := hk
      refine J.seq ?_
      refine J.seq ?_
      refine J.region ?_
      refine J.q rfl rfl (Q.mv rfl) ?_
      refine J.q rfl rfl (Q.mv rfl) ?_
      refine J.q rfl rfl (Q.lenS Try.runUnderlying9 rfl) ?_
      refine J.q rfl rfl (Q.lss rfl rfl) ?_
      refine J.nil ?_
      refine J.then_n ?_
      refine J.cond rfl (fun hc16 => ?_) (fun hc16 => ?_)
      ·
        first | replace hc16 := X.tt_dec hc16 | replace hc16 := X.tt_not hc16 | replace hc16 := X.ff_dec hc16 | replace hc16 := X.ff_not hc16 | skip
        have hlt : k < s.size := by omega
        refine J.cskip ?_
        refine J.then_n ?_
        refine J.seq ?_
        refine J.block ?_
        refine J.seq ?_
        refine J.region ?_
        refine J.q rfl rfl (Q.mv rfl) ?_
        refine J.q rfl rfl (Q.mv rfl) ?_
        obtain ⟨c, hc⟩ : ∃ c, s.data.toList[((k : Int)).toNat]? = some c := ⟨_, List.getElem?_eq_getElem (by simp only [Int.toNat_natCast]; omega)⟩
        refine J.q rfl rfl (Q.idxs Try.runUnderlying9 rfl rfl (by omega) hc) ?_
        refine J.q rfl rfl (Q.asg rfl) ?_
        refine J.nil ?_
        refine J.then_n ?_
        refine J.seq ?_
        refine J.region ?_
        refine J.q rfl rfl (Q.mv rfl) ?_
        refine J.q rfl rfl (Q.geq rfl rfl) ?_
        refine J.q rfl rfl (Q.mv rfl) ?_
        refine J.cases 24 rfl (fun hb24 => ?_) (fun hb24 => ?_)
        ·
          first | replace hb24 := X.tt_dec hb24 | replace hb24 := X.tt_not hb24 | replace hb24 := X.ff_dec hb24 | replace hb24 := X.ff_not hb24 | skip
          refine J.q rfl rfl (Q.mv rfl) ?_
          refine J.q rfl rfl (Q.leq rfl rfl) ?_
          refine J.q rfl rfl (Q.pick_t rfl rfl) ?_
          refine J.q rfl rfl (Q.mv rfl) ?_
          refine J.cases 28 rfl (fun hb28 => ?_) (fun hb28 => ?_)
          ·
            first | replace hb28 := X.tt_dec hb28 | replace hb28 := X.tt_not hb28 | replace hb28 := X.ff_dec hb28 | replace hb28 := X.ff_not hb28 | skip
            refine J.skip rfl rfl ?_
            refine J.skip rfl rfl ?_
            refine J.skip rfl rfl ?_
            refine J.skip rfl rfl ?_
            refine J.skip rfl rfl ?_
            refine J.skip rfl rfl ?_
            refine J.q rfl rfl (Q.pick_t rfl rfl) ?_
            refine J.q rfl rfl (Q.mv rfl) ?_
            refine J.skip rfl rfl ?_
            refine J.skip rfl rfl ?_
            refine J.q rfl rfl (Q.pick_t rfl rfl) ?_
            refine J.q rfl rfl (Q.mv rfl) ?_
            refine J.skip rfl rfl ?_
            refine J.skip rfl rfl ?_
            refine J.q rfl rfl (Q.pick_t rfl rfl) ?_
            refine J.q rfl rfl (Q.not rfl) ?_
            refine J.nil ?_
            refine J.then_n ?_
            refine J.cond_f rfl ?_
            refine J.cskip ?_
            refine J.blk_n ?_
            refine J.then_n ?_
            refine J.region ?_
            refine J.q rfl rfl (Q.mv rfl) ?_
            refine J.q rfl rfl (Q.add64 rfl rfl (by omega)) ?_
            refine J.q rfl rfl (Q.asg rfl) ?_
            refine J.nil ?_
            have hck : nameCh c = true := by rw [nameCh_iff]; omega
            refine J.again (k + 1) ⟨by omega, all_take_succ hall (by simpa using hc) hck⟩ (by omega) ⟨rfl, rfl, trivial⟩ rfl
          ·
            first | replace hb28 := X.tt_dec hb28 | replace hb28 := X.tt_not hb28 | replace hb28 := X.ff_dec hb28 | replace hb28 := X.ff_not hb28 | skip
            refine J.q rfl rfl (Q.mv rfl) ?_
            refine J.q rfl rfl (Q.geq rfl rfl) ?_
            refine J.q rfl rfl (Q.mv rfl) ?_
            refine J.cases 31 rfl (fun hb31 => ?_) (fun hb31 => ?_)
            ·
              first | replace hb31 := X.tt_dec hb31 | replace hb31 := X.tt_not hb31 | replace hb31 := X.ff_dec hb31 | replace hb31 := X.ff_not hb31 | skip
              refine J.q rfl rfl (Q.mv rfl) ?_
              refine J.q rfl rfl (Q.leq rfl rfl) ?_
              refine J.q rfl rfl (Q.pick_t rfl rfl) ?_
              refine J.q rfl rfl (Q.pick_f rfl rfl) ?_
              refine J.q rfl rfl (Q.mv rfl) ?_
              refine J.cases 36 rfl (fun hb36 => ?_) (fun hb36 => ?_)
              ·
                first | replace hb36 := X.tt_dec hb36 | replace hb36 := X.tt_not hb36 | replace hb36 := X.ff_dec hb36 | replace hb36 := X.ff_not hb36 | skip
                refine J.skip rfl rfl ?_
                refine J.skip rfl rfl ?_
                refine J.q rfl rfl (Q.pick_t rfl rfl) ?_
                refine J.q rfl rfl (Q.mv rfl) ?_
                refine J.skip rfl rfl ?_
                refine J.skip rfl rfl ?_
                refine J.q rfl rfl (Q.pick_t rfl rfl) ?_
                refine J.q rfl rfl (Q.not rfl) ?_
                refine J.nil ?_
                refine J.then_n ?_
                refine J.cond_f rfl ?_
                refine J.cskip ?_
                refine J.blk_n ?_
                refine J.then_n ?_
                refine J.region ?_
                refine J.q rfl rfl (Q.mv rfl) ?_
                refine J.q rfl rfl (Q.add64 rfl rfl (by omega)) ?_
                refine J.q rfl rfl (Q.asg rfl) ?_
                refine J.nil ?_
                have hck : nameCh c = true := by rw [nameCh_iff]; omega
                refine J.again (k + 1) ⟨by omega, all_take_succ hall (by simpa using hc) hck⟩ (by omega) ⟨rfl, rfl, trivial⟩ rfl
              ·
                first | replace hb36 := X.tt_dec hb36 | replace hb36 := X.tt_not hb36 | replace hb36 := X.ff_dec hb36 | replace hb36 := X.ff_not hb36 | skip
                refine J.q rfl rfl (Q.mv rfl) ?_
                refine J.q rfl rfl (Q.eql rfl rfl) ?_
                refine J.q rfl rfl (Q.pick_f rfl rfl) ?_
                refine J.q rfl rfl (Q.mv rfl) ?_
                refine J.cases 40 rfl (fun hb40 => ?_) (fun hb40 => ?_)
                ·
                  first | replace hb40 := X.tt_dec hb40 | replace hb40 := X.tt_not hb40 | replace hb40 := X.ff_dec hb40 | replace hb40 := X.ff_not hb40 | skip
                  refine J.skip rfl rfl ?_
                  refine J.skip rfl rfl ?_
                  refine J.q rfl rfl (Q.pick_t rfl rfl) ?_
                  refine J.q rfl rfl (Q.not rfl) ?_
                  refine J.nil ?_
                  refine J.then_n ?_
                  refine J.cond_f rfl ?_
                  refine J.cskip ?_
                  refine J.blk_n ?_
                  refine J.then_n ?_
                  refine J.region ?_
                  refine J.q rfl rfl (Q.mv rfl) ?_
                  refine J.q rfl rfl (Q.add64 rfl rfl (by omega)) ?_
                  refine J.q rfl rfl (Q.asg rfl) ?_
                  refine J.nil ?_
                  have hck : nameCh c = true := by rw [nameCh_iff]; omega
                  refine J.again (k + 1) ⟨by omega, all_take_succ hall (by simpa using hc) hck⟩ (by omega) ⟨rfl, rfl, trivial⟩ rfl
                ·
                  first | replace hb40 := X.tt_dec hb40 | replace hb40 := X.tt_not hb40 | replace hb40 := X.ff_dec hb40 | replace hb40 := X.ff_not hb40 | skip
                  refine J.q rfl rfl (Q.mv rfl) ?_
                  refine J.q rfl rfl (Q.eql rfl rfl) ?_
                  refine J.q rfl rfl (Q.pick_f rfl rfl) ?_
                  refine J.q rfl rfl (Q.not rfl) ?_
                  refine J.nil ?_
                  refine J.then_n ?_
                  refine J.cond rfl (fun hc44 => ?_) (fun hc44 => ?_)
                  ·
                    first | replace hc44 := X.tt_dec hc44 | replace hc44 := X.tt_not hc44 | replace hc44 := X.ff_dec hc44 | replace hc44 := X.ff_not hc44 | skip
                    refine J.seq ?_
                    refine J.region ?_
                    refine J.q rfl rfl (Q.asg rfl) ?_
                    refine J.nil ?_
                    refine J.then_n ?_
                    refine J.cret ?_
                    refine J.blk_r ?_
                    refine J.then_r ?_
                    refine J.lp_r ?_
                    refine J.blk_r ?_
                    refine J.then_r ?_
                    first
                      | (have hck : nameCh c = false := by rw [nameCh_not]; omega
                         refine J.ret1 (B := []) rfl rfl ⟨?_, rfl⟩ rfl
                         rw [nameOK_bad (by simpa using hc) hck])
                      | (refine J.ret1 (B := []) rfl rfl ⟨?_, rfl⟩ rfl
                         rw [nameOK_good (by omega) (by omega) (by rw [← hall, hge, List.take_of_length_le (by omega)])])
                  ·
                    first | replace hc44 := X.tt_dec hc44 | replace hc44 := X.tt_not hc44 | replace hc44 := X.ff_dec hc44 | replace hc44 := X.ff_not hc44 | skip
                    refine J.cskip ?_
                    refine J.blk_n ?_
                    refine J.then_n ?_
                    refine J.region ?_
                    refine J.q rfl rfl (Q.mv rfl) ?_
                    refine J.q rfl rfl (Q.add64 rfl rfl (by omega)) ?_
                    refine J.q rfl rfl (Q.asg rfl) ?_
                    refine J.nil ?_
                    have hck : nameCh c = true := by rw [nameCh_iff]; omega
                    refine J.again (k + 1) ⟨by omega, all_take_succ hall (by simpa using hc) hck⟩ (by omega) ⟨rfl, rfl, trivial⟩ rfl
            ·
              first | replace hb31 := X.tt_dec hb31 | replace hb31 := X.tt_not hb31 | replace hb31 := X.ff_dec hb31 | replace hb31 := X.ff_not hb31 | skip
              refine J.skip rfl rfl ?_
              refine J.skip rfl rfl ?_
              refine J.q rfl rfl (Q.pick_f rfl rfl) ?_
              refine J.q rfl rfl (Q.pick_f rfl rfl) ?_
              refine J.q rfl rfl (Q.mv rfl) ?_
              refine J.q rfl rfl (Q.mv rfl) ?_
              refine J.q rfl rfl (Q.eql rfl rfl) ?_
              refine J.q rfl rfl (Q.pick_f rfl rfl) ?_
              refine J.q rfl rfl (Q.mv rfl) ?_
              refine J.cases 40 rfl (fun hb40 => ?_) (fun hb40 => ?_)
              ·
                first | replace hb40 := X.tt_dec hb40 | replace hb40 := X.tt_not hb40 | replace hb40 := X.ff_dec hb40 | replace hb40 := X.ff_not hb40 | skip
                refine J.skip rfl rfl ?_
                refine J.skip rfl rfl ?_
                refine J.q rfl rfl (Q.pick_t rfl rfl) ?_
                refine J.q rfl rfl (Q.not rfl) ?_
                refine J.nil ?_
                refine J.then_n ?_
                refine J.cond_f rfl ?_
                refine J.cskip ?_
                refine J.blk_n ?_
                refine J.then_n ?_
                refine J.region ?_
                refine J.q rfl rfl (Q.mv rfl) ?_
                refine J.q rfl rfl (Q.add64 rfl rfl (by omega)) ?_
                refine J.q rfl rfl (Q.asg rfl) ?_
                refine J.nil ?_
                have hck : nameCh c = true := by rw [nameCh_iff]; omega
                refine J.again (k + 1) ⟨by omega, all_take_succ hall (by simpa using hc) hck⟩ (by omega) ⟨rfl, rfl, trivial⟩ rfl
              ·
                first | replace hb40 := X.tt_dec hb40 | replace hb40 := X.tt_not hb40 | replace hb40 := X.ff_dec hb40 | replace hb40 := X.ff_not hb40 | skip
                refine J.q rfl rfl (Q.mv rfl) ?_
                refine J.q rfl rfl (Q.eql rfl rfl) ?_
                refine J.q rfl rfl (Q.pick_f rfl rfl) ?_
                refine J.q rfl rfl (Q.not rfl) ?_
                refine J.nil ?_
                refine J.then_n ?_
                refine J.cond rfl (fun hc44 => ?_) (fun hc44 => ?_)
                ·
                  first | replace hc44 := X.tt_dec hc44 | replace hc44 := X.tt_not hc44 | replace hc44 := X.ff_dec hc44 | replace hc44 := X.ff_not hc44 | skip
                  refine J.seq ?_
                  refine J.region ?_
                  refine J.q rfl rfl (Q.asg rfl) ?_
                  refine J.nil ?_
                  refine J.then_n ?_
                  refine J.cret ?_
                  refine J.blk_r ?_
                  refine J.then_r ?_
                  refine J.lp_r ?_
                  refine J.blk_r ?_
                  refine J.then_r ?_
                  first
                    | (have hck : nameCh c = false := by rw [nameCh_not]; omega
                       refine J.ret1 (B := []) rfl rfl ⟨?_, rfl⟩ rfl
                       rw [nameOK_bad (by simpa using hc) hck])
                    | (refine J.ret1 (B := []) rfl rfl ⟨?_, rfl⟩ rfl
                       rw [nameOK_good (by omega) (by omega) (by rw [← hall, hge, List.take_of_length_le (by omega)])])
                ·
                  first | replace hc44 := X.tt_dec hc44 | replace hc44 := X.tt_not hc44 | replace hc44 := X.ff_dec hc44 | replace hc44 := X.ff_not hc44 | skip
                  refine J.cskip ?_
                  refine J.blk_n ?_
                  refine J.then_n ?_
                  refine J.region ?_
                  refine J.q rfl rfl (Q.mv rfl) ?_
                  refine J.q rfl rfl (Q.add64 rfl rfl (by omega)) ?_
                  refine J.q rfl rfl (Q.asg rfl) ?_
                  refine J.nil ?_
                  have hck : nameCh c = true := by rw [nameCh_iff]; omega
                  refine J.again (k + 1) ⟨by omega, all_take_succ hall (by simpa using hc) hck⟩ (by omega) ⟨rfl, rfl, trivial⟩ rfl
        ·
          first | replace hb24 := X.tt_dec hb24 | replace hb24 := X.tt_not hb24 | replace hb24 := X.ff_dec hb24 | replace hb24 := X.ff_not hb24 | skip
          refine J.skip rfl rfl ?_
          refine J.skip rfl rfl ?_
          refine J.q rfl rfl (Q.pick_f rfl rfl) ?_
          refine J.q rfl rfl (Q.mv rfl) ?_
          refine J.q rfl rfl (Q.mv rfl) ?_
          refine J.q rfl rfl (Q.geq rfl rfl) ?_
          refine J.q rfl rfl (Q.mv rfl) ?_
          refine J.cases 31 rfl (fun hb31 => ?_) (fun hb31 => ?_)
          ·
            first | replace hb31 := X.tt_dec hb31 | replace hb31 := X.tt_not hb31 | replace hb31 := X.ff_dec hb31 | replace hb31 := X.ff_not hb31 | skip
            refine J.q rfl rfl (Q.mv rfl) ?_
            refine J.q rfl rfl (Q.leq rfl rfl) ?_
            refine J.q rfl rfl (Q.pick_t rfl rfl) ?_
            refine J.q rfl rfl (Q.pick_f rfl rfl) ?_
            refine J.q rfl rfl (Q.mv rfl) ?_
            refine J.cases 36 rfl (fun hb36 => ?_) (fun hb36 => ?_)
            ·
              first | replace hb36 := X.tt_dec hb36 | replace hb36 := X.tt_not hb36 | replace hb36 := X.ff_dec hb36 | replace hb36 := X.ff_not hb36 | skip
              refine J.skip rfl rfl ?_
              refine J.skip rfl rfl ?_
              refine J.q rfl rfl (Q.pick_t rfl rfl) ?_
              refine J.q rfl rfl (Q.mv rfl) ?_
              refine J.skip rfl rfl ?_
              refine J.skip rfl rfl ?_
              refine J.q rfl rfl (Q.pick_t rfl rfl) ?_
              refine J.q rfl rfl (Q.not rfl) ?_
              refine J.nil ?_
              refine J.then_n ?_
              refine J.cond_f rfl ?_
              refine J.cskip ?_
              refine J.blk_n ?_
              refine J.then_n ?_
              refine J.region ?_
              refine J.q rfl rfl (Q.mv rfl) ?_
              refine J.q rfl rfl (Q.add64 rfl rfl (by omega)) ?_
              refine J.q rfl rfl (Q.asg rfl) ?_
              refine J.nil ?_
              have hck : nameCh c = true := by rw [nameCh_iff]; omega
              refine J.again (k + 1) ⟨by omega, all_take_succ hall (by simpa using hc) hck⟩ (by omega) ⟨rfl, rfl, trivial⟩ rfl
            ·
              first | replace hb36 := X.tt_dec hb36 | replace hb36 := X.tt_not hb36 | replace hb36 := X.ff_dec hb36 | replace hb36 := X.ff_not hb36 | skip
              refine J.q rfl rfl (Q.mv rfl) ?_
              refine J.q rfl rfl (Q.eql rfl rfl) ?_
              refine J.q rfl rfl (Q.pick_f rfl rfl) ?_
              refine J.q rfl rfl (Q.mv rfl) ?_
              refine J.cases 40 rfl (fun hb40 => ?_) (fun hb40 => ?_)
              ·
                first | replace hb40 := X.tt_dec hb40 | replace hb40 := X.tt_not hb40 | replace hb40 := X.ff_dec hb40 | replace hb40 := X.ff_not hb40 | skip
                refine J.skip rfl rfl ?_
                refine J.skip rfl rfl ?_
                refine J.q rfl rfl (Q.pick_t rfl rfl) ?_
                refine J.q rfl rfl (Q.not rfl) ?_
                refine J.nil ?_
                refine J.then_n ?_
                refine J.cond_f rfl ?_
                refine J.cskip ?_
                refine J.blk_n ?_
                refine J.then_n ?_
                refine J.region ?_
                refine J.q rfl rfl (Q.mv rfl) ?_
                refine J.q rfl rfl (Q.add64 rfl rfl (by omega)) ?_
                refine J.q rfl rfl (Q.asg rfl) ?_
                refine J.nil ?_
                have hck : nameCh c = true := by rw [nameCh_iff]; omega
                refine J.again (k + 1) ⟨by omega, all_take_succ hall (by simpa using hc) hck⟩ (by omega) ⟨rfl, rfl, trivial⟩ rfl
              ·
                first | replace hb40 := X.tt_dec hb40 | replace hb40 := X.tt_not hb40 | replace hb40 := X.ff_dec hb40 | replace hb40 := X.ff_not hb40 | skip
                refine J.q rfl rfl (Q.mv rfl) ?_
                refine J.q rfl rfl (Q.eql rfl rfl) ?_
                refine J.q rfl rfl (Q.pick_f rfl rfl) ?_
                refine J.q rfl rfl (Q.not rfl) ?_
                refine J.nil ?_
                refine J.then_n ?_
                refine J.cond rfl (fun hc44 => ?_) (fun hc44 => ?_)
                ·
                  first | replace hc44 := X.tt_dec hc44 | replace hc44 := X.tt_not hc44 | replace hc44 := X.ff_dec hc44 | replace hc44 := X.ff_not hc44 | skip
                  refine J.seq ?_
                  refine J.region ?_
                  refine J.q rfl rfl (Q.asg rfl) ?_
                  refine J.nil ?_
                  refine J.then_n ?_
                  refine J.cret ?_
                  refine J.blk_r ?_
                  refine J.then_r ?_
                  refine J.lp_r ?_
                  refine J.blk_r ?_
                  refine J.then_r ?_
                  first
                    | (have hck : nameCh c = false := by rw [nameCh_not]; omega
                       refine J.ret1 (B := []) rfl rfl ⟨?_, rfl⟩ rfl
                       rw [nameOK_bad (by simpa using hc) hck])
                    | (refine J.ret1 (B := []) rfl rfl ⟨?_, rfl⟩ rfl
                       rw [nameOK_good (by omega) (by omega) (by rw [← hall, hge, List.take_of_length_le (by omega)])])
                ·
                  first | replace hc44 := X.tt_dec hc44 | replace hc44 := X.tt_not hc44 | replace hc44 := X.ff_dec hc44 | replace hc44 := X.ff_not hc44 | skip
                  refine J.cskip ?_
                  refine J.blk_n ?_
                  refine J.then_n ?_
                  refine J.region ?_
                  refine J.q rfl rfl (Q.mv rfl) ?_
                  refine J.q rfl rfl (Q.add64 rfl rfl (by omega)) ?_
                  refine J.q rfl rfl (Q.asg rfl) ?_
                  refine J.nil ?_
                  have hck : nameCh c = true := by rw [nameCh_iff]; omega
                  refine J.again (k + 1) ⟨by omega, all_take_succ hall (by simpa using hc) hck⟩ (by omega) ⟨rfl, rfl, trivial⟩ rfl
          ·
            first | replace hb31 := X.tt_dec hb31 | replace hb31 := X.tt_not hb31 | replace hb31 := X.ff_dec hb31 | replace hb31 := X.ff_not hb31 | skip
            refine J.skip rfl rfl ?_
            refine J.skip rfl rfl ?_
            refine J.q rfl rfl (Q.pick_f rfl rfl) ?_
            refine J.q rfl rfl (Q.pick_f rfl rfl) ?_
            refine J.q rfl rfl (Q.mv rfl) ?_
            refine J.q rfl rfl (Q.mv rfl) ?_
            refine J.q rfl rfl (Q.eql rfl rfl) ?_
            refine J.q rfl rfl (Q.pick_f rfl rfl) ?_
            refine J.q rfl rfl (Q.mv rfl) ?_
            refine J.cases 40 rfl (fun hb40 => ?_) (fun hb40 => ?_)
            ·
              first | replace hb40 := X.tt_dec hb40 | replace hb40 := X.tt_not hb40 | replace hb40 := X.ff_dec hb40 | replace hb40 := X.ff_not hb40 | skip
              refine J.skip rfl rfl ?_
              refine J.skip rfl rfl ?_
              refine J.q rfl rfl (Q.pick_t rfl rfl) ?_
              refine J.q rfl rfl (Q.not rfl) ?_
              refine J.nil ?_
              refine J.then_n ?_
              refine J.cond_f rfl ?_
              refine J.cskip ?_
              refine J.blk_n ?_
              refine J.then_n ?_
              refine J.region ?_
              refine J.q rfl rfl (Q.mv rfl) ?_
              refine J.q rfl rfl (Q.add64 rfl rfl (by omega)) ?_
              refine J.q rfl rfl (Q.asg rfl) ?_
              refine J.nil ?_
              have hck : nameCh c = true := by rw [nameCh_iff]; omega
              refine J.again (k + 1) ⟨by omega, all_take_succ hall (by simpa using hc) hck⟩ (by omega) ⟨rfl, rfl, trivial⟩ rfl
            ·
              first | replace hb40 := X.tt_dec hb40 | replace hb40 := X.tt_not hb40 | replace hb40 := X.ff_dec hb40 | replace hb40 := X.ff_not hb40 | skip
              refine J.q rfl rfl (Q.mv rfl) ?_
              refine J.q rfl rfl (Q.eql rfl rfl) ?_
              refine J.q rfl rfl (Q.pick_f rfl rfl) ?_
              refine J.q rfl rfl (Q.not rfl) ?_
              refine J.nil ?_
              refine J.then_n ?_
              refine J.cond rfl (fun hc44 => ?_) (fun hc44 => ?_)
              ·
                first | replace hc44 := X.tt_dec hc44 | replace hc44 := X.tt_not hc44 | replace hc44 := X.ff_dec hc44 | replace hc44 := X.ff_not hc44 | skip
                refine J.seq ?_
                refine J.region ?_
                refine J.q rfl rfl (Q.asg rfl) ?_
                refine J.nil ?_
                refine J.then_n ?_
                refine J.cret ?_
                refine J.blk_r ?_
                refine J.then_r ?_
                refine J.lp_r ?_
                refine J.blk_r ?_
                refine J.then_r ?_
                first
                  | (have hck : nameCh c = false := by rw [nameCh_not]; omega
                     refine J.ret1 (B := []) rfl rfl ⟨?_, rfl⟩ rfl
                     rw [nameOK_bad (by simpa using hc) hck])
                  | (refine J.ret1 (B := []) rfl rfl ⟨?_, rfl⟩ rfl
                     rw [nameOK_good (by omega) (by omega) (by rw [← hall, hge, List.take_of_length_le (by omega)])])
              ·
                first | replace hc44 := X.tt_dec hc44 | replace hc44 := X.tt_not hc44 | replace hc44 := X.ff_dec hc44 | replace hc44 := X.ff_not hc44 | skip
                refine J.cskip ?_
                refine J.blk_n ?_
                refine J.then_n ?_
                refine J.region ?_
                refine J.q rfl rfl (Q.mv rfl) ?_
                refine J.q rfl rfl (Q.add64 rfl rfl (by omega)) ?_
                refine J.q rfl rfl (Q.asg rfl) ?_
                refine J.nil ?_
                have hck : nameCh c = true := by rw [nameCh_iff]; omega
                refine J.again (k + 1) ⟨by omega, all_take_succ hall (by simpa using hc) hck⟩ (by omega) ⟨rfl, rfl, trivial⟩ rfl
      ·
        first | replace hc16 := X.tt_dec hc16 | replace hc16 := X.tt_not hc16 | replace hc16 := X.ff_dec hc16 | replace hc16 := X.ff_not hc16 | skip
        have hge : k = s.size := by omega
        refine J.exit ?_
        refine J.then_x ?_
        refine J.lp_x ?_
        refine J.blk_x ?_
        refine J.then_n ?_
        refine J.seq ?_
        refine J.region ?_
        refine J.q rfl rfl (Q.asg rfl) ?_
        refine J.nil ?_
        refine J.then_n ?_
        refine J.cret ?_
        first
          | (have hck : nameCh c = false := by rw [nameCh_not]; omega
             refine J.ret1 (B := []) rfl rfl ⟨?_, rfl⟩ rfl
             rw [nameOK_bad (by simpa using hc) hck])
          | (refine J.ret1 (B := []) rfl rfl ⟨?_, rfl⟩ rfl
             rw [nameOK_good (by omega) (by omega) (by rw [← hall, hge, List.take_of_length_le (by omega)])])

theorem rbegins_spec (s p : ByteArray) : FSpec Try.prog 48 [.string s, .string p] [] (fun v B => v = .bool (beg s p) ∧ B = []) := by
  refine FSpec.of Try.func48 rfl Try.ntmps48 rfl fun W0 F => ?_
  refine J.seq ?_
  refine J.region ?_
  refine J.q rfl rfl (Q.asg rfl) ?_
  refine J.nil ?_
  refine J.then_n ?_
  refine J.seq ?_
  refine J.region ?_
  refine J.q rfl rfl (Q.mv rfl) ?_
  refine J.q rfl rfl (Q.lenS Try.runUnderlying9 rfl) ?_
  refine J.q rfl rfl (Q.mv rfl) ?_
  refine J.q rfl rfl (Q.lenS Try.runUnderlying9 rfl) ?_
  refine J.q rfl rfl (Q.geq rfl rfl) ?_
  refine J.q rfl rfl (Q.mv rfl) ?_
  refine J.cases 10 rfl (fun hb10 => ?_) (fun hb10 => ?_)
  ·
    first | replace hb10 := X.tt_dec hb10 | replace hb10 := X.tt_not hb10 | replace hb10 := X.ff_dec hb10 | replace hb10 := X.ff_not hb10 | skip
    refine J.q rfl rfl (Q.mv rfl) ?_
    refine J.q rfl rfl (Q.mv rfl) ?_
    refine J.q rfl rfl (Q.lenS Try.runUnderlying9 rfl) ?_
    refine J.q rfl rfl (Q.strH Try.runUnderlying9 rfl rfl (by omega) (by omega)) ?_
    refine J.q rfl rfl (Q.mv rfl) ?_
    refine J.q rfl rfl (Q.eqls rfl rfl) ?_
    refine J.q rfl rfl (Q.pick_t rfl rfl) ?_
    refine J.q rfl rfl (Q.asg rfl) ?_
    refine J.nil ?_
    refine J.then_n ?_
    refine J.cret ?_
    refine J.ret1 (B := []) rfl rfl ⟨?_, rfl⟩ rfl
    unfold beg
    first
      | (rw [decide_eq_true (show p.size ≤ s.size by omega)]; simp only [Bool.true_and, Int.toNat_natCast]; done)
      | (rw [decide_eq_true (show p.size ≤ s.size by omega)]; rfl)
      | (rw [decide_eq_false (show ¬ p.size ≤ s.size by omega)]; rfl)
  ·
    first | replace hb10 := X.tt_dec hb10 | replace hb10 := X.tt_not hb10 | replace hb10 := X.ff_dec hb10 | replace hb10 := X.ff_not hb10 | skip
    refine J.skip rfl rfl ?_
    refine J.skip rfl rfl ?_
    refine J.skip rfl rfl ?_
    refine J.skip rfl rfl ?_
    refine J.skip rfl rfl ?_
    refine J.skip rfl rfl ?_
    refine J.q rfl rfl (Q.pick_f rfl rfl) ?_
    refine J.q rfl rfl (Q.asg rfl) ?_
    refine J.nil ?_
    refine J.then_n ?_
    refine J.cret ?_
    refine J.ret1 (B := []) rfl rfl ⟨?_, rfl⟩ rfl
    unfold beg
    first
      | (rw [decide_eq_true (show p.size ≤ s.size by omega)]; simp only [Bool.true_and, Int.toNat_natCast]; done)
      | (rw [decide_eq_true (show p.size ≤ s.size by omega)]; rfl)
      | (rw [decide_eq_false (show ¬ p.size ≤ s.size by omega)]; rfl)

theorem lenSum_take {l : List FM} {k : Nat} {f : FM} (h : l[k]? = some f) : lenSum (l.take (k + 1)) = lenSum (l.take k) + f.bs.length := by
  obtain ⟨h1, h2⟩ := List.getElem?_eq_some_iff.1 h
  rw [List.take_succ_eq_append_getElem h1, lenSum_append, h2]; simp [lenSum]
theorem lenSum_take_le (k : Nat) (l : List FM) : lenSum (l.take k) ≤ lenSum l := by
  have := lenSum_append (l.take k) (l.drop k)
  rw [List.take_append_drop] at this; omega

theorem rused_spec (q size born : Nat) (fs : List RFile) (hn : fs.length ≤ 9223372036854775807) (hu : lenSum (fms fs) ≤ 9223372036854775807) : FSpec Try.prog 47 [.pointer (some ⟨q, 0, none⟩)] [RTab q size born fs]
    (fun v B => v = .int .i64 (lenSum (fms fs)) ∧ B = [RTab q size born fs]) := by
  refine FSpec.of Try.func47 rfl Try.ntmps47 rfl fun W0 F => ?_
  refine J.seq ?_
  refine J.open1 0 rfl (fun _ h => h) fun z => ?_
  refine J.norm rfl ?_
  obtain ⟨p, c⟩ := z
  refine J.slr1 1 rfl fun hsl => ?_
  refine J.region ?_
  refine J.q rfl rfl (Q.asg rfl) ?_
  refine J.nil ?_
  refine J.then_n ?_
  refine J.seq ?_
  refine J.region ?_
  refine J.q rfl rfl (Q.asg rfl) ?_
  refine J.nil ?_
  refine J.then_n ?_
  refine J.seq ?_
  refine J.seq ?_
  refine J.region ?_
  refine J.q rfl rfl (Q.asg rfl) ?_
  refine J.nil ?_
  refine J.then_n ?_
  refine J.block ?_
  refine J.loop (fun k : Nat => k ≤ fs.length) (fun k => fs.length - k) (fun k => [(0, .pointer (some ⟨q, 0, none⟩)), (3, .int .i64 (lenSum ((fms fs).take k))), (4, .int .i64 k)]) (fun _ => [pt q (.cells [.int .i64 size, .slice p fs.length c, .int .i64 born].toArray 56 (0, 0)), own 82 3 (.slice p fs.length c) (fs.flatMap RFile.cells), F]) 0
    (Nat.zero_le _) ⟨rfl, rfl, rfl, trivial⟩ rfl fun k hk => ?_
  refine J.seq ?_
  refine J.seq ?_
  refine J.region ?_
  refine J.q rfl rfl (Q.mv rfl) ?_
  refine J.q rfl rfl (Q.mv rfl) ?_
  refine J.q rfl rfl (Q.nil_ rfl) ?_
  refine J.q rfl rfl (Q.fa (n := 1) Try.runUnderlying56 rfl rfl Try.sizeOf54 rfl) ?_
  refine J.q rfl rfl (Q.ld Try.isAgg54 rfl (by first | exact Reads.pt 0 rfl rfl | exact Reads.pt 1 rfl rfl | exact Reads.pt 2 rfl rfl | exact Reads.pt 3 rfl rfl | exact Reads.pt 4 rfl rfl | exact Reads.pt 5 rfl rfl | exact Reads.pt 6 rfl rfl | exact Reads.pt 7 rfl rfl)) ?_
  refine J.q rfl rfl (Q.lenSl Try.runUnderlying54 rfl) ?_
  refine J.q rfl rfl (Q.lss rfl rfl) ?_
  refine J.nil ?_
  refine J.then_n ?_
  refine J.cond rfl (fun hc11 => ?_) (fun hc11 => ?_)
  ·
    first | replace hc11 := X.tt_dec hc11 | replace hc11 := X.tt_not hc11 | replace hc11 := X.ff_dec hc11 | replace hc11 := X.ff_not hc11 | skip
    refine J.cskip ?_
    refine J.then_n ?_
    refine J.seq ?_
    refine J.block ?_
    refine J.region ?_
    refine J.q rfl rfl (Q.mv rfl) ?_
    refine J.q rfl rfl (Q.mv rfl) ?_
    refine J.q rfl rfl (Q.nil_ rfl) ?_
    refine J.q rfl rfl (Q.fa (n := 1) Try.runUnderlying56 rfl rfl Try.sizeOf54 rfl) ?_
    refine J.q rfl rfl (Q.ld Try.isAgg54 rfl (by first | exact Reads.pt 0 rfl rfl | exact Reads.pt 1 rfl rfl | exact Reads.pt 2 rfl rfl | exact Reads.pt 3 rfl rfl | exact Reads.pt 4 rfl rfl | exact Reads.pt 5 rfl rfl | exact Reads.pt 6 rfl rfl | exact Reads.pt 7 rfl rfl)) ?_
    refine J.q rfl rfl (Q.mv rfl) ?_
    obtain ⟨b, off, rfl, hrd⟩ := hsl.some_ (by omega)
    obtain ⟨x, hx⟩ : ∃ x, fs[k]? = some x := ⟨_, List.getElem?_eq_getElem (by omega)⟩
    have hsum : lenSum ((fms fs).take (k + 1)) = lenSum ((fms fs).take k) + x.f.bs.length := lenSum_take (by rw [List.getElem?_map, hx]; rfl)
    have hle := lenSum_take_le (k + 1) (fms fs)
    refine J.q rfl rfl (Q.ia Try.runUnderlying54 Try.sizeOf82 rfl rfl (by omega) (by omega)) ?_
    refine J.q rfl rfl (Q.fa (n := 1) Try.runUnderlying82 rfl rfl Try.sizeOf30 rfl) ?_
    refine J.q rfl rfl (Q.ld Try.isAgg30 rfl ((rd_field RFile.cells_length hrd hx (k := 1) rfl (by simp; omega)).within (i := 1) rfl)) ?_
    refine J.q rfl rfl (Q.lenSl Try.runUnderlying30 rfl) ?_
    refine J.q rfl rfl (Q.add64 rfl rfl (by omega)) ?_
    refine J.q rfl rfl (Q.asg rfl) ?_
    refine J.nil ?_
    refine J.blk_n ?_
    refine J.then_n ?_
    refine J.region ?_
    refine J.q rfl rfl (Q.mv rfl) ?_
    refine J.q rfl rfl (Q.add64 rfl rfl (by omega)) ?_
    refine J.q rfl rfl (Q.asg rfl) ?_
    refine J.nil ?_
    refine J.again (k + 1) (by show k + 1 ≤ _; omega) (by show fs.length - (k + 1) < fs.length - k; omega) ⟨rfl, congrArg some (congrArg (Value.int .i64) (by omega)), rfl, trivial⟩ rfl
  ·
    first | replace hc11 := X.tt_dec hc11 | replace hc11 := X.tt_not hc11 | replace hc11 := X.ff_dec hc11 | replace hc11 := X.ff_not hc11 | skip
    refine J.exit ?_
    refine J.then_x ?_
    refine J.lp_x ?_
    refine J.blk_x ?_
    refine J.then_n ?_
    refine J.seq ?_
    refine J.region ?_
    refine J.q rfl rfl (Q.mv rfl) ?_
    refine J.q rfl rfl (Q.asg rfl) ?_
    refine J.nil ?_
    refine J.then_n ?_
    refine J.cret ?_
    have hk' : k = fs.length := by omega
    subst hk'
    rw [show (fms fs).take fs.length = fms fs from List.take_of_length_le (by simp)]
    refine J.shut [0, 1] (RTab q size born fs) rfl (fun h s => ⟨(p, c), s⟩) ?_
    refine J.ret1 (B := [RTab q size born fs]) rfl rfl ⟨rfl, rfl⟩ rfl

theorem isAt_lt {n : ByteArray} {l : List FM} (h : isAt n l = true) : place n l < l.length := by
  unfold isAt at h
  cases e : l[place n l]? with
  | none => rw [e] at h; cases h
  | some f => exact (List.getElem?_eq_some_iff.1 e).1
theorem cells_one {fs : List RFile} {v : Value} (h : v ∈ fs.flatMap RFile.cells) : oneC v = true := by
  simp only [List.mem_flatMap] at h
  obtain ⟨x, _, hx⟩ := h
  simp only [RFile.cells, List.mem_cons, List.not_mem_nil, or_false] at hx
  rcases hx with rfl | rfl | rfl <;> rfl

def rput (x : RFile) (fs : List RFile) : List RFile :=
  if isAt x.f.name (fms fs) = true then fs.set (place x.f.name (fms fs)) x else fs.take (place x.f.name (fms fs)) ++ x :: fs.drop (place x.f.name (fms fs))
def rdrop (n : ByteArray) (fs : List RFile) : List RFile :=
  if isAt n (fms fs) = true then fs.eraseIdx (place n (fms fs)) else fs

theorem put_spec (q size born : Nat) (fs : List RFile) (hn : fs.length ≤ 1073741824) (x : RFile) : FSpec Try.prog 51 [.pointer (some ⟨q, 0, none⟩), .agg x.cells.toArray] [RTab q size born fs]
    (fun v B => v = .tuple #[] ∧ B = [RTab q size born (rput x fs)]) := by
  refine FSpec.of Try.func51 rfl Try.ntmps51 rfl fun W0 F => ?_
  refine J.seq ?_
  refine J.region ?_
  refine J.c rfl rfl (C.box (l := [_, _, _]) rfl rfl) ?_
  rintro _ _ ⟨b3, rfl, rfl⟩
  refine J.norm rfl ?_
  refine J.nil ?_
  refine J.then_n ?_
  refine J.seq ?_
  refine J.region ?_
  refine J.q rfl rfl (Q.mv rfl) ?_
  refine J.q rfl rfl (Q.fa (n := 0) Try.runUnderlying82 rfl rfl Try.sizeOf9 rfl) ?_
  refine J.q rfl rfl (Q.ld Try.isAgg9 rfl (by first | exact Reads.pt 0 rfl rfl | exact Reads.pt 1 rfl rfl | exact Reads.pt 2 rfl rfl | exact Reads.pt 3 rfl rfl | exact Reads.pt 4 rfl rfl | exact Reads.pt 5 rfl rfl | exact Reads.pt 6 rfl rfl | exact Reads.pt 7 rfl rfl)) ?_
  refine J.call Try.call49 (find_spec q size born fs (by omega) x.f.name) [1] rfl rfl rfl rfl ?_
  rintro _ _ ⟨rfl, rfl⟩
  refine J.norm rfl ?_
  refine J.open1 0 rfl (fun _ h => h) fun z => ?_
  refine J.norm rfl ?_
  obtain ⟨p, c⟩ := z
  refine J.slr1 1 rfl fun hsl => ?_
  refine J.tells 1 rfl own.len fun hlc => ?_
  obtain ⟨_, hlc⟩ := hlc
  have hlc' : fs.length ≤ c := hlc
  dsimp only at hsl
  have hpl := place_le x.f.name (fms fs)
  simp only [List.length_map] at hpl
  refine J.q rfl rfl (Q.mv rfl) ?_
  refine J.q rfl rfl (Q.ext rfl rfl) ?_
  refine J.q rfl rfl (Q.ext rfl rfl) ?_
  refine J.q rfl rfl (Q.asg rfl) ?_
  refine J.q rfl rfl (Q.asg rfl) ?_
  refine J.nil ?_
  refine J.then_n ?_
  refine J.seq ?_
  refine J.seq ?_
  refine J.region ?_
  refine J.q rfl rfl (Q.mv rfl) ?_
  refine J.nil ?_
  refine J.then_n ?_
  refine J.cond rfl (fun hc14 => ?_) (fun hc14 => ?_)
  ·
    first | replace hc14 := X.tt_dec hc14 | replace hc14 := X.tt_not hc14 | replace hc14 := X.ff_dec hc14 | replace hc14 := X.ff_not hc14 | skip
    refine J.seq ?_
    have hlt := isAt_lt hc14
    simp only [List.length_map] at hlt
    obtain ⟨b, off, rfl, hrd⟩ := hsl.some_ (by omega)
    refine J.draw [7] Try.mixed (by kernel_rfl) fun hR => ?_
    refine RG.q 0 hR rfl rfl rfl rfl rfl rfl (Q.mv rfl) ?_
    refine RG.q 1 hR rfl rfl rfl rfl rfl rfl (Q.nil_ rfl) ?_
    refine RG.q 2 hR rfl rfl rfl rfl rfl rfl (Q.fa (n := 1) Try.runUnderlying56 rfl rfl Try.sizeOf54 rfl) ?_
    refine RG.q 3 hR rfl rfl rfl rfl rfl rfl (Q.ld Try.isAgg54 rfl (by first | exact Reads.pt 0 rfl rfl | exact Reads.pt 1 rfl rfl | exact Reads.pt 2 rfl rfl | exact Reads.pt 3 rfl rfl | exact Reads.pt 4 rfl rfl | exact Reads.pt 5 rfl rfl | exact Reads.pt 6 rfl rfl | exact Reads.pt 7 rfl rfl)) ?_
    refine RG.q 4 hR rfl rfl rfl rfl rfl rfl (Q.mv rfl) ?_
    refine RG.q 5 hR rfl rfl rfl rfl rfl rfl (Q.ldN (vs := [_, _, _]) Try.isAgg82 Try.sizeOf82 rfl (fun j u h => Reads.pt 2 rfl (by rw [Nat.zero_add]; exact h))) ?_
    refine RG.q 6 hR rfl rfl rfl rfl rfl rfl (Q.ia Try.runUnderlying54 Try.sizeOf82 rfl rfl (by omega) (by omega)) ?_
    refine RG.bar 7 hR rfl rfl rfl rfl rfl rfl (C.stON 1 (vs := x.cells) (j := place x.f.name (fms fs) * 3) Try.sizeOf82 rfl rfl rfl (by simp) (by rw [flat_length RFile.cells_length, RFile.cells_length]; omega) (by simp [RFile.cells, oneC])) ?_
    rintro _ _ ⟨rfl, rfl⟩
    refine RG.norm rfl ?_
    refine RG.fin hR rfl ?_
    refine J.norm rfl ?_
    refine J.then_n ?_
    refine J.cret ?_
    refine J.then_r ?_
    refine J.shut [0, 1] (RTab q size born (rput x fs)) rfl (fun h s => ⟨(some ⟨b, off, none⟩, c), by
      have e : rput x fs = fs.set (place x.f.name (fms fs)) x := if_pos hc14
      rw [e, List.length_set, ← flat_set RFile.cells_length fs _ x (by omega)]; exact s⟩) ?_
    refine J.keep [0, 2] rfl ?_
    refine J.ret0 (B := [RTab q size born (rput x fs)]) rfl ⟨rfl, rfl⟩ rfl
  ·
    first | replace hc14 := X.tt_dec hc14 | replace hc14 := X.tt_not hc14 | replace hc14 := X.ff_dec hc14 | replace hc14 := X.ff_not hc14 | skip
    refine J.cskip ?_
    refine J.then_n ?_
    refine J.cut (fun z : Option Addr × Nat => True) (fun z => [(0, .pointer (some ⟨q, 0, none⟩)), (4, .int .i64 (place x.f.name (fms fs))), (6, .slice z.1 (0 + place x.f.name (fms fs) + 1) z.2)]) (fun z => [pt q (.cells [.int .i64 size, .slice p fs.length c, .int .i64 born].toArray 56 (0, 0)), own 82 3 (.slice p fs.length c) (fs.flatMap RFile.cells), own 82 3 (.slice z.1 (0 + place x.f.name (fms fs) + 1) z.2) ([] ++ (fs.flatMap RFile.cells).take (place x.f.name (fms fs) * 3) ++ x.cells), F]) ?_ fun z _ => ?_
    ·
      obtain ⟨hq28, hr28⟩ := slH_ (P := Try.prog) (T := 54) Try.runUnderlying54 Try.sizeOf82 hsl (hi := place x.f.name (fms fs)) (by omega) hlc'
      refine J.draw [0, 7, 9, 10, 11] Try.mixed (by kernel_rfl) fun hR => ?_
      refine RG.q 1 hR rfl rfl rfl rfl rfl rfl (Q.mv rfl) ?_
      refine RG.q 2 hR rfl rfl rfl rfl rfl rfl (Q.nil_ rfl) ?_
      refine RG.q 3 hR rfl rfl rfl rfl rfl rfl (Q.fa (n := 1) Try.runUnderlying56 rfl rfl Try.sizeOf54 rfl) ?_
      refine RG.q 4 hR rfl rfl rfl rfl rfl rfl (Q.ld Try.isAgg54 rfl (by first | exact Reads.pt 0 rfl rfl | exact Reads.pt 1 rfl rfl | exact Reads.pt 2 rfl rfl | exact Reads.pt 3 rfl rfl | exact Reads.pt 4 rfl rfl | exact Reads.pt 5 rfl rfl | exact Reads.pt 6 rfl rfl | exact Reads.pt 7 rfl rfl)) ?_
      refine RG.q 5 hR rfl rfl rfl rfl rfl rfl (Q.mv rfl) ?_
      refine RG.q 6 hR rfl rfl rfl rfl rfl rfl (hq28 _ _ _ _ _ _ rfl rfl) ?_
      refine RG.q 8 hR rfl rfl rfl rfl rfl rfl (Q.ldN (vs := [_, _, _]) Try.isAgg82 Try.sizeOf82 rfl (fun j u h => Reads.pt 2 rfl (by rw [Nat.zero_add]; exact h))) ?_
      refine RG.many hR 0 [9] rfl ⟨?_, ⟨?_, trivial⟩⟩
      ·
        refine RGi.made rfl rfl rfl rfl (C.bslG (l := []) Try.runUnderlying54 Try.sizeOf82 Try.zeroValue82 (by decide) rfl rfl rfl rfl rfl) ?_
        rintro b22
        refine RG.many hR 7 [9] rfl ⟨?_, ⟨?_, trivial⟩⟩
        ·
          first | refine RGi.app 0 rfl rfl rfl rfl Try.runUnderlying54 Try.runUnderlying54 Try.typeInfo82 Try.sizeOf82 Try.zeroValue82 rfl rfl rfl own_of_zero rfl (hr28.within (i := 1) rfl) (fun v hv => cells_one (List.mem_of_mem_take hv)) (by simp [Try.t82] <;> omega) (by decide) ?_ | refine RGi.app 1 rfl rfl rfl rfl Try.runUnderlying54 Try.runUnderlying54 Try.typeInfo82 Try.sizeOf82 Try.zeroValue82 rfl rfl rfl own_of_zero rfl (hr28.within (i := 1) rfl) (fun v hv => cells_one (List.mem_of_mem_take hv)) (by simp [Try.t82] <;> omega) (by decide) ?_
          rintro p29 c29
          refine RG.normE rfl ?_
          refine RG.made 9 hR rfl rfl rfl rfl rfl (C.bslG (l := [_, _, _]) Try.runUnderlying54 Try.sizeOf82 Try.zeroValue82 (by decide) rfl rfl rfl rfl rfl) ?_
          rintro b31
          refine RG.many hR 10 [] rfl ⟨?_, trivial⟩
          ·
            first | refine RGi.app 0 rfl rfl rfl rfl Try.runUnderlying54 Try.runUnderlying54 Try.typeInfo82 Try.sizeOf82 Try.zeroValue82 rfl rfl rfl (fun _ h => h) rfl (by first | exact SlR.pt 4 rfl rfl (fun j u h => by rw [Nat.zero_add]; exact h) | exact SlR.pt 5 rfl rfl (fun j u h => by rw [Nat.zero_add]; exact h)) (by simp [oneC]) (by simp [Try.t82] <;> omega) (by decide) ?_ | refine RGi.app 1 rfl rfl rfl rfl Try.runUnderlying54 Try.runUnderlying54 Try.typeInfo82 Try.sizeOf82 Try.zeroValue82 rfl rfl rfl (fun _ h => h) rfl (by first | exact SlR.pt 4 rfl rfl (fun j u h => by rw [Nat.zero_add]; exact h) | exact SlR.pt 5 rfl rfl (fun j u h => by rw [Nat.zero_add]; exact h)) (by simp [oneC]) (by simp [Try.t82] <;> omega) (by decide) ?_
            rintro p32 c32
            refine RG.normE rfl ?_
            refine RG.bar 11 hR rfl rfl rfl rfl rfl rfl (Q.asg rfl).toC ?_
            rintro _ _ ⟨rfl, rfl⟩
            refine RG.norm rfl ?_
            refine RG.fin hR rfl ?_
            refine J.norm rfl ?_
            first
              | (refine J.keep [0, 1, 5, 3] rfl ?_
                 exact J.meet (p32, c32) trivial ⟨rfl, rfl, rfl, trivial⟩ rfl)
              | (refine J.keep [0, 1, 4, 3] rfl ?_
                 exact J.meet (p32, c32) trivial ⟨rfl, rfl, rfl, trivial⟩ rfl)
        ·
          refine RGi.made rfl rfl rfl rfl (C.bslG (l := [_, _, _]) Try.runUnderlying54 Try.sizeOf82 Try.zeroValue82 (by decide) rfl rfl rfl rfl rfl) ?_
          rintro b31
          refine RG.many hR 7 [] rfl ⟨?_, trivial⟩
          ·
            first | refine RGi.app 0 rfl rfl rfl rfl Try.runUnderlying54 Try.runUnderlying54 Try.typeInfo82 Try.sizeOf82 Try.zeroValue82 rfl rfl rfl own_of_zero rfl (hr28.within (i := 1) rfl) (fun v hv => cells_one (List.mem_of_mem_take hv)) (by simp [Try.t82] <;> omega) (by decide) ?_ | refine RGi.app 1 rfl rfl rfl rfl Try.runUnderlying54 Try.runUnderlying54 Try.typeInfo82 Try.sizeOf82 Try.zeroValue82 rfl rfl rfl own_of_zero rfl (hr28.within (i := 1) rfl) (fun v hv => cells_one (List.mem_of_mem_take hv)) (by simp [Try.t82] <;> omega) (by decide) ?_
            rintro p29 c29
            refine RG.normE rfl ?_
            refine RG.many hR 10 [] rfl ⟨?_, trivial⟩
            ·
              first | refine RGi.app 0 rfl rfl rfl rfl Try.runUnderlying54 Try.runUnderlying54 Try.typeInfo82 Try.sizeOf82 Try.zeroValue82 rfl rfl rfl (fun _ h => h) rfl (by first | exact SlR.pt 4 rfl rfl (fun j u h => by rw [Nat.zero_add]; exact h) | exact SlR.pt 5 rfl rfl (fun j u h => by rw [Nat.zero_add]; exact h)) (by simp [oneC]) (by simp [Try.t82] <;> omega) (by decide) ?_ | refine RGi.app 1 rfl rfl rfl rfl Try.runUnderlying54 Try.runUnderlying54 Try.typeInfo82 Try.sizeOf82 Try.zeroValue82 rfl rfl rfl (fun _ h => h) rfl (by first | exact SlR.pt 4 rfl rfl (fun j u h => by rw [Nat.zero_add]; exact h) | exact SlR.pt 5 rfl rfl (fun j u h => by rw [Nat.zero_add]; exact h)) (by simp [oneC]) (by simp [Try.t82] <;> omega) (by decide) ?_
              rintro p32 c32
              refine RG.normE rfl ?_
              refine RG.bar 11 hR rfl rfl rfl rfl rfl rfl (Q.asg rfl).toC ?_
              rintro _ _ ⟨rfl, rfl⟩
              refine RG.norm rfl ?_
              refine RG.fin hR rfl ?_
              refine J.norm rfl ?_
              first
                | (refine J.keep [0, 1, 5, 3] rfl ?_
                   exact J.meet (p32, c32) trivial ⟨rfl, rfl, rfl, trivial⟩ rfl)
                | (refine J.keep [0, 1, 4, 3] rfl ?_
                   exact J.meet (p32, c32) trivial ⟨rfl, rfl, rfl, trivial⟩ rfl)
      ·
        refine RGi.made rfl rfl rfl rfl (C.bslG (l := [_, _, _]) Try.runUnderlying54 Try.sizeOf82 Try.zeroValue82 (by decide) rfl rfl rfl rfl rfl) ?_
        rintro b31
        refine RG.made 0 hR rfl rfl rfl rfl rfl (C.bslG (l := []) Try.runUnderlying54 Try.sizeOf82 Try.zeroValue82 (by decide) rfl rfl rfl rfl rfl) ?_
        rintro b22
        refine RG.many hR 7 [] rfl ⟨?_, trivial⟩
        ·
          first | refine RGi.app 0 rfl rfl rfl rfl Try.runUnderlying54 Try.runUnderlying54 Try.typeInfo82 Try.sizeOf82 Try.zeroValue82 rfl rfl rfl own_of_zero rfl (hr28.within (i := 1) rfl) (fun v hv => cells_one (List.mem_of_mem_take hv)) (by simp [Try.t82] <;> omega) (by decide) ?_ | refine RGi.app 1 rfl rfl rfl rfl Try.runUnderlying54 Try.runUnderlying54 Try.typeInfo82 Try.sizeOf82 Try.zeroValue82 rfl rfl rfl own_of_zero rfl (hr28.within (i := 1) rfl) (fun v hv => cells_one (List.mem_of_mem_take hv)) (by simp [Try.t82] <;> omega) (by decide) ?_
          rintro p29 c29
          refine RG.normE rfl ?_
          refine RG.many hR 10 [] rfl ⟨?_, trivial⟩
          ·
            first | refine RGi.app 0 rfl rfl rfl rfl Try.runUnderlying54 Try.runUnderlying54 Try.typeInfo82 Try.sizeOf82 Try.zeroValue82 rfl rfl rfl (fun _ h => h) rfl (by first | exact SlR.pt 4 rfl rfl (fun j u h => by rw [Nat.zero_add]; exact h) | exact SlR.pt 5 rfl rfl (fun j u h => by rw [Nat.zero_add]; exact h)) (by simp [oneC]) (by simp [Try.t82] <;> omega) (by decide) ?_ | refine RGi.app 1 rfl rfl rfl rfl Try.runUnderlying54 Try.runUnderlying54 Try.typeInfo82 Try.sizeOf82 Try.zeroValue82 rfl rfl rfl (fun _ h => h) rfl (by first | exact SlR.pt 4 rfl rfl (fun j u h => by rw [Nat.zero_add]; exact h) | exact SlR.pt 5 rfl rfl (fun j u h => by rw [Nat.zero_add]; exact h)) (by simp [oneC]) (by simp [Try.t82] <;> omega) (by decide) ?_
            rintro p32 c32
            refine RG.normE rfl ?_
            refine RG.bar 11 hR rfl rfl rfl rfl rfl rfl (Q.asg rfl).toC ?_
            rintro _ _ ⟨rfl, rfl⟩
            refine RG.norm rfl ?_
            refine RG.fin hR rfl ?_
            refine J.norm rfl ?_
            first
              | (refine J.keep [0, 1, 5, 3] rfl ?_
                 exact J.meet (p32, c32) trivial ⟨rfl, rfl, rfl, trivial⟩ rfl)
              | (refine J.keep [0, 1, 4, 3] rfl ?_
                 exact J.meet (p32, c32) trivial ⟨rfl, rfl, rfl, trivial⟩ rfl)
    ·
      obtain ⟨p40, c40, hq40, hr40⟩ := slL_ (P := Try.prog) (T := 54) Try.runUnderlying54 Try.sizeOf82 hsl (lo := place x.f.name (fms fs)) (by omega) hlc'
      refine J.region ?_
      refine J.q rfl rfl (Q.mv rfl) ?_
      refine J.q rfl rfl (Q.mv rfl) ?_
      refine J.q rfl rfl (Q.mv rfl) ?_
      refine J.q rfl rfl (Q.nil_ rfl) ?_
      refine J.q rfl rfl (Q.fa (n := 1) Try.runUnderlying56 rfl rfl Try.sizeOf54 rfl) ?_
      refine J.q rfl rfl (Q.ld Try.isAgg54 rfl (by first | exact Reads.pt 0 rfl rfl | exact Reads.pt 1 rfl rfl | exact Reads.pt 2 rfl rfl | exact Reads.pt 3 rfl rfl | exact Reads.pt 4 rfl rfl | exact Reads.pt 5 rfl rfl | exact Reads.pt 6 rfl rfl | exact Reads.pt 7 rfl rfl)) ?_
      refine J.q rfl rfl (Q.mv rfl) ?_
      refine J.q rfl rfl (hq40 _ _ _ _ _ _ rfl rfl) ?_
      refine J.c rfl rfl (C.app (i := 2) Try.runUnderlying54 Try.runUnderlying54 Try.typeInfo82 Try.sizeOf82 Try.zeroValue82 rfl rfl rfl (hr40.within (i := 1) rfl) (fun v hv => cells_one (List.mem_of_mem_drop hv)) (by simp [Try.t82] <;> omega) (by decide)) ?_
      rintro _ _ ⟨p41, c41, rfl, rfl⟩
      refine J.norm rfl ?_
      refine J.q rfl rfl (Q.nil_ rfl) ?_
      refine J.q rfl rfl (Q.fa (n := 1) Try.runUnderlying56 rfl rfl Try.sizeOf54 rfl) ?_
      first | refine J.st (i := 0) rfl Try.sizeOf54 rfl rfl rfl rfl rfl rfl rfl ?_ | refine J.st (i := 1) rfl Try.sizeOf54 rfl rfl rfl rfl rfl rfl rfl ?_ | refine J.st (i := 2) rfl Try.sizeOf54 rfl rfl rfl rfl rfl rfl rfl ?_ | refine J.st (i := 3) rfl Try.sizeOf54 rfl rfl rfl rfl rfl rfl rfl ?_ | refine J.st (i := 4) rfl Try.sizeOf54 rfl rfl rfl rfl rfl rfl rfl ?_ | refine J.st (i := 5) rfl Try.sizeOf54 rfl rfl rfl rfl rfl rfl rfl ?_
      refine J.nil ?_
      refine J.shut [0, 2] (RTab q size born (rput x fs)) rfl (fun h s => ⟨(p41, c41), by
        have e : rput x fs = fs.take (place x.f.name (fms fs)) ++ x :: fs.drop (place x.f.name (fms fs)) := if_neg (by rw [hc14]; exact Bool.false_ne_true)
        have e1 : (rput x fs).length = 0 + place x.f.name (fms fs) + 1 + (fs.length - place x.f.name (fms fs)) := by rw [e]; simp; omega
        have e2 : (rput x fs).flatMap RFile.cells = [] ++ (fs.flatMap RFile.cells).take (place x.f.name (fms fs) * 3) ++ x.cells ++ (fs.flatMap RFile.cells).drop (place x.f.name (fms fs) * 3) := by
          rw [e, flat_take RFile.cells_length, flat_drop RFile.cells_length]; simp
        rw [e1, e2]; exact s⟩) ?_
      refine J.keep [0, 2] rfl ?_
      refine J.end0 (B := [RTab q size born (rput x fs)]) rfl ⟨rfl, rfl⟩ rfl

end Go.Proofs.Ytkekcdcmmggbaaa
