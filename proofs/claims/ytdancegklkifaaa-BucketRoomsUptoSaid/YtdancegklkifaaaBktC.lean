/-
  Which ops are right, as the document asks; the two ask the same.
-/
import Derived.Test.YtdancegklkifaaaBktB
namespace Go.Proofs.Ytdancegklkifaaa
set_option linter.unusedSectionVars false
set_option linter.unusedSimpArgs false
set_option linter.unusedVariables false
open Go.X

def OM.rest (o : OM) (n : Bool) : Bool := emp o.after && n && decide (o.parts.length = 0)
/-- Is an op right? As the document asks. -/
def OM.chkR (o : OM) : Bool :=
  if o.kind = 1 ∨ o.kind = 2 then nameOK o.bucket.data.toList && emp o.key && emp o.after && decide (o.n = 0) && decide (o.upload = 0) && decide (o.parts.length = 0) && decide (o.data.length = 0)
  else if o.kind = 3 then nameOK o.bucket.data.toList && longB o.key.size 1 1024 && emp o.after && decide (o.n = 0) && decide (o.upload = 0) && decide (o.parts.length = 0) && decide (o.data.length ≤ 16777216)
  else if o.kind = 4 ∨ o.kind = 5 ∨ o.kind = 7 then nameOK o.bucket.data.toList && longB o.key.size 1 1024 && emp o.after && decide (o.n = 0) && decide (o.upload = 0) && decide (o.parts.length = 0) && decide (o.data.length = 0)
  else if o.kind = 6 then nameOK o.bucket.data.toList && decide (o.key.size ≤ 1024) && decide (o.after.size ≤ 1024) && decide (1 ≤ o.n) && decide (o.n ≤ 1000) && decide (o.upload = 0) && decide (o.parts.length = 0) && decide (o.data.length = 0)
  else if o.kind = 8 then emp o.bucket && emp o.key && emp o.after && decide (1 ≤ o.n) && decide (o.n ≤ 10000) && decide (o.parts.length = 0) && decide (o.data.length ≤ 16777216)
  else if o.kind = 9 then emp o.bucket && emp o.key && emp o.after && decide (o.n = 0) && partsOK o.parts && decide (o.data.length = 0)
  else if o.kind = 10 then emp o.bucket && emp o.key && emp o.after && decide (o.n = 0) && decide (o.parts.length = 0) && decide (o.data.length = 0)
  else false

theorem rcheck_spec (G : Assn) (x : OW) (hx : x.ok G) : FSpec Try.prog 8 [.agg x.cells.toArray] [G] (fun v B => v = .int .i64 (if x.o.chkR then 0 else 1) ∧ B = [G]) := by
  have hsm := hx.small
  refine FSpec.of Try.func8 rfl Try.ntmps8 rfl fun W0 F => ?_
  refine J.seq ?_
  refine J.region ?_
  refine J.c rfl rfl (C.box (l := [_, _, _, _, _, _, _, _, _]) rfl rfl) ?_
  rintro _ _ ⟨b1, rfl, rfl⟩
  refine J.norm rfl ?_
  refine J.q rfl rfl (Q.asg rfl) ?_
  refine J.nil ?_
  refine J.then_n ?_
  refine J.seq ?_
  refine J.region ?_
  refine J.q rfl rfl (Q.fa (n := 2) Try.runUnderlying26 rfl rfl Try.sizeOf9 rfl) ?_
  refine J.q rfl rfl (Q.ld Try.isAgg9 rfl (by first | exact Reads.pt 0 rfl rfl | exact Reads.pt 1 rfl rfl | exact Reads.pt 2 rfl rfl | exact Reads.pt 3 rfl rfl | exact Reads.pt 4 rfl rfl | exact Reads.pt 5 rfl rfl | exact Reads.pt 6 rfl rfl | exact Reads.pt 7 rfl rfl | exact Reads.pt 8 rfl rfl | exact Reads.pt 9 rfl rfl | exact Reads.pt 10 rfl rfl | exact Reads.pt 11 rfl rfl | exact Reads.pt 12 rfl rfl | exact Reads.pt 13 rfl rfl)) ?_
  refine J.q rfl rfl (Q.neqs rfl rfl) ?_
  refine J.q rfl rfl (Q.asg rfl) ?_
  refine J.nil ?_
  refine J.then_n ?_
  refine J.seq ?_
  refine J.region ?_
  refine J.q rfl rfl (Q.fa (n := 3) Try.runUnderlying26 rfl rfl Try.sizeOf9 rfl) ?_
  refine J.q rfl rfl (Q.ld Try.isAgg9 rfl (by first | exact Reads.pt 0 rfl rfl | exact Reads.pt 1 rfl rfl | exact Reads.pt 2 rfl rfl | exact Reads.pt 3 rfl rfl | exact Reads.pt 4 rfl rfl | exact Reads.pt 5 rfl rfl | exact Reads.pt 6 rfl rfl | exact Reads.pt 7 rfl rfl | exact Reads.pt 8 rfl rfl | exact Reads.pt 9 rfl rfl | exact Reads.pt 10 rfl rfl | exact Reads.pt 11 rfl rfl | exact Reads.pt 12 rfl rfl | exact Reads.pt 13 rfl rfl)) ?_
  refine J.q rfl rfl (Q.neqs rfl rfl) ?_
  refine J.q rfl rfl (Q.asg rfl) ?_
  refine J.nil ?_
  refine J.then_n ?_
  refine J.seq ?_
  refine J.region ?_
  refine J.q rfl rfl (Q.fa (n := 4) Try.runUnderlying26 rfl rfl Try.sizeOf9 rfl) ?_
  refine J.q rfl rfl (Q.ld Try.isAgg9 rfl (by first | exact Reads.pt 0 rfl rfl | exact Reads.pt 1 rfl rfl | exact Reads.pt 2 rfl rfl | exact Reads.pt 3 rfl rfl | exact Reads.pt 4 rfl rfl | exact Reads.pt 5 rfl rfl | exact Reads.pt 6 rfl rfl | exact Reads.pt 7 rfl rfl | exact Reads.pt 8 rfl rfl | exact Reads.pt 9 rfl rfl | exact Reads.pt 10 rfl rfl | exact Reads.pt 11 rfl rfl | exact Reads.pt 12 rfl rfl | exact Reads.pt 13 rfl rfl)) ?_
  refine J.q rfl rfl (Q.neqs rfl rfl) ?_
  refine J.q rfl rfl (Q.asg rfl) ?_
  refine J.nil ?_
  refine J.then_n ?_
  refine J.seq ?_
  refine J.region ?_
  refine J.q rfl rfl (Q.fa (n := 5) Try.runUnderlying26 rfl rfl Try.sizeOf3 rfl) ?_
  refine J.q rfl rfl (Q.ld Try.isAgg3 rfl (by first | exact Reads.pt 0 rfl rfl | exact Reads.pt 1 rfl rfl | exact Reads.pt 2 rfl rfl | exact Reads.pt 3 rfl rfl | exact Reads.pt 4 rfl rfl | exact Reads.pt 5 rfl rfl | exact Reads.pt 6 rfl rfl | exact Reads.pt 7 rfl rfl | exact Reads.pt 8 rfl rfl | exact Reads.pt 9 rfl rfl | exact Reads.pt 10 rfl rfl | exact Reads.pt 11 rfl rfl | exact Reads.pt 12 rfl rfl | exact Reads.pt 13 rfl rfl)) ?_
  refine J.q rfl rfl (Q.neq rfl rfl) ?_
  refine J.q rfl rfl (Q.asg rfl) ?_
  refine J.nil ?_
  refine J.then_n ?_
  refine J.seq ?_
  refine J.region ?_
  refine J.q rfl rfl (Q.fa (n := 6) Try.runUnderlying26 rfl rfl Try.sizeOf22 rfl) ?_
  refine J.q rfl rfl (Q.ld Try.isAgg22 rfl (by first | exact Reads.pt 0 rfl rfl | exact Reads.pt 1 rfl rfl | exact Reads.pt 2 rfl rfl | exact Reads.pt 3 rfl rfl | exact Reads.pt 4 rfl rfl | exact Reads.pt 5 rfl rfl | exact Reads.pt 6 rfl rfl | exact Reads.pt 7 rfl rfl | exact Reads.pt 8 rfl rfl | exact Reads.pt 9 rfl rfl | exact Reads.pt 10 rfl rfl | exact Reads.pt 11 rfl rfl | exact Reads.pt 12 rfl rfl | exact Reads.pt 13 rfl rfl)) ?_
  refine J.q rfl rfl (Q.neq rfl rfl) ?_
  refine J.q rfl rfl (Q.asg rfl) ?_
  refine J.nil ?_
  refine J.then_n ?_
  refine J.seq ?_
  refine J.region ?_
  refine J.q rfl rfl (Q.fa (n := 7) Try.runUnderlying26 rfl rfl Try.sizeOf23 rfl) ?_
  refine J.q rfl rfl (Q.ld Try.isAgg23 rfl (by first | exact Reads.pt 0 rfl rfl | exact Reads.pt 1 rfl rfl | exact Reads.pt 2 rfl rfl | exact Reads.pt 3 rfl rfl | exact Reads.pt 4 rfl rfl | exact Reads.pt 5 rfl rfl | exact Reads.pt 6 rfl rfl | exact Reads.pt 7 rfl rfl | exact Reads.pt 8 rfl rfl | exact Reads.pt 9 rfl rfl | exact Reads.pt 10 rfl rfl | exact Reads.pt 11 rfl rfl | exact Reads.pt 12 rfl rfl | exact Reads.pt 13 rfl rfl)) ?_
  refine J.q rfl rfl (Q.lenSl Try.runUnderlying23 rfl) ?_
  refine J.q rfl rfl (Q.gtr rfl rfl) ?_
  refine J.q rfl rfl (Q.asg rfl) ?_
  refine J.nil ?_
  refine J.then_n ?_
  refine J.seq ?_
  refine J.region ?_
  refine J.q rfl rfl (Q.fa (n := 8) Try.runUnderlying26 rfl rfl Try.sizeOf24 rfl) ?_
  refine J.q rfl rfl (Q.ld Try.isAgg24 rfl (by first | exact Reads.pt 0 rfl rfl | exact Reads.pt 1 rfl rfl | exact Reads.pt 2 rfl rfl | exact Reads.pt 3 rfl rfl | exact Reads.pt 4 rfl rfl | exact Reads.pt 5 rfl rfl | exact Reads.pt 6 rfl rfl | exact Reads.pt 7 rfl rfl | exact Reads.pt 8 rfl rfl | exact Reads.pt 9 rfl rfl | exact Reads.pt 10 rfl rfl | exact Reads.pt 11 rfl rfl | exact Reads.pt 12 rfl rfl | exact Reads.pt 13 rfl rfl)) ?_
  refine J.q rfl rfl (Q.lenSl Try.runUnderlying24 rfl) ?_
  refine J.q rfl rfl (Q.gtr rfl rfl) ?_
  refine J.q rfl rfl (Q.asg rfl) ?_
  refine J.nil ?_
  refine J.then_n ?_
  refine J.seq ?_
  refine J.region ?_
  refine J.q rfl rfl (Q.asg rfl) ?_
  refine J.nil ?_
  refine J.then_n ?_
  refine J.cut (fun r : Bool => r = x.o.chkR) (fun r => [(1, .pointer (some ⟨b1, 0, none⟩)), (10, .bool r)]) (fun _ => [pt b1 (.cells x.cells.toArray 26 (0, 0)), G, F]) ?_ fun r hr0 => ?_
  ·
    refine J.seq ?_
    refine J.region ?_
    refine J.q rfl rfl (Q.fa (n := 1) Try.runUnderlying26 rfl rfl Try.sizeOf3 rfl) ?_
    refine J.q rfl rfl (Q.ld Try.isAgg3 rfl (by first | exact Reads.pt 0 rfl rfl | exact Reads.pt 1 rfl rfl | exact Reads.pt 2 rfl rfl | exact Reads.pt 3 rfl rfl | exact Reads.pt 4 rfl rfl | exact Reads.pt 5 rfl rfl | exact Reads.pt 6 rfl rfl | exact Reads.pt 7 rfl rfl | exact Reads.pt 8 rfl rfl | exact Reads.pt 9 rfl rfl | exact Reads.pt 10 rfl rfl | exact Reads.pt 11 rfl rfl | exact Reads.pt 12 rfl rfl | exact Reads.pt 13 rfl rfl)) ?_
    refine J.nil ?_
    refine J.then_n ?_
    refine J.block ?_
    refine J.seq ?_
    refine J.seq ?_
    refine J.region ?_
    refine J.q rfl rfl (Q.eql rfl rfl) ?_
    refine J.q rfl rfl (Q.asg rfl) ?_
    refine J.nil ?_
    refine J.then_n ?_
    refine J.cases 36 rfl (fun hc36 => ?_) (fun hc36 => ?_)
    ·
      first | replace hc36 := X.tt_dec hc36 | replace hc36 := X.tt_not hc36 | replace hc36 := X.ff_dec hc36 | replace hc36 := X.ff_not hc36 | skip
      refine J.cond_t rfl ?_
      refine J.cskip ?_
      refine J.then_n ?_
      refine J.cond_t rfl ?_
      refine J.region ?_
      refine J.q rfl rfl (Q.fa (n := 2) Try.runUnderlying26 rfl rfl Try.sizeOf9 rfl) ?_
      refine J.q rfl rfl (Q.ld Try.isAgg9 rfl (by first | exact Reads.pt 0 rfl rfl | exact Reads.pt 1 rfl rfl | exact Reads.pt 2 rfl rfl | exact Reads.pt 3 rfl rfl | exact Reads.pt 4 rfl rfl | exact Reads.pt 5 rfl rfl | exact Reads.pt 6 rfl rfl | exact Reads.pt 7 rfl rfl | exact Reads.pt 8 rfl rfl | exact Reads.pt 9 rfl rfl | exact Reads.pt 10 rfl rfl | exact Reads.pt 11 rfl rfl | exact Reads.pt 12 rfl rfl | exact Reads.pt 13 rfl rfl)) ?_
      refine J.call Try.call21 (rname_spec x.o.bucket (by omega)) [] rfl rfl rfl rfl ?_
      rintro _ _ ⟨rfl, rfl⟩
      refine J.norm rfl ?_
      refine J.q rfl rfl (Q.mv rfl) ?_
      refine J.cases 42 rfl (fun hb42 => ?_) (fun hb42 => ?_)
      ·
        first | replace hb42 := X.tt_dec hb42 | replace hb42 := X.tt_not hb42 | replace hb42 := X.ff_dec hb42 | replace hb42 := X.ff_not hb42 | skip
        refine J.q rfl rfl (Q.mv rfl) ?_
        refine J.q rfl rfl (Q.not rfl) ?_
        refine J.q rfl rfl (Q.pick_t rfl rfl) ?_
        refine J.q rfl rfl (Q.mv rfl) ?_
        refine J.cases 46 rfl (fun hb46 => ?_) (fun hb46 => ?_)
        ·
          first | replace hb46 := X.tt_dec hb46 | replace hb46 := X.tt_not hb46 | replace hb46 := X.ff_dec hb46 | replace hb46 := X.ff_not hb46 | skip
          refine J.q rfl rfl (Q.mv rfl) ?_
          refine J.q rfl rfl (Q.not rfl) ?_
          refine J.q rfl rfl (Q.pick_t rfl rfl) ?_
          refine J.q rfl rfl (Q.mv rfl) ?_
          refine J.cases 50 rfl (fun hb50 => ?_) (fun hb50 => ?_)
          ·
            first | replace hb50 := X.tt_dec hb50 | replace hb50 := X.tt_not hb50 | replace hb50 := X.ff_dec hb50 | replace hb50 := X.ff_not hb50 | skip
            refine J.q rfl rfl (Q.mv rfl) ?_
            refine J.q rfl rfl (Q.not rfl) ?_
            refine J.q rfl rfl (Q.pick_t rfl rfl) ?_
            refine J.q rfl rfl (Q.mv rfl) ?_
            refine J.cases 54 rfl (fun hb54 => ?_) (fun hb54 => ?_)
            ·
              first | replace hb54 := X.tt_dec hb54 | replace hb54 := X.tt_not hb54 | replace hb54 := X.ff_dec hb54 | replace hb54 := X.ff_not hb54 | skip
              refine J.q rfl rfl (Q.mv rfl) ?_
              refine J.q rfl rfl (Q.not rfl) ?_
              refine J.q rfl rfl (Q.pick_t rfl rfl) ?_
              refine J.q rfl rfl (Q.mv rfl) ?_
              refine J.cases 58 rfl (fun hb58 => ?_) (fun hb58 => ?_)
              ·
                first | replace hb58 := X.tt_dec hb58 | replace hb58 := X.tt_not hb58 | replace hb58 := X.ff_dec hb58 | replace hb58 := X.ff_not hb58 | skip
                refine J.q rfl rfl (Q.mv rfl) ?_
                refine J.q rfl rfl (Q.not rfl) ?_
                refine J.q rfl rfl (Q.pick_t rfl rfl) ?_
                refine J.q rfl rfl (Q.mv rfl) ?_
                refine J.cases 62 rfl (fun hb62 => ?_) (fun hb62 => ?_)
                ·
                  first | replace hb62 := X.tt_dec hb62 | replace hb62 := X.tt_not hb62 | replace hb62 := X.ff_dec hb62 | replace hb62 := X.ff_not hb62 | skip
                  refine J.q rfl rfl (Q.mv rfl) ?_
                  refine J.q rfl rfl (Q.not rfl) ?_
                  refine J.q rfl rfl (Q.pick_t rfl rfl) ?_
                  refine J.q rfl rfl (Q.asg rfl) ?_
                  refine J.nil ?_
                  refine J.blk_n ?_
                  first
                    | refine J.meet _ ?_ ⟨rfl, rfl, trivial⟩ rfl
                    | (refine J.keep [1, 0, 2] rfl ?_
                       refine J.meet _ ?_ ⟨rfl, rfl, trivial⟩ rfl)
                  simp_all [-List.length_eq_zero_iff, OM.chkR, emp, longB] <;> first | omega | (rw [Bool.eq_iff_iff]; simp [-List.length_eq_zero_iff] <;> omega)
                ·
                  first | replace hb62 := X.tt_dec hb62 | replace hb62 := X.tt_not hb62 | replace hb62 := X.ff_dec hb62 | replace hb62 := X.ff_not hb62 | skip
                  refine J.skip rfl rfl ?_
                  refine J.skip rfl rfl ?_
                  refine J.q rfl rfl (Q.pick_f rfl rfl) ?_
                  refine J.q rfl rfl (Q.asg rfl) ?_
                  refine J.nil ?_
                  refine J.blk_n ?_
                  first
                    | refine J.meet _ ?_ ⟨rfl, rfl, trivial⟩ rfl
                    | (refine J.keep [1, 0, 2] rfl ?_
                       refine J.meet _ ?_ ⟨rfl, rfl, trivial⟩ rfl)
                  simp_all [-List.length_eq_zero_iff, OM.chkR, emp, longB] <;> first | omega | (rw [Bool.eq_iff_iff]; simp [-List.length_eq_zero_iff] <;> omega)
              ·
                first | replace hb58 := X.tt_dec hb58 | replace hb58 := X.tt_not hb58 | replace hb58 := X.ff_dec hb58 | replace hb58 := X.ff_not hb58 | skip
                refine J.skip rfl rfl ?_
                refine J.skip rfl rfl ?_
                refine J.q rfl rfl (Q.pick_f rfl rfl) ?_
                refine J.q rfl rfl (Q.mv rfl) ?_
                refine J.skip rfl rfl ?_
                refine J.skip rfl rfl ?_
                refine J.q rfl rfl (Q.pick_f rfl rfl) ?_
                refine J.q rfl rfl (Q.asg rfl) ?_
                refine J.nil ?_
                refine J.blk_n ?_
                first
                  | refine J.meet _ ?_ ⟨rfl, rfl, trivial⟩ rfl
                  | (refine J.keep [1, 0, 2] rfl ?_
                     refine J.meet _ ?_ ⟨rfl, rfl, trivial⟩ rfl)
                simp_all [-List.length_eq_zero_iff, OM.chkR, emp, longB] <;> first | omega | (rw [Bool.eq_iff_iff]; simp [-List.length_eq_zero_iff] <;> omega)
            ·
              first | replace hb54 := X.tt_dec hb54 | replace hb54 := X.tt_not hb54 | replace hb54 := X.ff_dec hb54 | replace hb54 := X.ff_not hb54 | skip
              refine J.skip rfl rfl ?_
              refine J.skip rfl rfl ?_
              refine J.q rfl rfl (Q.pick_f rfl rfl) ?_
              refine J.q rfl rfl (Q.mv rfl) ?_
              refine J.skip rfl rfl ?_
              refine J.skip rfl rfl ?_
              refine J.q rfl rfl (Q.pick_f rfl rfl) ?_
              refine J.q rfl rfl (Q.mv rfl) ?_
              refine J.skip rfl rfl ?_
              refine J.skip rfl rfl ?_
              refine J.q rfl rfl (Q.pick_f rfl rfl) ?_
              refine J.q rfl rfl (Q.asg rfl) ?_
              refine J.nil ?_
              refine J.blk_n ?_
              first
                | refine J.meet _ ?_ ⟨rfl, rfl, trivial⟩ rfl
                | (refine J.keep [1, 0, 2] rfl ?_
                   refine J.meet _ ?_ ⟨rfl, rfl, trivial⟩ rfl)
              simp_all [-List.length_eq_zero_iff, OM.chkR, emp, longB] <;> first | omega | (rw [Bool.eq_iff_iff]; simp [-List.length_eq_zero_iff] <;> omega)
          ·
            first | replace hb50 := X.tt_dec hb50 | replace hb50 := X.tt_not hb50 | replace hb50 := X.ff_dec hb50 | replace hb50 := X.ff_not hb50 | skip
            refine J.skip rfl rfl ?_
            refine J.skip rfl rfl ?_
            refine J.q rfl rfl (Q.pick_f rfl rfl) ?_
            refine J.q rfl rfl (Q.mv rfl) ?_
            refine J.skip rfl rfl ?_
            refine J.skip rfl rfl ?_
            refine J.q rfl rfl (Q.pick_f rfl rfl) ?_
            refine J.q rfl rfl (Q.mv rfl) ?_
            refine J.skip rfl rfl ?_
            refine J.skip rfl rfl ?_
            refine J.q rfl rfl (Q.pick_f rfl rfl) ?_
            refine J.q rfl rfl (Q.mv rfl) ?_
            refine J.skip rfl rfl ?_
            refine J.skip rfl rfl ?_
            refine J.q rfl rfl (Q.pick_f rfl rfl) ?_
            refine J.q rfl rfl (Q.asg rfl) ?_
            refine J.nil ?_
            refine J.blk_n ?_
            first
              | refine J.meet _ ?_ ⟨rfl, rfl, trivial⟩ rfl
              | (refine J.keep [1, 0, 2] rfl ?_
                 refine J.meet _ ?_ ⟨rfl, rfl, trivial⟩ rfl)
            simp_all [-List.length_eq_zero_iff, OM.chkR, emp, longB] <;> first | omega | (rw [Bool.eq_iff_iff]; simp [-List.length_eq_zero_iff] <;> omega)
        ·
          first | replace hb46 := X.tt_dec hb46 | replace hb46 := X.tt_not hb46 | replace hb46 := X.ff_dec hb46 | replace hb46 := X.ff_not hb46 | skip
          refine J.skip rfl rfl ?_
          refine J.skip rfl rfl ?_
          refine J.q rfl rfl (Q.pick_f rfl rfl) ?_
          refine J.q rfl rfl (Q.mv rfl) ?_
          refine J.skip rfl rfl ?_
          refine J.skip rfl rfl ?_
          refine J.q rfl rfl (Q.pick_f rfl rfl) ?_
          refine J.q rfl rfl (Q.mv rfl) ?_
          refine J.skip rfl rfl ?_
          refine J.skip rfl rfl ?_
          refine J.q rfl rfl (Q.pick_f rfl rfl) ?_
          refine J.q rfl rfl (Q.mv rfl) ?_
          refine J.skip rfl rfl ?_
          refine J.skip rfl rfl ?_
          refine J.q rfl rfl (Q.pick_f rfl rfl) ?_
          refine J.q rfl rfl (Q.mv rfl) ?_
          refine J.skip rfl rfl ?_
          refine J.skip rfl rfl ?_
          refine J.q rfl rfl (Q.pick_f rfl rfl) ?_
          refine J.q rfl rfl (Q.asg rfl) ?_
          refine J.nil ?_
          refine J.blk_n ?_
          first
            | refine J.meet _ ?_ ⟨rfl, rfl, trivial⟩ rfl
            | (refine J.keep [1, 0, 2] rfl ?_
               refine J.meet _ ?_ ⟨rfl, rfl, trivial⟩ rfl)
          simp_all [-List.length_eq_zero_iff, OM.chkR, emp, longB] <;> first | omega | (rw [Bool.eq_iff_iff]; simp [-List.length_eq_zero_iff] <;> omega)
      ·
        first | replace hb42 := X.tt_dec hb42 | replace hb42 := X.tt_not hb42 | replace hb42 := X.ff_dec hb42 | replace hb42 := X.ff_not hb42 | skip
        refine J.skip rfl rfl ?_
        refine J.skip rfl rfl ?_
        refine J.q rfl rfl (Q.pick_f rfl rfl) ?_
        refine J.q rfl rfl (Q.mv rfl) ?_
        refine J.skip rfl rfl ?_
        refine J.skip rfl rfl ?_
        refine J.q rfl rfl (Q.pick_f rfl rfl) ?_
        refine J.q rfl rfl (Q.mv rfl) ?_
        refine J.skip rfl rfl ?_
        refine J.skip rfl rfl ?_
        refine J.q rfl rfl (Q.pick_f rfl rfl) ?_
        refine J.q rfl rfl (Q.mv rfl) ?_
        refine J.skip rfl rfl ?_
        refine J.skip rfl rfl ?_
        refine J.q rfl rfl (Q.pick_f rfl rfl) ?_
        refine J.q rfl rfl (Q.mv rfl) ?_
        refine J.skip rfl rfl ?_
        refine J.skip rfl rfl ?_
        refine J.q rfl rfl (Q.pick_f rfl rfl) ?_
        refine J.q rfl rfl (Q.mv rfl) ?_
        refine J.skip rfl rfl ?_
        refine J.skip rfl rfl ?_
        refine J.q rfl rfl (Q.pick_f rfl rfl) ?_
        refine J.q rfl rfl (Q.asg rfl) ?_
        refine J.nil ?_
        refine J.blk_n ?_
        first
          | refine J.meet _ ?_ ⟨rfl, rfl, trivial⟩ rfl
          | (refine J.keep [1, 0, 2] rfl ?_
             refine J.meet _ ?_ ⟨rfl, rfl, trivial⟩ rfl)
        simp_all [-List.length_eq_zero_iff, OM.chkR, emp, longB] <;> first | omega | (rw [Bool.eq_iff_iff]; simp [-List.length_eq_zero_iff] <;> omega)
    ·
      first | replace hc36 := X.tt_dec hc36 | replace hc36 := X.tt_not hc36 | replace hc36 := X.ff_dec hc36 | replace hc36 := X.ff_not hc36 | skip
      refine J.cond_f rfl ?_
      refine J.region ?_
      refine J.q rfl rfl (Q.eql rfl rfl) ?_
      refine J.q rfl rfl (Q.asg rfl) ?_
      refine J.nil ?_
      refine J.then_n ?_
      refine J.cases 36 rfl (fun hc36 => ?_) (fun hc36 => ?_)
      ·
        first | replace hc36 := X.tt_dec hc36 | replace hc36 := X.tt_not hc36 | replace hc36 := X.ff_dec hc36 | replace hc36 := X.ff_not hc36 | skip
        refine J.cond_t rfl ?_
        refine J.region ?_
        refine J.q rfl rfl (Q.fa (n := 2) Try.runUnderlying26 rfl rfl Try.sizeOf9 rfl) ?_
        refine J.q rfl rfl (Q.ld Try.isAgg9 rfl (by first | exact Reads.pt 0 rfl rfl | exact Reads.pt 1 rfl rfl | exact Reads.pt 2 rfl rfl | exact Reads.pt 3 rfl rfl | exact Reads.pt 4 rfl rfl | exact Reads.pt 5 rfl rfl | exact Reads.pt 6 rfl rfl | exact Reads.pt 7 rfl rfl | exact Reads.pt 8 rfl rfl | exact Reads.pt 9 rfl rfl | exact Reads.pt 10 rfl rfl | exact Reads.pt 11 rfl rfl | exact Reads.pt 12 rfl rfl | exact Reads.pt 13 rfl rfl)) ?_
        refine J.call Try.call21 (rname_spec x.o.bucket (by omega)) [] rfl rfl rfl rfl ?_
        rintro _ _ ⟨rfl, rfl⟩
        refine J.norm rfl ?_
        refine J.q rfl rfl (Q.mv rfl) ?_
        refine J.cases 42 rfl (fun hb42 => ?_) (fun hb42 => ?_)
        ·
          first | replace hb42 := X.tt_dec hb42 | replace hb42 := X.tt_not hb42 | replace hb42 := X.ff_dec hb42 | replace hb42 := X.ff_not hb42 | skip
          refine J.q rfl rfl (Q.mv rfl) ?_
          refine J.q rfl rfl (Q.not rfl) ?_
          refine J.q rfl rfl (Q.pick_t rfl rfl) ?_
          refine J.q rfl rfl (Q.mv rfl) ?_
          refine J.cases 46 rfl (fun hb46 => ?_) (fun hb46 => ?_)
          ·
            first | replace hb46 := X.tt_dec hb46 | replace hb46 := X.tt_not hb46 | replace hb46 := X.ff_dec hb46 | replace hb46 := X.ff_not hb46 | skip
            refine J.q rfl rfl (Q.mv rfl) ?_
            refine J.q rfl rfl (Q.not rfl) ?_
            refine J.q rfl rfl (Q.pick_t rfl rfl) ?_
            refine J.q rfl rfl (Q.mv rfl) ?_
            refine J.cases 50 rfl (fun hb50 => ?_) (fun hb50 => ?_)
            ·
              first | replace hb50 := X.tt_dec hb50 | replace hb50 := X.tt_not hb50 | replace hb50 := X.ff_dec hb50 | replace hb50 := X.ff_not hb50 | skip
              refine J.q rfl rfl (Q.mv rfl) ?_
              refine J.q rfl rfl (Q.not rfl) ?_
              refine J.q rfl rfl (Q.pick_t rfl rfl) ?_
              refine J.q rfl rfl (Q.mv rfl) ?_
              refine J.cases 54 rfl (fun hb54 => ?_) (fun hb54 => ?_)
              ·
                first | replace hb54 := X.tt_dec hb54 | replace hb54 := X.tt_not hb54 | replace hb54 := X.ff_dec hb54 | replace hb54 := X.ff_not hb54 | skip
                refine J.q rfl rfl (Q.mv rfl) ?_
                refine J.q rfl rfl (Q.not rfl) ?_
                refine J.q rfl rfl (Q.pick_t rfl rfl) ?_
                refine J.q rfl rfl (Q.mv rfl) ?_
                refine J.cases 58 rfl (fun hb58 => ?_) (fun hb58 => ?_)
                ·
                  first | replace hb58 := X.tt_dec hb58 | replace hb58 := X.tt_not hb58 | replace hb58 := X.ff_dec hb58 | replace hb58 := X.ff_not hb58 | skip
                  refine J.q rfl rfl (Q.mv rfl) ?_
                  refine J.q rfl rfl (Q.not rfl) ?_
                  refine J.q rfl rfl (Q.pick_t rfl rfl) ?_
                  refine J.q rfl rfl (Q.mv rfl) ?_
                  refine J.cases 62 rfl (fun hb62 => ?_) (fun hb62 => ?_)
                  ·
                    first | replace hb62 := X.tt_dec hb62 | replace hb62 := X.tt_not hb62 | replace hb62 := X.ff_dec hb62 | replace hb62 := X.ff_not hb62 | skip
                    refine J.q rfl rfl (Q.mv rfl) ?_
                    refine J.q rfl rfl (Q.not rfl) ?_
                    refine J.q rfl rfl (Q.pick_t rfl rfl) ?_
                    refine J.q rfl rfl (Q.asg rfl) ?_
                    refine J.nil ?_
                    refine J.blk_n ?_
                    first
                      | refine J.meet _ ?_ ⟨rfl, rfl, trivial⟩ rfl
                      | (refine J.keep [1, 0, 2] rfl ?_
                         refine J.meet _ ?_ ⟨rfl, rfl, trivial⟩ rfl)
                    simp_all [-List.length_eq_zero_iff, OM.chkR, emp, longB] <;> first | omega | (rw [Bool.eq_iff_iff]; simp [-List.length_eq_zero_iff] <;> omega)
                  ·
                    first | replace hb62 := X.tt_dec hb62 | replace hb62 := X.tt_not hb62 | replace hb62 := X.ff_dec hb62 | replace hb62 := X.ff_not hb62 | skip
                    refine J.skip rfl rfl ?_
                    refine J.skip rfl rfl ?_
                    refine J.q rfl rfl (Q.pick_f rfl rfl) ?_
                    refine J.q rfl rfl (Q.asg rfl) ?_
                    refine J.nil ?_
                    refine J.blk_n ?_
                    first
                      | refine J.meet _ ?_ ⟨rfl, rfl, trivial⟩ rfl
                      | (refine J.keep [1, 0, 2] rfl ?_
                         refine J.meet _ ?_ ⟨rfl, rfl, trivial⟩ rfl)
                    simp_all [-List.length_eq_zero_iff, OM.chkR, emp, longB] <;> first | omega | (rw [Bool.eq_iff_iff]; simp [-List.length_eq_zero_iff] <;> omega)
                ·
                  first | replace hb58 := X.tt_dec hb58 | replace hb58 := X.tt_not hb58 | replace hb58 := X.ff_dec hb58 | replace hb58 := X.ff_not hb58 | skip
                  refine J.skip rfl rfl ?_
                  refine J.skip rfl rfl ?_
                  refine J.q rfl rfl (Q.pick_f rfl rfl) ?_
                  refine J.q rfl rfl (Q.mv rfl) ?_
                  refine J.skip rfl rfl ?_
                  refine J.skip rfl rfl ?_
                  refine J.q rfl rfl (Q.pick_f rfl rfl) ?_
                  refine J.q rfl rfl (Q.asg rfl) ?_
                  refine J.nil ?_
                  refine J.blk_n ?_
                  first
                    | refine J.meet _ ?_ ⟨rfl, rfl, trivial⟩ rfl
                    | (refine J.keep [1, 0, 2] rfl ?_
                       refine J.meet _ ?_ ⟨rfl, rfl, trivial⟩ rfl)
                  simp_all [-List.length_eq_zero_iff, OM.chkR, emp, longB] <;> first | omega | (rw [Bool.eq_iff_iff]; simp [-List.length_eq_zero_iff] <;> omega)
              ·
                first | replace hb54 := X.tt_dec hb54 | replace hb54 := X.tt_not hb54 | replace hb54 := X.ff_dec hb54 | replace hb54 := X.ff_not hb54 | skip
                refine J.skip rfl rfl ?_
                refine J.skip rfl rfl ?_
                refine J.q rfl rfl (Q.pick_f rfl rfl) ?_
                refine J.q rfl rfl (Q.mv rfl) ?_
                refine J.skip rfl rfl ?_
                refine J.skip rfl rfl ?_
                refine J.q rfl rfl (Q.pick_f rfl rfl) ?_
                refine J.q rfl rfl (Q.mv rfl) ?_
                refine J.skip rfl rfl ?_
                refine J.skip rfl rfl ?_
                refine J.q rfl rfl (Q.pick_f rfl rfl) ?_
                refine J.q rfl rfl (Q.asg rfl) ?_
                refine J.nil ?_
                refine J.blk_n ?_
                first
                  | refine J.meet _ ?_ ⟨rfl, rfl, trivial⟩ rfl
                  | (refine J.keep [1, 0, 2] rfl ?_
                     refine J.meet _ ?_ ⟨rfl, rfl, trivial⟩ rfl)
                simp_all [-List.length_eq_zero_iff, OM.chkR, emp, longB] <;> first | omega | (rw [Bool.eq_iff_iff]; simp [-List.length_eq_zero_iff] <;> omega)
            ·
              first | replace hb50 := X.tt_dec hb50 | replace hb50 := X.tt_not hb50 | replace hb50 := X.ff_dec hb50 | replace hb50 := X.ff_not hb50 | skip
              refine J.skip rfl rfl ?_
              refine J.skip rfl rfl ?_
              refine J.q rfl rfl (Q.pick_f rfl rfl) ?_
              refine J.q rfl rfl (Q.mv rfl) ?_
              refine J.skip rfl rfl ?_
              refine J.skip rfl rfl ?_
              refine J.q rfl rfl (Q.pick_f rfl rfl) ?_
              refine J.q rfl rfl (Q.mv rfl) ?_
              refine J.skip rfl rfl ?_
              refine J.skip rfl rfl ?_
              refine J.q rfl rfl (Q.pick_f rfl rfl) ?_
              refine J.q rfl rfl (Q.mv rfl) ?_
              refine J.skip rfl rfl ?_
              refine J.skip rfl rfl ?_
              refine J.q rfl rfl (Q.pick_f rfl rfl) ?_
              refine J.q rfl rfl (Q.asg rfl) ?_
              refine J.nil ?_
              refine J.blk_n ?_
              first
                | refine J.meet _ ?_ ⟨rfl, rfl, trivial⟩ rfl
                | (refine J.keep [1, 0, 2] rfl ?_
                   refine J.meet _ ?_ ⟨rfl, rfl, trivial⟩ rfl)
              simp_all [-List.length_eq_zero_iff, OM.chkR, emp, longB] <;> first | omega | (rw [Bool.eq_iff_iff]; simp [-List.length_eq_zero_iff] <;> omega)
          ·
            first | replace hb46 := X.tt_dec hb46 | replace hb46 := X.tt_not hb46 | replace hb46 := X.ff_dec hb46 | replace hb46 := X.ff_not hb46 | skip
            refine J.skip rfl rfl ?_
            refine J.skip rfl rfl ?_
            refine J.q rfl rfl (Q.pick_f rfl rfl) ?_
            refine J.q rfl rfl (Q.mv rfl) ?_
            refine J.skip rfl rfl ?_
            refine J.skip rfl rfl ?_
            refine J.q rfl rfl (Q.pick_f rfl rfl) ?_
            refine J.q rfl rfl (Q.mv rfl) ?_
            refine J.skip rfl rfl ?_
            refine J.skip rfl rfl ?_
            refine J.q rfl rfl (Q.pick_f rfl rfl) ?_
            refine J.q rfl rfl (Q.mv rfl) ?_
            refine J.skip rfl rfl ?_
            refine J.skip rfl rfl ?_
            refine J.q rfl rfl (Q.pick_f rfl rfl) ?_
            refine J.q rfl rfl (Q.mv rfl) ?_
            refine J.skip rfl rfl ?_
            refine J.skip rfl rfl ?_
            refine J.q rfl rfl (Q.pick_f rfl rfl) ?_
            refine J.q rfl rfl (Q.asg rfl) ?_
            refine J.nil ?_
            refine J.blk_n ?_
            first
              | refine J.meet _ ?_ ⟨rfl, rfl, trivial⟩ rfl
              | (refine J.keep [1, 0, 2] rfl ?_
                 refine J.meet _ ?_ ⟨rfl, rfl, trivial⟩ rfl)
            simp_all [-List.length_eq_zero_iff, OM.chkR, emp, longB] <;> first | omega | (rw [Bool.eq_iff_iff]; simp [-List.length_eq_zero_iff] <;> omega)
        ·
          first | replace hb42 := X.tt_dec hb42 | replace hb42 := X.tt_not hb42 | replace hb42 := X.ff_dec hb42 | replace hb42 := X.ff_not hb42 | skip
          refine J.skip rfl rfl ?_
          refine J.skip rfl rfl ?_
          refine J.q rfl rfl (Q.pick_f rfl rfl) ?_
          refine J.q rfl rfl (Q.mv rfl) ?_
          refine J.skip rfl rfl ?_
          refine J.skip rfl rfl ?_
          refine J.q rfl rfl (Q.pick_f rfl rfl) ?_
          refine J.q rfl rfl (Q.mv rfl) ?_
          refine J.skip rfl rfl ?_
          refine J.skip rfl rfl ?_
          refine J.q rfl rfl (Q.pick_f rfl rfl) ?_
          refine J.q rfl rfl (Q.mv rfl) ?_
          refine J.skip rfl rfl ?_
          refine J.skip rfl rfl ?_
          refine J.q rfl rfl (Q.pick_f rfl rfl) ?_
          refine J.q rfl rfl (Q.mv rfl) ?_
          refine J.skip rfl rfl ?_
          refine J.skip rfl rfl ?_
          refine J.q rfl rfl (Q.pick_f rfl rfl) ?_
          refine J.q rfl rfl (Q.mv rfl) ?_
          refine J.skip rfl rfl ?_
          refine J.skip rfl rfl ?_
          refine J.q rfl rfl (Q.pick_f rfl rfl) ?_
          refine J.q rfl rfl (Q.asg rfl) ?_
          refine J.nil ?_
          refine J.blk_n ?_
          first
            | refine J.meet _ ?_ ⟨rfl, rfl, trivial⟩ rfl
            | (refine J.keep [1, 0, 2] rfl ?_
               refine J.meet _ ?_ ⟨rfl, rfl, trivial⟩ rfl)
          simp_all [-List.length_eq_zero_iff, OM.chkR, emp, longB] <;> first | omega | (rw [Bool.eq_iff_iff]; simp [-List.length_eq_zero_iff] <;> omega)
      ·
        first | replace hc36 := X.tt_dec hc36 | replace hc36 := X.tt_not hc36 | replace hc36 := X.ff_dec hc36 | replace hc36 := X.ff_not hc36 | skip
        refine J.cond_f rfl ?_
        refine J.seq ?_
        refine J.region ?_
        refine J.q rfl rfl (Q.eql rfl rfl) ?_
        refine J.q rfl rfl (Q.asg rfl) ?_
        refine J.nil ?_
        refine J.then_n ?_
        refine J.cases 66 rfl (fun hc66 => ?_) (fun hc66 => ?_)
        ·
          first | replace hc66 := X.tt_dec hc66 | replace hc66 := X.tt_not hc66 | replace hc66 := X.ff_dec hc66 | replace hc66 := X.ff_not hc66 | skip
          refine J.cond_t rfl ?_
          refine J.region ?_
          refine J.q rfl rfl (Q.fa (n := 2) Try.runUnderlying26 rfl rfl Try.sizeOf9 rfl) ?_
          refine J.q rfl rfl (Q.ld Try.isAgg9 rfl (by first | exact Reads.pt 0 rfl rfl | exact Reads.pt 1 rfl rfl | exact Reads.pt 2 rfl rfl | exact Reads.pt 3 rfl rfl | exact Reads.pt 4 rfl rfl | exact Reads.pt 5 rfl rfl | exact Reads.pt 6 rfl rfl | exact Reads.pt 7 rfl rfl | exact Reads.pt 8 rfl rfl | exact Reads.pt 9 rfl rfl | exact Reads.pt 10 rfl rfl | exact Reads.pt 11 rfl rfl | exact Reads.pt 12 rfl rfl | exact Reads.pt 13 rfl rfl)) ?_
          refine J.call Try.call21 (rname_spec x.o.bucket (by omega)) [] rfl rfl rfl rfl ?_
          rintro _ _ ⟨rfl, rfl⟩
          refine J.norm rfl ?_
          refine J.q rfl rfl (Q.mv rfl) ?_
          refine J.cases 71 rfl (fun hb71 => ?_) (fun hb71 => ?_)
          ·
            first | replace hb71 := X.tt_dec hb71 | replace hb71 := X.tt_not hb71 | replace hb71 := X.ff_dec hb71 | replace hb71 := X.ff_not hb71 | skip
            refine J.q rfl rfl (Q.fa (n := 3) Try.runUnderlying26 rfl rfl Try.sizeOf9 rfl) ?_
            refine J.q rfl rfl (Q.ld Try.isAgg9 rfl (by first | exact Reads.pt 0 rfl rfl | exact Reads.pt 1 rfl rfl | exact Reads.pt 2 rfl rfl | exact Reads.pt 3 rfl rfl | exact Reads.pt 4 rfl rfl | exact Reads.pt 5 rfl rfl | exact Reads.pt 6 rfl rfl | exact Reads.pt 7 rfl rfl | exact Reads.pt 8 rfl rfl | exact Reads.pt 9 rfl rfl | exact Reads.pt 10 rfl rfl | exact Reads.pt 11 rfl rfl | exact Reads.pt 12 rfl rfl | exact Reads.pt 13 rfl rfl)) ?_
            refine J.call Try.call22 (key_spec x.o.key) [] rfl rfl rfl rfl ?_
            rintro _ _ ⟨rfl, rfl⟩
            refine J.norm rfl ?_
            refine J.q rfl rfl (Q.pick_t rfl rfl) ?_
            refine J.q rfl rfl (Q.mv rfl) ?_
            refine J.cases 76 rfl (fun hb76 => ?_) (fun hb76 => ?_)
            ·
              first | replace hb76 := X.tt_dec hb76 | replace hb76 := X.tt_not hb76 | replace hb76 := X.ff_dec hb76 | replace hb76 := X.ff_not hb76 | skip
              refine J.q rfl rfl (Q.mv rfl) ?_
              refine J.q rfl rfl (Q.not rfl) ?_
              refine J.q rfl rfl (Q.pick_t rfl rfl) ?_
              refine J.q rfl rfl (Q.mv rfl) ?_
              refine J.cases 80 rfl (fun hb80 => ?_) (fun hb80 => ?_)
              ·
                first | replace hb80 := X.tt_dec hb80 | replace hb80 := X.tt_not hb80 | replace hb80 := X.ff_dec hb80 | replace hb80 := X.ff_not hb80 | skip
                refine J.q rfl rfl (Q.mv rfl) ?_
                refine J.q rfl rfl (Q.not rfl) ?_
                refine J.q rfl rfl (Q.pick_t rfl rfl) ?_
                refine J.q rfl rfl (Q.mv rfl) ?_
                refine J.cases 84 rfl (fun hb84 => ?_) (fun hb84 => ?_)
                ·
                  first | replace hb84 := X.tt_dec hb84 | replace hb84 := X.tt_not hb84 | replace hb84 := X.ff_dec hb84 | replace hb84 := X.ff_not hb84 | skip
                  refine J.q rfl rfl (Q.mv rfl) ?_
                  refine J.q rfl rfl (Q.not rfl) ?_
                  refine J.q rfl rfl (Q.pick_t rfl rfl) ?_
                  refine J.q rfl rfl (Q.mv rfl) ?_
                  refine J.cases 88 rfl (fun hb88 => ?_) (fun hb88 => ?_)
                  ·
                    first | replace hb88 := X.tt_dec hb88 | replace hb88 := X.tt_not hb88 | replace hb88 := X.ff_dec hb88 | replace hb88 := X.ff_not hb88 | skip
                    refine J.q rfl rfl (Q.mv rfl) ?_
                    refine J.q rfl rfl (Q.not rfl) ?_
                    refine J.q rfl rfl (Q.pick_t rfl rfl) ?_
                    refine J.q rfl rfl (Q.mv rfl) ?_
                    refine J.cases 92 rfl (fun hb92 => ?_) (fun hb92 => ?_)
                    ·
                      first | replace hb92 := X.tt_dec hb92 | replace hb92 := X.tt_not hb92 | replace hb92 := X.ff_dec hb92 | replace hb92 := X.ff_not hb92 | skip
                      refine J.q rfl rfl (Q.fa (n := 8) Try.runUnderlying26 rfl rfl Try.sizeOf24 rfl) ?_
                      refine J.q rfl rfl (Q.ld Try.isAgg24 rfl (by first | exact Reads.pt 0 rfl rfl | exact Reads.pt 1 rfl rfl | exact Reads.pt 2 rfl rfl | exact Reads.pt 3 rfl rfl | exact Reads.pt 4 rfl rfl | exact Reads.pt 5 rfl rfl | exact Reads.pt 6 rfl rfl | exact Reads.pt 7 rfl rfl | exact Reads.pt 8 rfl rfl | exact Reads.pt 9 rfl rfl | exact Reads.pt 10 rfl rfl | exact Reads.pt 11 rfl rfl | exact Reads.pt 12 rfl rfl | exact Reads.pt 13 rfl rfl)) ?_
                      refine J.q rfl rfl (Q.lenSl Try.runUnderlying24 rfl) ?_
                      refine J.q rfl rfl (Q.leq rfl rfl) ?_
                      refine J.q rfl rfl (Q.pick_t rfl rfl) ?_
                      refine J.q rfl rfl (Q.asg rfl) ?_
                      refine J.nil ?_
                      refine J.blk_n ?_
                      first
                        | refine J.meet _ ?_ ⟨rfl, rfl, trivial⟩ rfl
                        | (refine J.keep [1, 0, 2] rfl ?_
                           refine J.meet _ ?_ ⟨rfl, rfl, trivial⟩ rfl)
                      simp_all [-List.length_eq_zero_iff, OM.chkR, emp, longB] <;> first | omega | (rw [Bool.eq_iff_iff]; simp [-List.length_eq_zero_iff] <;> omega)
                    ·
                      first | replace hb92 := X.tt_dec hb92 | replace hb92 := X.tt_not hb92 | replace hb92 := X.ff_dec hb92 | replace hb92 := X.ff_not hb92 | skip
                      refine J.skip rfl rfl ?_
                      refine J.skip rfl rfl ?_
                      refine J.skip rfl rfl ?_
                      refine J.skip rfl rfl ?_
                      refine J.q rfl rfl (Q.pick_f rfl rfl) ?_
                      refine J.q rfl rfl (Q.asg rfl) ?_
                      refine J.nil ?_
                      refine J.blk_n ?_
                      first
                        | refine J.meet _ ?_ ⟨rfl, rfl, trivial⟩ rfl
                        | (refine J.keep [1, 0, 2] rfl ?_
                           refine J.meet _ ?_ ⟨rfl, rfl, trivial⟩ rfl)
                      simp_all [-List.length_eq_zero_iff, OM.chkR, emp, longB] <;> first | omega | (rw [Bool.eq_iff_iff]; simp [-List.length_eq_zero_iff] <;> omega)
                  ·
                    first | replace hb88 := X.tt_dec hb88 | replace hb88 := X.tt_not hb88 | replace hb88 := X.ff_dec hb88 | replace hb88 := X.ff_not hb88 | skip
                    refine J.skip rfl rfl ?_
                    refine J.skip rfl rfl ?_
                    refine J.q rfl rfl (Q.pick_f rfl rfl) ?_
                    refine J.q rfl rfl (Q.mv rfl) ?_
                    refine J.skip rfl rfl ?_
                    refine J.skip rfl rfl ?_
                    refine J.skip rfl rfl ?_
                    refine J.skip rfl rfl ?_
                    refine J.q rfl rfl (Q.pick_f rfl rfl) ?_
                    refine J.q rfl rfl (Q.asg rfl) ?_
                    refine J.nil ?_
                    refine J.blk_n ?_
                    first
                      | refine J.meet _ ?_ ⟨rfl, rfl, trivial⟩ rfl
                      | (refine J.keep [1, 0, 2] rfl ?_
                         refine J.meet _ ?_ ⟨rfl, rfl, trivial⟩ rfl)
                    simp_all [-List.length_eq_zero_iff, OM.chkR, emp, longB] <;> first | omega | (rw [Bool.eq_iff_iff]; simp [-List.length_eq_zero_iff] <;> omega)
                ·
                  first | replace hb84 := X.tt_dec hb84 | replace hb84 := X.tt_not hb84 | replace hb84 := X.ff_dec hb84 | replace hb84 := X.ff_not hb84 | skip
                  refine J.skip rfl rfl ?_
                  refine J.skip rfl rfl ?_
                  refine J.q rfl rfl (Q.pick_f rfl rfl) ?_
                  refine J.q rfl rfl (Q.mv rfl) ?_
                  refine J.skip rfl rfl ?_
                  refine J.skip rfl rfl ?_
                  refine J.q rfl rfl (Q.pick_f rfl rfl) ?_
                  refine J.q rfl rfl (Q.mv rfl) ?_
                  refine J.skip rfl rfl ?_
                  refine J.skip rfl rfl ?_
                  refine J.skip rfl rfl ?_
                  refine J.skip rfl rfl ?_
                  refine J.q rfl rfl (Q.pick_f rfl rfl) ?_
                  refine J.q rfl rfl (Q.asg rfl) ?_
                  refine J.nil ?_
                  refine J.blk_n ?_
                  first
                    | refine J.meet _ ?_ ⟨rfl, rfl, trivial⟩ rfl
                    | (refine J.keep [1, 0, 2] rfl ?_
                       refine J.meet _ ?_ ⟨rfl, rfl, trivial⟩ rfl)
                  simp_all [-List.length_eq_zero_iff, OM.chkR, emp, longB] <;> first | omega | (rw [Bool.eq_iff_iff]; simp [-List.length_eq_zero_iff] <;> omega)
              ·
                first | replace hb80 := X.tt_dec hb80 | replace hb80 := X.tt_not hb80 | replace hb80 := X.ff_dec hb80 | replace hb80 := X.ff_not hb80 | skip
                refine J.skip rfl rfl ?_
                refine J.skip rfl rfl ?_
                refine J.q rfl rfl (Q.pick_f rfl rfl) ?_
                refine J.q rfl rfl (Q.mv rfl) ?_
                refine J.skip rfl rfl ?_
                refine J.skip rfl rfl ?_
                refine J.q rfl rfl (Q.pick_f rfl rfl) ?_
                refine J.q rfl rfl (Q.mv rfl) ?_
                refine J.skip rfl rfl ?_
                refine J.skip rfl rfl ?_
                refine J.q rfl rfl (Q.pick_f rfl rfl) ?_
                refine J.q rfl rfl (Q.mv rfl) ?_
                refine J.skip rfl rfl ?_
                refine J.skip rfl rfl ?_
                refine J.skip rfl rfl ?_
                refine J.skip rfl rfl ?_
                refine J.q rfl rfl (Q.pick_f rfl rfl) ?_
                refine J.q rfl rfl (Q.asg rfl) ?_
                refine J.nil ?_
                refine J.blk_n ?_
                first
                  | refine J.meet _ ?_ ⟨rfl, rfl, trivial⟩ rfl
                  | (refine J.keep [1, 0, 2] rfl ?_
                     refine J.meet _ ?_ ⟨rfl, rfl, trivial⟩ rfl)
                simp_all [-List.length_eq_zero_iff, OM.chkR, emp, longB] <;> first | omega | (rw [Bool.eq_iff_iff]; simp [-List.length_eq_zero_iff] <;> omega)
            ·
              first | replace hb76 := X.tt_dec hb76 | replace hb76 := X.tt_not hb76 | replace hb76 := X.ff_dec hb76 | replace hb76 := X.ff_not hb76 | skip
              refine J.skip rfl rfl ?_
              refine J.skip rfl rfl ?_
              refine J.q rfl rfl (Q.pick_f rfl rfl) ?_
              refine J.q rfl rfl (Q.mv rfl) ?_
              refine J.skip rfl rfl ?_
              refine J.skip rfl rfl ?_
              refine J.q rfl rfl (Q.pick_f rfl rfl) ?_
              refine J.q rfl rfl (Q.mv rfl) ?_
              refine J.skip rfl rfl ?_
              refine J.skip rfl rfl ?_
              refine J.q rfl rfl (Q.pick_f rfl rfl) ?_
              refine J.q rfl rfl (Q.mv rfl) ?_
              refine J.skip rfl rfl ?_
              refine J.skip rfl rfl ?_
              refine J.q rfl rfl (Q.pick_f rfl rfl) ?_
              refine J.q rfl rfl (Q.mv rfl) ?_
              refine J.skip rfl rfl ?_
              refine J.skip rfl rfl ?_
              refine J.skip rfl rfl ?_
              refine J.skip rfl rfl ?_
              refine J.q rfl rfl (Q.pick_f rfl rfl) ?_
              refine J.q rfl rfl (Q.asg rfl) ?_
              refine J.nil ?_
              refine J.blk_n ?_
              first
                | refine J.meet _ ?_ ⟨rfl, rfl, trivial⟩ rfl
                | (refine J.keep [1, 0, 2] rfl ?_
                   refine J.meet _ ?_ ⟨rfl, rfl, trivial⟩ rfl)
              simp_all [-List.length_eq_zero_iff, OM.chkR, emp, longB] <;> first | omega | (rw [Bool.eq_iff_iff]; simp [-List.length_eq_zero_iff] <;> omega)
          ·
            first | replace hb71 := X.tt_dec hb71 | replace hb71 := X.tt_not hb71 | replace hb71 := X.ff_dec hb71 | replace hb71 := X.ff_not hb71 | skip
            refine J.skip rfl rfl ?_
            refine J.skip rfl rfl ?_
            refine J.skip rfl rfl ?_
            refine J.q rfl rfl (Q.pick_f rfl rfl) ?_
            refine J.q rfl rfl (Q.mv rfl) ?_
            refine J.skip rfl rfl ?_
            refine J.skip rfl rfl ?_
            refine J.q rfl rfl (Q.pick_f rfl rfl) ?_
            refine J.q rfl rfl (Q.mv rfl) ?_
            refine J.skip rfl rfl ?_
            refine J.skip rfl rfl ?_
            refine J.q rfl rfl (Q.pick_f rfl rfl) ?_
            refine J.q rfl rfl (Q.mv rfl) ?_
            refine J.skip rfl rfl ?_
            refine J.skip rfl rfl ?_
            refine J.q rfl rfl (Q.pick_f rfl rfl) ?_
            refine J.q rfl rfl (Q.mv rfl) ?_
            refine J.skip rfl rfl ?_
            refine J.skip rfl rfl ?_
            refine J.q rfl rfl (Q.pick_f rfl rfl) ?_
            refine J.q rfl rfl (Q.mv rfl) ?_
            refine J.skip rfl rfl ?_
            refine J.skip rfl rfl ?_
            refine J.skip rfl rfl ?_
            refine J.skip rfl rfl ?_
            refine J.q rfl rfl (Q.pick_f rfl rfl) ?_
            refine J.q rfl rfl (Q.asg rfl) ?_
            refine J.nil ?_
            refine J.blk_n ?_
            first
              | refine J.meet _ ?_ ⟨rfl, rfl, trivial⟩ rfl
              | (refine J.keep [1, 0, 2] rfl ?_
                 refine J.meet _ ?_ ⟨rfl, rfl, trivial⟩ rfl)
            simp_all [-List.length_eq_zero_iff, OM.chkR, emp, longB] <;> first | omega | (rw [Bool.eq_iff_iff]; simp [-List.length_eq_zero_iff] <;> omega)
        ·
          first | replace hc66 := X.tt_dec hc66 | replace hc66 := X.tt_not hc66 | replace hc66 := X.ff_dec hc66 | replace hc66 := X.ff_not hc66 | skip
          refine J.cond_f rfl ?_
          refine J.seq ?_
          refine J.seq ?_
          refine J.region ?_
          refine J.q rfl rfl (Q.eql rfl rfl) ?_
          refine J.q rfl rfl (Q.asg rfl) ?_
          refine J.nil ?_
          refine J.then_n ?_
          refine J.cases 98 rfl (fun hc98 => ?_) (fun hc98 => ?_)
          ·
            first | replace hc98 := X.tt_dec hc98 | replace hc98 := X.tt_not hc98 | replace hc98 := X.ff_dec hc98 | replace hc98 := X.ff_not hc98 | skip
            refine J.cond_t rfl ?_
            refine J.cskip ?_
            refine J.then_n ?_
            refine J.cond_t rfl ?_
            refine J.region ?_
            refine J.q rfl rfl (Q.fa (n := 2) Try.runUnderlying26 rfl rfl Try.sizeOf9 rfl) ?_
            refine J.q rfl rfl (Q.ld Try.isAgg9 rfl (by first | exact Reads.pt 0 rfl rfl | exact Reads.pt 1 rfl rfl | exact Reads.pt 2 rfl rfl | exact Reads.pt 3 rfl rfl | exact Reads.pt 4 rfl rfl | exact Reads.pt 5 rfl rfl | exact Reads.pt 6 rfl rfl | exact Reads.pt 7 rfl rfl | exact Reads.pt 8 rfl rfl | exact Reads.pt 9 rfl rfl | exact Reads.pt 10 rfl rfl | exact Reads.pt 11 rfl rfl | exact Reads.pt 12 rfl rfl | exact Reads.pt 13 rfl rfl)) ?_
            refine J.call Try.call21 (rname_spec x.o.bucket (by omega)) [] rfl rfl rfl rfl ?_
            rintro _ _ ⟨rfl, rfl⟩
            refine J.norm rfl ?_
            refine J.q rfl rfl (Q.mv rfl) ?_
            refine J.cases 105 rfl (fun hb105 => ?_) (fun hb105 => ?_)
            ·
              first | replace hb105 := X.tt_dec hb105 | replace hb105 := X.tt_not hb105 | replace hb105 := X.ff_dec hb105 | replace hb105 := X.ff_not hb105 | skip
              refine J.q rfl rfl (Q.fa (n := 3) Try.runUnderlying26 rfl rfl Try.sizeOf9 rfl) ?_
              refine J.q rfl rfl (Q.ld Try.isAgg9 rfl (by first | exact Reads.pt 0 rfl rfl | exact Reads.pt 1 rfl rfl | exact Reads.pt 2 rfl rfl | exact Reads.pt 3 rfl rfl | exact Reads.pt 4 rfl rfl | exact Reads.pt 5 rfl rfl | exact Reads.pt 6 rfl rfl | exact Reads.pt 7 rfl rfl | exact Reads.pt 8 rfl rfl | exact Reads.pt 9 rfl rfl | exact Reads.pt 10 rfl rfl | exact Reads.pt 11 rfl rfl | exact Reads.pt 12 rfl rfl | exact Reads.pt 13 rfl rfl)) ?_
              refine J.call Try.call22 (key_spec x.o.key) [] rfl rfl rfl rfl ?_
              rintro _ _ ⟨rfl, rfl⟩
              refine J.norm rfl ?_
              refine J.q rfl rfl (Q.pick_t rfl rfl) ?_
              refine J.q rfl rfl (Q.mv rfl) ?_
              refine J.cases 110 rfl (fun hb110 => ?_) (fun hb110 => ?_)
              ·
                first | replace hb110 := X.tt_dec hb110 | replace hb110 := X.tt_not hb110 | replace hb110 := X.ff_dec hb110 | replace hb110 := X.ff_not hb110 | skip
                refine J.q rfl rfl (Q.mv rfl) ?_
                refine J.q rfl rfl (Q.not rfl) ?_
                refine J.q rfl rfl (Q.pick_t rfl rfl) ?_
                refine J.q rfl rfl (Q.mv rfl) ?_
                refine J.cases 114 rfl (fun hb114 => ?_) (fun hb114 => ?_)
                ·
                  first | replace hb114 := X.tt_dec hb114 | replace hb114 := X.tt_not hb114 | replace hb114 := X.ff_dec hb114 | replace hb114 := X.ff_not hb114 | skip
                  refine J.q rfl rfl (Q.mv rfl) ?_
                  refine J.q rfl rfl (Q.not rfl) ?_
                  refine J.q rfl rfl (Q.pick_t rfl rfl) ?_
                  refine J.q rfl rfl (Q.mv rfl) ?_
                  refine J.cases 118 rfl (fun hb118 => ?_) (fun hb118 => ?_)
                  ·
                    first | replace hb118 := X.tt_dec hb118 | replace hb118 := X.tt_not hb118 | replace hb118 := X.ff_dec hb118 | replace hb118 := X.ff_not hb118 | skip
                    refine J.q rfl rfl (Q.mv rfl) ?_
                    refine J.q rfl rfl (Q.not rfl) ?_
                    refine J.q rfl rfl (Q.pick_t rfl rfl) ?_
                    refine J.q rfl rfl (Q.mv rfl) ?_
                    refine J.cases 122 rfl (fun hb122 => ?_) (fun hb122 => ?_)
                    ·
                      first | replace hb122 := X.tt_dec hb122 | replace hb122 := X.tt_not hb122 | replace hb122 := X.ff_dec hb122 | replace hb122 := X.ff_not hb122 | skip
                      refine J.q rfl rfl (Q.mv rfl) ?_
                      refine J.q rfl rfl (Q.not rfl) ?_
                      refine J.q rfl rfl (Q.pick_t rfl rfl) ?_
                      refine J.q rfl rfl (Q.mv rfl) ?_
                      refine J.cases 126 rfl (fun hb126 => ?_) (fun hb126 => ?_)
                      ·
                        first | replace hb126 := X.tt_dec hb126 | replace hb126 := X.tt_not hb126 | replace hb126 := X.ff_dec hb126 | replace hb126 := X.ff_not hb126 | skip
                        refine J.q rfl rfl (Q.mv rfl) ?_
                        refine J.q rfl rfl (Q.not rfl) ?_
                        refine J.q rfl rfl (Q.pick_t rfl rfl) ?_
                        refine J.q rfl rfl (Q.asg rfl) ?_
                        refine J.nil ?_
                        refine J.blk_n ?_
                        first
                          | refine J.meet _ ?_ ⟨rfl, rfl, trivial⟩ rfl
                          | (refine J.keep [1, 0, 2] rfl ?_
                             refine J.meet _ ?_ ⟨rfl, rfl, trivial⟩ rfl)
                        simp_all [-List.length_eq_zero_iff, OM.chkR, emp, longB] <;> first | omega | (rw [Bool.eq_iff_iff]; simp [-List.length_eq_zero_iff] <;> omega)
                      ·
                        first | replace hb126 := X.tt_dec hb126 | replace hb126 := X.tt_not hb126 | replace hb126 := X.ff_dec hb126 | replace hb126 := X.ff_not hb126 | skip
                        refine J.skip rfl rfl ?_
                        refine J.skip rfl rfl ?_
                        refine J.q rfl rfl (Q.pick_f rfl rfl) ?_
                        refine J.q rfl rfl (Q.asg rfl) ?_
                        refine J.nil ?_
                        refine J.blk_n ?_
                        first
                          | refine J.meet _ ?_ ⟨rfl, rfl, trivial⟩ rfl
                          | (refine J.keep [1, 0, 2] rfl ?_
                             refine J.meet _ ?_ ⟨rfl, rfl, trivial⟩ rfl)
                        simp_all [-List.length_eq_zero_iff, OM.chkR, emp, longB] <;> first | omega | (rw [Bool.eq_iff_iff]; simp [-List.length_eq_zero_iff] <;> omega)
                    ·
                      first | replace hb122 := X.tt_dec hb122 | replace hb122 := X.tt_not hb122 | replace hb122 := X.ff_dec hb122 | replace hb122 := X.ff_not hb122 | skip
                      refine J.skip rfl rfl ?_
                      refine J.skip rfl rfl ?_
                      refine J.q rfl rfl (Q.pick_f rfl rfl) ?_
                      refine J.q rfl rfl (Q.mv rfl) ?_
                      refine J.skip rfl rfl ?_
                      refine J.skip rfl rfl ?_
                      refine J.q rfl rfl (Q.pick_f rfl rfl) ?_
                      refine J.q rfl rfl (Q.asg rfl) ?_
                      refine J.nil ?_
                      refine J.blk_n ?_
                      first
                        | refine J.meet _ ?_ ⟨rfl, rfl, trivial⟩ rfl
                        | (refine J.keep [1, 0, 2] rfl ?_
                           refine J.meet _ ?_ ⟨rfl, rfl, trivial⟩ rfl)
                      simp_all [-List.length_eq_zero_iff, OM.chkR, emp, longB] <;> first | omega | (rw [Bool.eq_iff_iff]; simp [-List.length_eq_zero_iff] <;> omega)
                  ·
                    first | replace hb118 := X.tt_dec hb118 | replace hb118 := X.tt_not hb118 | replace hb118 := X.ff_dec hb118 | replace hb118 := X.ff_not hb118 | skip
                    refine J.skip rfl rfl ?_
                    refine J.skip rfl rfl ?_
                    refine J.q rfl rfl (Q.pick_f rfl rfl) ?_
                    refine J.q rfl rfl (Q.mv rfl) ?_
                    refine J.skip rfl rfl ?_
                    refine J.skip rfl rfl ?_
                    refine J.q rfl rfl (Q.pick_f rfl rfl) ?_
                    refine J.q rfl rfl (Q.mv rfl) ?_
                    refine J.skip rfl rfl ?_
                    refine J.skip rfl rfl ?_
                    refine J.q rfl rfl (Q.pick_f rfl rfl) ?_
                    refine J.q rfl rfl (Q.asg rfl) ?_
                    refine J.nil ?_
                    refine J.blk_n ?_
                    first
                      | refine J.meet _ ?_ ⟨rfl, rfl, trivial⟩ rfl
                      | (refine J.keep [1, 0, 2] rfl ?_
                         refine J.meet _ ?_ ⟨rfl, rfl, trivial⟩ rfl)
                    simp_all [-List.length_eq_zero_iff, OM.chkR, emp, longB] <;> first | omega | (rw [Bool.eq_iff_iff]; simp [-List.length_eq_zero_iff] <;> omega)
                ·
                  first | replace hb114 := X.tt_dec hb114 | replace hb114 := X.tt_not hb114 | replace hb114 := X.ff_dec hb114 | replace hb114 := X.ff_not hb114 | skip
                  refine J.skip rfl rfl ?_
                  refine J.skip rfl rfl ?_
                  refine J.q rfl rfl (Q.pick_f rfl rfl) ?_
                  refine J.q rfl rfl (Q.mv rfl) ?_
                  refine J.skip rfl rfl ?_
                  refine J.skip rfl rfl ?_
                  refine J.q rfl rfl (Q.pick_f rfl rfl) ?_
                  refine J.q rfl rfl (Q.mv rfl) ?_
                  refine J.skip rfl rfl ?_
                  refine J.skip rfl rfl ?_
                  refine J.q rfl rfl (Q.pick_f rfl rfl) ?_
                  refine J.q rfl rfl (Q.mv rfl) ?_
                  refine J.skip rfl rfl ?_
                  refine J.skip rfl rfl ?_
                  refine J.q rfl rfl (Q.pick_f rfl rfl) ?_
                  refine J.q rfl rfl (Q.asg rfl) ?_
                  refine J.nil ?_
                  refine J.blk_n ?_
                  first
                    | refine J.meet _ ?_ ⟨rfl, rfl, trivial⟩ rfl
                    | (refine J.keep [1, 0, 2] rfl ?_
                       refine J.meet _ ?_ ⟨rfl, rfl, trivial⟩ rfl)
                  simp_all [-List.length_eq_zero_iff, OM.chkR, emp, longB] <;> first | omega | (rw [Bool.eq_iff_iff]; simp [-List.length_eq_zero_iff] <;> omega)
              ·
                first | replace hb110 := X.tt_dec hb110 | replace hb110 := X.tt_not hb110 | replace hb110 := X.ff_dec hb110 | replace hb110 := X.ff_not hb110 | skip
                refine J.skip rfl rfl ?_
                refine J.skip rfl rfl ?_
                refine J.q rfl rfl (Q.pick_f rfl rfl) ?_
                refine J.q rfl rfl (Q.mv rfl) ?_
                refine J.skip rfl rfl ?_
                refine J.skip rfl rfl ?_
                refine J.q rfl rfl (Q.pick_f rfl rfl) ?_
                refine J.q rfl rfl (Q.mv rfl) ?_
                refine J.skip rfl rfl ?_
                refine J.skip rfl rfl ?_
                refine J.q rfl rfl (Q.pick_f rfl rfl) ?_
                refine J.q rfl rfl (Q.mv rfl) ?_
                refine J.skip rfl rfl ?_
                refine J.skip rfl rfl ?_
                refine J.q rfl rfl (Q.pick_f rfl rfl) ?_
                refine J.q rfl rfl (Q.mv rfl) ?_
                refine J.skip rfl rfl ?_
                refine J.skip rfl rfl ?_
                refine J.q rfl rfl (Q.pick_f rfl rfl) ?_
                refine J.q rfl rfl (Q.asg rfl) ?_
                refine J.nil ?_
                refine J.blk_n ?_
                first
                  | refine J.meet _ ?_ ⟨rfl, rfl, trivial⟩ rfl
                  | (refine J.keep [1, 0, 2] rfl ?_
                     refine J.meet _ ?_ ⟨rfl, rfl, trivial⟩ rfl)
                simp_all [-List.length_eq_zero_iff, OM.chkR, emp, longB] <;> first | omega | (rw [Bool.eq_iff_iff]; simp [-List.length_eq_zero_iff] <;> omega)
            ·
              first | replace hb105 := X.tt_dec hb105 | replace hb105 := X.tt_not hb105 | replace hb105 := X.ff_dec hb105 | replace hb105 := X.ff_not hb105 | skip
              refine J.skip rfl rfl ?_
              refine J.skip rfl rfl ?_
              refine J.skip rfl rfl ?_
              refine J.q rfl rfl (Q.pick_f rfl rfl) ?_
              refine J.q rfl rfl (Q.mv rfl) ?_
              refine J.skip rfl rfl ?_
              refine J.skip rfl rfl ?_
              refine J.q rfl rfl (Q.pick_f rfl rfl) ?_
              refine J.q rfl rfl (Q.mv rfl) ?_
              refine J.skip rfl rfl ?_
              refine J.skip rfl rfl ?_
              refine J.q rfl rfl (Q.pick_f rfl rfl) ?_
              refine J.q rfl rfl (Q.mv rfl) ?_
              refine J.skip rfl rfl ?_
              refine J.skip rfl rfl ?_
              refine J.q rfl rfl (Q.pick_f rfl rfl) ?_
              refine J.q rfl rfl (Q.mv rfl) ?_
              refine J.skip rfl rfl ?_
              refine J.skip rfl rfl ?_
              refine J.q rfl rfl (Q.pick_f rfl rfl) ?_
              refine J.q rfl rfl (Q.mv rfl) ?_
              refine J.skip rfl rfl ?_
              refine J.skip rfl rfl ?_
              refine J.q rfl rfl (Q.pick_f rfl rfl) ?_
              refine J.q rfl rfl (Q.asg rfl) ?_
              refine J.nil ?_
              refine J.blk_n ?_
              first
                | refine J.meet _ ?_ ⟨rfl, rfl, trivial⟩ rfl
                | (refine J.keep [1, 0, 2] rfl ?_
                   refine J.meet _ ?_ ⟨rfl, rfl, trivial⟩ rfl)
              simp_all [-List.length_eq_zero_iff, OM.chkR, emp, longB] <;> first | omega | (rw [Bool.eq_iff_iff]; simp [-List.length_eq_zero_iff] <;> omega)
          ·
            first | replace hc98 := X.tt_dec hc98 | replace hc98 := X.tt_not hc98 | replace hc98 := X.ff_dec hc98 | replace hc98 := X.ff_not hc98 | skip
            refine J.cond_f rfl ?_
            refine J.seq ?_
            refine J.region ?_
            refine J.q rfl rfl (Q.eql rfl rfl) ?_
            refine J.q rfl rfl (Q.asg rfl) ?_
            refine J.nil ?_
            refine J.then_n ?_
            refine J.cases 98 rfl (fun hc98 => ?_) (fun hc98 => ?_)
            ·
              first | replace hc98 := X.tt_dec hc98 | replace hc98 := X.tt_not hc98 | replace hc98 := X.ff_dec hc98 | replace hc98 := X.ff_not hc98 | skip
              refine J.cond_t rfl ?_
              refine J.cskip ?_
              refine J.then_n ?_
              refine J.cond_t rfl ?_
              refine J.region ?_
              refine J.q rfl rfl (Q.fa (n := 2) Try.runUnderlying26 rfl rfl Try.sizeOf9 rfl) ?_
              refine J.q rfl rfl (Q.ld Try.isAgg9 rfl (by first | exact Reads.pt 0 rfl rfl | exact Reads.pt 1 rfl rfl | exact Reads.pt 2 rfl rfl | exact Reads.pt 3 rfl rfl | exact Reads.pt 4 rfl rfl | exact Reads.pt 5 rfl rfl | exact Reads.pt 6 rfl rfl | exact Reads.pt 7 rfl rfl | exact Reads.pt 8 rfl rfl | exact Reads.pt 9 rfl rfl | exact Reads.pt 10 rfl rfl | exact Reads.pt 11 rfl rfl | exact Reads.pt 12 rfl rfl | exact Reads.pt 13 rfl rfl)) ?_
              refine J.call Try.call21 (rname_spec x.o.bucket (by omega)) [] rfl rfl rfl rfl ?_
              rintro _ _ ⟨rfl, rfl⟩
              refine J.norm rfl ?_
              refine J.q rfl rfl (Q.mv rfl) ?_
              refine J.cases 105 rfl (fun hb105 => ?_) (fun hb105 => ?_)
              ·
                first | replace hb105 := X.tt_dec hb105 | replace hb105 := X.tt_not hb105 | replace hb105 := X.ff_dec hb105 | replace hb105 := X.ff_not hb105 | skip
                refine J.q rfl rfl (Q.fa (n := 3) Try.runUnderlying26 rfl rfl Try.sizeOf9 rfl) ?_
                refine J.q rfl rfl (Q.ld Try.isAgg9 rfl (by first | exact Reads.pt 0 rfl rfl | exact Reads.pt 1 rfl rfl | exact Reads.pt 2 rfl rfl | exact Reads.pt 3 rfl rfl | exact Reads.pt 4 rfl rfl | exact Reads.pt 5 rfl rfl | exact Reads.pt 6 rfl rfl | exact Reads.pt 7 rfl rfl | exact Reads.pt 8 rfl rfl | exact Reads.pt 9 rfl rfl | exact Reads.pt 10 rfl rfl | exact Reads.pt 11 rfl rfl | exact Reads.pt 12 rfl rfl | exact Reads.pt 13 rfl rfl)) ?_
                refine J.call Try.call22 (key_spec x.o.key) [] rfl rfl rfl rfl ?_
                rintro _ _ ⟨rfl, rfl⟩
                refine J.norm rfl ?_
                refine J.q rfl rfl (Q.pick_t rfl rfl) ?_
                refine J.q rfl rfl (Q.mv rfl) ?_
                refine J.cases 110 rfl (fun hb110 => ?_) (fun hb110 => ?_)
                ·
                  first | replace hb110 := X.tt_dec hb110 | replace hb110 := X.tt_not hb110 | replace hb110 := X.ff_dec hb110 | replace hb110 := X.ff_not hb110 | skip
                  refine J.q rfl rfl (Q.mv rfl) ?_
                  refine J.q rfl rfl (Q.not rfl) ?_
                  refine J.q rfl rfl (Q.pick_t rfl rfl) ?_
                  refine J.q rfl rfl (Q.mv rfl) ?_
                  refine J.cases 114 rfl (fun hb114 => ?_) (fun hb114 => ?_)
                  ·
                    first | replace hb114 := X.tt_dec hb114 | replace hb114 := X.tt_not hb114 | replace hb114 := X.ff_dec hb114 | replace hb114 := X.ff_not hb114 | skip
                    refine J.q rfl rfl (Q.mv rfl) ?_
                    refine J.q rfl rfl (Q.not rfl) ?_
                    refine J.q rfl rfl (Q.pick_t rfl rfl) ?_
                    refine J.q rfl rfl (Q.mv rfl) ?_
                    refine J.cases 118 rfl (fun hb118 => ?_) (fun hb118 => ?_)
                    ·
                      first | replace hb118 := X.tt_dec hb118 | replace hb118 := X.tt_not hb118 | replace hb118 := X.ff_dec hb118 | replace hb118 := X.ff_not hb118 | skip
                      refine J.q rfl rfl (Q.mv rfl) ?_
                      refine J.q rfl rfl (Q.not rfl) ?_
                      refine J.q rfl rfl (Q.pick_t rfl rfl) ?_
                      refine J.q rfl rfl (Q.mv rfl) ?_
                      refine J.cases 122 rfl (fun hb122 => ?_) (fun hb122 => ?_)
                      ·
                        first | replace hb122 := X.tt_dec hb122 | replace hb122 := X.tt_not hb122 | replace hb122 := X.ff_dec hb122 | replace hb122 := X.ff_not hb122 | skip
                        refine J.q rfl rfl (Q.mv rfl) ?_
                        refine J.q rfl rfl (Q.not rfl) ?_
                        refine J.q rfl rfl (Q.pick_t rfl rfl) ?_
                        refine J.q rfl rfl (Q.mv rfl) ?_
                        refine J.cases 126 rfl (fun hb126 => ?_) (fun hb126 => ?_)
                        ·
                          first | replace hb126 := X.tt_dec hb126 | replace hb126 := X.tt_not hb126 | replace hb126 := X.ff_dec hb126 | replace hb126 := X.ff_not hb126 | skip
                          refine J.q rfl rfl (Q.mv rfl) ?_
                          refine J.q rfl rfl (Q.not rfl) ?_
                          refine J.q rfl rfl (Q.pick_t rfl rfl) ?_
                          refine J.q rfl rfl (Q.asg rfl) ?_
                          refine J.nil ?_
                          refine J.blk_n ?_
                          first
                            | refine J.meet _ ?_ ⟨rfl, rfl, trivial⟩ rfl
                            | (refine J.keep [1, 0, 2] rfl ?_
                               refine J.meet _ ?_ ⟨rfl, rfl, trivial⟩ rfl)
                          simp_all [-List.length_eq_zero_iff, OM.chkR, emp, longB] <;> first | omega | (rw [Bool.eq_iff_iff]; simp [-List.length_eq_zero_iff] <;> omega)
                        ·
                          first | replace hb126 := X.tt_dec hb126 | replace hb126 := X.tt_not hb126 | replace hb126 := X.ff_dec hb126 | replace hb126 := X.ff_not hb126 | skip
                          refine J.skip rfl rfl ?_
                          refine J.skip rfl rfl ?_
                          refine J.q rfl rfl (Q.pick_f rfl rfl) ?_
                          refine J.q rfl rfl (Q.asg rfl) ?_
                          refine J.nil ?_
                          refine J.blk_n ?_
                          first
                            | refine J.meet _ ?_ ⟨rfl, rfl, trivial⟩ rfl
                            | (refine J.keep [1, 0, 2] rfl ?_
                               refine J.meet _ ?_ ⟨rfl, rfl, trivial⟩ rfl)
                          simp_all [-List.length_eq_zero_iff, OM.chkR, emp, longB] <;> first | omega | (rw [Bool.eq_iff_iff]; simp [-List.length_eq_zero_iff] <;> omega)
                      ·
                        first | replace hb122 := X.tt_dec hb122 | replace hb122 := X.tt_not hb122 | replace hb122 := X.ff_dec hb122 | replace hb122 := X.ff_not hb122 | skip
                        refine J.skip rfl rfl ?_
                        refine J.skip rfl rfl ?_
                        refine J.q rfl rfl (Q.pick_f rfl rfl) ?_
                        refine J.q rfl rfl (Q.mv rfl) ?_
                        refine J.skip rfl rfl ?_
                        refine J.skip rfl rfl ?_
                        refine J.q rfl rfl (Q.pick_f rfl rfl) ?_
                        refine J.q rfl rfl (Q.asg rfl) ?_
                        refine J.nil ?_
                        refine J.blk_n ?_
                        first
                          | refine J.meet _ ?_ ⟨rfl, rfl, trivial⟩ rfl
                          | (refine J.keep [1, 0, 2] rfl ?_
                             refine J.meet _ ?_ ⟨rfl, rfl, trivial⟩ rfl)
                        simp_all [-List.length_eq_zero_iff, OM.chkR, emp, longB] <;> first | omega | (rw [Bool.eq_iff_iff]; simp [-List.length_eq_zero_iff] <;> omega)
                    ·
                      first | replace hb118 := X.tt_dec hb118 | replace hb118 := X.tt_not hb118 | replace hb118 := X.ff_dec hb118 | replace hb118 := X.ff_not hb118 | skip
                      refine J.skip rfl rfl ?_
                      refine J.skip rfl rfl ?_
                      refine J.q rfl rfl (Q.pick_f rfl rfl) ?_
                      refine J.q rfl rfl (Q.mv rfl) ?_
                      refine J.skip rfl rfl ?_
                      refine J.skip rfl rfl ?_
                      refine J.q rfl rfl (Q.pick_f rfl rfl) ?_
                      refine J.q rfl rfl (Q.mv rfl) ?_
                      refine J.skip rfl rfl ?_
                      refine J.skip rfl rfl ?_
                      refine J.q rfl rfl (Q.pick_f rfl rfl) ?_
                      refine J.q rfl rfl (Q.asg rfl) ?_
                      refine J.nil ?_
                      refine J.blk_n ?_
                      first
                        | refine J.meet _ ?_ ⟨rfl, rfl, trivial⟩ rfl
                        | (refine J.keep [1, 0, 2] rfl ?_
                           refine J.meet _ ?_ ⟨rfl, rfl, trivial⟩ rfl)
                      simp_all [-List.length_eq_zero_iff, OM.chkR, emp, longB] <;> first | omega | (rw [Bool.eq_iff_iff]; simp [-List.length_eq_zero_iff] <;> omega)
                  ·
                    first | replace hb114 := X.tt_dec hb114 | replace hb114 := X.tt_not hb114 | replace hb114 := X.ff_dec hb114 | replace hb114 := X.ff_not hb114 | skip
                    refine J.skip rfl rfl ?_
                    refine J.skip rfl rfl ?_
                    refine J.q rfl rfl (Q.pick_f rfl rfl) ?_
                    refine J.q rfl rfl (Q.mv rfl) ?_
                    refine J.skip rfl rfl ?_
                    refine J.skip rfl rfl ?_
                    refine J.q rfl rfl (Q.pick_f rfl rfl) ?_
                    refine J.q rfl rfl (Q.mv rfl) ?_
                    refine J.skip rfl rfl ?_
                    refine J.skip rfl rfl ?_
                    refine J.q rfl rfl (Q.pick_f rfl rfl) ?_
                    refine J.q rfl rfl (Q.mv rfl) ?_
                    refine J.skip rfl rfl ?_
                    refine J.skip rfl rfl ?_
                    refine J.q rfl rfl (Q.pick_f rfl rfl) ?_
                    refine J.q rfl rfl (Q.asg rfl) ?_
                    refine J.nil ?_
                    refine J.blk_n ?_
                    first
                      | refine J.meet _ ?_ ⟨rfl, rfl, trivial⟩ rfl
                      | (refine J.keep [1, 0, 2] rfl ?_
                         refine J.meet _ ?_ ⟨rfl, rfl, trivial⟩ rfl)
                    simp_all [-List.length_eq_zero_iff, OM.chkR, emp, longB] <;> first | omega | (rw [Bool.eq_iff_iff]; simp [-List.length_eq_zero_iff] <;> omega)
                ·
                  first | replace hb110 := X.tt_dec hb110 | replace hb110 := X.tt_not hb110 | replace hb110 := X.ff_dec hb110 | replace hb110 := X.ff_not hb110 | skip
                  refine J.skip rfl rfl ?_
                  refine J.skip rfl rfl ?_
                  refine J.q rfl rfl (Q.pick_f rfl rfl) ?_
                  refine J.q rfl rfl (Q.mv rfl) ?_
                  refine J.skip rfl rfl ?_
                  refine J.skip rfl rfl ?_
                  refine J.q rfl rfl (Q.pick_f rfl rfl) ?_
                  refine J.q rfl rfl (Q.mv rfl) ?_
                  refine J.skip rfl rfl ?_
                  refine J.skip rfl rfl ?_
                  refine J.q rfl rfl (Q.pick_f rfl rfl) ?_
                  refine J.q rfl rfl (Q.mv rfl) ?_
                  refine J.skip rfl rfl ?_
                  refine J.skip rfl rfl ?_
                  refine J.q rfl rfl (Q.pick_f rfl rfl) ?_
                  refine J.q rfl rfl (Q.mv rfl) ?_
                  refine J.skip rfl rfl ?_
                  refine J.skip rfl rfl ?_
                  refine J.q rfl rfl (Q.pick_f rfl rfl) ?_
                  refine J.q rfl rfl (Q.asg rfl) ?_
                  refine J.nil ?_
                  refine J.blk_n ?_
                  first
                    | refine J.meet _ ?_ ⟨rfl, rfl, trivial⟩ rfl
                    | (refine J.keep [1, 0, 2] rfl ?_
                       refine J.meet _ ?_ ⟨rfl, rfl, trivial⟩ rfl)
                  simp_all [-List.length_eq_zero_iff, OM.chkR, emp, longB] <;> first | omega | (rw [Bool.eq_iff_iff]; simp [-List.length_eq_zero_iff] <;> omega)
              ·
                first | replace hb105 := X.tt_dec hb105 | replace hb105 := X.tt_not hb105 | replace hb105 := X.ff_dec hb105 | replace hb105 := X.ff_not hb105 | skip
                refine J.skip rfl rfl ?_
                refine J.skip rfl rfl ?_
                refine J.skip rfl rfl ?_
                refine J.q rfl rfl (Q.pick_f rfl rfl) ?_
                refine J.q rfl rfl (Q.mv rfl) ?_
                refine J.skip rfl rfl ?_
                refine J.skip rfl rfl ?_
                refine J.q rfl rfl (Q.pick_f rfl rfl) ?_
                refine J.q rfl rfl (Q.mv rfl) ?_
                refine J.skip rfl rfl ?_
                refine J.skip rfl rfl ?_
                refine J.q rfl rfl (Q.pick_f rfl rfl) ?_
                refine J.q rfl rfl (Q.mv rfl) ?_
                refine J.skip rfl rfl ?_
                refine J.skip rfl rfl ?_
                refine J.q rfl rfl (Q.pick_f rfl rfl) ?_
                refine J.q rfl rfl (Q.mv rfl) ?_
                refine J.skip rfl rfl ?_
                refine J.skip rfl rfl ?_
                refine J.q rfl rfl (Q.pick_f rfl rfl) ?_
                refine J.q rfl rfl (Q.mv rfl) ?_
                refine J.skip rfl rfl ?_
                refine J.skip rfl rfl ?_
                refine J.q rfl rfl (Q.pick_f rfl rfl) ?_
                refine J.q rfl rfl (Q.asg rfl) ?_
                refine J.nil ?_
                refine J.blk_n ?_
                first
                  | refine J.meet _ ?_ ⟨rfl, rfl, trivial⟩ rfl
                  | (refine J.keep [1, 0, 2] rfl ?_
                     refine J.meet _ ?_ ⟨rfl, rfl, trivial⟩ rfl)
                simp_all [-List.length_eq_zero_iff, OM.chkR, emp, longB] <;> first | omega | (rw [Bool.eq_iff_iff]; simp [-List.length_eq_zero_iff] <;> omega)
            ·
              first | replace hc98 := X.tt_dec hc98 | replace hc98 := X.tt_not hc98 | replace hc98 := X.ff_dec hc98 | replace hc98 := X.ff_not hc98 | skip
              refine J.cond_f rfl ?_
              refine J.region ?_
              refine J.q rfl rfl (Q.eql rfl rfl) ?_
              refine J.q rfl rfl (Q.asg rfl) ?_
              refine J.nil ?_
              refine J.then_n ?_
              refine J.cases 98 rfl (fun hc98 => ?_) (fun hc98 => ?_)
              ·
                first | replace hc98 := X.tt_dec hc98 | replace hc98 := X.tt_not hc98 | replace hc98 := X.ff_dec hc98 | replace hc98 := X.ff_not hc98 | skip
                refine J.cond_t rfl ?_
                refine J.region ?_
                refine J.q rfl rfl (Q.fa (n := 2) Try.runUnderlying26 rfl rfl Try.sizeOf9 rfl) ?_
                refine J.q rfl rfl (Q.ld Try.isAgg9 rfl (by first | exact Reads.pt 0 rfl rfl | exact Reads.pt 1 rfl rfl | exact Reads.pt 2 rfl rfl | exact Reads.pt 3 rfl rfl | exact Reads.pt 4 rfl rfl | exact Reads.pt 5 rfl rfl | exact Reads.pt 6 rfl rfl | exact Reads.pt 7 rfl rfl | exact Reads.pt 8 rfl rfl | exact Reads.pt 9 rfl rfl | exact Reads.pt 10 rfl rfl | exact Reads.pt 11 rfl rfl | exact Reads.pt 12 rfl rfl | exact Reads.pt 13 rfl rfl)) ?_
                refine J.call Try.call21 (rname_spec x.o.bucket (by omega)) [] rfl rfl rfl rfl ?_
                rintro _ _ ⟨rfl, rfl⟩
                refine J.norm rfl ?_
                refine J.q rfl rfl (Q.mv rfl) ?_
                refine J.cases 105 rfl (fun hb105 => ?_) (fun hb105 => ?_)
                ·
                  first | replace hb105 := X.tt_dec hb105 | replace hb105 := X.tt_not hb105 | replace hb105 := X.ff_dec hb105 | replace hb105 := X.ff_not hb105 | skip
                  refine J.q rfl rfl (Q.fa (n := 3) Try.runUnderlying26 rfl rfl Try.sizeOf9 rfl) ?_
                  refine J.q rfl rfl (Q.ld Try.isAgg9 rfl (by first | exact Reads.pt 0 rfl rfl | exact Reads.pt 1 rfl rfl | exact Reads.pt 2 rfl rfl | exact Reads.pt 3 rfl rfl | exact Reads.pt 4 rfl rfl | exact Reads.pt 5 rfl rfl | exact Reads.pt 6 rfl rfl | exact Reads.pt 7 rfl rfl | exact Reads.pt 8 rfl rfl | exact Reads.pt 9 rfl rfl | exact Reads.pt 10 rfl rfl | exact Reads.pt 11 rfl rfl | exact Reads.pt 12 rfl rfl | exact Reads.pt 13 rfl rfl)) ?_
                  refine J.call Try.call22 (key_spec x.o.key) [] rfl rfl rfl rfl ?_
                  rintro _ _ ⟨rfl, rfl⟩
                  refine J.norm rfl ?_
                  refine J.q rfl rfl (Q.pick_t rfl rfl) ?_
                  refine J.q rfl rfl (Q.mv rfl) ?_
                  refine J.cases 110 rfl (fun hb110 => ?_) (fun hb110 => ?_)
                  ·
                    first | replace hb110 := X.tt_dec hb110 | replace hb110 := X.tt_not hb110 | replace hb110 := X.ff_dec hb110 | replace hb110 := X.ff_not hb110 | skip
                    refine J.q rfl rfl (Q.mv rfl) ?_
                    refine J.q rfl rfl (Q.not rfl) ?_
                    refine J.q rfl rfl (Q.pick_t rfl rfl) ?_
                    refine J.q rfl rfl (Q.mv rfl) ?_
                    refine J.cases 114 rfl (fun hb114 => ?_) (fun hb114 => ?_)
                    ·
                      first | replace hb114 := X.tt_dec hb114 | replace hb114 := X.tt_not hb114 | replace hb114 := X.ff_dec hb114 | replace hb114 := X.ff_not hb114 | skip
                      refine J.q rfl rfl (Q.mv rfl) ?_
                      refine J.q rfl rfl (Q.not rfl) ?_
                      refine J.q rfl rfl (Q.pick_t rfl rfl) ?_
                      refine J.q rfl rfl (Q.mv rfl) ?_
                      refine J.cases 118 rfl (fun hb118 => ?_) (fun hb118 => ?_)
                      ·
                        first | replace hb118 := X.tt_dec hb118 | replace hb118 := X.tt_not hb118 | replace hb118 := X.ff_dec hb118 | replace hb118 := X.ff_not hb118 | skip
                        refine J.q rfl rfl (Q.mv rfl) ?_
                        refine J.q rfl rfl (Q.not rfl) ?_
                        refine J.q rfl rfl (Q.pick_t rfl rfl) ?_
                        refine J.q rfl rfl (Q.mv rfl) ?_
                        refine J.cases 122 rfl (fun hb122 => ?_) (fun hb122 => ?_)
                        ·
                          first | replace hb122 := X.tt_dec hb122 | replace hb122 := X.tt_not hb122 | replace hb122 := X.ff_dec hb122 | replace hb122 := X.ff_not hb122 | skip
                          refine J.q rfl rfl (Q.mv rfl) ?_
                          refine J.q rfl rfl (Q.not rfl) ?_
                          refine J.q rfl rfl (Q.pick_t rfl rfl) ?_
                          refine J.q rfl rfl (Q.mv rfl) ?_
                          refine J.cases 126 rfl (fun hb126 => ?_) (fun hb126 => ?_)
                          ·
                            first | replace hb126 := X.tt_dec hb126 | replace hb126 := X.tt_not hb126 | replace hb126 := X.ff_dec hb126 | replace hb126 := X.ff_not hb126 | skip
                            refine J.q rfl rfl (Q.mv rfl) ?_
                            refine J.q rfl rfl (Q.not rfl) ?_
                            refine J.q rfl rfl (Q.pick_t rfl rfl) ?_
                            refine J.q rfl rfl (Q.asg rfl) ?_
                            refine J.nil ?_
                            refine J.blk_n ?_
                            first
                              | refine J.meet _ ?_ ⟨rfl, rfl, trivial⟩ rfl
                              | (refine J.keep [1, 0, 2] rfl ?_
                                 refine J.meet _ ?_ ⟨rfl, rfl, trivial⟩ rfl)
                            simp_all [-List.length_eq_zero_iff, OM.chkR, emp, longB] <;> first | omega | (rw [Bool.eq_iff_iff]; simp [-List.length_eq_zero_iff] <;> omega)
                          ·
                            first | replace hb126 := X.tt_dec hb126 | replace hb126 := X.tt_not hb126 | replace hb126 := X.ff_dec hb126 | replace hb126 := X.ff_not hb126 | skip
                            refine J.skip rfl rfl ?_
                            refine J.skip rfl rfl ?_
                            refine J.q rfl rfl (Q.pick_f rfl rfl) ?_
                            refine J.q rfl rfl (Q.asg rfl) ?_
                            refine J.nil ?_
                            refine J.blk_n ?_
                            first
                              | refine J.meet _ ?_ ⟨rfl, rfl, trivial⟩ rfl
                              | (refine J.keep [1, 0, 2] rfl ?_
                                 refine J.meet _ ?_ ⟨rfl, rfl, trivial⟩ rfl)
                            simp_all [-List.length_eq_zero_iff, OM.chkR, emp, longB] <;> first | omega | (rw [Bool.eq_iff_iff]; simp [-List.length_eq_zero_iff] <;> omega)
                        ·
                          first | replace hb122 := X.tt_dec hb122 | replace hb122 := X.tt_not hb122 | replace hb122 := X.ff_dec hb122 | replace hb122 := X.ff_not hb122 | skip
                          refine J.skip rfl rfl ?_
                          refine J.skip rfl rfl ?_
                          refine J.q rfl rfl (Q.pick_f rfl rfl) ?_
                          refine J.q rfl rfl (Q.mv rfl) ?_
                          refine J.skip rfl rfl ?_
                          refine J.skip rfl rfl ?_
                          refine J.q rfl rfl (Q.pick_f rfl rfl) ?_
                          refine J.q rfl rfl (Q.asg rfl) ?_
                          refine J.nil ?_
                          refine J.blk_n ?_
                          first
                            | refine J.meet _ ?_ ⟨rfl, rfl, trivial⟩ rfl
                            | (refine J.keep [1, 0, 2] rfl ?_
                               refine J.meet _ ?_ ⟨rfl, rfl, trivial⟩ rfl)
                          simp_all [-List.length_eq_zero_iff, OM.chkR, emp, longB] <;> first | omega | (rw [Bool.eq_iff_iff]; simp [-List.length_eq_zero_iff] <;> omega)
                      ·
                        first | replace hb118 := X.tt_dec hb118 | replace hb118 := X.tt_not hb118 | replace hb118 := X.ff_dec hb118 | replace hb118 := X.ff_not hb118 | skip
                        refine J.skip rfl rfl ?_
                        refine J.skip rfl rfl ?_
                        refine J.q rfl rfl (Q.pick_f rfl rfl) ?_
                        refine J.q rfl rfl (Q.mv rfl) ?_
                        refine J.skip rfl rfl ?_
                        refine J.skip rfl rfl ?_
                        refine J.q rfl rfl (Q.pick_f rfl rfl) ?_
                        refine J.q rfl rfl (Q.mv rfl) ?_
                        refine J.skip rfl rfl ?_
                        refine J.skip rfl rfl ?_
                        refine J.q rfl rfl (Q.pick_f rfl rfl) ?_
                        refine J.q rfl rfl (Q.asg rfl) ?_
                        refine J.nil ?_
                        refine J.blk_n ?_
                        first
                          | refine J.meet _ ?_ ⟨rfl, rfl, trivial⟩ rfl
                          | (refine J.keep [1, 0, 2] rfl ?_
                             refine J.meet _ ?_ ⟨rfl, rfl, trivial⟩ rfl)
                        simp_all [-List.length_eq_zero_iff, OM.chkR, emp, longB] <;> first | omega | (rw [Bool.eq_iff_iff]; simp [-List.length_eq_zero_iff] <;> omega)
                    ·
                      first | replace hb114 := X.tt_dec hb114 | replace hb114 := X.tt_not hb114 | replace hb114 := X.ff_dec hb114 | replace hb114 := X.ff_not hb114 | skip
                      refine J.skip rfl rfl ?_
                      refine J.skip rfl rfl ?_
                      refine J.q rfl rfl (Q.pick_f rfl rfl) ?_
                      refine J.q rfl rfl (Q.mv rfl) ?_
                      refine J.skip rfl rfl ?_
                      refine J.skip rfl rfl ?_
                      refine J.q rfl rfl (Q.pick_f rfl rfl) ?_
                      refine J.q rfl rfl (Q.mv rfl) ?_
                      refine J.skip rfl rfl ?_
                      refine J.skip rfl rfl ?_
                      refine J.q rfl rfl (Q.pick_f rfl rfl) ?_
                      refine J.q rfl rfl (Q.mv rfl) ?_
                      refine J.skip rfl rfl ?_
                      refine J.skip rfl rfl ?_
                      refine J.q rfl rfl (Q.pick_f rfl rfl) ?_
                      refine J.q rfl rfl (Q.asg rfl) ?_
                      refine J.nil ?_
                      refine J.blk_n ?_
                      first
                        | refine J.meet _ ?_ ⟨rfl, rfl, trivial⟩ rfl
                        | (refine J.keep [1, 0, 2] rfl ?_
                           refine J.meet _ ?_ ⟨rfl, rfl, trivial⟩ rfl)
                      simp_all [-List.length_eq_zero_iff, OM.chkR, emp, longB] <;> first | omega | (rw [Bool.eq_iff_iff]; simp [-List.length_eq_zero_iff] <;> omega)
                  ·
                    first | replace hb110 := X.tt_dec hb110 | replace hb110 := X.tt_not hb110 | replace hb110 := X.ff_dec hb110 | replace hb110 := X.ff_not hb110 | skip
                    refine J.skip rfl rfl ?_
                    refine J.skip rfl rfl ?_
                    refine J.q rfl rfl (Q.pick_f rfl rfl) ?_
                    refine J.q rfl rfl (Q.mv rfl) ?_
                    refine J.skip rfl rfl ?_
                    refine J.skip rfl rfl ?_
                    refine J.q rfl rfl (Q.pick_f rfl rfl) ?_
                    refine J.q rfl rfl (Q.mv rfl) ?_
                    refine J.skip rfl rfl ?_
                    refine J.skip rfl rfl ?_
                    refine J.q rfl rfl (Q.pick_f rfl rfl) ?_
                    refine J.q rfl rfl (Q.mv rfl) ?_
                    refine J.skip rfl rfl ?_
                    refine J.skip rfl rfl ?_
                    refine J.q rfl rfl (Q.pick_f rfl rfl) ?_
                    refine J.q rfl rfl (Q.mv rfl) ?_
                    refine J.skip rfl rfl ?_
                    refine J.skip rfl rfl ?_
                    refine J.q rfl rfl (Q.pick_f rfl rfl) ?_
                    refine J.q rfl rfl (Q.asg rfl) ?_
                    refine J.nil ?_
                    refine J.blk_n ?_
                    first
                      | refine J.meet _ ?_ ⟨rfl, rfl, trivial⟩ rfl
                      | (refine J.keep [1, 0, 2] rfl ?_
                         refine J.meet _ ?_ ⟨rfl, rfl, trivial⟩ rfl)
                    simp_all [-List.length_eq_zero_iff, OM.chkR, emp, longB] <;> first | omega | (rw [Bool.eq_iff_iff]; simp [-List.length_eq_zero_iff] <;> omega)
                ·
                  first | replace hb105 := X.tt_dec hb105 | replace hb105 := X.tt_not hb105 | replace hb105 := X.ff_dec hb105 | replace hb105 := X.ff_not hb105 | skip
                  refine J.skip rfl rfl ?_
                  refine J.skip rfl rfl ?_
                  refine J.skip rfl rfl ?_
                  refine J.q rfl rfl (Q.pick_f rfl rfl) ?_
                  refine J.q rfl rfl (Q.mv rfl) ?_
                  refine J.skip rfl rfl ?_
                  refine J.skip rfl rfl ?_
                  refine J.q rfl rfl (Q.pick_f rfl rfl) ?_
                  refine J.q rfl rfl (Q.mv rfl) ?_
                  refine J.skip rfl rfl ?_
                  refine J.skip rfl rfl ?_
                  refine J.q rfl rfl (Q.pick_f rfl rfl) ?_
                  refine J.q rfl rfl (Q.mv rfl) ?_
                  refine J.skip rfl rfl ?_
                  refine J.skip rfl rfl ?_
                  refine J.q rfl rfl (Q.pick_f rfl rfl) ?_
                  refine J.q rfl rfl (Q.mv rfl) ?_
                  refine J.skip rfl rfl ?_
                  refine J.skip rfl rfl ?_
                  refine J.q rfl rfl (Q.pick_f rfl rfl) ?_
                  refine J.q rfl rfl (Q.mv rfl) ?_
                  refine J.skip rfl rfl ?_
                  refine J.skip rfl rfl ?_
                  refine J.q rfl rfl (Q.pick_f rfl rfl) ?_
                  refine J.q rfl rfl (Q.asg rfl) ?_
                  refine J.nil ?_
                  refine J.blk_n ?_
                  first
                    | refine J.meet _ ?_ ⟨rfl, rfl, trivial⟩ rfl
                    | (refine J.keep [1, 0, 2] rfl ?_
                       refine J.meet _ ?_ ⟨rfl, rfl, trivial⟩ rfl)
                  simp_all [-List.length_eq_zero_iff, OM.chkR, emp, longB] <;> first | omega | (rw [Bool.eq_iff_iff]; simp [-List.length_eq_zero_iff] <;> omega)
              ·
                first | replace hc98 := X.tt_dec hc98 | replace hc98 := X.tt_not hc98 | replace hc98 := X.ff_dec hc98 | replace hc98 := X.ff_not hc98 | skip
                refine J.cond_f rfl ?_
                refine J.seq ?_
                refine J.region ?_
                refine J.q rfl rfl (Q.eql rfl rfl) ?_
                refine J.q rfl rfl (Q.asg rfl) ?_
                refine J.nil ?_
                refine J.then_n ?_
                refine J.cases 130 rfl (fun hc130 => ?_) (fun hc130 => ?_)
                ·
                  first | replace hc130 := X.tt_dec hc130 | replace hc130 := X.tt_not hc130 | replace hc130 := X.ff_dec hc130 | replace hc130 := X.ff_not hc130 | skip
                  refine J.cond_t rfl ?_
                  refine J.region ?_
                  refine J.q rfl rfl (Q.fa (n := 2) Try.runUnderlying26 rfl rfl Try.sizeOf9 rfl) ?_
                  refine J.q rfl rfl (Q.ld Try.isAgg9 rfl (by first | exact Reads.pt 0 rfl rfl | exact Reads.pt 1 rfl rfl | exact Reads.pt 2 rfl rfl | exact Reads.pt 3 rfl rfl | exact Reads.pt 4 rfl rfl | exact Reads.pt 5 rfl rfl | exact Reads.pt 6 rfl rfl | exact Reads.pt 7 rfl rfl | exact Reads.pt 8 rfl rfl | exact Reads.pt 9 rfl rfl | exact Reads.pt 10 rfl rfl | exact Reads.pt 11 rfl rfl | exact Reads.pt 12 rfl rfl | exact Reads.pt 13 rfl rfl)) ?_
                  refine J.call Try.call21 (rname_spec x.o.bucket (by omega)) [] rfl rfl rfl rfl ?_
                  rintro _ _ ⟨rfl, rfl⟩
                  refine J.norm rfl ?_
                  refine J.q rfl rfl (Q.mv rfl) ?_
                  refine J.cases 135 rfl (fun hb135 => ?_) (fun hb135 => ?_)
                  ·
                    first | replace hb135 := X.tt_dec hb135 | replace hb135 := X.tt_not hb135 | replace hb135 := X.ff_dec hb135 | replace hb135 := X.ff_not hb135 | skip
                    refine J.q rfl rfl (Q.fa (n := 3) Try.runUnderlying26 rfl rfl Try.sizeOf9 rfl) ?_
                    refine J.q rfl rfl (Q.ld Try.isAgg9 rfl (by first | exact Reads.pt 0 rfl rfl | exact Reads.pt 1 rfl rfl | exact Reads.pt 2 rfl rfl | exact Reads.pt 3 rfl rfl | exact Reads.pt 4 rfl rfl | exact Reads.pt 5 rfl rfl | exact Reads.pt 6 rfl rfl | exact Reads.pt 7 rfl rfl | exact Reads.pt 8 rfl rfl | exact Reads.pt 9 rfl rfl | exact Reads.pt 10 rfl rfl | exact Reads.pt 11 rfl rfl | exact Reads.pt 12 rfl rfl | exact Reads.pt 13 rfl rfl)) ?_
                    refine J.q rfl rfl (Q.lenS Try.runUnderlying9 rfl) ?_
                    refine J.q rfl rfl (Q.leq rfl rfl) ?_
                    refine J.q rfl rfl (Q.pick_t rfl rfl) ?_
                    refine J.q rfl rfl (Q.mv rfl) ?_
                    refine J.cases 141 rfl (fun hb141 => ?_) (fun hb141 => ?_)
                    ·
                      first | replace hb141 := X.tt_dec hb141 | replace hb141 := X.tt_not hb141 | replace hb141 := X.ff_dec hb141 | replace hb141 := X.ff_not hb141 | skip
                      refine J.q rfl rfl (Q.fa (n := 4) Try.runUnderlying26 rfl rfl Try.sizeOf9 rfl) ?_
                      refine J.q rfl rfl (Q.ld Try.isAgg9 rfl (by first | exact Reads.pt 0 rfl rfl | exact Reads.pt 1 rfl rfl | exact Reads.pt 2 rfl rfl | exact Reads.pt 3 rfl rfl | exact Reads.pt 4 rfl rfl | exact Reads.pt 5 rfl rfl | exact Reads.pt 6 rfl rfl | exact Reads.pt 7 rfl rfl | exact Reads.pt 8 rfl rfl | exact Reads.pt 9 rfl rfl | exact Reads.pt 10 rfl rfl | exact Reads.pt 11 rfl rfl | exact Reads.pt 12 rfl rfl | exact Reads.pt 13 rfl rfl)) ?_
                      refine J.q rfl rfl (Q.lenS Try.runUnderlying9 rfl) ?_
                      refine J.q rfl rfl (Q.leq rfl rfl) ?_
                      refine J.q rfl rfl (Q.pick_t rfl rfl) ?_
                      refine J.q rfl rfl (Q.mv rfl) ?_
                      refine J.cases 147 rfl (fun hb147 => ?_) (fun hb147 => ?_)
                      ·
                        first | replace hb147 := X.tt_dec hb147 | replace hb147 := X.tt_not hb147 | replace hb147 := X.ff_dec hb147 | replace hb147 := X.ff_not hb147 | skip
                        refine J.q rfl rfl (Q.fa (n := 5) Try.runUnderlying26 rfl rfl Try.sizeOf3 rfl) ?_
                        refine J.q rfl rfl (Q.ld Try.isAgg3 rfl (by first | exact Reads.pt 0 rfl rfl | exact Reads.pt 1 rfl rfl | exact Reads.pt 2 rfl rfl | exact Reads.pt 3 rfl rfl | exact Reads.pt 4 rfl rfl | exact Reads.pt 5 rfl rfl | exact Reads.pt 6 rfl rfl | exact Reads.pt 7 rfl rfl | exact Reads.pt 8 rfl rfl | exact Reads.pt 9 rfl rfl | exact Reads.pt 10 rfl rfl | exact Reads.pt 11 rfl rfl | exact Reads.pt 12 rfl rfl | exact Reads.pt 13 rfl rfl)) ?_
                        refine J.q rfl rfl (Q.geq rfl rfl) ?_
                        refine J.q rfl rfl (Q.pick_t rfl rfl) ?_
                        refine J.q rfl rfl (Q.mv rfl) ?_
                        refine J.cases 152 rfl (fun hb152 => ?_) (fun hb152 => ?_)
                        ·
                          first | replace hb152 := X.tt_dec hb152 | replace hb152 := X.tt_not hb152 | replace hb152 := X.ff_dec hb152 | replace hb152 := X.ff_not hb152 | skip
                          refine J.q rfl rfl (Q.fa (n := 5) Try.runUnderlying26 rfl rfl Try.sizeOf3 rfl) ?_
                          refine J.q rfl rfl (Q.ld Try.isAgg3 rfl (by first | exact Reads.pt 0 rfl rfl | exact Reads.pt 1 rfl rfl | exact Reads.pt 2 rfl rfl | exact Reads.pt 3 rfl rfl | exact Reads.pt 4 rfl rfl | exact Reads.pt 5 rfl rfl | exact Reads.pt 6 rfl rfl | exact Reads.pt 7 rfl rfl | exact Reads.pt 8 rfl rfl | exact Reads.pt 9 rfl rfl | exact Reads.pt 10 rfl rfl | exact Reads.pt 11 rfl rfl | exact Reads.pt 12 rfl rfl | exact Reads.pt 13 rfl rfl)) ?_
                          refine J.q rfl rfl (Q.leq rfl rfl) ?_
                          refine J.q rfl rfl (Q.pick_t rfl rfl) ?_
                          refine J.q rfl rfl (Q.mv rfl) ?_
                          refine J.cases 157 rfl (fun hb157 => ?_) (fun hb157 => ?_)
                          ·
                            first | replace hb157 := X.tt_dec hb157 | replace hb157 := X.tt_not hb157 | replace hb157 := X.ff_dec hb157 | replace hb157 := X.ff_not hb157 | skip
                            refine J.q rfl rfl (Q.mv rfl) ?_
                            refine J.q rfl rfl (Q.not rfl) ?_
                            refine J.q rfl rfl (Q.pick_t rfl rfl) ?_
                            refine J.q rfl rfl (Q.mv rfl) ?_
                            refine J.cases 161 rfl (fun hb161 => ?_) (fun hb161 => ?_)
                            ·
                              first | replace hb161 := X.tt_dec hb161 | replace hb161 := X.tt_not hb161 | replace hb161 := X.ff_dec hb161 | replace hb161 := X.ff_not hb161 | skip
                              refine J.q rfl rfl (Q.mv rfl) ?_
                              refine J.q rfl rfl (Q.not rfl) ?_
                              refine J.q rfl rfl (Q.pick_t rfl rfl) ?_
                              refine J.q rfl rfl (Q.mv rfl) ?_
                              refine J.cases 165 rfl (fun hb165 => ?_) (fun hb165 => ?_)
                              ·
                                first | replace hb165 := X.tt_dec hb165 | replace hb165 := X.tt_not hb165 | replace hb165 := X.ff_dec hb165 | replace hb165 := X.ff_not hb165 | skip
                                refine J.q rfl rfl (Q.mv rfl) ?_
                                refine J.q rfl rfl (Q.not rfl) ?_
                                refine J.q rfl rfl (Q.pick_t rfl rfl) ?_
                                refine J.q rfl rfl (Q.asg rfl) ?_
                                refine J.nil ?_
                                refine J.blk_n ?_
                                first
                                  | refine J.meet _ ?_ ⟨rfl, rfl, trivial⟩ rfl
                                  | (refine J.keep [1, 0, 2] rfl ?_
                                     refine J.meet _ ?_ ⟨rfl, rfl, trivial⟩ rfl)
                                simp_all [-List.length_eq_zero_iff, OM.chkR, emp, longB] <;> first | omega | (rw [Bool.eq_iff_iff]; simp [-List.length_eq_zero_iff] <;> omega)
                              ·
                                first | replace hb165 := X.tt_dec hb165 | replace hb165 := X.tt_not hb165 | replace hb165 := X.ff_dec hb165 | replace hb165 := X.ff_not hb165 | skip
                                refine J.skip rfl rfl ?_
                                refine J.skip rfl rfl ?_
                                refine J.q rfl rfl (Q.pick_f rfl rfl) ?_
                                refine J.q rfl rfl (Q.asg rfl) ?_
                                refine J.nil ?_
                                refine J.blk_n ?_
                                first
                                  | refine J.meet _ ?_ ⟨rfl, rfl, trivial⟩ rfl
                                  | (refine J.keep [1, 0, 2] rfl ?_
                                     refine J.meet _ ?_ ⟨rfl, rfl, trivial⟩ rfl)
                                simp_all [-List.length_eq_zero_iff, OM.chkR, emp, longB] <;> first | omega | (rw [Bool.eq_iff_iff]; simp [-List.length_eq_zero_iff] <;> omega)
                            ·
                              first | replace hb161 := X.tt_dec hb161 | replace hb161 := X.tt_not hb161 | replace hb161 := X.ff_dec hb161 | replace hb161 := X.ff_not hb161 | skip
                              refine J.skip rfl rfl ?_
                              refine J.skip rfl rfl ?_
                              refine J.q rfl rfl (Q.pick_f rfl rfl) ?_
                              refine J.q rfl rfl (Q.mv rfl) ?_
                              refine J.skip rfl rfl ?_
                              refine J.skip rfl rfl ?_
                              refine J.q rfl rfl (Q.pick_f rfl rfl) ?_
                              refine J.q rfl rfl (Q.asg rfl) ?_
                              refine J.nil ?_
                              refine J.blk_n ?_
                              first
                                | refine J.meet _ ?_ ⟨rfl, rfl, trivial⟩ rfl
                                | (refine J.keep [1, 0, 2] rfl ?_
                                   refine J.meet _ ?_ ⟨rfl, rfl, trivial⟩ rfl)
                              simp_all [-List.length_eq_zero_iff, OM.chkR, emp, longB] <;> first | omega | (rw [Bool.eq_iff_iff]; simp [-List.length_eq_zero_iff] <;> omega)
                          ·
                            first | replace hb157 := X.tt_dec hb157 | replace hb157 := X.tt_not hb157 | replace hb157 := X.ff_dec hb157 | replace hb157 := X.ff_not hb157 | skip
                            refine J.skip rfl rfl ?_
                            refine J.skip rfl rfl ?_
                            refine J.q rfl rfl (Q.pick_f rfl rfl) ?_
                            refine J.q rfl rfl (Q.mv rfl) ?_
                            refine J.skip rfl rfl ?_
                            refine J.skip rfl rfl ?_
                            refine J.q rfl rfl (Q.pick_f rfl rfl) ?_
                            refine J.q rfl rfl (Q.mv rfl) ?_
                            refine J.skip rfl rfl ?_
                            refine J.skip rfl rfl ?_
                            refine J.q rfl rfl (Q.pick_f rfl rfl) ?_
                            refine J.q rfl rfl (Q.asg rfl) ?_
                            refine J.nil ?_
                            refine J.blk_n ?_
                            first
                              | refine J.meet _ ?_ ⟨rfl, rfl, trivial⟩ rfl
                              | (refine J.keep [1, 0, 2] rfl ?_
                                 refine J.meet _ ?_ ⟨rfl, rfl, trivial⟩ rfl)
                            simp_all [-List.length_eq_zero_iff, OM.chkR, emp, longB] <;> first | omega | (rw [Bool.eq_iff_iff]; simp [-List.length_eq_zero_iff] <;> omega)
                        ·
                          first | replace hb152 := X.tt_dec hb152 | replace hb152 := X.tt_not hb152 | replace hb152 := X.ff_dec hb152 | replace hb152 := X.ff_not hb152 | skip
                          refine J.skip rfl rfl ?_
                          refine J.skip rfl rfl ?_
                          refine J.skip rfl rfl ?_
                          refine J.q rfl rfl (Q.pick_f rfl rfl) ?_
                          refine J.q rfl rfl (Q.mv rfl) ?_
                          refine J.skip rfl rfl ?_
                          refine J.skip rfl rfl ?_
                          refine J.q rfl rfl (Q.pick_f rfl rfl) ?_
                          refine J.q rfl rfl (Q.mv rfl) ?_
                          refine J.skip rfl rfl ?_
                          refine J.skip rfl rfl ?_
                          refine J.q rfl rfl (Q.pick_f rfl rfl) ?_
                          refine J.q rfl rfl (Q.mv rfl) ?_
                          refine J.skip rfl rfl ?_
                          refine J.skip rfl rfl ?_
                          refine J.q rfl rfl (Q.pick_f rfl rfl) ?_
                          refine J.q rfl rfl (Q.asg rfl) ?_
                          refine J.nil ?_
                          refine J.blk_n ?_
                          first
                            | refine J.meet _ ?_ ⟨rfl, rfl, trivial⟩ rfl
                            | (refine J.keep [1, 0, 2] rfl ?_
                               refine J.meet _ ?_ ⟨rfl, rfl, trivial⟩ rfl)
                          simp_all [-List.length_eq_zero_iff, OM.chkR, emp, longB] <;> first | omega | (rw [Bool.eq_iff_iff]; simp [-List.length_eq_zero_iff] <;> omega)
                      ·
                        first | replace hb147 := X.tt_dec hb147 | replace hb147 := X.tt_not hb147 | replace hb147 := X.ff_dec hb147 | replace hb147 := X.ff_not hb147 | skip
                        refine J.skip rfl rfl ?_
                        refine J.skip rfl rfl ?_
                        refine J.skip rfl rfl ?_
                        refine J.q rfl rfl (Q.pick_f rfl rfl) ?_
                        refine J.q rfl rfl (Q.mv rfl) ?_
                        refine J.skip rfl rfl ?_
                        refine J.skip rfl rfl ?_
                        refine J.skip rfl rfl ?_
                        refine J.q rfl rfl (Q.pick_f rfl rfl) ?_
                        refine J.q rfl rfl (Q.mv rfl) ?_
                        refine J.skip rfl rfl ?_
                        refine J.skip rfl rfl ?_
                        refine J.q rfl rfl (Q.pick_f rfl rfl) ?_
                        refine J.q rfl rfl (Q.mv rfl) ?_
                        refine J.skip rfl rfl ?_
                        refine J.skip rfl rfl ?_
                        refine J.q rfl rfl (Q.pick_f rfl rfl) ?_
                        refine J.q rfl rfl (Q.mv rfl) ?_
                        refine J.skip rfl rfl ?_
                        refine J.skip rfl rfl ?_
                        refine J.q rfl rfl (Q.pick_f rfl rfl) ?_
                        refine J.q rfl rfl (Q.asg rfl) ?_
                        refine J.nil ?_
                        refine J.blk_n ?_
                        first
                          | refine J.meet _ ?_ ⟨rfl, rfl, trivial⟩ rfl
                          | (refine J.keep [1, 0, 2] rfl ?_
                             refine J.meet _ ?_ ⟨rfl, rfl, trivial⟩ rfl)
                        simp_all [-List.length_eq_zero_iff, OM.chkR, emp, longB] <;> first | omega | (rw [Bool.eq_iff_iff]; simp [-List.length_eq_zero_iff] <;> omega)
                    ·
                      first | replace hb141 := X.tt_dec hb141 | replace hb141 := X.tt_not hb141 | replace hb141 := X.ff_dec hb141 | replace hb141 := X.ff_not hb141 | skip
                      refine J.skip rfl rfl ?_
                      refine J.skip rfl rfl ?_
                      refine J.skip rfl rfl ?_
                      refine J.skip rfl rfl ?_
                      refine J.q rfl rfl (Q.pick_f rfl rfl) ?_
                      refine J.q rfl rfl (Q.mv rfl) ?_
                      refine J.skip rfl rfl ?_
                      refine J.skip rfl rfl ?_
                      refine J.skip rfl rfl ?_
                      refine J.q rfl rfl (Q.pick_f rfl rfl) ?_
                      refine J.q rfl rfl (Q.mv rfl) ?_
                      refine J.skip rfl rfl ?_
                      refine J.skip rfl rfl ?_
                      refine J.skip rfl rfl ?_
                      refine J.q rfl rfl (Q.pick_f rfl rfl) ?_
                      refine J.q rfl rfl (Q.mv rfl) ?_
                      refine J.skip rfl rfl ?_
                      refine J.skip rfl rfl ?_
                      refine J.q rfl rfl (Q.pick_f rfl rfl) ?_
                      refine J.q rfl rfl (Q.mv rfl) ?_
                      refine J.skip rfl rfl ?_
                      refine J.skip rfl rfl ?_
                      refine J.q rfl rfl (Q.pick_f rfl rfl) ?_
                      refine J.q rfl rfl (Q.mv rfl) ?_
                      refine J.skip rfl rfl ?_
                      refine J.skip rfl rfl ?_
                      refine J.q rfl rfl (Q.pick_f rfl rfl) ?_
                      refine J.q rfl rfl (Q.asg rfl) ?_
                      refine J.nil ?_
                      refine J.blk_n ?_
                      first
                        | refine J.meet _ ?_ ⟨rfl, rfl, trivial⟩ rfl
                        | (refine J.keep [1, 0, 2] rfl ?_
                           refine J.meet _ ?_ ⟨rfl, rfl, trivial⟩ rfl)
                      simp_all [-List.length_eq_zero_iff, OM.chkR, emp, longB] <;> first | omega | (rw [Bool.eq_iff_iff]; simp [-List.length_eq_zero_iff] <;> omega)
                  ·
                    first | replace hb135 := X.tt_dec hb135 | replace hb135 := X.tt_not hb135 | replace hb135 := X.ff_dec hb135 | replace hb135 := X.ff_not hb135 | skip
                    refine J.skip rfl rfl ?_
                    refine J.skip rfl rfl ?_
                    refine J.skip rfl rfl ?_
                    refine J.skip rfl rfl ?_
                    refine J.q rfl rfl (Q.pick_f rfl rfl) ?_
                    refine J.q rfl rfl (Q.mv rfl) ?_
                    refine J.skip rfl rfl ?_
                    refine J.skip rfl rfl ?_
                    refine J.skip rfl rfl ?_
                    refine J.skip rfl rfl ?_
                    refine J.q rfl rfl (Q.pick_f rfl rfl) ?_
                    refine J.q rfl rfl (Q.mv rfl) ?_
                    refine J.skip rfl rfl ?_
                    refine J.skip rfl rfl ?_
                    refine J.skip rfl rfl ?_
                    refine J.q rfl rfl (Q.pick_f rfl rfl) ?_
                    refine J.q rfl rfl (Q.mv rfl) ?_
                    refine J.skip rfl rfl ?_
                    refine J.skip rfl rfl ?_
                    refine J.skip rfl rfl ?_
                    refine J.q rfl rfl (Q.pick_f rfl rfl) ?_
                    refine J.q rfl rfl (Q.mv rfl) ?_
                    refine J.skip rfl rfl ?_
                    refine J.skip rfl rfl ?_
                    refine J.q rfl rfl (Q.pick_f rfl rfl) ?_
                    refine J.q rfl rfl (Q.mv rfl) ?_
                    refine J.skip rfl rfl ?_
                    refine J.skip rfl rfl ?_
                    refine J.q rfl rfl (Q.pick_f rfl rfl) ?_
                    refine J.q rfl rfl (Q.mv rfl) ?_
                    refine J.skip rfl rfl ?_
                    refine J.skip rfl rfl ?_
                    refine J.q rfl rfl (Q.pick_f rfl rfl) ?_
                    refine J.q rfl rfl (Q.asg rfl) ?_
                    refine J.nil ?_
                    refine J.blk_n ?_
                    first
                      | refine J.meet _ ?_ ⟨rfl, rfl, trivial⟩ rfl
                      | (refine J.keep [1, 0, 2] rfl ?_
                         refine J.meet _ ?_ ⟨rfl, rfl, trivial⟩ rfl)
                    simp_all [-List.length_eq_zero_iff, OM.chkR, emp, longB] <;> first | omega | (rw [Bool.eq_iff_iff]; simp [-List.length_eq_zero_iff] <;> omega)
                ·
                  first | replace hc130 := X.tt_dec hc130 | replace hc130 := X.tt_not hc130 | replace hc130 := X.ff_dec hc130 | replace hc130 := X.ff_not hc130 | skip
                  refine J.cond_f rfl ?_
                  refine J.seq ?_
                  refine J.region ?_
                  refine J.q rfl rfl (Q.eql rfl rfl) ?_
                  refine J.q rfl rfl (Q.asg rfl) ?_
                  refine J.nil ?_
                  refine J.then_n ?_
                  refine J.cases 169 rfl (fun hc169 => ?_) (fun hc169 => ?_)
                  ·
                    first | replace hc169 := X.tt_dec hc169 | replace hc169 := X.tt_not hc169 | replace hc169 := X.ff_dec hc169 | replace hc169 := X.ff_not hc169 | skip
                    refine J.cond_t rfl ?_
                    refine J.region ?_
                    refine J.q rfl rfl (Q.mv rfl) ?_
                    refine J.q rfl rfl (Q.not rfl) ?_
                    refine J.q rfl rfl (Q.mv rfl) ?_
                    refine J.cases 173 rfl (fun hb173 => ?_) (fun hb173 => ?_)
                    ·
                      first | replace hb173 := X.tt_dec hb173 | replace hb173 := X.tt_not hb173 | replace hb173 := X.ff_dec hb173 | replace hb173 := X.ff_not hb173 | skip
                      refine J.q rfl rfl (Q.mv rfl) ?_
                      refine J.q rfl rfl (Q.not rfl) ?_
                      refine J.q rfl rfl (Q.pick_t rfl rfl) ?_
                      refine J.q rfl rfl (Q.mv rfl) ?_
                      refine J.cases 177 rfl (fun hb177 => ?_) (fun hb177 => ?_)
                      ·
                        first | replace hb177 := X.tt_dec hb177 | replace hb177 := X.tt_not hb177 | replace hb177 := X.ff_dec hb177 | replace hb177 := X.ff_not hb177 | skip
                        refine J.q rfl rfl (Q.mv rfl) ?_
                        refine J.q rfl rfl (Q.not rfl) ?_
                        refine J.q rfl rfl (Q.pick_t rfl rfl) ?_
                        refine J.q rfl rfl (Q.mv rfl) ?_
                        refine J.cases 181 rfl (fun hb181 => ?_) (fun hb181 => ?_)
                        ·
                          first | replace hb181 := X.tt_dec hb181 | replace hb181 := X.tt_not hb181 | replace hb181 := X.ff_dec hb181 | replace hb181 := X.ff_not hb181 | skip
                          refine J.q rfl rfl (Q.fa (n := 5) Try.runUnderlying26 rfl rfl Try.sizeOf3 rfl) ?_
                          refine J.q rfl rfl (Q.ld Try.isAgg3 rfl (by first | exact Reads.pt 0 rfl rfl | exact Reads.pt 1 rfl rfl | exact Reads.pt 2 rfl rfl | exact Reads.pt 3 rfl rfl | exact Reads.pt 4 rfl rfl | exact Reads.pt 5 rfl rfl | exact Reads.pt 6 rfl rfl | exact Reads.pt 7 rfl rfl | exact Reads.pt 8 rfl rfl | exact Reads.pt 9 rfl rfl | exact Reads.pt 10 rfl rfl | exact Reads.pt 11 rfl rfl | exact Reads.pt 12 rfl rfl | exact Reads.pt 13 rfl rfl)) ?_
                          refine J.q rfl rfl (Q.geq rfl rfl) ?_
                          refine J.q rfl rfl (Q.pick_t rfl rfl) ?_
                          refine J.q rfl rfl (Q.mv rfl) ?_
                          refine J.cases 186 rfl (fun hb186 => ?_) (fun hb186 => ?_)
                          ·
                            first | replace hb186 := X.tt_dec hb186 | replace hb186 := X.tt_not hb186 | replace hb186 := X.ff_dec hb186 | replace hb186 := X.ff_not hb186 | skip
                            refine J.q rfl rfl (Q.fa (n := 5) Try.runUnderlying26 rfl rfl Try.sizeOf3 rfl) ?_
                            refine J.q rfl rfl (Q.ld Try.isAgg3 rfl (by first | exact Reads.pt 0 rfl rfl | exact Reads.pt 1 rfl rfl | exact Reads.pt 2 rfl rfl | exact Reads.pt 3 rfl rfl | exact Reads.pt 4 rfl rfl | exact Reads.pt 5 rfl rfl | exact Reads.pt 6 rfl rfl | exact Reads.pt 7 rfl rfl | exact Reads.pt 8 rfl rfl | exact Reads.pt 9 rfl rfl | exact Reads.pt 10 rfl rfl | exact Reads.pt 11 rfl rfl | exact Reads.pt 12 rfl rfl | exact Reads.pt 13 rfl rfl)) ?_
                            refine J.q rfl rfl (Q.leq rfl rfl) ?_
                            refine J.q rfl rfl (Q.pick_t rfl rfl) ?_
                            refine J.q rfl rfl (Q.mv rfl) ?_
                            refine J.cases 191 rfl (fun hb191 => ?_) (fun hb191 => ?_)
                            ·
                              first | replace hb191 := X.tt_dec hb191 | replace hb191 := X.tt_not hb191 | replace hb191 := X.ff_dec hb191 | replace hb191 := X.ff_not hb191 | skip
                              refine J.q rfl rfl (Q.mv rfl) ?_
                              refine J.q rfl rfl (Q.not rfl) ?_
                              refine J.q rfl rfl (Q.pick_t rfl rfl) ?_
                              refine J.q rfl rfl (Q.mv rfl) ?_
                              refine J.cases 195 rfl (fun hb195 => ?_) (fun hb195 => ?_)
                              ·
                                first | replace hb195 := X.tt_dec hb195 | replace hb195 := X.tt_not hb195 | replace hb195 := X.ff_dec hb195 | replace hb195 := X.ff_not hb195 | skip
                                refine J.q rfl rfl (Q.fa (n := 8) Try.runUnderlying26 rfl rfl Try.sizeOf24 rfl) ?_
                                refine J.q rfl rfl (Q.ld Try.isAgg24 rfl (by first | exact Reads.pt 0 rfl rfl | exact Reads.pt 1 rfl rfl | exact Reads.pt 2 rfl rfl | exact Reads.pt 3 rfl rfl | exact Reads.pt 4 rfl rfl | exact Reads.pt 5 rfl rfl | exact Reads.pt 6 rfl rfl | exact Reads.pt 7 rfl rfl | exact Reads.pt 8 rfl rfl | exact Reads.pt 9 rfl rfl | exact Reads.pt 10 rfl rfl | exact Reads.pt 11 rfl rfl | exact Reads.pt 12 rfl rfl | exact Reads.pt 13 rfl rfl)) ?_
                                refine J.q rfl rfl (Q.lenSl Try.runUnderlying24 rfl) ?_
                                refine J.q rfl rfl (Q.leq rfl rfl) ?_
                                refine J.q rfl rfl (Q.pick_t rfl rfl) ?_
                                refine J.q rfl rfl (Q.asg rfl) ?_
                                refine J.nil ?_
                                refine J.blk_n ?_
                                first
                                  | refine J.meet _ ?_ ⟨rfl, rfl, trivial⟩ rfl
                                  | (refine J.keep [1, 0, 2] rfl ?_
                                     refine J.meet _ ?_ ⟨rfl, rfl, trivial⟩ rfl)
                                simp_all [-List.length_eq_zero_iff, OM.chkR, emp, longB] <;> first | omega | (rw [Bool.eq_iff_iff]; simp [-List.length_eq_zero_iff] <;> omega)
                              ·
                                first | replace hb195 := X.tt_dec hb195 | replace hb195 := X.tt_not hb195 | replace hb195 := X.ff_dec hb195 | replace hb195 := X.ff_not hb195 | skip
                                refine J.skip rfl rfl ?_
                                refine J.skip rfl rfl ?_
                                refine J.skip rfl rfl ?_
                                refine J.skip rfl rfl ?_
                                refine J.q rfl rfl (Q.pick_f rfl rfl) ?_
                                refine J.q rfl rfl (Q.asg rfl) ?_
                                refine J.nil ?_
                                refine J.blk_n ?_
                                first
                                  | refine J.meet _ ?_ ⟨rfl, rfl, trivial⟩ rfl
                                  | (refine J.keep [1, 0, 2] rfl ?_
                                     refine J.meet _ ?_ ⟨rfl, rfl, trivial⟩ rfl)
                                simp_all [-List.length_eq_zero_iff, OM.chkR, emp, longB] <;> first | omega | (rw [Bool.eq_iff_iff]; simp [-List.length_eq_zero_iff] <;> omega)
                            ·
                              first | replace hb191 := X.tt_dec hb191 | replace hb191 := X.tt_not hb191 | replace hb191 := X.ff_dec hb191 | replace hb191 := X.ff_not hb191 | skip
                              refine J.skip rfl rfl ?_
                              refine J.skip rfl rfl ?_
                              refine J.q rfl rfl (Q.pick_f rfl rfl) ?_
                              refine J.q rfl rfl (Q.mv rfl) ?_
                              refine J.skip rfl rfl ?_
                              refine J.skip rfl rfl ?_
                              refine J.skip rfl rfl ?_
                              refine J.skip rfl rfl ?_
                              refine J.q rfl rfl (Q.pick_f rfl rfl) ?_
                              refine J.q rfl rfl (Q.asg rfl) ?_
                              refine J.nil ?_
                              refine J.blk_n ?_
                              first
                                | refine J.meet _ ?_ ⟨rfl, rfl, trivial⟩ rfl
                                | (refine J.keep [1, 0, 2] rfl ?_
                                   refine J.meet _ ?_ ⟨rfl, rfl, trivial⟩ rfl)
                              simp_all [-List.length_eq_zero_iff, OM.chkR, emp, longB] <;> first | omega | (rw [Bool.eq_iff_iff]; simp [-List.length_eq_zero_iff] <;> omega)
                          ·
                            first | replace hb186 := X.tt_dec hb186 | replace hb186 := X.tt_not hb186 | replace hb186 := X.ff_dec hb186 | replace hb186 := X.ff_not hb186 | skip
                            refine J.skip rfl rfl ?_
                            refine J.skip rfl rfl ?_
                            refine J.skip rfl rfl ?_
                            refine J.q rfl rfl (Q.pick_f rfl rfl) ?_
                            refine J.q rfl rfl (Q.mv rfl) ?_
                            refine J.skip rfl rfl ?_
                            refine J.skip rfl rfl ?_
                            refine J.q rfl rfl (Q.pick_f rfl rfl) ?_
                            refine J.q rfl rfl (Q.mv rfl) ?_
                            refine J.skip rfl rfl ?_
                            refine J.skip rfl rfl ?_
                            refine J.skip rfl rfl ?_
                            refine J.skip rfl rfl ?_
                            refine J.q rfl rfl (Q.pick_f rfl rfl) ?_
                            refine J.q rfl rfl (Q.asg rfl) ?_
                            refine J.nil ?_
                            refine J.blk_n ?_
                            first
                              | refine J.meet _ ?_ ⟨rfl, rfl, trivial⟩ rfl
                              | (refine J.keep [1, 0, 2] rfl ?_
                                 refine J.meet _ ?_ ⟨rfl, rfl, trivial⟩ rfl)
                            simp_all [-List.length_eq_zero_iff, OM.chkR, emp, longB] <;> first | omega | (rw [Bool.eq_iff_iff]; simp [-List.length_eq_zero_iff] <;> omega)
                        ·
                          first | replace hb181 := X.tt_dec hb181 | replace hb181 := X.tt_not hb181 | replace hb181 := X.ff_dec hb181 | replace hb181 := X.ff_not hb181 | skip
                          refine J.skip rfl rfl ?_
                          refine J.skip rfl rfl ?_
                          refine J.skip rfl rfl ?_
                          refine J.q rfl rfl (Q.pick_f rfl rfl) ?_
                          refine J.q rfl rfl (Q.mv rfl) ?_
                          refine J.skip rfl rfl ?_
                          refine J.skip rfl rfl ?_
                          refine J.skip rfl rfl ?_
                          refine J.q rfl rfl (Q.pick_f rfl rfl) ?_
                          refine J.q rfl rfl (Q.mv rfl) ?_
                          refine J.skip rfl rfl ?_
                          refine J.skip rfl rfl ?_
                          refine J.q rfl rfl (Q.pick_f rfl rfl) ?_
                          refine J.q rfl rfl (Q.mv rfl) ?_
                          refine J.skip rfl rfl ?_
                          refine J.skip rfl rfl ?_
                          refine J.skip rfl rfl ?_
                          refine J.skip rfl rfl ?_
                          refine J.q rfl rfl (Q.pick_f rfl rfl) ?_
                          refine J.q rfl rfl (Q.asg rfl) ?_
                          refine J.nil ?_
                          refine J.blk_n ?_
                          first
                            | refine J.meet _ ?_ ⟨rfl, rfl, trivial⟩ rfl
                            | (refine J.keep [1, 0, 2] rfl ?_
                               refine J.meet _ ?_ ⟨rfl, rfl, trivial⟩ rfl)
                          simp_all [-List.length_eq_zero_iff, OM.chkR, emp, longB] <;> first | omega | (rw [Bool.eq_iff_iff]; simp [-List.length_eq_zero_iff] <;> omega)
                      ·
                        first | replace hb177 := X.tt_dec hb177 | replace hb177 := X.tt_not hb177 | replace hb177 := X.ff_dec hb177 | replace hb177 := X.ff_not hb177 | skip
                        refine J.skip rfl rfl ?_
                        refine J.skip rfl rfl ?_
                        refine J.q rfl rfl (Q.pick_f rfl rfl) ?_
                        refine J.q rfl rfl (Q.mv rfl) ?_
                        refine J.skip rfl rfl ?_
                        refine J.skip rfl rfl ?_
                        refine J.skip rfl rfl ?_
                        refine J.q rfl rfl (Q.pick_f rfl rfl) ?_
                        refine J.q rfl rfl (Q.mv rfl) ?_
                        refine J.skip rfl rfl ?_
                        refine J.skip rfl rfl ?_
                        refine J.skip rfl rfl ?_
                        refine J.q rfl rfl (Q.pick_f rfl rfl) ?_
                        refine J.q rfl rfl (Q.mv rfl) ?_
                        refine J.skip rfl rfl ?_
                        refine J.skip rfl rfl ?_
                        refine J.q rfl rfl (Q.pick_f rfl rfl) ?_
                        refine J.q rfl rfl (Q.mv rfl) ?_
                        refine J.skip rfl rfl ?_
                        refine J.skip rfl rfl ?_
                        refine J.skip rfl rfl ?_
                        refine J.skip rfl rfl ?_
                        refine J.q rfl rfl (Q.pick_f rfl rfl) ?_
                        refine J.q rfl rfl (Q.asg rfl) ?_
                        refine J.nil ?_
                        refine J.blk_n ?_
                        first
                          | refine J.meet _ ?_ ⟨rfl, rfl, trivial⟩ rfl
                          | (refine J.keep [1, 0, 2] rfl ?_
                             refine J.meet _ ?_ ⟨rfl, rfl, trivial⟩ rfl)
                        simp_all [-List.length_eq_zero_iff, OM.chkR, emp, longB] <;> first | omega | (rw [Bool.eq_iff_iff]; simp [-List.length_eq_zero_iff] <;> omega)
                    ·
                      first | replace hb173 := X.tt_dec hb173 | replace hb173 := X.tt_not hb173 | replace hb173 := X.ff_dec hb173 | replace hb173 := X.ff_not hb173 | skip
                      refine J.skip rfl rfl ?_
                      refine J.skip rfl rfl ?_
                      refine J.q rfl rfl (Q.pick_f rfl rfl) ?_
                      refine J.q rfl rfl (Q.mv rfl) ?_
                      refine J.skip rfl rfl ?_
                      refine J.skip rfl rfl ?_
                      refine J.q rfl rfl (Q.pick_f rfl rfl) ?_
                      refine J.q rfl rfl (Q.mv rfl) ?_
                      refine J.skip rfl rfl ?_
                      refine J.skip rfl rfl ?_
                      refine J.skip rfl rfl ?_
                      refine J.q rfl rfl (Q.pick_f rfl rfl) ?_
                      refine J.q rfl rfl (Q.mv rfl) ?_
                      refine J.skip rfl rfl ?_
                      refine J.skip rfl rfl ?_
                      refine J.skip rfl rfl ?_
                      refine J.q rfl rfl (Q.pick_f rfl rfl) ?_
                      refine J.q rfl rfl (Q.mv rfl) ?_
                      refine J.skip rfl rfl ?_
                      refine J.skip rfl rfl ?_
                      refine J.q rfl rfl (Q.pick_f rfl rfl) ?_
                      refine J.q rfl rfl (Q.mv rfl) ?_
                      refine J.skip rfl rfl ?_
                      refine J.skip rfl rfl ?_
                      refine J.skip rfl rfl ?_
                      refine J.skip rfl rfl ?_
                      refine J.q rfl rfl (Q.pick_f rfl rfl) ?_
                      refine J.q rfl rfl (Q.asg rfl) ?_
                      refine J.nil ?_
                      refine J.blk_n ?_
                      first
                        | refine J.meet _ ?_ ⟨rfl, rfl, trivial⟩ rfl
                        | (refine J.keep [1, 0, 2] rfl ?_
                           refine J.meet _ ?_ ⟨rfl, rfl, trivial⟩ rfl)
                      simp_all [-List.length_eq_zero_iff, OM.chkR, emp, longB] <;> first | omega | (rw [Bool.eq_iff_iff]; simp [-List.length_eq_zero_iff] <;> omega)
                  ·
                    first | replace hc169 := X.tt_dec hc169 | replace hc169 := X.tt_not hc169 | replace hc169 := X.ff_dec hc169 | replace hc169 := X.ff_not hc169 | skip
                    refine J.cond_f rfl ?_
                    refine J.seq ?_
                    refine J.region ?_
                    refine J.q rfl rfl (Q.eql rfl rfl) ?_
                    refine J.q rfl rfl (Q.asg rfl) ?_
                    refine J.nil ?_
                    refine J.then_n ?_
                    refine J.cases 201 rfl (fun hc201 => ?_) (fun hc201 => ?_)
                    ·
                      first | replace hc201 := X.tt_dec hc201 | replace hc201 := X.tt_not hc201 | replace hc201 := X.ff_dec hc201 | replace hc201 := X.ff_not hc201 | skip
                      refine J.cond_t rfl ?_
                      refine J.region ?_
                      refine J.q rfl rfl (Q.mv rfl) ?_
                      refine J.q rfl rfl (Q.not rfl) ?_
                      refine J.q rfl rfl (Q.mv rfl) ?_
                      refine J.cases 205 rfl (fun hb205 => ?_) (fun hb205 => ?_)
                      ·
                        first | replace hb205 := X.tt_dec hb205 | replace hb205 := X.tt_not hb205 | replace hb205 := X.ff_dec hb205 | replace hb205 := X.ff_not hb205 | skip
                        refine J.q rfl rfl (Q.mv rfl) ?_
                        refine J.q rfl rfl (Q.not rfl) ?_
                        refine J.q rfl rfl (Q.pick_t rfl rfl) ?_
                        refine J.q rfl rfl (Q.mv rfl) ?_
                        refine J.cases 209 rfl (fun hb209 => ?_) (fun hb209 => ?_)
                        ·
                          first | replace hb209 := X.tt_dec hb209 | replace hb209 := X.tt_not hb209 | replace hb209 := X.ff_dec hb209 | replace hb209 := X.ff_not hb209 | skip
                          refine J.q rfl rfl (Q.mv rfl) ?_
                          refine J.q rfl rfl (Q.not rfl) ?_
                          refine J.q rfl rfl (Q.pick_t rfl rfl) ?_
                          refine J.q rfl rfl (Q.mv rfl) ?_
                          refine J.cases 213 rfl (fun hb213 => ?_) (fun hb213 => ?_)
                          ·
                            first | replace hb213 := X.tt_dec hb213 | replace hb213 := X.tt_not hb213 | replace hb213 := X.ff_dec hb213 | replace hb213 := X.ff_not hb213 | skip
                            refine J.q rfl rfl (Q.mv rfl) ?_
                            refine J.q rfl rfl (Q.not rfl) ?_
                            refine J.q rfl rfl (Q.pick_t rfl rfl) ?_
                            refine J.q rfl rfl (Q.mv rfl) ?_
                            refine J.cases 217 rfl (fun hb217 => ?_) (fun hb217 => ?_)
                            ·
                              first | replace hb217 := X.tt_dec hb217 | replace hb217 := X.tt_not hb217 | replace hb217 := X.ff_dec hb217 | replace hb217 := X.ff_not hb217 | skip
                              refine J.q rfl rfl (Q.fa (n := 7) Try.runUnderlying26 rfl rfl Try.sizeOf23 rfl) ?_
                              refine J.q rfl rfl (Q.ld Try.isAgg23 rfl (by first | exact Reads.pt 0 rfl rfl | exact Reads.pt 1 rfl rfl | exact Reads.pt 2 rfl rfl | exact Reads.pt 3 rfl rfl | exact Reads.pt 4 rfl rfl | exact Reads.pt 5 rfl rfl | exact Reads.pt 6 rfl rfl | exact Reads.pt 7 rfl rfl | exact Reads.pt 8 rfl rfl | exact Reads.pt 9 rfl rfl | exact Reads.pt 10 rfl rfl | exact Reads.pt 11 rfl rfl | exact Reads.pt 12 rfl rfl | exact Reads.pt 13 rfl rfl)) ?_
                              refine J.call Try.call23 (parts_spec G x.pp x.o.parts.length x.pc x.o.parts hx.parts (by omega)) [1] rfl rfl rfl rfl ?_
                              rintro _ _ ⟨rfl, rfl⟩
                              refine J.norm rfl ?_
                              refine J.q rfl rfl (Q.pick_t rfl rfl) ?_
                              refine J.q rfl rfl (Q.mv rfl) ?_
                              refine J.cases 222 rfl (fun hb222 => ?_) (fun hb222 => ?_)
                              ·
                                first | replace hb222 := X.tt_dec hb222 | replace hb222 := X.tt_not hb222 | replace hb222 := X.ff_dec hb222 | replace hb222 := X.ff_not hb222 | skip
                                refine J.q rfl rfl (Q.mv rfl) ?_
                                refine J.q rfl rfl (Q.not rfl) ?_
                                refine J.q rfl rfl (Q.pick_t rfl rfl) ?_
                                refine J.q rfl rfl (Q.asg rfl) ?_
                                refine J.nil ?_
                                refine J.blk_n ?_
                                first
                                  | refine J.meet _ ?_ ⟨rfl, rfl, trivial⟩ rfl
                                  | (refine J.keep [1, 0, 2] rfl ?_
                                     refine J.meet _ ?_ ⟨rfl, rfl, trivial⟩ rfl)
                                simp_all [-List.length_eq_zero_iff, OM.chkR, emp, longB] <;> first | omega | (rw [Bool.eq_iff_iff]; simp [-List.length_eq_zero_iff] <;> omega)
                              ·
                                first | replace hb222 := X.tt_dec hb222 | replace hb222 := X.tt_not hb222 | replace hb222 := X.ff_dec hb222 | replace hb222 := X.ff_not hb222 | skip
                                refine J.skip rfl rfl ?_
                                refine J.skip rfl rfl ?_
                                refine J.q rfl rfl (Q.pick_f rfl rfl) ?_
                                refine J.q rfl rfl (Q.asg rfl) ?_
                                refine J.nil ?_
                                refine J.blk_n ?_
                                first
                                  | refine J.meet _ ?_ ⟨rfl, rfl, trivial⟩ rfl
                                  | (refine J.keep [1, 0, 2] rfl ?_
                                     refine J.meet _ ?_ ⟨rfl, rfl, trivial⟩ rfl)
                                simp_all [-List.length_eq_zero_iff, OM.chkR, emp, longB] <;> first | omega | (rw [Bool.eq_iff_iff]; simp [-List.length_eq_zero_iff] <;> omega)
                            ·
                              first | replace hb217 := X.tt_dec hb217 | replace hb217 := X.tt_not hb217 | replace hb217 := X.ff_dec hb217 | replace hb217 := X.ff_not hb217 | skip
                              refine J.skip rfl rfl ?_
                              refine J.skip rfl rfl ?_
                              refine J.skip rfl rfl ?_
                              refine J.q rfl rfl (Q.pick_f rfl rfl) ?_
                              refine J.q rfl rfl (Q.mv rfl) ?_
                              refine J.skip rfl rfl ?_
                              refine J.skip rfl rfl ?_
                              refine J.q rfl rfl (Q.pick_f rfl rfl) ?_
                              refine J.q rfl rfl (Q.asg rfl) ?_
                              refine J.nil ?_
                              refine J.blk_n ?_
                              first
                                | refine J.meet _ ?_ ⟨rfl, rfl, trivial⟩ rfl
                                | (refine J.keep [1, 0, 2] rfl ?_
                                   refine J.meet _ ?_ ⟨rfl, rfl, trivial⟩ rfl)
                              simp_all [-List.length_eq_zero_iff, OM.chkR, emp, longB] <;> first | omega | (rw [Bool.eq_iff_iff]; simp [-List.length_eq_zero_iff] <;> omega)
                          ·
                            first | replace hb213 := X.tt_dec hb213 | replace hb213 := X.tt_not hb213 | replace hb213 := X.ff_dec hb213 | replace hb213 := X.ff_not hb213 | skip
                            refine J.skip rfl rfl ?_
                            refine J.skip rfl rfl ?_
                            refine J.q rfl rfl (Q.pick_f rfl rfl) ?_
                            refine J.q rfl rfl (Q.mv rfl) ?_
                            refine J.skip rfl rfl ?_
                            refine J.skip rfl rfl ?_
                            refine J.skip rfl rfl ?_
                            refine J.q rfl rfl (Q.pick_f rfl rfl) ?_
                            refine J.q rfl rfl (Q.mv rfl) ?_
                            refine J.skip rfl rfl ?_
                            refine J.skip rfl rfl ?_
                            refine J.q rfl rfl (Q.pick_f rfl rfl) ?_
                            refine J.q rfl rfl (Q.asg rfl) ?_
                            refine J.nil ?_
                            refine J.blk_n ?_
                            first
                              | refine J.meet _ ?_ ⟨rfl, rfl, trivial⟩ rfl
                              | (refine J.keep [1, 0, 2] rfl ?_
                                 refine J.meet _ ?_ ⟨rfl, rfl, trivial⟩ rfl)
                            simp_all [-List.length_eq_zero_iff, OM.chkR, emp, longB] <;> first | omega | (rw [Bool.eq_iff_iff]; simp [-List.length_eq_zero_iff] <;> omega)
                        ·
                          first | replace hb209 := X.tt_dec hb209 | replace hb209 := X.tt_not hb209 | replace hb209 := X.ff_dec hb209 | replace hb209 := X.ff_not hb209 | skip
                          refine J.skip rfl rfl ?_
                          refine J.skip rfl rfl ?_
                          refine J.q rfl rfl (Q.pick_f rfl rfl) ?_
                          refine J.q rfl rfl (Q.mv rfl) ?_
                          refine J.skip rfl rfl ?_
                          refine J.skip rfl rfl ?_
                          refine J.q rfl rfl (Q.pick_f rfl rfl) ?_
                          refine J.q rfl rfl (Q.mv rfl) ?_
                          refine J.skip rfl rfl ?_
                          refine J.skip rfl rfl ?_
                          refine J.skip rfl rfl ?_
                          refine J.q rfl rfl (Q.pick_f rfl rfl) ?_
                          refine J.q rfl rfl (Q.mv rfl) ?_
                          refine J.skip rfl rfl ?_
                          refine J.skip rfl rfl ?_
                          refine J.q rfl rfl (Q.pick_f rfl rfl) ?_
                          refine J.q rfl rfl (Q.asg rfl) ?_
                          refine J.nil ?_
                          refine J.blk_n ?_
                          first
                            | refine J.meet _ ?_ ⟨rfl, rfl, trivial⟩ rfl
                            | (refine J.keep [1, 0, 2] rfl ?_
                               refine J.meet _ ?_ ⟨rfl, rfl, trivial⟩ rfl)
                          simp_all [-List.length_eq_zero_iff, OM.chkR, emp, longB] <;> first | omega | (rw [Bool.eq_iff_iff]; simp [-List.length_eq_zero_iff] <;> omega)
                      ·
                        first | replace hb205 := X.tt_dec hb205 | replace hb205 := X.tt_not hb205 | replace hb205 := X.ff_dec hb205 | replace hb205 := X.ff_not hb205 | skip
                        refine J.skip rfl rfl ?_
                        refine J.skip rfl rfl ?_
                        refine J.q rfl rfl (Q.pick_f rfl rfl) ?_
                        refine J.q rfl rfl (Q.mv rfl) ?_
                        refine J.skip rfl rfl ?_
                        refine J.skip rfl rfl ?_
                        refine J.q rfl rfl (Q.pick_f rfl rfl) ?_
                        refine J.q rfl rfl (Q.mv rfl) ?_
                        refine J.skip rfl rfl ?_
                        refine J.skip rfl rfl ?_
                        refine J.q rfl rfl (Q.pick_f rfl rfl) ?_
                        refine J.q rfl rfl (Q.mv rfl) ?_
                        refine J.skip rfl rfl ?_
                        refine J.skip rfl rfl ?_
                        refine J.skip rfl rfl ?_
                        refine J.q rfl rfl (Q.pick_f rfl rfl) ?_
                        refine J.q rfl rfl (Q.mv rfl) ?_
                        refine J.skip rfl rfl ?_
                        refine J.skip rfl rfl ?_
                        refine J.q rfl rfl (Q.pick_f rfl rfl) ?_
                        refine J.q rfl rfl (Q.asg rfl) ?_
                        refine J.nil ?_
                        refine J.blk_n ?_
                        first
                          | refine J.meet _ ?_ ⟨rfl, rfl, trivial⟩ rfl
                          | (refine J.keep [1, 0, 2] rfl ?_
                             refine J.meet _ ?_ ⟨rfl, rfl, trivial⟩ rfl)
                        simp_all [-List.length_eq_zero_iff, OM.chkR, emp, longB] <;> first | omega | (rw [Bool.eq_iff_iff]; simp [-List.length_eq_zero_iff] <;> omega)
                    ·
                      first | replace hc201 := X.tt_dec hc201 | replace hc201 := X.tt_not hc201 | replace hc201 := X.ff_dec hc201 | replace hc201 := X.ff_not hc201 | skip
                      refine J.cond_f rfl ?_
                      refine J.seq ?_
                      refine J.region ?_
                      refine J.q rfl rfl (Q.eql rfl rfl) ?_
                      refine J.q rfl rfl (Q.asg rfl) ?_
                      refine J.nil ?_
                      refine J.then_n ?_
                      refine J.cases 226 rfl (fun hc226 => ?_) (fun hc226 => ?_)
                      ·
                        first | replace hc226 := X.tt_dec hc226 | replace hc226 := X.tt_not hc226 | replace hc226 := X.ff_dec hc226 | replace hc226 := X.ff_not hc226 | skip
                        refine J.cond_t rfl ?_
                        refine J.region ?_
                        refine J.q rfl rfl (Q.mv rfl) ?_
                        refine J.q rfl rfl (Q.not rfl) ?_
                        refine J.q rfl rfl (Q.mv rfl) ?_
                        refine J.cases 230 rfl (fun hb230 => ?_) (fun hb230 => ?_)
                        ·
                          first | replace hb230 := X.tt_dec hb230 | replace hb230 := X.tt_not hb230 | replace hb230 := X.ff_dec hb230 | replace hb230 := X.ff_not hb230 | skip
                          refine J.q rfl rfl (Q.mv rfl) ?_
                          refine J.q rfl rfl (Q.not rfl) ?_
                          refine J.q rfl rfl (Q.pick_t rfl rfl) ?_
                          refine J.q rfl rfl (Q.mv rfl) ?_
                          refine J.cases 234 rfl (fun hb234 => ?_) (fun hb234 => ?_)
                          ·
                            first | replace hb234 := X.tt_dec hb234 | replace hb234 := X.tt_not hb234 | replace hb234 := X.ff_dec hb234 | replace hb234 := X.ff_not hb234 | skip
                            refine J.q rfl rfl (Q.mv rfl) ?_
                            refine J.q rfl rfl (Q.not rfl) ?_
                            refine J.q rfl rfl (Q.pick_t rfl rfl) ?_
                            refine J.q rfl rfl (Q.mv rfl) ?_
                            refine J.cases 238 rfl (fun hb238 => ?_) (fun hb238 => ?_)
                            ·
                              first | replace hb238 := X.tt_dec hb238 | replace hb238 := X.tt_not hb238 | replace hb238 := X.ff_dec hb238 | replace hb238 := X.ff_not hb238 | skip
                              refine J.q rfl rfl (Q.mv rfl) ?_
                              refine J.q rfl rfl (Q.not rfl) ?_
                              refine J.q rfl rfl (Q.pick_t rfl rfl) ?_
                              refine J.q rfl rfl (Q.mv rfl) ?_
                              refine J.cases 242 rfl (fun hb242 => ?_) (fun hb242 => ?_)
                              ·
                                first | replace hb242 := X.tt_dec hb242 | replace hb242 := X.tt_not hb242 | replace hb242 := X.ff_dec hb242 | replace hb242 := X.ff_not hb242 | skip
                                refine J.q rfl rfl (Q.mv rfl) ?_
                                refine J.q rfl rfl (Q.not rfl) ?_
                                refine J.q rfl rfl (Q.pick_t rfl rfl) ?_
                                refine J.q rfl rfl (Q.mv rfl) ?_
                                refine J.cases 246 rfl (fun hb246 => ?_) (fun hb246 => ?_)
                                ·
                                  first | replace hb246 := X.tt_dec hb246 | replace hb246 := X.tt_not hb246 | replace hb246 := X.ff_dec hb246 | replace hb246 := X.ff_not hb246 | skip
                                  refine J.q rfl rfl (Q.mv rfl) ?_
                                  refine J.q rfl rfl (Q.not rfl) ?_
                                  refine J.q rfl rfl (Q.pick_t rfl rfl) ?_
                                  refine J.q rfl rfl (Q.asg rfl) ?_
                                  refine J.nil ?_
                                  refine J.blk_n ?_
                                  first
                                    | refine J.meet _ ?_ ⟨rfl, rfl, trivial⟩ rfl
                                    | (refine J.keep [1, 0, 2] rfl ?_
                                       refine J.meet _ ?_ ⟨rfl, rfl, trivial⟩ rfl)
                                  simp_all [-List.length_eq_zero_iff, OM.chkR, emp, longB] <;> first | omega | (rw [Bool.eq_iff_iff]; simp [-List.length_eq_zero_iff] <;> omega)
                                ·
                                  first | replace hb246 := X.tt_dec hb246 | replace hb246 := X.tt_not hb246 | replace hb246 := X.ff_dec hb246 | replace hb246 := X.ff_not hb246 | skip
                                  refine J.skip rfl rfl ?_
                                  refine J.skip rfl rfl ?_
                                  refine J.q rfl rfl (Q.pick_f rfl rfl) ?_
                                  refine J.q rfl rfl (Q.asg rfl) ?_
                                  refine J.nil ?_
                                  refine J.blk_n ?_
                                  first
                                    | refine J.meet _ ?_ ⟨rfl, rfl, trivial⟩ rfl
                                    | (refine J.keep [1, 0, 2] rfl ?_
                                       refine J.meet _ ?_ ⟨rfl, rfl, trivial⟩ rfl)
                                  simp_all [-List.length_eq_zero_iff, OM.chkR, emp, longB] <;> first | omega | (rw [Bool.eq_iff_iff]; simp [-List.length_eq_zero_iff] <;> omega)
                              ·
                                first | replace hb242 := X.tt_dec hb242 | replace hb242 := X.tt_not hb242 | replace hb242 := X.ff_dec hb242 | replace hb242 := X.ff_not hb242 | skip
                                refine J.skip rfl rfl ?_
                                refine J.skip rfl rfl ?_
                                refine J.q rfl rfl (Q.pick_f rfl rfl) ?_
                                refine J.q rfl rfl (Q.mv rfl) ?_
                                refine J.skip rfl rfl ?_
                                refine J.skip rfl rfl ?_
                                refine J.q rfl rfl (Q.pick_f rfl rfl) ?_
                                refine J.q rfl rfl (Q.asg rfl) ?_
                                refine J.nil ?_
                                refine J.blk_n ?_
                                first
                                  | refine J.meet _ ?_ ⟨rfl, rfl, trivial⟩ rfl
                                  | (refine J.keep [1, 0, 2] rfl ?_
                                     refine J.meet _ ?_ ⟨rfl, rfl, trivial⟩ rfl)
                                simp_all [-List.length_eq_zero_iff, OM.chkR, emp, longB] <;> first | omega | (rw [Bool.eq_iff_iff]; simp [-List.length_eq_zero_iff] <;> omega)
                            ·
                              first | replace hb238 := X.tt_dec hb238 | replace hb238 := X.tt_not hb238 | replace hb238 := X.ff_dec hb238 | replace hb238 := X.ff_not hb238 | skip
                              refine J.skip rfl rfl ?_
                              refine J.skip rfl rfl ?_
                              refine J.q rfl rfl (Q.pick_f rfl rfl) ?_
                              refine J.q rfl rfl (Q.mv rfl) ?_
                              refine J.skip rfl rfl ?_
                              refine J.skip rfl rfl ?_
                              refine J.q rfl rfl (Q.pick_f rfl rfl) ?_
                              refine J.q rfl rfl (Q.mv rfl) ?_
                              refine J.skip rfl rfl ?_
                              refine J.skip rfl rfl ?_
                              refine J.q rfl rfl (Q.pick_f rfl rfl) ?_
                              refine J.q rfl rfl (Q.asg rfl) ?_
                              refine J.nil ?_
                              refine J.blk_n ?_
                              first
                                | refine J.meet _ ?_ ⟨rfl, rfl, trivial⟩ rfl
                                | (refine J.keep [1, 0, 2] rfl ?_
                                   refine J.meet _ ?_ ⟨rfl, rfl, trivial⟩ rfl)
                              simp_all [-List.length_eq_zero_iff, OM.chkR, emp, longB] <;> first | omega | (rw [Bool.eq_iff_iff]; simp [-List.length_eq_zero_iff] <;> omega)
                          ·
                            first | replace hb234 := X.tt_dec hb234 | replace hb234 := X.tt_not hb234 | replace hb234 := X.ff_dec hb234 | replace hb234 := X.ff_not hb234 | skip
                            refine J.skip rfl rfl ?_
                            refine J.skip rfl rfl ?_
                            refine J.q rfl rfl (Q.pick_f rfl rfl) ?_
                            refine J.q rfl rfl (Q.mv rfl) ?_
                            refine J.skip rfl rfl ?_
                            refine J.skip rfl rfl ?_
                            refine J.q rfl rfl (Q.pick_f rfl rfl) ?_
                            refine J.q rfl rfl (Q.mv rfl) ?_
                            refine J.skip rfl rfl ?_
                            refine J.skip rfl rfl ?_
                            refine J.q rfl rfl (Q.pick_f rfl rfl) ?_
                            refine J.q rfl rfl (Q.mv rfl) ?_
                            refine J.skip rfl rfl ?_
                            refine J.skip rfl rfl ?_
                            refine J.q rfl rfl (Q.pick_f rfl rfl) ?_
                            refine J.q rfl rfl (Q.asg rfl) ?_
                            refine J.nil ?_
                            refine J.blk_n ?_
                            first
                              | refine J.meet _ ?_ ⟨rfl, rfl, trivial⟩ rfl
                              | (refine J.keep [1, 0, 2] rfl ?_
                                 refine J.meet _ ?_ ⟨rfl, rfl, trivial⟩ rfl)
                            simp_all [-List.length_eq_zero_iff, OM.chkR, emp, longB] <;> first | omega | (rw [Bool.eq_iff_iff]; simp [-List.length_eq_zero_iff] <;> omega)
                        ·
                          first | replace hb230 := X.tt_dec hb230 | replace hb230 := X.tt_not hb230 | replace hb230 := X.ff_dec hb230 | replace hb230 := X.ff_not hb230 | skip
                          refine J.skip rfl rfl ?_
                          refine J.skip rfl rfl ?_
                          refine J.q rfl rfl (Q.pick_f rfl rfl) ?_
                          refine J.q rfl rfl (Q.mv rfl) ?_
                          refine J.skip rfl rfl ?_
                          refine J.skip rfl rfl ?_
                          refine J.q rfl rfl (Q.pick_f rfl rfl) ?_
                          refine J.q rfl rfl (Q.mv rfl) ?_
                          refine J.skip rfl rfl ?_
                          refine J.skip rfl rfl ?_
                          refine J.q rfl rfl (Q.pick_f rfl rfl) ?_
                          refine J.q rfl rfl (Q.mv rfl) ?_
                          refine J.skip rfl rfl ?_
                          refine J.skip rfl rfl ?_
                          refine J.q rfl rfl (Q.pick_f rfl rfl) ?_
                          refine J.q rfl rfl (Q.mv rfl) ?_
                          refine J.skip rfl rfl ?_
                          refine J.skip rfl rfl ?_
                          refine J.q rfl rfl (Q.pick_f rfl rfl) ?_
                          refine J.q rfl rfl (Q.asg rfl) ?_
                          refine J.nil ?_
                          refine J.blk_n ?_
                          first
                            | refine J.meet _ ?_ ⟨rfl, rfl, trivial⟩ rfl
                            | (refine J.keep [1, 0, 2] rfl ?_
                               refine J.meet _ ?_ ⟨rfl, rfl, trivial⟩ rfl)
                          simp_all [-List.length_eq_zero_iff, OM.chkR, emp, longB] <;> first | omega | (rw [Bool.eq_iff_iff]; simp [-List.length_eq_zero_iff] <;> omega)
                      ·
                        first | replace hc226 := X.tt_dec hc226 | replace hc226 := X.tt_not hc226 | replace hc226 := X.ff_dec hc226 | replace hc226 := X.ff_not hc226 | skip
                        refine J.cond_f rfl ?_
                        refine J.cskip ?_
                        refine J.blk_n ?_
                        first
                          | refine J.meet _ ?_ ⟨rfl, rfl, trivial⟩ rfl
                          | (refine J.keep [1, 0, 2] rfl ?_
                             refine J.meet _ ?_ ⟨rfl, rfl, trivial⟩ rfl)
                        simp_all [-List.length_eq_zero_iff, OM.chkR, emp, longB] <;> first | omega | (rw [Bool.eq_iff_iff]; simp [-List.length_eq_zero_iff] <;> omega)
  ·
    refine J.seq ?_
    refine J.seq ?_
    refine J.region ?_
    refine J.q rfl rfl (Q.mv rfl) ?_
    refine J.q rfl rfl (Q.not rfl) ?_
    refine J.nil ?_
    refine J.then_n ?_
    refine J.cases 251 rfl (fun hc251 => ?_) (fun hc251 => ?_)
    ·
      first | replace hc251 := X.tt_dec hc251 | replace hc251 := X.tt_not hc251 | replace hc251 := X.ff_dec hc251 | replace hc251 := X.ff_not hc251 | skip
      refine J.cond_t rfl ?_
      refine J.seq ?_
      refine J.region ?_
      refine J.q rfl rfl (Q.asg rfl) ?_
      refine J.nil ?_
      refine J.then_n ?_
      refine J.cret ?_
      refine J.then_r ?_
      refine J.keep [1, 2] rfl ?_
      refine J.ret1 (B := [G]) rfl rfl ⟨?_, rfl⟩ rfl
      simp_all
    ·
      first | replace hc251 := X.tt_dec hc251 | replace hc251 := X.tt_not hc251 | replace hc251 := X.ff_dec hc251 | replace hc251 := X.ff_not hc251 | skip
      refine J.cond_f rfl ?_
      refine J.cskip ?_
      refine J.then_n ?_
      refine J.seq ?_
      refine J.region ?_
      refine J.q rfl rfl (Q.asg rfl) ?_
      refine J.nil ?_
      refine J.then_n ?_
      refine J.cret ?_
      refine J.keep [1, 2] rfl ?_
      refine J.ret1 (B := [G]) rfl rfl ⟨?_, rfl⟩ rfl
      simp_all

theorem chk_eq (o : OM) : o.chkB = o.chkR := by
  have hd : (!decide (16777216 < o.data.length)) = decide (o.data.length ≤ 16777216) := by rw [Bool.eq_iff_iff]; simp
  have hz : (!decide (0 < o.data.length)) = decide (o.data.length = 0) := by rw [Bool.eq_iff_iff]; simp
  have hl : ∀ n : Nat, longB n 0 1024 = decide (n ≤ 1024) := fun n => by rw [Bool.eq_iff_iff]; simp [longB]; omega
  unfold OM.chkB OM.chkR OM.r4 OM.r3 OM.r2 OM.r1 OM.r0 fieldsM
  by_cases h1 : o.kind = 1 ∨ o.kind = 2
  · simp [h1, hz, Bool.and_assoc]
  by_cases h3 : o.kind = 3
  · simp [h1, h3, hd, Bool.and_assoc]
  by_cases h4 : o.kind = 4 ∨ o.kind = 5 ∨ o.kind = 7
  · simp [h1, h3, h4, hz, Bool.and_assoc]
  by_cases h6 : o.kind = 6
  · simp [h1, h3, h4, h6, hz, hl, Bool.and_assoc]
  by_cases h8 : o.kind = 8
  · simp [h1, h3, h4, h6, h8, hd, Bool.and_assoc]
  by_cases h9 : o.kind = 9
  · simp [h1, h3, h4, h6, h8, h9, hz, Bool.and_assoc]
  by_cases h10 : o.kind = 10
  · simp [h1, h3, h4, h6, h8, h9, h10, hz, Bool.and_assoc]
  simp [h1, h3, h4, h6, h8, h9, h10]
end Go.Proofs.Ytdancegklkifaaa
