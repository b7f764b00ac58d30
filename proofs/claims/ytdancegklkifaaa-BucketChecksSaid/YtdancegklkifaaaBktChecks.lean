/-
  BucketChecks: any op is right, or not, as the document says.
-/
import Derived.Test.YtdancegklkifaaaBktK
namespace Go.Proofs.Ytdancegklkifaaa
set_option linter.unusedSectionVars false
set_option linter.unusedSimpArgs false
set_option linter.unusedVariables false
open Go.X

theorem checks_spec (G : Assn) (x : OW) (hx : x.ok G) : FSpec Try.prog 3 [.agg x.cells.toArray] [G] (fun v B => v = .bool true ∧ B = [G]) := by
  refine FSpec.of Try.func3 rfl Try.ntmps3 rfl fun W0 F => ?_
  refine J.seq ?_
  refine J.region ?_
  refine J.c rfl rfl (C.box (l := [_, _, _, _, _, _, _, _, _]) rfl rfl) ?_
  rintro _ _ ⟨b1, rfl, rfl⟩
  refine J.norm rfl ?_
  refine J.q rfl rfl (Q.asg rfl) ?_
  refine J.nil ?_
  refine J.then_n ?_
  refine J.seq ?_
  refine J.seq ?_
  refine J.region ?_
  refine J.call Try.call6 (known_spec) [] rfl rfl rfl rfl ?_
  rintro _ _ ⟨rfl, rfl⟩
  refine J.norm rfl ?_
  refine J.q rfl rfl (Q.not rfl) ?_
  refine J.nil ?_
  refine J.then_n ?_
  refine J.cases 4 rfl (fun hc4 => ?_) (fun hc4 => ?_)
  ·
    cases hc4
  ·
    first | replace hc4 := X.tt_dec hc4 | replace hc4 := X.tt_not hc4 | replace hc4 := X.ff_dec hc4 | replace hc4 := X.ff_not hc4 | skip
    refine J.cond_f rfl ?_
    refine J.cskip ?_
    refine J.then_n ?_
    refine J.seq ?_
    refine J.seq ?_
    refine J.region ?_
    refine J.q rfl rfl (Q.fa (n := 7) Try.runUnderlying26 rfl rfl Try.sizeOf23 rfl) ?_
    refine J.q rfl rfl (Q.ld Try.isAgg23 rfl (by first | exact Reads.pt 0 rfl rfl | exact Reads.pt 1 rfl rfl | exact Reads.pt 2 rfl rfl | exact Reads.pt 3 rfl rfl | exact Reads.pt 4 rfl rfl | exact Reads.pt 5 rfl rfl | exact Reads.pt 6 rfl rfl | exact Reads.pt 7 rfl rfl | exact Reads.pt 8 rfl rfl | exact Reads.pt 9 rfl rfl | exact Reads.pt 10 rfl rfl | exact Reads.pt 11 rfl rfl | exact Reads.pt 12 rfl rfl | exact Reads.pt 13 rfl rfl)) ?_
    refine J.q rfl rfl (Q.lenSl Try.runUnderlying23 rfl) ?_
    refine J.q rfl rfl (Q.gtr rfl rfl) ?_
    refine J.q rfl rfl (Q.mv rfl) ?_
    refine J.cases 9 rfl (fun hb9 => ?_) (fun hb9 => ?_)
    ·
      first | replace hb9 := X.tt_dec hb9 | replace hb9 := X.tt_not hb9 | replace hb9 := X.ff_dec hb9 | replace hb9 := X.ff_not hb9 | skip
      refine J.skip rfl rfl ?_
      refine J.skip rfl rfl ?_
      refine J.skip rfl rfl ?_
      refine J.skip rfl rfl ?_
      refine J.q rfl rfl (Q.pick_t rfl rfl) ?_
      refine J.nil ?_
      refine J.then_n ?_
      refine J.cond_t rfl ?_
      refine J.seq ?_
      refine J.region ?_
      refine J.q rfl rfl (Q.asg rfl) ?_
      refine J.nil ?_
      refine J.then_n ?_
      refine J.cret ?_
      refine J.then_r ?_
      refine J.keep [1, 2] rfl ?_
      refine J.ret1 (B := [G]) rfl rfl ⟨rfl, rfl⟩ rfl
    ·
      first | replace hb9 := X.tt_dec hb9 | replace hb9 := X.tt_not hb9 | replace hb9 := X.ff_dec hb9 | replace hb9 := X.ff_not hb9 | skip
      refine J.q rfl rfl (Q.fa (n := 8) Try.runUnderlying26 rfl rfl Try.sizeOf24 rfl) ?_
      refine J.q rfl rfl (Q.ld Try.isAgg24 rfl (by first | exact Reads.pt 0 rfl rfl | exact Reads.pt 1 rfl rfl | exact Reads.pt 2 rfl rfl | exact Reads.pt 3 rfl rfl | exact Reads.pt 4 rfl rfl | exact Reads.pt 5 rfl rfl | exact Reads.pt 6 rfl rfl | exact Reads.pt 7 rfl rfl | exact Reads.pt 8 rfl rfl | exact Reads.pt 9 rfl rfl | exact Reads.pt 10 rfl rfl | exact Reads.pt 11 rfl rfl | exact Reads.pt 12 rfl rfl | exact Reads.pt 13 rfl rfl)) ?_
      refine J.q rfl rfl (Q.lenSl Try.runUnderlying24 rfl) ?_
      refine J.q rfl rfl (Q.gtr rfl rfl) ?_
      refine J.q rfl rfl (Q.pick_f rfl rfl) ?_
      refine J.nil ?_
      refine J.then_n ?_
      refine J.cases 14 rfl (fun hc14 => ?_) (fun hc14 => ?_)
      ·
        first | replace hc14 := X.tt_dec hc14 | replace hc14 := X.tt_not hc14 | replace hc14 := X.ff_dec hc14 | replace hc14 := X.ff_not hc14 | skip
        refine J.cond_t rfl ?_
        refine J.seq ?_
        refine J.region ?_
        refine J.q rfl rfl (Q.asg rfl) ?_
        refine J.nil ?_
        refine J.then_n ?_
        refine J.cret ?_
        refine J.then_r ?_
        refine J.keep [1, 2] rfl ?_
        refine J.ret1 (B := [G]) rfl rfl ⟨rfl, rfl⟩ rfl
      ·
        first | replace hc14 := X.tt_dec hc14 | replace hc14 := X.tt_not hc14 | replace hc14 := X.ff_dec hc14 | replace hc14 := X.ff_not hc14 | skip
        refine J.cond_f rfl ?_
        refine J.cskip ?_
        refine J.then_n ?_
        refine J.seq ?_
        refine J.drawE [1, 3, 8, 11, 14] 1 Try.mixed (by kernel_rfl) rfl rfl fun hR => ?_
        refine RG.q 0 hR rfl rfl rfl rfl rfl rfl (Q.ldN (vs := [_, _, _, _, _, _, _, _, _]) Try.isAgg26 Try.sizeOf26 rfl (by first | exact ReadsN.pt 0 rfl | exact ReadsN.pt 1 rfl | exact ReadsN.pt 2 rfl | exact ReadsN.pt 3 rfl | exact ReadsN.pt 4 rfl | exact ReadsN.pt 5 rfl | exact ReadsN.pt 6 rfl | exact ReadsN.pt 7 rfl | exact ReadsN.pt 8 rfl | exact ReadsN.pt 9 rfl | exact ReadsN.pt 10 rfl | exact ReadsN.pt 11 rfl | exact ReadsN.pt 12 rfl | exact ReadsN.pt 13 rfl)) ?_
        refine RG.q 2 hR rfl rfl rfl rfl rfl rfl (Q.ldN (vs := [_, _, _, _, _, _, _, _, _]) Try.isAgg26 Try.sizeOf26 rfl (by first | exact ReadsN.pt 0 rfl | exact ReadsN.pt 1 rfl | exact ReadsN.pt 2 rfl | exact ReadsN.pt 3 rfl | exact ReadsN.pt 4 rfl | exact ReadsN.pt 5 rfl | exact ReadsN.pt 6 rfl | exact ReadsN.pt 7 rfl | exact ReadsN.pt 8 rfl | exact ReadsN.pt 9 rfl | exact ReadsN.pt 10 rfl | exact ReadsN.pt 11 rfl | exact ReadsN.pt 12 rfl | exact ReadsN.pt 13 rfl)) ?_
        refine RG.callk 1 hR rfl rfl rfl rfl rfl Try.call7 (check_spec G x hx) [1] rfl rfl ?_
        rintro _ _ ⟨rfl, rfl⟩
        refine ⟨_, X.pick_perm (is := [1]) rfl, ?_⟩
        rw [chk_eq]
        refine RG.call 3 hR rfl rfl rfl rfl rfl rfl Try.call8 (rcheck_spec G x hx) [1] rfl rfl ?_
        rintro _ _ ⟨rfl, rfl⟩
        refine RG.norm rfl ?_
        refine RG.q 4 hR rfl rfl rfl rfl rfl rfl (Q.eql rfl rfl) ?_
        refine RG.q 5 hR rfl rfl rfl rfl rfl rfl (Q.mv rfl) ?_
        refine RG.cases 20 rfl (fun hb20 => ?_) (fun hb20 => ?_)
        ·
          skip
          refine RG.q 6 hR rfl rfl rfl rfl rfl rfl (Q.fa (n := 1) Try.runUnderlying26 rfl rfl Try.sizeOf3 rfl) ?_
          refine RG.q 7 hR rfl rfl rfl rfl rfl rfl (Q.ld Try.isAgg3 rfl (by first | exact Reads.pt 0 rfl rfl | exact Reads.pt 1 rfl rfl | exact Reads.pt 2 rfl rfl | exact Reads.pt 3 rfl rfl | exact Reads.pt 4 rfl rfl | exact Reads.pt 5 rfl rfl | exact Reads.pt 6 rfl rfl | exact Reads.pt 7 rfl rfl | exact Reads.pt 8 rfl rfl | exact Reads.pt 9 rfl rfl | exact Reads.pt 10 rfl rfl | exact Reads.pt 11 rfl rfl | exact Reads.pt 12 rfl rfl | exact Reads.pt 13 rfl rfl)) ?_
          refine RG.q 9 hR rfl rfl rfl rfl rfl rfl (Q.fa (n := 1) Try.runUnderlying26 rfl rfl Try.sizeOf3 rfl) ?_
          refine RG.q 10 hR rfl rfl rfl rfl rfl rfl (Q.ld Try.isAgg3 rfl (by first | exact Reads.pt 0 rfl rfl | exact Reads.pt 1 rfl rfl | exact Reads.pt 2 rfl rfl | exact Reads.pt 3 rfl rfl | exact Reads.pt 4 rfl rfl | exact Reads.pt 5 rfl rfl | exact Reads.pt 6 rfl rfl | exact Reads.pt 7 rfl rfl | exact Reads.pt 8 rfl rfl | exact Reads.pt 9 rfl rfl | exact Reads.pt 10 rfl rfl | exact Reads.pt 11 rfl rfl | exact Reads.pt 12 rfl rfl | exact Reads.pt 13 rfl rfl)) ?_
          refine RG.callk 8 hR rfl rfl rfl rfl rfl Try.call9 (reads_spec x.o.kind) [] rfl rfl ?_
          rintro _ _ ⟨rfl, rfl⟩
          refine ⟨_, X.pick_perm (is := [0, 1, 2]) rfl, ?_⟩
          refine RG.call 11 hR rfl rfl rfl rfl rfl rfl Try.call10 (rreads_spec x.o.kind) [] rfl rfl ?_
          rintro _ _ ⟨rfl, rfl⟩
          refine RG.norm rfl ?_
          refine RG.q 12 hR rfl rfl rfl rfl rfl rfl (Q.eqlb Try.runUnderlying4 rfl rfl) ?_
          refine RG.q 13 hR rfl rfl rfl rfl rfl rfl (Q.pick_t rfl rfl) ?_
          refine RG.bar 14 hR rfl rfl rfl rfl rfl rfl (Q.asg rfl).toC ?_
          rintro _ _ ⟨rfl, rfl⟩
          refine RG.norm rfl ?_
          refine RG.fin hR rfl ?_
          refine J.norm rfl ?_
          refine J.then_n ?_
          refine J.cret ?_
          refine J.keep [0, 2] rfl ?_
          refine J.ret1 (B := [G]) rfl rfl ⟨?_, rfl⟩ rfl
          simp
        ·
          simp at hb20
end Go.Proofs.Ytdancegklkifaaa
