/-
  What the proof of the last of these texts leans on: part 3 of 6.
-/
import Derived.Test.YtdancegklkifaaaGreatOn2
namespace Go.Proofs.YtdancegklkifaaaGreat
set_option linter.unusedSectionVars false
set_option linter.unusedSimpArgs false
set_option linter.unusedVariables false
open Go.X

def OM.rest (o : OM) (n : Bool) : Bool := emp o.after && n && decide (o.parts.length = 0)
/-- Is an op right? As the document asks. -/
def OM.chkR (o : OM) : Bool :=
  if o.kind = 1 ∨ o.kind = 2 then nameOK o.bucket.data.toList && emp o.key && emp o.after && decide (o.n = 0) && decide (o.upload = 0) && decide (o.parts.length = 0) && decide (o.data.length = 0)
  else if o.kind = 3 then nameOK o.bucket.data.toList && longB o.key.size 1 1024 && emp o.after && decide (o.n = 0) && decide (o.upload = 0) && decide (o.parts.length = 0) && decide (o.data.length ≤ 16777216)
  else if o.kind = 4 ∨ o.kind = 5 ∨ o.kind = 7 then nameOK o.bucket.data.toList && longB o.key.size 1 1024 && emp o.after && decide (o.n = 0) && decide (o.upload = 0) && decide (o.parts.length = 0) && decide (o.data.length = 0)
  else if o.kind = 6 then nameOK o.bucket.data.toList && decide (o.key.size ≤ 1024) && decide (o.after.size ≤ 1024) && decide (1 ≤ o.n) && decide (o.n ≤ 1000) && decide (o.upload = 0) && decide (o.parts.length = 0) && decide (o.data.length = 0)
  else if o.kind = 8 then emp o.bucket && emp o.key && emp o.after && decide (1 ≤ o.n) && decide (o.n ≤ 10000) && decide (o.parts.length = 0) && decide (o.data.length ≤ 16777216)
  else if o.kind = 9 then emp o.bucket && emp o.key && emp o.after && decide (o.n = 0) && partsOK o.parts && decide (o.data.length = 0)
  else if o.kind = 10 then emp o.bucket && emp o.key && emp o.after && decide (o.n = 0) && decide (o.parts.length = 0) && decide (o.data.length = 0)
  else false

theorem rcheck_spec (G : Assn) (x : OW) (hx : x.ok G) : FSpec Tryz.prog 37 [.agg x.cells.toArray] [G] (fun v B => v = .int .i64 (if x.o.chkR then 0 else 1) ∧ B = [G]) := by
  have hsm := hx.small
  refine FSpec.of Tryz.func37 rfl Tryz.ntmps37 rfl fun W0 F => ?_
  refine J.seq ?_
  refine J.region ?_
  refine J.c rfl rfl (C.box (l := [_, _, _, _, _, _, _, _, _]) rfl rfl) ?_
  rintro _ _ ⟨b1, rfl, rfl⟩
  refine J.norm rfl ?_
  refine J.q rfl rfl (Q.asg rfl) ?_
  refine J.nil ?_
  refine J.then_n ?_
  refine J.seq ?_
  refine J.region ?_
  refine J.q rfl rfl (Q.fa (n := 2) Tryz.runUnderlying27 rfl rfl Tryz.sizeOf9 rfl) ?_
  refine J.q rfl rfl (Q.ld Tryz.isAgg9 rfl (rdI (by exact rfl))) ?_
  refine J.q rfl rfl (Q.neqs rfl rfl) ?_
  refine J.q rfl rfl (Q.asg rfl) ?_
  refine J.nil ?_
  refine J.then_n ?_
  refine J.seq ?_
  refine J.region ?_
  refine J.q rfl rfl (Q.fa (n := 3) Tryz.runUnderlying27 rfl rfl Tryz.sizeOf9 rfl) ?_
  refine J.q rfl rfl (Q.ld Tryz.isAgg9 rfl (rdI (by exact rfl))) ?_
  refine J.q rfl rfl (Q.neqs rfl rfl) ?_
  refine J.q rfl rfl (Q.asg rfl) ?_
  refine J.nil ?_
  refine J.then_n ?_
  refine J.seq ?_
  refine J.region ?_
  refine J.q rfl rfl (Q.fa (n := 4) Tryz.runUnderlying27 rfl rfl Tryz.sizeOf9 rfl) ?_
  refine J.q rfl rfl (Q.ld Tryz.isAgg9 rfl (rdI (by exact rfl))) ?_
  refine J.q rfl rfl (Q.neqs rfl rfl) ?_
  refine J.q rfl rfl (Q.asg rfl) ?_
  refine J.nil ?_
  refine J.then_n ?_
  refine J.seq ?_
  refine J.region ?_
  refine J.q rfl rfl (Q.fa (n := 5) Tryz.runUnderlying27 rfl rfl Tryz.sizeOf3 rfl) ?_
  refine J.q rfl rfl (Q.ld Tryz.isAgg3 rfl (rdI (by exact rfl))) ?_
  refine J.q rfl rfl (Q.neq rfl rfl) ?_
  refine J.q rfl rfl (Q.asg rfl) ?_
  refine J.nil ?_
  refine J.then_n ?_
  refine J.seq ?_
  refine J.region ?_
  refine J.q rfl rfl (Q.fa (n := 6) Tryz.runUnderlying27 rfl rfl Tryz.sizeOf23 rfl) ?_
  refine J.q rfl rfl (Q.ld Tryz.isAgg23 rfl (rdI (by exact rfl))) ?_
  refine J.q rfl rfl (Q.neq rfl rfl) ?_
  refine J.q rfl rfl (Q.asg rfl) ?_
  refine J.nil ?_
  refine J.then_n ?_
  refine J.seq ?_
  refine J.region ?_
  refine J.q rfl rfl (Q.fa (n := 7) Tryz.runUnderlying27 rfl rfl Tryz.sizeOf24 rfl) ?_
  refine J.q rfl rfl (Q.ld Tryz.isAgg24 rfl (rdI (by exact rfl))) ?_
  refine J.q rfl rfl (Q.lenSl Tryz.runUnderlying24 rfl) ?_
  refine J.q rfl rfl (Q.gtr rfl rfl) ?_
  refine J.q rfl rfl (Q.asg rfl) ?_
  refine J.nil ?_
  refine J.then_n ?_
  refine J.seq ?_
  refine J.region ?_
  refine J.q rfl rfl (Q.fa (n := 8) Tryz.runUnderlying27 rfl rfl Tryz.sizeOf25 rfl) ?_
  refine J.q rfl rfl (Q.ld Tryz.isAgg25 rfl (rdI (by exact rfl))) ?_
  refine J.q rfl rfl (Q.lenSl Tryz.runUnderlying25 rfl) ?_
  refine J.q rfl rfl (Q.gtr rfl rfl) ?_
  refine J.q rfl rfl (Q.asg rfl) ?_
  refine J.nil ?_
  refine J.then_n ?_
  refine J.seq ?_
  refine J.region ?_
  refine J.q rfl rfl (Q.asg rfl) ?_
  refine J.nil ?_
  refine J.then_n ?_
  refine J.cut (fun r : Bool => r = x.o.chkR) (fun r => [(1, .pointer (some ⟨b1, 0, none⟩)), (10, .bool r)]) (fun _ => [pt b1 (.cells x.cells.toArray 27 (0, 0)), G, F]) ?_ fun r hr0 => ?_
  ·
   refine J.seq ?_
   refine J.region ?_
   refine J.q rfl rfl (Q.fa (n := 1) Tryz.runUnderlying27 rfl rfl Tryz.sizeOf3 rfl) ?_
   refine J.q rfl rfl (Q.ld Tryz.isAgg3 rfl (rdI (by exact rfl))) ?_
   refine J.nil ?_
   refine J.then_n ?_
   refine J.block ?_
   refine J.seq ?_
   refine J.seq ?_
   refine J.region ?_
   refine J.q rfl rfl (Q.eql rfl rfl) ?_
   refine J.q rfl rfl (Q.asg rfl) ?_
   refine J.nil ?_
   refine J.then_n ?_
   refine J.cases 36 rfl (fun hc36 => ?_) (fun hc36 => ?_)
   ·
    replace hc36 := X.nm hc36
    refine J.cond_t rfl ?_
    refine J.cskip ?_
    refine J.then_n ?_
    refine J.cond_t rfl ?_
    refine J.region ?_
    refine J.q rfl rfl (Q.fa (n := 2) Tryz.runUnderlying27 rfl rfl Tryz.sizeOf9 rfl) ?_
    refine J.q rfl rfl (Q.ld Tryz.isAgg9 rfl (rdI (by exact rfl))) ?_
    refine J.call Tryz.call72 (rname_spec x.o.bucket (by omega)) [] rfl rfl rfl rfl ?_
    rintro _ _ ⟨rfl, rfl⟩
    refine J.norm rfl ?_
    refine J.q rfl rfl (Q.mv rfl) ?_
    refine J.cases 42 rfl (fun hb42 => ?_) (fun hb42 => ?_)
    ·
     replace hb42 := X.nm hb42
     refine J.q rfl rfl (Q.mv rfl) ?_
     refine J.q rfl rfl (Q.not rfl) ?_
     refine J.q rfl rfl (Q.pick_t rfl rfl) ?_
     refine J.q rfl rfl (Q.mv rfl) ?_
     refine J.cases 46 rfl (fun hb46 => ?_) (fun hb46 => ?_)
     ·
      replace hb46 := X.nm hb46
      refine J.q rfl rfl (Q.mv rfl) ?_
      refine J.q rfl rfl (Q.not rfl) ?_
      refine J.q rfl rfl (Q.pick_t rfl rfl) ?_
      refine J.q rfl rfl (Q.mv rfl) ?_
      refine J.cases 50 rfl (fun hb50 => ?_) (fun hb50 => ?_)
      ·
       replace hb50 := X.nm hb50
       refine J.q rfl rfl (Q.mv rfl) ?_
       refine J.q rfl rfl (Q.not rfl) ?_
       refine J.q rfl rfl (Q.pick_t rfl rfl) ?_
       refine J.q rfl rfl (Q.mv rfl) ?_
       refine J.cases 54 rfl (fun hb54 => ?_) (fun hb54 => ?_)
       ·
        replace hb54 := X.nm hb54
        refine J.q rfl rfl (Q.mv rfl) ?_
        refine J.q rfl rfl (Q.not rfl) ?_
        refine J.q rfl rfl (Q.pick_t rfl rfl) ?_
        refine J.q rfl rfl (Q.mv rfl) ?_
        refine J.cases 58 rfl (fun hb58 => ?_) (fun hb58 => ?_)
        ·
         replace hb58 := X.nm hb58
         refine J.q rfl rfl (Q.mv rfl) ?_
         refine J.q rfl rfl (Q.not rfl) ?_
         refine J.q rfl rfl (Q.pick_t rfl rfl) ?_
         refine J.q rfl rfl (Q.mv rfl) ?_
         refine J.cases 62 rfl (fun hb62 => ?_) (fun hb62 => ?_)
         ·
          replace hb62 := X.nm hb62
          refine J.q rfl rfl (Q.mv rfl) ?_
          refine J.q rfl rfl (Q.not rfl) ?_
          refine J.q rfl rfl (Q.pick_t rfl rfl) ?_
          refine J.q rfl rfl (Q.asg rfl) ?_
          refine J.nil ?_
          refine J.blk_n ?_
          first
            | refine J.meet _ ?_ ⟨rfl, rfl, trivial⟩ rfl
            | (refine J.keep [1, 0, 2] rfl ?_
               refine J.meet _ ?_ ⟨rfl, rfl, trivial⟩ rfl)
          simp_all [-List.length_eq_zero_iff, OM.chkR, emp, longB] <;> first | omega | (rw [Bool.eq_iff_iff]; simp [-List.length_eq_zero_iff] <;> omega)
         replace hb62 := X.nm hb62
         refine J.skip rfl rfl ?_
         refine J.skip rfl rfl ?_
         refine J.q rfl rfl (Q.pick_f rfl rfl) ?_
         refine J.q rfl rfl (Q.asg rfl) ?_
         refine J.nil ?_
         refine J.blk_n ?_
         first
           | refine J.meet _ ?_ ⟨rfl, rfl, trivial⟩ rfl
           | (refine J.keep [1, 0, 2] rfl ?_
              refine J.meet _ ?_ ⟨rfl, rfl, trivial⟩ rfl)
         simp_all [-List.length_eq_zero_iff, OM.chkR, emp, longB] <;> first | omega | (rw [Bool.eq_iff_iff]; simp [-List.length_eq_zero_iff] <;> omega)
        replace hb58 := X.nm hb58
        refine J.skip rfl rfl ?_
        refine J.skip rfl rfl ?_
        refine J.q rfl rfl (Q.pick_f rfl rfl) ?_
        refine J.q rfl rfl (Q.mv rfl) ?_
        refine J.skip rfl rfl ?_
        refine J.skip rfl rfl ?_
        refine J.q rfl rfl (Q.pick_f rfl rfl) ?_
        refine J.q rfl rfl (Q.asg rfl) ?_
        refine J.nil ?_
        refine J.blk_n ?_
        first
          | refine J.meet _ ?_ ⟨rfl, rfl, trivial⟩ rfl
          | (refine J.keep [1, 0, 2] rfl ?_
             refine J.meet _ ?_ ⟨rfl, rfl, trivial⟩ rfl)
        simp_all [-List.length_eq_zero_iff, OM.chkR, emp, longB] <;> first | omega | (rw [Bool.eq_iff_iff]; simp [-List.length_eq_zero_iff] <;> omega)
       replace hb54 := X.nm hb54
       refine J.skip rfl rfl ?_
       refine J.skip rfl rfl ?_
       refine J.q rfl rfl (Q.pick_f rfl rfl) ?_
       refine J.q rfl rfl (Q.mv rfl) ?_
       refine J.skip rfl rfl ?_
       refine J.skip rfl rfl ?_
       refine J.q rfl rfl (Q.pick_f rfl rfl) ?_
       refine J.q rfl rfl (Q.mv rfl) ?_
       refine J.skip rfl rfl ?_
       refine J.skip rfl rfl ?_
       refine J.q rfl rfl (Q.pick_f rfl rfl) ?_
       refine J.q rfl rfl (Q.asg rfl) ?_
       refine J.nil ?_
       refine J.blk_n ?_
       first
         | refine J.meet _ ?_ ⟨rfl, rfl, trivial⟩ rfl
         | (refine J.keep [1, 0, 2] rfl ?_
            refine J.meet _ ?_ ⟨rfl, rfl, trivial⟩ rfl)
       simp_all [-List.length_eq_zero_iff, OM.chkR, emp, longB] <;> first | omega | (rw [Bool.eq_iff_iff]; simp [-List.length_eq_zero_iff] <;> omega)
      replace hb50 := X.nm hb50
      refine J.skip rfl rfl ?_
      refine J.skip rfl rfl ?_
      refine J.q rfl rfl (Q.pick_f rfl rfl) ?_
      refine J.q rfl rfl (Q.mv rfl) ?_
      refine J.skip rfl rfl ?_
      refine J.skip rfl rfl ?_
      refine J.q rfl rfl (Q.pick_f rfl rfl) ?_
      refine J.q rfl rfl (Q.mv rfl) ?_
      refine J.skip rfl rfl ?_
      refine J.skip rfl rfl ?_
      refine J.q rfl rfl (Q.pick_f rfl rfl) ?_
      refine J.q rfl rfl (Q.mv rfl) ?_
      refine J.skip rfl rfl ?_
      refine J.skip rfl rfl ?_
      refine J.q rfl rfl (Q.pick_f rfl rfl) ?_
      refine J.q rfl rfl (Q.asg rfl) ?_
      refine J.nil ?_
      refine J.blk_n ?_
      first
        | refine J.meet _ ?_ ⟨rfl, rfl, trivial⟩ rfl
        | (refine J.keep [1, 0, 2] rfl ?_
           refine J.meet _ ?_ ⟨rfl, rfl, trivial⟩ rfl)
      simp_all [-List.length_eq_zero_iff, OM.chkR, emp, longB] <;> first | omega | (rw [Bool.eq_iff_iff]; simp [-List.length_eq_zero_iff] <;> omega)
     replace hb46 := X.nm hb46
     refine J.skip rfl rfl ?_
     refine J.skip rfl rfl ?_
     refine J.q rfl rfl (Q.pick_f rfl rfl) ?_
     refine J.q rfl rfl (Q.mv rfl) ?_
     refine J.skip rfl rfl ?_
     refine J.skip rfl rfl ?_
     refine J.q rfl rfl (Q.pick_f rfl rfl) ?_
     refine J.q rfl rfl (Q.mv rfl) ?_
     refine J.skip rfl rfl ?_
     refine J.skip rfl rfl ?_
     refine J.q rfl rfl (Q.pick_f rfl rfl) ?_
     refine J.q rfl rfl (Q.mv rfl) ?_
     refine J.skip rfl rfl ?_
     refine J.skip rfl rfl ?_
     refine J.q rfl rfl (Q.pick_f rfl rfl) ?_
     refine J.q rfl rfl (Q.mv rfl) ?_
     refine J.skip rfl rfl ?_
     refine J.skip rfl rfl ?_
     refine J.q rfl rfl (Q.pick_f rfl rfl) ?_
     refine J.q rfl rfl (Q.asg rfl) ?_
     refine J.nil ?_
     refine J.blk_n ?_
     first
       | refine J.meet _ ?_ ⟨rfl, rfl, trivial⟩ rfl
       | (refine J.keep [1, 0, 2] rfl ?_
          refine J.meet _ ?_ ⟨rfl, rfl, trivial⟩ rfl)
     simp_all [-List.length_eq_zero_iff, OM.chkR, emp, longB] <;> first | omega | (rw [Bool.eq_iff_iff]; simp [-List.length_eq_zero_iff] <;> omega)
    replace hb42 := X.nm hb42
    refine J.skip rfl rfl ?_
    refine J.skip rfl rfl ?_
    refine J.q rfl rfl (Q.pick_f rfl rfl) ?_
    refine J.q rfl rfl (Q.mv rfl) ?_
    refine J.skip rfl rfl ?_
    refine J.skip rfl rfl ?_
    refine J.q rfl rfl (Q.pick_f rfl rfl) ?_
    refine J.q rfl rfl (Q.mv rfl) ?_
    refine J.skip rfl rfl ?_
    refine J.skip rfl rfl ?_
    refine J.q rfl rfl (Q.pick_f rfl rfl) ?_
    refine J.q rfl rfl (Q.mv rfl) ?_
    refine J.skip rfl rfl ?_
    refine J.skip rfl rfl ?_
    refine J.q rfl rfl (Q.pick_f rfl rfl) ?_
    refine J.q rfl rfl (Q.mv rfl) ?_
    refine J.skip rfl rfl ?_
    refine J.skip rfl rfl ?_
    refine J.q rfl rfl (Q.pick_f rfl rfl) ?_
    refine J.q rfl rfl (Q.mv rfl) ?_
    refine J.skip rfl rfl ?_
    refine J.skip rfl rfl ?_
    refine J.q rfl rfl (Q.pick_f rfl rfl) ?_
    refine J.q rfl rfl (Q.asg rfl) ?_
    refine J.nil ?_
    refine J.blk_n ?_
    first
      | refine J.meet _ ?_ ⟨rfl, rfl, trivial⟩ rfl
      | (refine J.keep [1, 0, 2] rfl ?_
         refine J.meet _ ?_ ⟨rfl, rfl, trivial⟩ rfl)
    simp_all [-List.length_eq_zero_iff, OM.chkR, emp, longB] <;> first | omega | (rw [Bool.eq_iff_iff]; simp [-List.length_eq_zero_iff] <;> omega)
   replace hc36 := X.nm hc36
   refine J.cond_f rfl ?_
   refine J.region ?_
   refine J.q rfl rfl (Q.eql rfl rfl) ?_
   refine J.q rfl rfl (Q.asg rfl) ?_
   refine J.nil ?_
   refine J.then_n ?_
   refine J.cases 36 rfl (fun hc36 => ?_) (fun hc36 => ?_)
   ·
    replace hc36 := X.nm hc36
    refine J.cond_t rfl ?_
    refine J.region ?_
    refine J.q rfl rfl (Q.fa (n := 2) Tryz.runUnderlying27 rfl rfl Tryz.sizeOf9 rfl) ?_
    refine J.q rfl rfl (Q.ld Tryz.isAgg9 rfl (rdI (by exact rfl))) ?_
    refine J.call Tryz.call72 (rname_spec x.o.bucket (by omega)) [] rfl rfl rfl rfl ?_
    rintro _ _ ⟨rfl, rfl⟩
    refine J.norm rfl ?_
    refine J.q rfl rfl (Q.mv rfl) ?_
    refine J.cases 42 rfl (fun hb42 => ?_) (fun hb42 => ?_)
    ·
     replace hb42 := X.nm hb42
     refine J.q rfl rfl (Q.mv rfl) ?_
     refine J.q rfl rfl (Q.not rfl) ?_
     refine J.q rfl rfl (Q.pick_t rfl rfl) ?_
     refine J.q rfl rfl (Q.mv rfl) ?_
     refine J.cases 46 rfl (fun hb46 => ?_) (fun hb46 => ?_)
     ·
      replace hb46 := X.nm hb46
      refine J.q rfl rfl (Q.mv rfl) ?_
      refine J.q rfl rfl (Q.not rfl) ?_
      refine J.q rfl rfl (Q.pick_t rfl rfl) ?_
      refine J.q rfl rfl (Q.mv rfl) ?_
      refine J.cases 50 rfl (fun hb50 => ?_) (fun hb50 => ?_)
      ·
       replace hb50 := X.nm hb50
       refine J.q rfl rfl (Q.mv rfl) ?_
       refine J.q rfl rfl (Q.not rfl) ?_
       refine J.q rfl rfl (Q.pick_t rfl rfl) ?_
       refine J.q rfl rfl (Q.mv rfl) ?_
       refine J.cases 54 rfl (fun hb54 => ?_) (fun hb54 => ?_)
       ·
        replace hb54 := X.nm hb54
        refine J.q rfl rfl (Q.mv rfl) ?_
        refine J.q rfl rfl (Q.not rfl) ?_
        refine J.q rfl rfl (Q.pick_t rfl rfl) ?_
        refine J.q rfl rfl (Q.mv rfl) ?_
        refine J.cases 58 rfl (fun hb58 => ?_) (fun hb58 => ?_)
        ·
         replace hb58 := X.nm hb58
         refine J.q rfl rfl (Q.mv rfl) ?_
         refine J.q rfl rfl (Q.not rfl) ?_
         refine J.q rfl rfl (Q.pick_t rfl rfl) ?_
         refine J.q rfl rfl (Q.mv rfl) ?_
         refine J.cases 62 rfl (fun hb62 => ?_) (fun hb62 => ?_)
         ·
          replace hb62 := X.nm hb62
          refine J.q rfl rfl (Q.mv rfl) ?_
          refine J.q rfl rfl (Q.not rfl) ?_
          refine J.q rfl rfl (Q.pick_t rfl rfl) ?_
          refine J.q rfl rfl (Q.asg rfl) ?_
          refine J.nil ?_
          refine J.blk_n ?_
          first
            | refine J.meet _ ?_ ⟨rfl, rfl, trivial⟩ rfl
            | (refine J.keep [1, 0, 2] rfl ?_
               refine J.meet _ ?_ ⟨rfl, rfl, trivial⟩ rfl)
          simp_all [-List.length_eq_zero_iff, OM.chkR, emp, longB] <;> first | omega | (rw [Bool.eq_iff_iff]; simp [-List.length_eq_zero_iff] <;> omega)
         replace hb62 := X.nm hb62
         refine J.skip rfl rfl ?_
         refine J.skip rfl rfl ?_
         refine J.q rfl rfl (Q.pick_f rfl rfl) ?_
         refine J.q rfl rfl (Q.asg rfl) ?_
         refine J.nil ?_
         refine J.blk_n ?_
         first
           | refine J.meet _ ?_ ⟨rfl, rfl, trivial⟩ rfl
           | (refine J.keep [1, 0, 2] rfl ?_
              refine J.meet _ ?_ ⟨rfl, rfl, trivial⟩ rfl)
         simp_all [-List.length_eq_zero_iff, OM.chkR, emp, longB] <;> first | omega | (rw [Bool.eq_iff_iff]; simp [-List.length_eq_zero_iff] <;> omega)
        replace hb58 := X.nm hb58
        refine J.skip rfl rfl ?_
        refine J.skip rfl rfl ?_
        refine J.q rfl rfl (Q.pick_f rfl rfl) ?_
        refine J.q rfl rfl (Q.mv rfl) ?_
        refine J.skip rfl rfl ?_
        refine J.skip rfl rfl ?_
        refine J.q rfl rfl (Q.pick_f rfl rfl) ?_
        refine J.q rfl rfl (Q.asg rfl) ?_
        refine J.nil ?_
        refine J.blk_n ?_
        first
          | refine J.meet _ ?_ ⟨rfl, rfl, trivial⟩ rfl
          | (refine J.keep [1, 0, 2] rfl ?_
             refine J.meet _ ?_ ⟨rfl, rfl, trivial⟩ rfl)
        simp_all [-List.length_eq_zero_iff, OM.chkR, emp, longB] <;> first | omega | (rw [Bool.eq_iff_iff]; simp [-List.length_eq_zero_iff] <;> omega)
       replace hb54 := X.nm hb54
       refine J.skip rfl rfl ?_
       refine J.skip rfl rfl ?_
       refine J.q rfl rfl (Q.pick_f rfl rfl) ?_
       refine J.q rfl rfl (Q.mv rfl) ?_
       refine J.skip rfl rfl ?_
       refine J.skip rfl rfl ?_
       refine J.q rfl rfl (Q.pick_f rfl rfl) ?_
       refine J.q rfl rfl (Q.mv rfl) ?_
       refine J.skip rfl rfl ?_
       refine J.skip rfl rfl ?_
       refine J.q rfl rfl (Q.pick_f rfl rfl) ?_
       refine J.q rfl rfl (Q.asg rfl) ?_
       refine J.nil ?_
       refine J.blk_n ?_
       first
         | refine J.meet _ ?_ ⟨rfl, rfl, trivial⟩ rfl
         | (refine J.keep [1, 0, 2] rfl ?_
            refine J.meet _ ?_ ⟨rfl, rfl, trivial⟩ rfl)
       simp_all [-List.length_eq_zero_iff, OM.chkR, emp, longB] <;> first | omega | (rw [Bool.eq_iff_iff]; simp [-List.length_eq_zero_iff] <;> omega)
      replace hb50 := X.nm hb50
      refine J.skip rfl rfl ?_
      refine J.skip rfl rfl ?_
      refine J.q rfl rfl (Q.pick_f rfl rfl) ?_
      refine J.q rfl rfl (Q.mv rfl) ?_
      refine J.skip rfl rfl ?_
      refine J.skip rfl rfl ?_
      refine J.q rfl rfl (Q.pick_f rfl rfl) ?_
      refine J.q rfl rfl (Q.mv rfl) ?_
      refine J.skip rfl rfl ?_
      refine J.skip rfl rfl ?_
      refine J.q rfl rfl (Q.pick_f rfl rfl) ?_
      refine J.q rfl rfl (Q.mv rfl) ?_
      refine J.skip rfl rfl ?_
      refine J.skip rfl rfl ?_
      refine J.q rfl rfl (Q.pick_f rfl rfl) ?_
      refine J.q rfl rfl (Q.asg rfl) ?_
      refine J.nil ?_
      refine J.blk_n ?_
      first
        | refine J.meet _ ?_ ⟨rfl, rfl, trivial⟩ rfl
        | (refine J.keep [1, 0, 2] rfl ?_
           refine J.meet _ ?_ ⟨rfl, rfl, trivial⟩ rfl)
      simp_all [-List.length_eq_zero_iff, OM.chkR, emp, longB] <;> first | omega | (rw [Bool.eq_iff_iff]; simp [-List.length_eq_zero_iff] <;> omega)
     replace hb46 := X.nm hb46
     refine J.skip rfl rfl ?_
     refine J.skip rfl rfl ?_
     refine J.q rfl rfl (Q.pick_f rfl rfl) ?_
     refine J.q rfl rfl (Q.mv rfl) ?_
     refine J.skip rfl rfl ?_
     refine J.skip rfl rfl ?_
     refine J.q rfl rfl (Q.pick_f rfl rfl) ?_
     refine J.q rfl rfl (Q.mv rfl) ?_
     refine J.skip rfl rfl ?_
     refine J.skip rfl rfl ?_
     refine J.q rfl rfl (Q.pick_f rfl rfl) ?_
     refine J.q rfl rfl (Q.mv rfl) ?_
     refine J.skip rfl rfl ?_
     refine J.skip rfl rfl ?_
     refine J.q rfl rfl (Q.pick_f rfl rfl) ?_
     refine J.q rfl rfl (Q.mv rfl) ?_
     refine J.skip rfl rfl ?_
     refine J.skip rfl rfl ?_
     refine J.q rfl rfl (Q.pick_f rfl rfl) ?_
     refine J.q rfl rfl (Q.asg rfl) ?_
     refine J.nil ?_
     refine J.blk_n ?_
     first
       | refine J.meet _ ?_ ⟨rfl, rfl, trivial⟩ rfl
       | (refine J.keep [1, 0, 2] rfl ?_
          refine J.meet _ ?_ ⟨rfl, rfl, trivial⟩ rfl)
     simp_all [-List.length_eq_zero_iff, OM.chkR, emp, longB] <;> first | omega | (rw [Bool.eq_iff_iff]; simp [-List.length_eq_zero_iff] <;> omega)
    replace hb42 := X.nm hb42
    refine J.skip rfl rfl ?_
    refine J.skip rfl rfl ?_
    refine J.q rfl rfl (Q.pick_f rfl rfl) ?_
    refine J.q rfl rfl (Q.mv rfl) ?_
    refine J.skip rfl rfl ?_
    refine J.skip rfl rfl ?_
    refine J.q rfl rfl (Q.pick_f rfl rfl) ?_
    refine J.q rfl rfl (Q.mv rfl) ?_
    refine J.skip rfl rfl ?_
    refine J.skip rfl rfl ?_
    refine J.q rfl rfl (Q.pick_f rfl rfl) ?_
    refine J.q rfl rfl (Q.mv rfl) ?_
    refine J.skip rfl rfl ?_
    refine J.skip rfl rfl ?_
    refine J.q rfl rfl (Q.pick_f rfl rfl) ?_
    refine J.q rfl rfl (Q.mv rfl) ?_
    refine J.skip rfl rfl ?_
    refine J.skip rfl rfl ?_
    refine J.q rfl rfl (Q.pick_f rfl rfl) ?_
    refine J.q rfl rfl (Q.mv rfl) ?_
    refine J.skip rfl rfl ?_
    refine J.skip rfl rfl ?_
    refine J.q rfl rfl (Q.pick_f rfl rfl) ?_
    refine J.q rfl rfl (Q.asg rfl) ?_
    refine J.nil ?_
    refine J.blk_n ?_
    first
      | refine J.meet _ ?_ ⟨rfl, rfl, trivial⟩ rfl
      | (refine J.keep [1, 0, 2] rfl ?_
         refine J.meet _ ?_ ⟨rfl, rfl, trivial⟩ rfl)
    simp_all [-List.length_eq_zero_iff, OM.chkR, emp, longB] <;> first | omega | (rw [Bool.eq_iff_iff]; simp [-List.length_eq_zero_iff] <;> omega)
   replace hc36 := X.nm hc36
   refine J.cond_f rfl ?_
   refine J.seq ?_
   refine J.region ?_
   refine J.q rfl rfl (Q.eql rfl rfl) ?_
   refine J.q rfl rfl (Q.asg rfl) ?_
   refine J.nil ?_
   refine J.then_n ?_
   refine J.cases 66 rfl (fun hc66 => ?_) (fun hc66 => ?_)
   ·
    replace hc66 := X.nm hc66
    refine J.cond_t rfl ?_
    refine J.region ?_
    refine J.q rfl rfl (Q.fa (n := 2) Tryz.runUnderlying27 rfl rfl Tryz.sizeOf9 rfl) ?_
    refine J.q rfl rfl (Q.ld Tryz.isAgg9 rfl (rdI (by exact rfl))) ?_
    refine J.call Tryz.call72 (rname_spec x.o.bucket (by omega)) [] rfl rfl rfl rfl ?_
    rintro _ _ ⟨rfl, rfl⟩
    refine J.norm rfl ?_
    refine J.q rfl rfl (Q.mv rfl) ?_
    refine J.cases 71 rfl (fun hb71 => ?_) (fun hb71 => ?_)
    ·
     replace hb71 := X.nm hb71
     refine J.q rfl rfl (Q.fa (n := 3) Tryz.runUnderlying27 rfl rfl Tryz.sizeOf9 rfl) ?_
     refine J.q rfl rfl (Q.ld Tryz.isAgg9 rfl (rdI (by exact rfl))) ?_
     refine J.call Tryz.call73 (key_spec x.o.key) [] rfl rfl rfl rfl ?_
     rintro _ _ ⟨rfl, rfl⟩
     refine J.norm rfl ?_
     refine J.q rfl rfl (Q.pick_t rfl rfl) ?_
     refine J.q rfl rfl (Q.mv rfl) ?_
     refine J.cases 76 rfl (fun hb76 => ?_) (fun hb76 => ?_)
     ·
      replace hb76 := X.nm hb76
      refine J.q rfl rfl (Q.mv rfl) ?_
      refine J.q rfl rfl (Q.not rfl) ?_
      refine J.q rfl rfl (Q.pick_t rfl rfl) ?_
      refine J.q rfl rfl (Q.mv rfl) ?_
      refine J.cases 80 rfl (fun hb80 => ?_) (fun hb80 => ?_)
      ·
       replace hb80 := X.nm hb80
       refine J.q rfl rfl (Q.mv rfl) ?_
       refine J.q rfl rfl (Q.not rfl) ?_
       refine J.q rfl rfl (Q.pick_t rfl rfl) ?_
       refine J.q rfl rfl (Q.mv rfl) ?_
       refine J.cases 84 rfl (fun hb84 => ?_) (fun hb84 => ?_)
       ·
        replace hb84 := X.nm hb84
        refine J.q rfl rfl (Q.mv rfl) ?_
        refine J.q rfl rfl (Q.not rfl) ?_
        refine J.q rfl rfl (Q.pick_t rfl rfl) ?_
        refine J.q rfl rfl (Q.mv rfl) ?_
        refine J.cases 88 rfl (fun hb88 => ?_) (fun hb88 => ?_)
        ·
         replace hb88 := X.nm hb88
         refine J.q rfl rfl (Q.mv rfl) ?_
         refine J.q rfl rfl (Q.not rfl) ?_
         refine J.q rfl rfl (Q.pick_t rfl rfl) ?_
         refine J.q rfl rfl (Q.mv rfl) ?_
         refine J.cases 92 rfl (fun hb92 => ?_) (fun hb92 => ?_)
         ·
          replace hb92 := X.nm hb92
          refine J.q rfl rfl (Q.fa (n := 8) Tryz.runUnderlying27 rfl rfl Tryz.sizeOf25 rfl) ?_
          refine J.q rfl rfl (Q.ld Tryz.isAgg25 rfl (rdI (by exact rfl))) ?_
          refine J.q rfl rfl (Q.lenSl Tryz.runUnderlying25 rfl) ?_
          refine J.q rfl rfl (Q.leq rfl rfl) ?_
          refine J.q rfl rfl (Q.pick_t rfl rfl) ?_
          refine J.q rfl rfl (Q.asg rfl) ?_
          refine J.nil ?_
          refine J.blk_n ?_
          first
            | refine J.meet _ ?_ ⟨rfl, rfl, trivial⟩ rfl
            | (refine J.keep [1, 0, 2] rfl ?_
               refine J.meet _ ?_ ⟨rfl, rfl, trivial⟩ rfl)
          simp_all [-List.length_eq_zero_iff, OM.chkR, emp, longB] <;> first | omega | (rw [Bool.eq_iff_iff]; simp [-List.length_eq_zero_iff] <;> omega)
         replace hb92 := X.nm hb92
         refine J.skip rfl rfl ?_
         refine J.skip rfl rfl ?_
         refine J.skip rfl rfl ?_
         refine J.skip rfl rfl ?_
         refine J.q rfl rfl (Q.pick_f rfl rfl) ?_
         refine J.q rfl rfl (Q.asg rfl) ?_
         refine J.nil ?_
         refine J.blk_n ?_
         first
           | refine J.meet _ ?_ ⟨rfl, rfl, trivial⟩ rfl
           | (refine J.keep [1, 0, 2] rfl ?_
              refine J.meet _ ?_ ⟨rfl, rfl, trivial⟩ rfl)
         simp_all [-List.length_eq_zero_iff, OM.chkR, emp, longB] <;> first | omega | (rw [Bool.eq_iff_iff]; simp [-List.length_eq_zero_iff] <;> omega)
        replace hb88 := X.nm hb88
        refine J.skip rfl rfl ?_
        refine J.skip rfl rfl ?_
        refine J.q rfl rfl (Q.pick_f rfl rfl) ?_
        refine J.q rfl rfl (Q.mv rfl) ?_
        refine J.skip rfl rfl ?_
        refine J.skip rfl rfl ?_
        refine J.skip rfl rfl ?_
        refine J.skip rfl rfl ?_
        refine J.q rfl rfl (Q.pick_f rfl rfl) ?_
        refine J.q rfl rfl (Q.asg rfl) ?_
        refine J.nil ?_
        refine J.blk_n ?_
        first
          | refine J.meet _ ?_ ⟨rfl, rfl, trivial⟩ rfl
          | (refine J.keep [1, 0, 2] rfl ?_
             refine J.meet _ ?_ ⟨rfl, rfl, trivial⟩ rfl)
        simp_all [-List.length_eq_zero_iff, OM.chkR, emp, longB] <;> first | omega | (rw [Bool.eq_iff_iff]; simp [-List.length_eq_zero_iff] <;> omega)
       replace hb84 := X.nm hb84
       refine J.skip rfl rfl ?_
       refine J.skip rfl rfl ?_
       refine J.q rfl rfl (Q.pick_f rfl rfl) ?_
       refine J.q rfl rfl (Q.mv rfl) ?_
       refine J.skip rfl rfl ?_
       refine J.skip rfl rfl ?_
       refine J.q rfl rfl (Q.pick_f rfl rfl) ?_
       refine J.q rfl rfl (Q.mv rfl) ?_
       refine J.skip rfl rfl ?_
       refine J.skip rfl rfl ?_
       refine J.skip rfl rfl ?_
       refine J.skip rfl rfl ?_
       refine J.q rfl rfl (Q.pick_f rfl rfl) ?_
       refine J.q rfl rfl (Q.asg rfl) ?_
       refine J.nil ?_
       refine J.blk_n ?_
       first
         | refine J.meet _ ?_ ⟨rfl, rfl, trivial⟩ rfl
         | (refine J.keep [1, 0, 2] rfl ?_
            refine J.meet _ ?_ ⟨rfl, rfl, trivial⟩ rfl)
       simp_all [-List.length_eq_zero_iff, OM.chkR, emp, longB] <;> first | omega | (rw [Bool.eq_iff_iff]; simp [-List.length_eq_zero_iff] <;> omega)
      replace hb80 := X.nm hb80
      refine J.skip rfl rfl ?_
      refine J.skip rfl rfl ?_
      refine J.q rfl rfl (Q.pick_f rfl rfl) ?_
      refine J.q rfl rfl (Q.mv rfl) ?_
      refine J.skip rfl rfl ?_
      refine J.skip rfl rfl ?_
      refine J.q rfl rfl (Q.pick_f rfl rfl) ?_
      refine J.q rfl rfl (Q.mv rfl) ?_
      refine J.skip rfl rfl ?_
      refine J.skip rfl rfl ?_
      refine J.q rfl rfl (Q.pick_f rfl rfl) ?_
      refine J.q rfl rfl (Q.mv rfl) ?_
      refine J.skip rfl rfl ?_
      refine J.skip rfl rfl ?_
      refine J.skip rfl rfl ?_
      refine J.skip rfl rfl ?_
      refine J.q rfl rfl (Q.pick_f rfl rfl) ?_
      refine J.q rfl rfl (Q.asg rfl) ?_
      refine J.nil ?_
      refine J.blk_n ?_
      first
        | refine J.meet _ ?_ ⟨rfl, rfl, trivial⟩ rfl
        | (refine J.keep [1, 0, 2] rfl ?_
           refine J.meet _ ?_ ⟨rfl, rfl, trivial⟩ rfl)
      simp_all [-List.length_eq_zero_iff, OM.chkR, emp, longB] <;> first | omega | (rw [Bool.eq_iff_iff]; simp [-List.length_eq_zero_iff] <;> omega)
     replace hb76 := X.nm hb76
     refine J.skip rfl rfl ?_
     refine J.skip rfl rfl ?_
     refine J.q rfl rfl (Q.pick_f rfl rfl) ?_
     refine J.q rfl rfl (Q.mv rfl) ?_
     refine J.skip rfl rfl ?_
     refine J.skip rfl rfl ?_
     refine J.q rfl rfl (Q.pick_f rfl rfl) ?_
     refine J.q rfl rfl (Q.mv rfl) ?_
     refine J.skip rfl rfl ?_
     refine J.skip rfl rfl ?_
     refine J.q rfl rfl (Q.pick_f rfl rfl) ?_
     refine J.q rfl rfl (Q.mv rfl) ?_
     refine J.skip rfl rfl ?_
     refine J.skip rfl rfl ?_
     refine J.q rfl rfl (Q.pick_f rfl rfl) ?_
     refine J.q rfl rfl (Q.mv rfl) ?_
     refine J.skip rfl rfl ?_
     refine J.skip rfl rfl ?_
     refine J.skip rfl rfl ?_
     refine J.skip rfl rfl ?_
     refine J.q rfl rfl (Q.pick_f rfl rfl) ?_
     refine J.q rfl rfl (Q.asg rfl) ?_
     refine J.nil ?_
     refine J.blk_n ?_
     first
       | refine J.meet _ ?_ ⟨rfl, rfl, trivial⟩ rfl
       | (refine J.keep [1, 0, 2] rfl ?_
          refine J.meet _ ?_ ⟨rfl, rfl, trivial⟩ rfl)
     simp_all [-List.length_eq_zero_iff, OM.chkR, emp, longB] <;> first | omega | (rw [Bool.eq_iff_iff]; simp [-List.length_eq_zero_iff] <;> omega)
    replace hb71 := X.nm hb71
    refine J.skip rfl rfl ?_
    refine J.skip rfl rfl ?_
    refine J.skip rfl rfl ?_
    refine J.q rfl rfl (Q.pick_f rfl rfl) ?_
    refine J.q rfl rfl (Q.mv rfl) ?_
    refine J.skip rfl rfl ?_
    refine J.skip rfl rfl ?_
    refine J.q rfl rfl (Q.pick_f rfl rfl) ?_
    refine J.q rfl rfl (Q.mv rfl) ?_
    refine J.skip rfl rfl ?_
    refine J.skip rfl rfl ?_
    refine J.q rfl rfl (Q.pick_f rfl rfl) ?_
    refine J.q rfl rfl (Q.mv rfl) ?_
    refine J.skip rfl rfl ?_
    refine J.skip rfl rfl ?_
    refine J.q rfl rfl (Q.pick_f rfl rfl) ?_
    refine J.q rfl rfl (Q.mv rfl) ?_
    refine J.skip rfl rfl ?_
    refine J.skip rfl rfl ?_
    refine J.q rfl rfl (Q.pick_f rfl rfl) ?_
    refine J.q rfl rfl (Q.mv rfl) ?_
    refine J.skip rfl rfl ?_
    refine J.skip rfl rfl ?_
    refine J.skip rfl rfl ?_
    refine J.skip rfl rfl ?_
    refine J.q rfl rfl (Q.pick_f rfl rfl) ?_
    refine J.q rfl rfl (Q.asg rfl) ?_
    refine J.nil ?_
    refine J.blk_n ?_
    first
      | refine J.meet _ ?_ ⟨rfl, rfl, trivial⟩ rfl
      | (refine J.keep [1, 0, 2] rfl ?_
         refine J.meet _ ?_ ⟨rfl, rfl, trivial⟩ rfl)
    simp_all [-List.length_eq_zero_iff, OM.chkR, emp, longB] <;> first | omega | (rw [Bool.eq_iff_iff]; simp [-List.length_eq_zero_iff] <;> omega)
   replace hc66 := X.nm hc66
   refine J.cond_f rfl ?_
   refine J.seq ?_
   refine J.seq ?_
   refine J.region ?_
   refine J.q rfl rfl (Q.eql rfl rfl) ?_
   refine J.q rfl rfl (Q.asg rfl) ?_
   refine J.nil ?_
   refine J.then_n ?_
   refine J.cases 98 rfl (fun hc98 => ?_) (fun hc98 => ?_)
   ·
    replace hc98 := X.nm hc98
    refine J.cond_t rfl ?_
    refine J.cskip ?_
    refine J.then_n ?_
    refine J.cond_t rfl ?_
    refine J.region ?_
    refine J.q rfl rfl (Q.fa (n := 2) Tryz.runUnderlying27 rfl rfl Tryz.sizeOf9 rfl) ?_
    refine J.q rfl rfl (Q.ld Tryz.isAgg9 rfl (rdI (by exact rfl))) ?_
    refine J.call Tryz.call72 (rname_spec x.o.bucket (by omega)) [] rfl rfl rfl rfl ?_
    rintro _ _ ⟨rfl, rfl⟩
    refine J.norm rfl ?_
    refine J.q rfl rfl (Q.mv rfl) ?_
    refine J.cases 105 rfl (fun hb105 => ?_) (fun hb105 => ?_)
    ·
     replace hb105 := X.nm hb105
     refine J.q rfl rfl (Q.fa (n := 3) Tryz.runUnderlying27 rfl rfl Tryz.sizeOf9 rfl) ?_
     refine J.q rfl rfl (Q.ld Tryz.isAgg9 rfl (rdI (by exact rfl))) ?_
     refine J.call Tryz.call73 (key_spec x.o.key) [] rfl rfl rfl rfl ?_
     rintro _ _ ⟨rfl, rfl⟩
     refine J.norm rfl ?_
     refine J.q rfl rfl (Q.pick_t rfl rfl) ?_
     refine J.q rfl rfl (Q.mv rfl) ?_
     refine J.cases 110 rfl (fun hb110 => ?_) (fun hb110 => ?_)
     ·
      replace hb110 := X.nm hb110
      refine J.q rfl rfl (Q.mv rfl) ?_
      refine J.q rfl rfl (Q.not rfl) ?_
      refine J.q rfl rfl (Q.pick_t rfl rfl) ?_
      refine J.q rfl rfl (Q.mv rfl) ?_
      refine J.cases 114 rfl (fun hb114 => ?_) (fun hb114 => ?_)
      ·
       replace hb114 := X.nm hb114
       refine J.q rfl rfl (Q.mv rfl) ?_
       refine J.q rfl rfl (Q.not rfl) ?_
       refine J.q rfl rfl (Q.pick_t rfl rfl) ?_
       refine J.q rfl rfl (Q.mv rfl) ?_
       refine J.cases 118 rfl (fun hb118 => ?_) (fun hb118 => ?_)
       ·
        replace hb118 := X.nm hb118
        refine J.q rfl rfl (Q.mv rfl) ?_
        refine J.q rfl rfl (Q.not rfl) ?_
        refine J.q rfl rfl (Q.pick_t rfl rfl) ?_
        refine J.q rfl rfl (Q.mv rfl) ?_
        refine J.cases 122 rfl (fun hb122 => ?_) (fun hb122 => ?_)
        ·
         replace hb122 := X.nm hb122
         refine J.q rfl rfl (Q.mv rfl) ?_
         refine J.q rfl rfl (Q.not rfl) ?_
         refine J.q rfl rfl (Q.pick_t rfl rfl) ?_
         refine J.q rfl rfl (Q.mv rfl) ?_
         refine J.cases 126 rfl (fun hb126 => ?_) (fun hb126 => ?_)
         ·
          replace hb126 := X.nm hb126
          refine J.q rfl rfl (Q.mv rfl) ?_
          refine J.q rfl rfl (Q.not rfl) ?_
          refine J.q rfl rfl (Q.pick_t rfl rfl) ?_
          refine J.q rfl rfl (Q.asg rfl) ?_
          refine J.nil ?_
          refine J.blk_n ?_
          first
            | refine J.meet _ ?_ ⟨rfl, rfl, trivial⟩ rfl
            | (refine J.keep [1, 0, 2] rfl ?_
               refine J.meet _ ?_ ⟨rfl, rfl, trivial⟩ rfl)
          simp_all [-List.length_eq_zero_iff, OM.chkR, emp, longB] <;> first | omega | (rw [Bool.eq_iff_iff]; simp [-List.length_eq_zero_iff] <;> omega)
         replace hb126 := X.nm hb126
         refine J.skip rfl rfl ?_
         refine J.skip rfl rfl ?_
         refine J.q rfl rfl (Q.pick_f rfl rfl) ?_
         refine J.q rfl rfl (Q.asg rfl) ?_
         refine J.nil ?_
         refine J.blk_n ?_
         first
           | refine J.meet _ ?_ ⟨rfl, rfl, trivial⟩ rfl
           | (refine J.keep [1, 0, 2] rfl ?_
              refine J.meet _ ?_ ⟨rfl, rfl, trivial⟩ rfl)
         simp_all [-List.length_eq_zero_iff, OM.chkR, emp, longB] <;> first | omega | (rw [Bool.eq_iff_iff]; simp [-List.length_eq_zero_iff] <;> omega)
        replace hb122 := X.nm hb122
        refine J.skip rfl rfl ?_
        refine J.skip rfl rfl ?_
        refine J.q rfl rfl (Q.pick_f rfl rfl) ?_
        refine J.q rfl rfl (Q.mv rfl) ?_
        refine J.skip rfl rfl ?_
        refine J.skip rfl rfl ?_
        refine J.q rfl rfl (Q.pick_f rfl rfl) ?_
        refine J.q rfl rfl (Q.asg rfl) ?_
        refine J.nil ?_
        refine J.blk_n ?_
        first
          | refine J.meet _ ?_ ⟨rfl, rfl, trivial⟩ rfl
          | (refine J.keep [1, 0, 2] rfl ?_
             refine J.meet _ ?_ ⟨rfl, rfl, trivial⟩ rfl)
        simp_all [-List.length_eq_zero_iff, OM.chkR, emp, longB] <;> first | omega | (rw [Bool.eq_iff_iff]; simp [-List.length_eq_zero_iff] <;> omega)
       replace hb118 := X.nm hb118
       refine J.skip rfl rfl ?_
       refine J.skip rfl rfl ?_
       refine J.q rfl rfl (Q.pick_f rfl rfl) ?_
       refine J.q rfl rfl (Q.mv rfl) ?_
       refine J.skip rfl rfl ?_
       refine J.skip rfl rfl ?_
       refine J.q rfl rfl (Q.pick_f rfl rfl) ?_
       refine J.q rfl rfl (Q.mv rfl) ?_
       refine J.skip rfl rfl ?_
       refine J.skip rfl rfl ?_
       refine J.q rfl rfl (Q.pick_f rfl rfl) ?_
       refine J.q rfl rfl (Q.asg rfl) ?_
       refine J.nil ?_
       refine J.blk_n ?_
       first
         | refine J.meet _ ?_ ⟨rfl, rfl, trivial⟩ rfl
         | (refine J.keep [1, 0, 2] rfl ?_
            refine J.meet _ ?_ ⟨rfl, rfl, trivial⟩ rfl)
       simp_all [-List.length_eq_zero_iff, OM.chkR, emp, longB] <;> first | omega | (rw [Bool.eq_iff_iff]; simp [-List.length_eq_zero_iff] <;> omega)
      replace hb114 := X.nm hb114
      refine J.skip rfl rfl ?_
      refine J.skip rfl rfl ?_
      refine J.q rfl rfl (Q.pick_f rfl rfl) ?_
      refine J.q rfl rfl (Q.mv rfl) ?_
      refine J.skip rfl rfl ?_
      refine J.skip rfl rfl ?_
      refine J.q rfl rfl (Q.pick_f rfl rfl) ?_
      refine J.q rfl rfl (Q.mv rfl) ?_
      refine J.skip rfl rfl ?_
      refine J.skip rfl rfl ?_
      refine J.q rfl rfl (Q.pick_f rfl rfl) ?_
      refine J.q rfl rfl (Q.mv rfl) ?_
      refine J.skip rfl rfl ?_
      refine J.skip rfl rfl ?_
      refine J.q rfl rfl (Q.pick_f rfl rfl) ?_
      refine J.q rfl rfl (Q.asg rfl) ?_
      refine J.nil ?_
      refine J.blk_n ?_
      first
        | refine J.meet _ ?_ ⟨rfl, rfl, trivial⟩ rfl
        | (refine J.keep [1, 0, 2] rfl ?_
           refine J.meet _ ?_ ⟨rfl, rfl, trivial⟩ rfl)
      simp_all [-List.length_eq_zero_iff, OM.chkR, emp, longB] <;> first | omega | (rw [Bool.eq_iff_iff]; simp [-List.length_eq_zero_iff] <;> omega)
     replace hb110 := X.nm hb110
     refine J.skip rfl rfl ?_
     refine J.skip rfl rfl ?_
     refine J.q rfl rfl (Q.pick_f rfl rfl) ?_
     refine J.q rfl rfl (Q.mv rfl) ?_
     refine J.skip rfl rfl ?_
     refine J.skip rfl rfl ?_
     refine J.q rfl rfl (Q.pick_f rfl rfl) ?_
     refine J.q rfl rfl (Q.mv rfl) ?_
     refine J.skip rfl rfl ?_
     refine J.skip rfl rfl ?_
     refine J.q rfl rfl (Q.pick_f rfl rfl) ?_
     refine J.q rfl rfl (Q.mv rfl) ?_
     refine J.skip rfl rfl ?_
     refine J.skip rfl rfl ?_
     refine J.q rfl rfl (Q.pick_f rfl rfl) ?_
     refine J.q rfl rfl (Q.mv rfl) ?_
     refine J.skip rfl rfl ?_
     refine J.skip rfl rfl ?_
     refine J.q rfl rfl (Q.pick_f rfl rfl) ?_
     refine J.q rfl rfl (Q.asg rfl) ?_
     refine J.nil ?_
     refine J.blk_n ?_
     first
       | refine J.meet _ ?_ ⟨rfl, rfl, trivial⟩ rfl
       | (refine J.keep [1, 0, 2] rfl ?_
          refine J.meet _ ?_ ⟨rfl, rfl, trivial⟩ rfl)
     simp_all [-List.length_eq_zero_iff, OM.chkR, emp, longB] <;> first | omega | (rw [Bool.eq_iff_iff]; simp [-List.length_eq_zero_iff] <;> omega)
    replace hb105 := X.nm hb105
    refine J.skip rfl rfl ?_
    refine J.skip rfl rfl ?_
    refine J.skip rfl rfl ?_
    refine J.q rfl rfl (Q.pick_f rfl rfl) ?_
    refine J.q rfl rfl (Q.mv rfl) ?_
    refine J.skip rfl rfl ?_
    refine J.skip rfl rfl ?_
    refine J.q rfl rfl (Q.pick_f rfl rfl) ?_
    refine J.q rfl rfl (Q.mv rfl) ?_
    refine J.skip rfl rfl ?_
    refine J.skip rfl rfl ?_
    refine J.q rfl rfl (Q.pick_f rfl rfl) ?_
    refine J.q rfl rfl (Q.mv rfl) ?_
    refine J.skip rfl rfl ?_
    refine J.skip rfl rfl ?_
    refine J.q rfl rfl (Q.pick_f rfl rfl) ?_
    refine J.q rfl rfl (Q.mv rfl) ?_
    refine J.skip rfl rfl ?_
    refine J.skip rfl rfl ?_
    refine J.q rfl rfl (Q.pick_f rfl rfl) ?_
    refine J.q rfl rfl (Q.mv rfl) ?_
    refine J.skip rfl rfl ?_
    refine J.skip rfl rfl ?_
    refine J.q rfl rfl (Q.pick_f rfl rfl) ?_
    refine J.q rfl rfl (Q.asg rfl) ?_
    refine J.nil ?_
    refine J.blk_n ?_
    first
      | refine J.meet _ ?_ ⟨rfl, rfl, trivial⟩ rfl
      | (refine J.keep [1, 0, 2] rfl ?_
         refine J.meet _ ?_ ⟨rfl, rfl, trivial⟩ rfl)
    simp_all [-List.length_eq_zero_iff, OM.chkR, emp, longB] <;> first | omega | (rw [Bool.eq_iff_iff]; simp [-List.length_eq_zero_iff] <;> omega)
   replace hc98 := X.nm hc98
   refine J.cond_f rfl ?_
   refine J.seq ?_
   refine J.region ?_
   refine J.q rfl rfl (Q.eql rfl rfl) ?_
   refine J.q rfl rfl (Q.asg rfl) ?_
   refine J.nil ?_
   refine J.then_n ?_
   refine J.cases 98 rfl (fun hc98 => ?_) (fun hc98 => ?_)
   ·
    replace hc98 := X.nm hc98
    refine J.cond_t rfl ?_
    refine J.cskip ?_
    refine J.then_n ?_
    refine J.cond_t rfl ?_
    refine J.region ?_
    refine J.q rfl rfl (Q.fa (n := 2) Tryz.runUnderlying27 rfl rfl Tryz.sizeOf9 rfl) ?_
    refine J.q rfl rfl (Q.ld Tryz.isAgg9 rfl (rdI (by exact rfl))) ?_
    refine J.call Tryz.call72 (rname_spec x.o.bucket (by omega)) [] rfl rfl rfl rfl ?_
    rintro _ _ ⟨rfl, rfl⟩
    refine J.norm rfl ?_
    refine J.q rfl rfl (Q.mv rfl) ?_
    refine J.cases 105 rfl (fun hb105 => ?_) (fun hb105 => ?_)
    ·
     replace hb105 := X.nm hb105
     refine J.q rfl rfl (Q.fa (n := 3) Tryz.runUnderlying27 rfl rfl Tryz.sizeOf9 rfl) ?_
     refine J.q rfl rfl (Q.ld Tryz.isAgg9 rfl (rdI (by exact rfl))) ?_
     refine J.call Tryz.call73 (key_spec x.o.key) [] rfl rfl rfl rfl ?_
     rintro _ _ ⟨rfl, rfl⟩
     refine J.norm rfl ?_
     refine J.q rfl rfl (Q.pick_t rfl rfl) ?_
     refine J.q rfl rfl (Q.mv rfl) ?_
     refine J.cases 110 rfl (fun hb110 => ?_) (fun hb110 => ?_)
     ·
      replace hb110 := X.nm hb110
      refine J.q rfl rfl (Q.mv rfl) ?_
      refine J.q rfl rfl (Q.not rfl) ?_
      refine J.q rfl rfl (Q.pick_t rfl rfl) ?_
      refine J.q rfl rfl (Q.mv rfl) ?_
      refine J.cases 114 rfl (fun hb114 => ?_) (fun hb114 => ?_)
      ·
       replace hb114 := X.nm hb114
       refine J.q rfl rfl (Q.mv rfl) ?_
       refine J.q rfl rfl (Q.not rfl) ?_
       refine J.q rfl rfl (Q.pick_t rfl rfl) ?_
       refine J.q rfl rfl (Q.mv rfl) ?_
       refine J.cases 118 rfl (fun hb118 => ?_) (fun hb118 => ?_)
       ·
        replace hb118 := X.nm hb118
        refine J.q rfl rfl (Q.mv rfl) ?_
        refine J.q rfl rfl (Q.not rfl) ?_
        refine J.q rfl rfl (Q.pick_t rfl rfl) ?_
        refine J.q rfl rfl (Q.mv rfl) ?_
        refine J.cases 122 rfl (fun hb122 => ?_) (fun hb122 => ?_)
        ·
         replace hb122 := X.nm hb122
         refine J.q rfl rfl (Q.mv rfl) ?_
         refine J.q rfl rfl (Q.not rfl) ?_
         refine J.q rfl rfl (Q.pick_t rfl rfl) ?_
         refine J.q rfl rfl (Q.mv rfl) ?_
         refine J.cases 126 rfl (fun hb126 => ?_) (fun hb126 => ?_)
         ·
          replace hb126 := X.nm hb126
          refine J.q rfl rfl (Q.mv rfl) ?_
          refine J.q rfl rfl (Q.not rfl) ?_
          refine J.q rfl rfl (Q.pick_t rfl rfl) ?_
          refine J.q rfl rfl (Q.asg rfl) ?_
          refine J.nil ?_
          refine J.blk_n ?_
          first
            | refine J.meet _ ?_ ⟨rfl, rfl, trivial⟩ rfl
            | (refine J.keep [1, 0, 2] rfl ?_
               refine J.meet _ ?_ ⟨rfl, rfl, trivial⟩ rfl)
          simp_all [-List.length_eq_zero_iff, OM.chkR, emp, longB] <;> first | omega | (rw [Bool.eq_iff_iff]; simp [-List.length_eq_zero_iff] <;> omega)
         replace hb126 := X.nm hb126
         refine J.skip rfl rfl ?_
         refine J.skip rfl rfl ?_
         refine J.q rfl rfl (Q.pick_f rfl rfl) ?_
         refine J.q rfl rfl (Q.asg rfl) ?_
         refine J.nil ?_
         refine J.blk_n ?_
         first
           | refine J.meet _ ?_ ⟨rfl, rfl, trivial⟩ rfl
           | (refine J.keep [1, 0, 2] rfl ?_
              refine J.meet _ ?_ ⟨rfl, rfl, trivial⟩ rfl)
         simp_all [-List.length_eq_zero_iff, OM.chkR, emp, longB] <;> first | omega | (rw [Bool.eq_iff_iff]; simp [-List.length_eq_zero_iff] <;> omega)
        replace hb122 := X.nm hb122
        refine J.skip rfl rfl ?_
        refine J.skip rfl rfl ?_
        refine J.q rfl rfl (Q.pick_f rfl rfl) ?_
        refine J.q rfl rfl (Q.mv rfl) ?_
        refine J.skip rfl rfl ?_
        refine J.skip rfl rfl ?_
        refine J.q rfl rfl (Q.pick_f rfl rfl) ?_
        refine J.q rfl rfl (Q.asg rfl) ?_
        refine J.nil ?_
        refine J.blk_n ?_
        first
          | refine J.meet _ ?_ ⟨rfl, rfl, trivial⟩ rfl
          | (refine J.keep [1, 0, 2] rfl ?_
             refine J.meet _ ?_ ⟨rfl, rfl, trivial⟩ rfl)
        simp_all [-List.length_eq_zero_iff, OM.chkR, emp, longB] <;> first | omega | (rw [Bool.eq_iff_iff]; simp [-List.length_eq_zero_iff] <;> omega)
       replace hb118 := X.nm hb118
       refine J.skip rfl rfl ?_
       refine J.skip rfl rfl ?_
       refine J.q rfl rfl (Q.pick_f rfl rfl) ?_
       refine J.q rfl rfl (Q.mv rfl) ?_
       refine J.skip rfl rfl ?_
       refine J.skip rfl rfl ?_
       refine J.q rfl rfl (Q.pick_f rfl rfl) ?_
       refine J.q rfl rfl (Q.mv rfl) ?_
       refine J.skip rfl rfl ?_
       refine J.skip rfl rfl ?_
       refine J.q rfl rfl (Q.pick_f rfl rfl) ?_
       refine J.q rfl rfl (Q.asg rfl) ?_
       refine J.nil ?_
       refine J.blk_n ?_
       first
         | refine J.meet _ ?_ ⟨rfl, rfl, trivial⟩ rfl
         | (refine J.keep [1, 0, 2] rfl ?_
            refine J.meet _ ?_ ⟨rfl, rfl, trivial⟩ rfl)
       simp_all [-List.length_eq_zero_iff, OM.chkR, emp, longB] <;> first | omega | (rw [Bool.eq_iff_iff]; simp [-List.length_eq_zero_iff] <;> omega)
      replace hb114 := X.nm hb114
      refine J.skip rfl rfl ?_
      refine J.skip rfl rfl ?_
      refine J.q rfl rfl (Q.pick_f rfl rfl) ?_
      refine J.q rfl rfl (Q.mv rfl) ?_
      refine J.skip rfl rfl ?_
      refine J.skip rfl rfl ?_
      refine J.q rfl rfl (Q.pick_f rfl rfl) ?_
      refine J.q rfl rfl (Q.mv rfl) ?_
      refine J.skip rfl rfl ?_
      refine J.skip rfl rfl ?_
      refine J.q rfl rfl (Q.pick_f rfl rfl) ?_
      refine J.q rfl rfl (Q.mv rfl) ?_
      refine J.skip rfl rfl ?_
      refine J.skip rfl rfl ?_
      refine J.q rfl rfl (Q.pick_f rfl rfl) ?_
      refine J.q rfl rfl (Q.asg rfl) ?_
      refine J.nil ?_
      refine J.blk_n ?_
      first
        | refine J.meet _ ?_ ⟨rfl, rfl, trivial⟩ rfl
        | (refine J.keep [1, 0, 2] rfl ?_
           refine J.meet _ ?_ ⟨rfl, rfl, trivial⟩ rfl)
      simp_all [-List.length_eq_zero_iff, OM.chkR, emp, longB] <;> first | omega | (rw [Bool.eq_iff_iff]; simp [-List.length_eq_zero_iff] <;> omega)
     replace hb110 := X.nm hb110
     refine J.skip rfl rfl ?_
     refine J.skip rfl rfl ?_
     refine J.q rfl rfl (Q.pick_f rfl rfl) ?_
     refine J.q rfl rfl (Q.mv rfl) ?_
     refine J.skip rfl rfl ?_
     refine J.skip rfl rfl ?_
     refine J.q rfl rfl (Q.pick_f rfl rfl) ?_
     refine J.q rfl rfl (Q.mv rfl) ?_
     refine J.skip rfl rfl ?_
     refine J.skip rfl rfl ?_
     refine J.q rfl rfl (Q.pick_f rfl rfl) ?_
     refine J.q rfl rfl (Q.mv rfl) ?_
     refine J.skip rfl rfl ?_
     refine J.skip rfl rfl ?_
     refine J.q rfl rfl (Q.pick_f rfl rfl) ?_
     refine J.q rfl rfl (Q.mv rfl) ?_
     refine J.skip rfl rfl ?_
     refine J.skip rfl rfl ?_
     refine J.q rfl rfl (Q.pick_f rfl rfl) ?_
     refine J.q rfl rfl (Q.asg rfl) ?_
     refine J.nil ?_
     refine J.blk_n ?_
     first
       | refine J.meet _ ?_ ⟨rfl, rfl, trivial⟩ rfl
       | (refine J.keep [1, 0, 2] rfl ?_
          refine J.meet _ ?_ ⟨rfl, rfl, trivial⟩ rfl)
     simp_all [-List.length_eq_zero_iff, OM.chkR, emp, longB] <;> first | omega | (rw [Bool.eq_iff_iff]; simp [-List.length_eq_zero_iff] <;> omega)
    replace hb105 := X.nm hb105
    refine J.skip rfl rfl ?_
    refine J.skip rfl rfl ?_
    refine J.skip rfl rfl ?_
    refine J.q rfl rfl (Q.pick_f rfl rfl) ?_
    refine J.q rfl rfl (Q.mv rfl) ?_
    refine J.skip rfl rfl ?_
    refine J.skip rfl rfl ?_
    refine J.q rfl rfl (Q.pick_f rfl rfl) ?_
    refine J.q rfl rfl (Q.mv rfl) ?_
    refine J.skip rfl rfl ?_
    refine J.skip rfl rfl ?_
    refine J.q rfl rfl (Q.pick_f rfl rfl) ?_
    refine J.q rfl rfl (Q.mv rfl) ?_
    refine J.skip rfl rfl ?_
    refine J.skip rfl rfl ?_
    refine J.q rfl rfl (Q.pick_f rfl rfl) ?_
    refine J.q rfl rfl (Q.mv rfl) ?_
    refine J.skip rfl rfl ?_
    refine J.skip rfl rfl ?_
    refine J.q rfl rfl (Q.pick_f rfl rfl) ?_
    refine J.q rfl rfl (Q.mv rfl) ?_
    refine J.skip rfl rfl ?_
    refine J.skip rfl rfl ?_
    refine J.q rfl rfl (Q.pick_f rfl rfl) ?_
    refine J.q rfl rfl (Q.asg rfl) ?_
    refine J.nil ?_
    refine J.blk_n ?_
    first
      | refine J.meet _ ?_ ⟨rfl, rfl, trivial⟩ rfl
      | (refine J.keep [1, 0, 2] rfl ?_
         refine J.meet _ ?_ ⟨rfl, rfl, trivial⟩ rfl)
    simp_all [-List.length_eq_zero_iff, OM.chkR, emp, longB] <;> first | omega | (rw [Bool.eq_iff_iff]; simp [-List.length_eq_zero_iff] <;> omega)
   replace hc98 := X.nm hc98
   refine J.cond_f rfl ?_
   refine J.region ?_
   refine J.q rfl rfl (Q.eql rfl rfl) ?_
   refine J.q rfl rfl (Q.asg rfl) ?_
   refine J.nil ?_
   refine J.then_n ?_
   refine J.cases 98 rfl (fun hc98 => ?_) (fun hc98 => ?_)
   ·
    replace hc98 := X.nm hc98
    refine J.cond_t rfl ?_
    refine J.region ?_
    refine J.q rfl rfl (Q.fa (n := 2) Tryz.runUnderlying27 rfl rfl Tryz.sizeOf9 rfl) ?_
    refine J.q rfl rfl (Q.ld Tryz.isAgg9 rfl (rdI (by exact rfl))) ?_
    refine J.call Tryz.call72 (rname_spec x.o.bucket (by omega)) [] rfl rfl rfl rfl ?_
    rintro _ _ ⟨rfl, rfl⟩
    refine J.norm rfl ?_
    refine J.q rfl rfl (Q.mv rfl) ?_
    refine J.cases 105 rfl (fun hb105 => ?_) (fun hb105 => ?_)
    ·
     replace hb105 := X.nm hb105
     refine J.q rfl rfl (Q.fa (n := 3) Tryz.runUnderlying27 rfl rfl Tryz.sizeOf9 rfl) ?_
     refine J.q rfl rfl (Q.ld Tryz.isAgg9 rfl (rdI (by exact rfl))) ?_
     refine J.call Tryz.call73 (key_spec x.o.key) [] rfl rfl rfl rfl ?_
     rintro _ _ ⟨rfl, rfl⟩
     refine J.norm rfl ?_
     refine J.q rfl rfl (Q.pick_t rfl rfl) ?_
     refine J.q rfl rfl (Q.mv rfl) ?_
     refine J.cases 110 rfl (fun hb110 => ?_) (fun hb110 => ?_)
     ·
      replace hb110 := X.nm hb110
      refine J.q rfl rfl (Q.mv rfl) ?_
      refine J.q rfl rfl (Q.not rfl) ?_
      refine J.q rfl rfl (Q.pick_t rfl rfl) ?_
      refine J.q rfl rfl (Q.mv rfl) ?_
      refine J.cases 114 rfl (fun hb114 => ?_) (fun hb114 => ?_)
      ·
       replace hb114 := X.nm hb114
       refine J.q rfl rfl (Q.mv rfl) ?_
       refine J.q rfl rfl (Q.not rfl) ?_
       refine J.q rfl rfl (Q.pick_t rfl rfl) ?_
       refine J.q rfl rfl (Q.mv rfl) ?_
       refine J.cases 118 rfl (fun hb118 => ?_) (fun hb118 => ?_)
       ·
        replace hb118 := X.nm hb118
        refine J.q rfl rfl (Q.mv rfl) ?_
        refine J.q rfl rfl (Q.not rfl) ?_
        refine J.q rfl rfl (Q.pick_t rfl rfl) ?_
        refine J.q rfl rfl (Q.mv rfl) ?_
        refine J.cases 122 rfl (fun hb122 => ?_) (fun hb122 => ?_)
        ·
         replace hb122 := X.nm hb122
         refine J.q rfl rfl (Q.mv rfl) ?_
         refine J.q rfl rfl (Q.not rfl) ?_
         refine J.q rfl rfl (Q.pick_t rfl rfl) ?_
         refine J.q rfl rfl (Q.mv rfl) ?_
         refine J.cases 126 rfl (fun hb126 => ?_) (fun hb126 => ?_)
         ·
          replace hb126 := X.nm hb126
          refine J.q rfl rfl (Q.mv rfl) ?_
          refine J.q rfl rfl (Q.not rfl) ?_
          refine J.q rfl rfl (Q.pick_t rfl rfl) ?_
          refine J.q rfl rfl (Q.asg rfl) ?_
          refine J.nil ?_
          refine J.blk_n ?_
          first
            | refine J.meet _ ?_ ⟨rfl, rfl, trivial⟩ rfl
            | (refine J.keep [1, 0, 2] rfl ?_
               refine J.meet _ ?_ ⟨rfl, rfl, trivial⟩ rfl)
          simp_all [-List.length_eq_zero_iff, OM.chkR, emp, longB] <;> first | omega | (rw [Bool.eq_iff_iff]; simp [-List.length_eq_zero_iff] <;> omega)
         replace hb126 := X.nm hb126
         refine J.skip rfl rfl ?_
         refine J.skip rfl rfl ?_
         refine J.q rfl rfl (Q.pick_f rfl rfl) ?_
         refine J.q rfl rfl (Q.asg rfl) ?_
         refine J.nil ?_
         refine J.blk_n ?_
         first
           | refine J.meet _ ?_ ⟨rfl, rfl, trivial⟩ rfl
           | (refine J.keep [1, 0, 2] rfl ?_
              refine J.meet _ ?_ ⟨rfl, rfl, trivial⟩ rfl)
         simp_all [-List.length_eq_zero_iff, OM.chkR, emp, longB] <;> first | omega | (rw [Bool.eq_iff_iff]; simp [-List.length_eq_zero_iff] <;> omega)
        replace hb122 := X.nm hb122
        refine J.skip rfl rfl ?_
        refine J.skip rfl rfl ?_
        refine J.q rfl rfl (Q.pick_f rfl rfl) ?_
        refine J.q rfl rfl (Q.mv rfl) ?_
        refine J.skip rfl rfl ?_
        refine J.skip rfl rfl ?_
        refine J.q rfl rfl (Q.pick_f rfl rfl) ?_
        refine J.q rfl rfl (Q.asg rfl) ?_
        refine J.nil ?_
        refine J.blk_n ?_
        first
          | refine J.meet _ ?_ ⟨rfl, rfl, trivial⟩ rfl
          | (refine J.keep [1, 0, 2] rfl ?_
             refine J.meet _ ?_ ⟨rfl, rfl, trivial⟩ rfl)
        simp_all [-List.length_eq_zero_iff, OM.chkR, emp, longB] <;> first | omega | (rw [Bool.eq_iff_iff]; simp [-List.length_eq_zero_iff] <;> omega)
       replace hb118 := X.nm hb118
       refine J.skip rfl rfl ?_
       refine J.skip rfl rfl ?_
       refine J.q rfl rfl (Q.pick_f rfl rfl) ?_
       refine J.q rfl rfl (Q.mv rfl) ?_
       refine J.skip rfl rfl ?_
       refine J.skip rfl rfl ?_
       refine J.q rfl rfl (Q.pick_f rfl rfl) ?_
       refine J.q rfl rfl (Q.mv rfl) ?_
       refine J.skip rfl rfl ?_
       refine J.skip rfl rfl ?_
       refine J.q rfl rfl (Q.pick_f rfl rfl) ?_
       refine J.q rfl rfl (Q.asg rfl) ?_
       refine J.nil ?_
       refine J.blk_n ?_
       first
         | refine J.meet _ ?_ ⟨rfl, rfl, trivial⟩ rfl
         | (refine J.keep [1, 0, 2] rfl ?_
            refine J.meet _ ?_ ⟨rfl, rfl, trivial⟩ rfl)
       simp_all [-List.length_eq_zero_iff, OM.chkR, emp, longB] <;> first | omega | (rw [Bool.eq_iff_iff]; simp [-List.length_eq_zero_iff] <;> omega)
      replace hb114 := X.nm hb114
      refine J.skip rfl rfl ?_
      refine J.skip rfl rfl ?_
      refine J.q rfl rfl (Q.pick_f rfl rfl) ?_
      refine J.q rfl rfl (Q.mv rfl) ?_
      refine J.skip rfl rfl ?_
      refine J.skip rfl rfl ?_
      refine J.q rfl rfl (Q.pick_f rfl rfl) ?_
      refine J.q rfl rfl (Q.mv rfl) ?_
      refine J.skip rfl rfl ?_
      refine J.skip rfl rfl ?_
      refine J.q rfl rfl (Q.pick_f rfl rfl) ?_
      refine J.q rfl rfl (Q.mv rfl) ?_
      refine J.skip rfl rfl ?_
      refine J.skip rfl rfl ?_
      refine J.q rfl rfl (Q.pick_f rfl rfl) ?_
      refine J.q rfl rfl (Q.asg rfl) ?_
      refine J.nil ?_
      refine J.blk_n ?_
      first
        | refine J.meet _ ?_ ⟨rfl, rfl, trivial⟩ rfl
        | (refine J.keep [1, 0, 2] rfl ?_
           refine J.meet _ ?_ ⟨rfl, rfl, trivial⟩ rfl)
      simp_all [-List.length_eq_zero_iff, OM.chkR, emp, longB] <;> first | omega | (rw [Bool.eq_iff_iff]; simp [-List.length_eq_zero_iff] <;> omega)
     replace hb110 := X.nm hb110
     refine J.skip rfl rfl ?_
     refine J.skip rfl rfl ?_
     refine J.q rfl rfl (Q.pick_f rfl rfl) ?_
     refine J.q rfl rfl (Q.mv rfl) ?_
     refine J.skip rfl rfl ?_
     refine J.skip rfl rfl ?_
     refine J.q rfl rfl (Q.pick_f rfl rfl) ?_
     refine J.q rfl rfl (Q.mv rfl) ?_
     refine J.skip rfl rfl ?_
     refine J.skip rfl rfl ?_
     refine J.q rfl rfl (Q.pick_f rfl rfl) ?_
     refine J.q rfl rfl (Q.mv rfl) ?_
     refine J.skip rfl rfl ?_
     refine J.skip rfl rfl ?_
     refine J.q rfl rfl (Q.pick_f rfl rfl) ?_
     refine J.q rfl rfl (Q.mv rfl) ?_
     refine J.skip rfl rfl ?_
     refine J.skip rfl rfl ?_
     refine J.q rfl rfl (Q.pick_f rfl rfl) ?_
     refine J.q rfl rfl (Q.asg rfl) ?_
     refine J.nil ?_
     refine J.blk_n ?_
     first
       | refine J.meet _ ?_ ⟨rfl, rfl, trivial⟩ rfl
       | (refine J.keep [1, 0, 2] rfl ?_
          refine J.meet _ ?_ ⟨rfl, rfl, trivial⟩ rfl)
     simp_all [-List.length_eq_zero_iff, OM.chkR, emp, longB] <;> first | omega | (rw [Bool.eq_iff_iff]; simp [-List.length_eq_zero_iff] <;> omega)
    replace hb105 := X.nm hb105
    refine J.skip rfl rfl ?_
    refine J.skip rfl rfl ?_
    refine J.skip rfl rfl ?_
    refine J.q rfl rfl (Q.pick_f rfl rfl) ?_
    refine J.q rfl rfl (Q.mv rfl) ?_
    refine J.skip rfl rfl ?_
    refine J.skip rfl rfl ?_
    refine J.q rfl rfl (Q.pick_f rfl rfl) ?_
    refine J.q rfl rfl (Q.mv rfl) ?_
    refine J.skip rfl rfl ?_
    refine J.skip rfl rfl ?_
    refine J.q rfl rfl (Q.pick_f rfl rfl) ?_
    refine J.q rfl rfl (Q.mv rfl) ?_
    refine J.skip rfl rfl ?_
    refine J.skip rfl rfl ?_
    refine J.q rfl rfl (Q.pick_f rfl rfl) ?_
    refine J.q rfl rfl (Q.mv rfl) ?_
    refine J.skip rfl rfl ?_
    refine J.skip rfl rfl ?_
    refine J.q rfl rfl (Q.pick_f rfl rfl) ?_
    refine J.q rfl rfl (Q.mv rfl) ?_
    refine J.skip rfl rfl ?_
    refine J.skip rfl rfl ?_
    refine J.q rfl rfl (Q.pick_f rfl rfl) ?_
    refine J.q rfl rfl (Q.asg rfl) ?_
    refine J.nil ?_
    refine J.blk_n ?_
    first
      | refine J.meet _ ?_ ⟨rfl, rfl, trivial⟩ rfl
      | (refine J.keep [1, 0, 2] rfl ?_
         refine J.meet _ ?_ ⟨rfl, rfl, trivial⟩ rfl)
    simp_all [-List.length_eq_zero_iff, OM.chkR, emp, longB] <;> first | omega | (rw [Bool.eq_iff_iff]; simp [-List.length_eq_zero_iff] <;> omega)
   replace hc98 := X.nm hc98
   refine J.cond_f rfl ?_
   refine J.seq ?_
   refine J.region ?_
   refine J.q rfl rfl (Q.eql rfl rfl) ?_
   refine J.q rfl rfl (Q.asg rfl) ?_
   refine J.nil ?_
   refine J.then_n ?_
   refine J.cases 130 rfl (fun hc130 => ?_) (fun hc130 => ?_)
   ·
    replace hc130 := X.nm hc130
    refine J.cond_t rfl ?_
    refine J.region ?_
    refine J.q rfl rfl (Q.fa (n := 2) Tryz.runUnderlying27 rfl rfl Tryz.sizeOf9 rfl) ?_
    refine J.q rfl rfl (Q.ld Tryz.isAgg9 rfl (rdI (by exact rfl))) ?_
    refine J.call Tryz.call72 (rname_spec x.o.bucket (by omega)) [] rfl rfl rfl rfl ?_
    rintro _ _ ⟨rfl, rfl⟩
    refine J.norm rfl ?_
    refine J.q rfl rfl (Q.mv rfl) ?_
    refine J.cases 135 rfl (fun hb135 => ?_) (fun hb135 => ?_)
    ·
     replace hb135 := X.nm hb135
     refine J.q rfl rfl (Q.fa (n := 3) Tryz.runUnderlying27 rfl rfl Tryz.sizeOf9 rfl) ?_
     refine J.q rfl rfl (Q.ld Tryz.isAgg9 rfl (rdI (by exact rfl))) ?_
     refine J.q rfl rfl (Q.lenS Tryz.runUnderlying9 rfl) ?_
     refine J.q rfl rfl (Q.leq rfl rfl) ?_
     refine J.q rfl rfl (Q.pick_t rfl rfl) ?_
     refine J.q rfl rfl (Q.mv rfl) ?_
     refine J.cases 141 rfl (fun hb141 => ?_) (fun hb141 => ?_)
     ·
      replace hb141 := X.nm hb141
      refine J.q rfl rfl (Q.fa (n := 4) Tryz.runUnderlying27 rfl rfl Tryz.sizeOf9 rfl) ?_
      refine J.q rfl rfl (Q.ld Tryz.isAgg9 rfl (rdI (by exact rfl))) ?_
      refine J.q rfl rfl (Q.lenS Tryz.runUnderlying9 rfl) ?_
      refine J.q rfl rfl (Q.leq rfl rfl) ?_
      refine J.q rfl rfl (Q.pick_t rfl rfl) ?_
      refine J.q rfl rfl (Q.mv rfl) ?_
      refine J.cases 147 rfl (fun hb147 => ?_) (fun hb147 => ?_)
      ·
       replace hb147 := X.nm hb147
       refine J.q rfl rfl (Q.fa (n := 5) Tryz.runUnderlying27 rfl rfl Tryz.sizeOf3 rfl) ?_
       refine J.q rfl rfl (Q.ld Tryz.isAgg3 rfl (rdI (by exact rfl))) ?_
       refine J.q rfl rfl (Q.geq rfl rfl) ?_
       refine J.q rfl rfl (Q.pick_t rfl rfl) ?_
       refine J.q rfl rfl (Q.mv rfl) ?_
       refine J.cases 152 rfl (fun hb152 => ?_) (fun hb152 => ?_)
       ·
        replace hb152 := X.nm hb152
        refine J.q rfl rfl (Q.fa (n := 5) Tryz.runUnderlying27 rfl rfl Tryz.sizeOf3 rfl) ?_
        refine J.q rfl rfl (Q.ld Tryz.isAgg3 rfl (rdI (by exact rfl))) ?_
        refine J.q rfl rfl (Q.leq rfl rfl) ?_
        refine J.q rfl rfl (Q.pick_t rfl rfl) ?_
        refine J.q rfl rfl (Q.mv rfl) ?_
        refine J.cases 157 rfl (fun hb157 => ?_) (fun hb157 => ?_)
        ·
         replace hb157 := X.nm hb157
         refine J.q rfl rfl (Q.mv rfl) ?_
         refine J.q rfl rfl (Q.not rfl) ?_
         refine J.q rfl rfl (Q.pick_t rfl rfl) ?_
         refine J.q rfl rfl (Q.mv rfl) ?_
         refine J.cases 161 rfl (fun hb161 => ?_) (fun hb161 => ?_)
         ·
          replace hb161 := X.nm hb161
          refine J.q rfl rfl (Q.mv rfl) ?_
          refine J.q rfl rfl (Q.not rfl) ?_
          refine J.q rfl rfl (Q.pick_t rfl rfl) ?_
          refine J.q rfl rfl (Q.mv rfl) ?_
          refine J.cases 165 rfl (fun hb165 => ?_) (fun hb165 => ?_)
          ·
           replace hb165 := X.nm hb165
           refine J.q rfl rfl (Q.mv rfl) ?_
           refine J.q rfl rfl (Q.not rfl) ?_
           refine J.q rfl rfl (Q.pick_t rfl rfl) ?_
           refine J.q rfl rfl (Q.asg rfl) ?_
           refine J.nil ?_
           refine J.blk_n ?_
           first
             | refine J.meet _ ?_ ⟨rfl, rfl, trivial⟩ rfl
             | (refine J.keep [1, 0, 2] rfl ?_
                refine J.meet _ ?_ ⟨rfl, rfl, trivial⟩ rfl)
           simp_all [-List.length_eq_zero_iff, OM.chkR, emp, longB] <;> first | omega | (rw [Bool.eq_iff_iff]; simp [-List.length_eq_zero_iff] <;> omega)
          replace hb165 := X.nm hb165
          refine J.skip rfl rfl ?_
          refine J.skip rfl rfl ?_
          refine J.q rfl rfl (Q.pick_f rfl rfl) ?_
          refine J.q rfl rfl (Q.asg rfl) ?_
          refine J.nil ?_
          refine J.blk_n ?_
          first
            | refine J.meet _ ?_ ⟨rfl, rfl, trivial⟩ rfl
            | (refine J.keep [1, 0, 2] rfl ?_
               refine J.meet _ ?_ ⟨rfl, rfl, trivial⟩ rfl)
          simp_all [-List.length_eq_zero_iff, OM.chkR, emp, longB] <;> first | omega | (rw [Bool.eq_iff_iff]; simp [-List.length_eq_zero_iff] <;> omega)
         replace hb161 := X.nm hb161
         refine J.skip rfl rfl ?_
         refine J.skip rfl rfl ?_
         refine J.q rfl rfl (Q.pick_f rfl rfl) ?_
         refine J.q rfl rfl (Q.mv rfl) ?_
         refine J.skip rfl rfl ?_
         refine J.skip rfl rfl ?_
         refine J.q rfl rfl (Q.pick_f rfl rfl) ?_
         refine J.q rfl rfl (Q.asg rfl) ?_
         refine J.nil ?_
         refine J.blk_n ?_
         first
           | refine J.meet _ ?_ ⟨rfl, rfl, trivial⟩ rfl
           | (refine J.keep [1, 0, 2] rfl ?_
              refine J.meet _ ?_ ⟨rfl, rfl, trivial⟩ rfl)
         simp_all [-List.length_eq_zero_iff, OM.chkR, emp, longB] <;> first | omega | (rw [Bool.eq_iff_iff]; simp [-List.length_eq_zero_iff] <;> omega)
        replace hb157 := X.nm hb157
        refine J.skip rfl rfl ?_
        refine J.skip rfl rfl ?_
        refine J.q rfl rfl (Q.pick_f rfl rfl) ?_
        refine J.q rfl rfl (Q.mv rfl) ?_
        refine J.skip rfl rfl ?_
        refine J.skip rfl rfl ?_
        refine J.q rfl rfl (Q.pick_f rfl rfl) ?_
        refine J.q rfl rfl (Q.mv rfl) ?_
        refine J.skip rfl rfl ?_
        refine J.skip rfl rfl ?_
        refine J.q rfl rfl (Q.pick_f rfl rfl) ?_
        refine J.q rfl rfl (Q.asg rfl) ?_
        refine J.nil ?_
        refine J.blk_n ?_
        first
          | refine J.meet _ ?_ ⟨rfl, rfl, trivial⟩ rfl
          | (refine J.keep [1, 0, 2] rfl ?_
             refine J.meet _ ?_ ⟨rfl, rfl, trivial⟩ rfl)
        simp_all [-List.length_eq_zero_iff, OM.chkR, emp, longB] <;> first | omega | (rw [Bool.eq_iff_iff]; simp [-List.length_eq_zero_iff] <;> omega)
       replace hb152 := X.nm hb152
       refine J.skip rfl rfl ?_
       refine J.skip rfl rfl ?_
       refine J.skip rfl rfl ?_
       refine J.q rfl rfl (Q.pick_f rfl rfl) ?_
       refine J.q rfl rfl (Q.mv rfl) ?_
       refine J.skip rfl rfl ?_
       refine J.skip rfl rfl ?_
       refine J.q rfl rfl (Q.pick_f rfl rfl) ?_
       refine J.q rfl rfl (Q.mv rfl) ?_
       refine J.skip rfl rfl ?_
       refine J.skip rfl rfl ?_
       refine J.q rfl rfl (Q.pick_f rfl rfl) ?_
       refine J.q rfl rfl (Q.mv rfl) ?_
       refine J.skip rfl rfl ?_
       refine J.skip rfl rfl ?_
       refine J.q rfl rfl (Q.pick_f rfl rfl) ?_
       refine J.q rfl rfl (Q.asg rfl) ?_
       refine J.nil ?_
       refine J.blk_n ?_
       first
         | refine J.meet _ ?_ ⟨rfl, rfl, trivial⟩ rfl
         | (refine J.keep [1, 0, 2] rfl ?_
            refine J.meet _ ?_ ⟨rfl, rfl, trivial⟩ rfl)
       simp_all [-List.length_eq_zero_iff, OM.chkR, emp, longB] <;> first | omega | (rw [Bool.eq_iff_iff]; simp [-List.length_eq_zero_iff] <;> omega)
      replace hb147 := X.nm hb147
      refine J.skip rfl rfl ?_
      refine J.skip rfl rfl ?_
      refine J.skip rfl rfl ?_
      refine J.q rfl rfl (Q.pick_f rfl rfl) ?_
      refine J.q rfl rfl (Q.mv rfl) ?_
      refine J.skip rfl rfl ?_
      refine J.skip rfl rfl ?_
      refine J.skip rfl rfl ?_
      refine J.q rfl rfl (Q.pick_f rfl rfl) ?_
      refine J.q rfl rfl (Q.mv rfl) ?_
      refine J.skip rfl rfl ?_
      refine J.skip rfl rfl ?_
      refine J.q rfl rfl (Q.pick_f rfl rfl) ?_
      refine J.q rfl rfl (Q.mv rfl) ?_
      refine J.skip rfl rfl ?_
      refine J.skip rfl rfl ?_
      refine J.q rfl rfl (Q.pick_f rfl rfl) ?_
      refine J.q rfl rfl (Q.mv rfl) ?_
      refine J.skip rfl rfl ?_
      refine J.skip rfl rfl ?_
      refine J.q rfl rfl (Q.pick_f rfl rfl) ?_
      refine J.q rfl rfl (Q.asg rfl) ?_
      refine J.nil ?_
      refine J.blk_n ?_
      first
        | refine J.meet _ ?_ ⟨rfl, rfl, trivial⟩ rfl
        | (refine J.keep [1, 0, 2] rfl ?_
           refine J.meet _ ?_ ⟨rfl, rfl, trivial⟩ rfl)
      simp_all [-List.length_eq_zero_iff, OM.chkR, emp, longB] <;> first | omega | (rw [Bool.eq_iff_iff]; simp [-List.length_eq_zero_iff] <;> omega)
     replace hb141 := X.nm hb141
     refine J.skip rfl rfl ?_
     refine J.skip rfl rfl ?_
     refine J.skip rfl rfl ?_
     refine J.skip rfl rfl ?_
     refine J.q rfl rfl (Q.pick_f rfl rfl) ?_
     refine J.q rfl rfl (Q.mv rfl) ?_
     refine J.skip rfl rfl ?_
     refine J.skip rfl rfl ?_
     refine J.skip rfl rfl ?_
     refine J.q rfl rfl (Q.pick_f rfl rfl) ?_
     refine J.q rfl rfl (Q.mv rfl) ?_
     refine J.skip rfl rfl ?_
     refine J.skip rfl rfl ?_
     refine J.skip rfl rfl ?_
     refine J.q rfl rfl (Q.pick_f rfl rfl) ?_
     refine J.q rfl rfl (Q.mv rfl) ?_
     refine J.skip rfl rfl ?_
     refine J.skip rfl rfl ?_
     refine J.q rfl rfl (Q.pick_f rfl rfl) ?_
     refine J.q rfl rfl (Q.mv rfl) ?_
     refine J.skip rfl rfl ?_
     refine J.skip rfl rfl ?_
     refine J.q rfl rfl (Q.pick_f rfl rfl) ?_
     refine J.q rfl rfl (Q.mv rfl) ?_
     refine J.skip rfl rfl ?_
     refine J.skip rfl rfl ?_
     refine J.q rfl rfl (Q.pick_f rfl rfl) ?_
     refine J.q rfl rfl (Q.asg rfl) ?_
     refine J.nil ?_
     refine J.blk_n ?_
     first
       | refine J.meet _ ?_ ⟨rfl, rfl, trivial⟩ rfl
       | (refine J.keep [1, 0, 2] rfl ?_
          refine J.meet _ ?_ ⟨rfl, rfl, trivial⟩ rfl)
     simp_all [-List.length_eq_zero_iff, OM.chkR, emp, longB] <;> first | omega | (rw [Bool.eq_iff_iff]; simp [-List.length_eq_zero_iff] <;> omega)
    replace hb135 := X.nm hb135
    refine J.skip rfl rfl ?_
    refine J.skip rfl rfl ?_
    refine J.skip rfl rfl ?_
    refine J.skip rfl rfl ?_
    refine J.q rfl rfl (Q.pick_f rfl rfl) ?_
    refine J.q rfl rfl (Q.mv rfl) ?_
    refine J.skip rfl rfl ?_
    refine J.skip rfl rfl ?_
    refine J.skip rfl rfl ?_
    refine J.skip rfl rfl ?_
    refine J.q rfl rfl (Q.pick_f rfl rfl) ?_
    refine J.q rfl rfl (Q.mv rfl) ?_
    refine J.skip rfl rfl ?_
    refine J.skip rfl rfl ?_
    refine J.skip rfl rfl ?_
    refine J.q rfl rfl (Q.pick_f rfl rfl) ?_
    refine J.q rfl rfl (Q.mv rfl) ?_
    refine J.skip rfl rfl ?_
    refine J.skip rfl rfl ?_
    refine J.skip rfl rfl ?_
    refine J.q rfl rfl (Q.pick_f rfl rfl) ?_
    refine J.q rfl rfl (Q.mv rfl) ?_
    refine J.skip rfl rfl ?_
    refine J.skip rfl rfl ?_
    refine J.q rfl rfl (Q.pick_f rfl rfl) ?_
    refine J.q rfl rfl (Q.mv rfl) ?_
    refine J.skip rfl rfl ?_
    refine J.skip rfl rfl ?_
    refine J.q rfl rfl (Q.pick_f rfl rfl) ?_
    refine J.q rfl rfl (Q.mv rfl) ?_
    refine J.skip rfl rfl ?_
    refine J.skip rfl rfl ?_
    refine J.q rfl rfl (Q.pick_f rfl rfl) ?_
    refine J.q rfl rfl (Q.asg rfl) ?_
    refine J.nil ?_
    refine J.blk_n ?_
    first
      | refine J.meet _ ?_ ⟨rfl, rfl, trivial⟩ rfl
      | (refine J.keep [1, 0, 2] rfl ?_
         refine J.meet _ ?_ ⟨rfl, rfl, trivial⟩ rfl)
    simp_all [-List.length_eq_zero_iff, OM.chkR, emp, longB] <;> first | omega | (rw [Bool.eq_iff_iff]; simp [-List.length_eq_zero_iff] <;> omega)
   replace hc130 := X.nm hc130
   refine J.cond_f rfl ?_
   refine J.seq ?_
   refine J.region ?_
   refine J.q rfl rfl (Q.eql rfl rfl) ?_
   refine J.q rfl rfl (Q.asg rfl) ?_
   refine J.nil ?_
   refine J.then_n ?_
   refine J.cases 169 rfl (fun hc169 => ?_) (fun hc169 => ?_)
   ·
    replace hc169 := X.nm hc169
    refine J.cond_t rfl ?_
    refine J.region ?_
    refine J.q rfl rfl (Q.mv rfl) ?_
    refine J.q rfl rfl (Q.not rfl) ?_
    refine J.q rfl rfl (Q.mv rfl) ?_
    refine J.cases 173 rfl (fun hb173 => ?_) (fun hb173 => ?_)
    ·
     replace hb173 := X.nm hb173
     refine J.q rfl rfl (Q.mv rfl) ?_
     refine J.q rfl rfl (Q.not rfl) ?_
     refine J.q rfl rfl (Q.pick_t rfl rfl) ?_
     refine J.q rfl rfl (Q.mv rfl) ?_
     refine J.cases 177 rfl (fun hb177 => ?_) (fun hb177 => ?_)
     ·
      replace hb177 := X.nm hb177
      refine J.q rfl rfl (Q.mv rfl) ?_
      refine J.q rfl rfl (Q.not rfl) ?_
      refine J.q rfl rfl (Q.pick_t rfl rfl) ?_
      refine J.q rfl rfl (Q.mv rfl) ?_
      refine J.cases 181 rfl (fun hb181 => ?_) (fun hb181 => ?_)
      ·
       replace hb181 := X.nm hb181
       refine J.q rfl rfl (Q.fa (n := 5) Tryz.runUnderlying27 rfl rfl Tryz.sizeOf3 rfl) ?_
       refine J.q rfl rfl (Q.ld Tryz.isAgg3 rfl (rdI (by exact rfl))) ?_
       refine J.q rfl rfl (Q.geq rfl rfl) ?_
       refine J.q rfl rfl (Q.pick_t rfl rfl) ?_
       refine J.q rfl rfl (Q.mv rfl) ?_
       refine J.cases 186 rfl (fun hb186 => ?_) (fun hb186 => ?_)
       ·
        replace hb186 := X.nm hb186
        refine J.q rfl rfl (Q.fa (n := 5) Tryz.runUnderlying27 rfl rfl Tryz.sizeOf3 rfl) ?_
        refine J.q rfl rfl (Q.ld Tryz.isAgg3 rfl (rdI (by exact rfl))) ?_
        refine J.q rfl rfl (Q.leq rfl rfl) ?_
        refine J.q rfl rfl (Q.pick_t rfl rfl) ?_
        refine J.q rfl rfl (Q.mv rfl) ?_
        refine J.cases 191 rfl (fun hb191 => ?_) (fun hb191 => ?_)
        ·
         replace hb191 := X.nm hb191
         refine J.q rfl rfl (Q.mv rfl) ?_
         refine J.q rfl rfl (Q.not rfl) ?_
         refine J.q rfl rfl (Q.pick_t rfl rfl) ?_
         refine J.q rfl rfl (Q.mv rfl) ?_
         refine J.cases 195 rfl (fun hb195 => ?_) (fun hb195 => ?_)
         ·
          replace hb195 := X.nm hb195
          refine J.q rfl rfl (Q.fa (n := 8) Tryz.runUnderlying27 rfl rfl Tryz.sizeOf25 rfl) ?_
          refine J.q rfl rfl (Q.ld Tryz.isAgg25 rfl (rdI (by exact rfl))) ?_
          refine J.q rfl rfl (Q.lenSl Tryz.runUnderlying25 rfl) ?_
          refine J.q rfl rfl (Q.leq rfl rfl) ?_
          refine J.q rfl rfl (Q.pick_t rfl rfl) ?_
          refine J.q rfl rfl (Q.asg rfl) ?_
          refine J.nil ?_
          refine J.blk_n ?_
          first
            | refine J.meet _ ?_ ⟨rfl, rfl, trivial⟩ rfl
            | (refine J.keep [1, 0, 2] rfl ?_
               refine J.meet _ ?_ ⟨rfl, rfl, trivial⟩ rfl)
          simp_all [-List.length_eq_zero_iff, OM.chkR, emp, longB] <;> first | omega | (rw [Bool.eq_iff_iff]; simp [-List.length_eq_zero_iff] <;> omega)
         replace hb195 := X.nm hb195
         refine J.skip rfl rfl ?_
         refine J.skip rfl rfl ?_
         refine J.skip rfl rfl ?_
         refine J.skip rfl rfl ?_
         refine J.q rfl rfl (Q.pick_f rfl rfl) ?_
         refine J.q rfl rfl (Q.asg rfl) ?_
         refine J.nil ?_
         refine J.blk_n ?_
         first
           | refine J.meet _ ?_ ⟨rfl, rfl, trivial⟩ rfl
           | (refine J.keep [1, 0, 2] rfl ?_
              refine J.meet _ ?_ ⟨rfl, rfl, trivial⟩ rfl)
         simp_all [-List.length_eq_zero_iff, OM.chkR, emp, longB] <;> first | omega | (rw [Bool.eq_iff_iff]; simp [-List.length_eq_zero_iff] <;> omega)
        replace hb191 := X.nm hb191
        refine J.skip rfl rfl ?_
        refine J.skip rfl rfl ?_
        refine J.q rfl rfl (Q.pick_f rfl rfl) ?_
        refine J.q rfl rfl (Q.mv rfl) ?_
        refine J.skip rfl rfl ?_
        refine J.skip rfl rfl ?_
        refine J.skip rfl rfl ?_
        refine J.skip rfl rfl ?_
        refine J.q rfl rfl (Q.pick_f rfl rfl) ?_
        refine J.q rfl rfl (Q.asg rfl) ?_
        refine J.nil ?_
        refine J.blk_n ?_
        first
          | refine J.meet _ ?_ ⟨rfl, rfl, trivial⟩ rfl
          | (refine J.keep [1, 0, 2] rfl ?_
             refine J.meet _ ?_ ⟨rfl, rfl, trivial⟩ rfl)
        simp_all [-List.length_eq_zero_iff, OM.chkR, emp, longB] <;> first | omega | (rw [Bool.eq_iff_iff]; simp [-List.length_eq_zero_iff] <;> omega)
       replace hb186 := X.nm hb186
       refine J.skip rfl rfl ?_
       refine J.skip rfl rfl ?_
       refine J.skip rfl rfl ?_
       refine J.q rfl rfl (Q.pick_f rfl rfl) ?_
       refine J.q rfl rfl (Q.mv rfl) ?_
       refine J.skip rfl rfl ?_
       refine J.skip rfl rfl ?_
       refine J.q rfl rfl (Q.pick_f rfl rfl) ?_
       refine J.q rfl rfl (Q.mv rfl) ?_
       refine J.skip rfl rfl ?_
       refine J.skip rfl rfl ?_
       refine J.skip rfl rfl ?_
       refine J.skip rfl rfl ?_
       refine J.q rfl rfl (Q.pick_f rfl rfl) ?_
       refine J.q rfl rfl (Q.asg rfl) ?_
       refine J.nil ?_
       refine J.blk_n ?_
       first
         | refine J.meet _ ?_ ⟨rfl, rfl, trivial⟩ rfl
         | (refine J.keep [1, 0, 2] rfl ?_
            refine J.meet _ ?_ ⟨rfl, rfl, trivial⟩ rfl)
       simp_all [-List.length_eq_zero_iff, OM.chkR, emp, longB] <;> first | omega | (rw [Bool.eq_iff_iff]; simp [-List.length_eq_zero_iff] <;> omega)
      replace hb181 := X.nm hb181
      refine J.skip rfl rfl ?_
      refine J.skip rfl rfl ?_
      refine J.skip rfl rfl ?_
      refine J.q rfl rfl (Q.pick_f rfl rfl) ?_
      refine J.q rfl rfl (Q.mv rfl) ?_
      refine J.skip rfl rfl ?_
      refine J.skip rfl rfl ?_
      refine J.skip rfl rfl ?_
      refine J.q rfl rfl (Q.pick_f rfl rfl) ?_
      refine J.q rfl rfl (Q.mv rfl) ?_
      refine J.skip rfl rfl ?_
      refine J.skip rfl rfl ?_
      refine J.q rfl rfl (Q.pick_f rfl rfl) ?_
      refine J.q rfl rfl (Q.mv rfl) ?_
      refine J.skip rfl rfl ?_
      refine J.skip rfl rfl ?_
      refine J.skip rfl rfl ?_
      refine J.skip rfl rfl ?_
      refine J.q rfl rfl (Q.pick_f rfl rfl) ?_
      refine J.q rfl rfl (Q.asg rfl) ?_
      refine J.nil ?_
      refine J.blk_n ?_
      first
        | refine J.meet _ ?_ ⟨rfl, rfl, trivial⟩ rfl
        | (refine J.keep [1, 0, 2] rfl ?_
           refine J.meet _ ?_ ⟨rfl, rfl, trivial⟩ rfl)
      simp_all [-List.length_eq_zero_iff, OM.chkR, emp, longB] <;> first | omega | (rw [Bool.eq_iff_iff]; simp [-List.length_eq_zero_iff] <;> omega)
     replace hb177 := X.nm hb177
     refine J.skip rfl rfl ?_
     refine J.skip rfl rfl ?_
     refine J.q rfl rfl (Q.pick_f rfl rfl) ?_
     refine J.q rfl rfl (Q.mv rfl) ?_
     refine J.skip rfl rfl ?_
     refine J.skip rfl rfl ?_
     refine J.skip rfl rfl ?_
     refine J.q rfl rfl (Q.pick_f rfl rfl) ?_
     refine J.q rfl rfl (Q.mv rfl) ?_
     refine J.skip rfl rfl ?_
     refine J.skip rfl rfl ?_
     refine J.skip rfl rfl ?_
     refine J.q rfl rfl (Q.pick_f rfl rfl) ?_
     refine J.q rfl rfl (Q.mv rfl) ?_
     refine J.skip rfl rfl ?_
     refine J.skip rfl rfl ?_
     refine J.q rfl rfl (Q.pick_f rfl rfl) ?_
     refine J.q rfl rfl (Q.mv rfl) ?_
     refine J.skip rfl rfl ?_
     refine J.skip rfl rfl ?_
     refine J.skip rfl rfl ?_
     refine J.skip rfl rfl ?_
     refine J.q rfl rfl (Q.pick_f rfl rfl) ?_
     refine J.q rfl rfl (Q.asg rfl) ?_
     refine J.nil ?_
     refine J.blk_n ?_
     first
       | refine J.meet _ ?_ ⟨rfl, rfl, trivial⟩ rfl
       | (refine J.keep [1, 0, 2] rfl ?_
          refine J.meet _ ?_ ⟨rfl, rfl, trivial⟩ rfl)
     simp_all [-List.length_eq_zero_iff, OM.chkR, emp, longB] <;> first | omega | (rw [Bool.eq_iff_iff]; simp [-List.length_eq_zero_iff] <;> omega)
    replace hb173 := X.nm hb173
    refine J.skip rfl rfl ?_
    refine J.skip rfl rfl ?_
    refine J.q rfl rfl (Q.pick_f rfl rfl) ?_
    refine J.q rfl rfl (Q.mv rfl) ?_
    refine J.skip rfl rfl ?_
    refine J.skip rfl rfl ?_
    refine J.q rfl rfl (Q.pick_f rfl rfl) ?_
    refine J.q rfl rfl (Q.mv rfl) ?_
    refine J.skip rfl rfl ?_
    refine J.skip rfl rfl ?_
    refine J.skip rfl rfl ?_
    refine J.q rfl rfl (Q.pick_f rfl rfl) ?_
    refine J.q rfl rfl (Q.mv rfl) ?_
    refine J.skip rfl rfl ?_
    refine J.skip rfl rfl ?_
    refine J.skip rfl rfl ?_
    refine J.q rfl rfl (Q.pick_f rfl rfl) ?_
    refine J.q rfl rfl (Q.mv rfl) ?_
    refine J.skip rfl rfl ?_
    refine J.skip rfl rfl ?_
    refine J.q rfl rfl (Q.pick_f rfl rfl) ?_
    refine J.q rfl rfl (Q.mv rfl) ?_
    refine J.skip rfl rfl ?_
    refine J.skip rfl rfl ?_
    refine J.skip rfl rfl ?_
    refine J.skip rfl rfl ?_
    refine J.q rfl rfl (Q.pick_f rfl rfl) ?_
    refine J.q rfl rfl (Q.asg rfl) ?_
    refine J.nil ?_
    refine J.blk_n ?_
    first
      | refine J.meet _ ?_ ⟨rfl, rfl, trivial⟩ rfl
      | (refine J.keep [1, 0, 2] rfl ?_
         refine J.meet _ ?_ ⟨rfl, rfl, trivial⟩ rfl)
    simp_all [-List.length_eq_zero_iff, OM.chkR, emp, longB] <;> first | omega | (rw [Bool.eq_iff_iff]; simp [-List.length_eq_zero_iff] <;> omega)
   replace hc169 := X.nm hc169
   refine J.cond_f rfl ?_
   refine J.seq ?_
   refine J.region ?_
   refine J.q rfl rfl (Q.eql rfl rfl) ?_
   refine J.q rfl rfl (Q.asg rfl) ?_
   refine J.nil ?_
   refine J.then_n ?_
   refine J.cases 201 rfl (fun hc201 => ?_) (fun hc201 => ?_)
   ·
    replace hc201 := X.nm hc201
    refine J.cond_t rfl ?_
    refine J.region ?_
    refine J.q rfl rfl (Q.mv rfl) ?_
    refine J.q rfl rfl (Q.not rfl) ?_
    refine J.q rfl rfl (Q.mv rfl) ?_
    refine J.cases 205 rfl (fun hb205 => ?_) (fun hb205 => ?_)
    ·
     replace hb205 := X.nm hb205
     refine J.q rfl rfl (Q.mv rfl) ?_
     refine J.q rfl rfl (Q.not rfl) ?_
     refine J.q rfl rfl (Q.pick_t rfl rfl) ?_
     refine J.q rfl rfl (Q.mv rfl) ?_
     refine J.cases 209 rfl (fun hb209 => ?_) (fun hb209 => ?_)
     ·
      replace hb209 := X.nm hb209
      refine J.q rfl rfl (Q.mv rfl) ?_
      refine J.q rfl rfl (Q.not rfl) ?_
      refine J.q rfl rfl (Q.pick_t rfl rfl) ?_
      refine J.q rfl rfl (Q.mv rfl) ?_
      refine J.cases 213 rfl (fun hb213 => ?_) (fun hb213 => ?_)
      ·
       replace hb213 := X.nm hb213
       refine J.q rfl rfl (Q.mv rfl) ?_
       refine J.q rfl rfl (Q.not rfl) ?_
       refine J.q rfl rfl (Q.pick_t rfl rfl) ?_
       refine J.q rfl rfl (Q.mv rfl) ?_
       refine J.cases 217 rfl (fun hb217 => ?_) (fun hb217 => ?_)
       ·
        replace hb217 := X.nm hb217
        refine J.q rfl rfl (Q.fa (n := 7) Tryz.runUnderlying27 rfl rfl Tryz.sizeOf24 rfl) ?_
        refine J.q rfl rfl (Q.ld Tryz.isAgg24 rfl (rdI (by exact rfl))) ?_
        refine J.call Tryz.call74 (parts_spec G x.pp x.o.parts.length x.pc x.o.parts hx.parts (by omega)) [1] rfl rfl rfl rfl ?_
        rintro _ _ ⟨rfl, rfl⟩
        refine J.norm rfl ?_
        refine J.q rfl rfl (Q.pick_t rfl rfl) ?_
        refine J.q rfl rfl (Q.mv rfl) ?_
        refine J.cases 222 rfl (fun hb222 => ?_) (fun hb222 => ?_)
        ·
         replace hb222 := X.nm hb222
         refine J.q rfl rfl (Q.mv rfl) ?_
         refine J.q rfl rfl (Q.not rfl) ?_
         refine J.q rfl rfl (Q.pick_t rfl rfl) ?_
         refine J.q rfl rfl (Q.asg rfl) ?_
         refine J.nil ?_
         refine J.blk_n ?_
         first
           | refine J.meet _ ?_ ⟨rfl, rfl, trivial⟩ rfl
           | (refine J.keep [1, 0, 2] rfl ?_
              refine J.meet _ ?_ ⟨rfl, rfl, trivial⟩ rfl)
         simp_all [-List.length_eq_zero_iff, OM.chkR, emp, longB] <;> first | omega | (rw [Bool.eq_iff_iff]; simp [-List.length_eq_zero_iff] <;> omega)
        replace hb222 := X.nm hb222
        refine J.skip rfl rfl ?_
        refine J.skip rfl rfl ?_
        refine J.q rfl rfl (Q.pick_f rfl rfl) ?_
        refine J.q rfl rfl (Q.asg rfl) ?_
        refine J.nil ?_
        refine J.blk_n ?_
        first
          | refine J.meet _ ?_ ⟨rfl, rfl, trivial⟩ rfl
          | (refine J.keep [1, 0, 2] rfl ?_
             refine J.meet _ ?_ ⟨rfl, rfl, trivial⟩ rfl)
        simp_all [-List.length_eq_zero_iff, OM.chkR, emp, longB] <;> first | omega | (rw [Bool.eq_iff_iff]; simp [-List.length_eq_zero_iff] <;> omega)
       replace hb217 := X.nm hb217
       refine J.skip rfl rfl ?_
       refine J.skip rfl rfl ?_
       refine J.skip rfl rfl ?_
       refine J.q rfl rfl (Q.pick_f rfl rfl) ?_
       refine J.q rfl rfl (Q.mv rfl) ?_
       refine J.skip rfl rfl ?_
       refine J.skip rfl rfl ?_
       refine J.q rfl rfl (Q.pick_f rfl rfl) ?_
       refine J.q rfl rfl (Q.asg rfl) ?_
       refine J.nil ?_
       refine J.blk_n ?_
       first
         | refine J.meet _ ?_ ⟨rfl, rfl, trivial⟩ rfl
         | (refine J.keep [1, 0, 2] rfl ?_
            refine J.meet _ ?_ ⟨rfl, rfl, trivial⟩ rfl)
       simp_all [-List.length_eq_zero_iff, OM.chkR, emp, longB] <;> first | omega | (rw [Bool.eq_iff_iff]; simp [-List.length_eq_zero_iff] <;> omega)
      replace hb213 := X.nm hb213
      refine J.skip rfl rfl ?_
      refine J.skip rfl rfl ?_
      refine J.q rfl rfl (Q.pick_f rfl rfl) ?_
      refine J.q rfl rfl (Q.mv rfl) ?_
      refine J.skip rfl rfl ?_
      refine J.skip rfl rfl ?_
      refine J.skip rfl rfl ?_
      refine J.q rfl rfl (Q.pick_f rfl rfl) ?_
      refine J.q rfl rfl (Q.mv rfl) ?_
      refine J.skip rfl rfl ?_
      refine J.skip rfl rfl ?_
      refine J.q rfl rfl (Q.pick_f rfl rfl) ?_
      refine J.q rfl rfl (Q.asg rfl) ?_
      refine J.nil ?_
      refine J.blk_n ?_
      first
        | refine J.meet _ ?_ ⟨rfl, rfl, trivial⟩ rfl
        | (refine J.keep [1, 0, 2] rfl ?_
           refine J.meet _ ?_ ⟨rfl, rfl, trivial⟩ rfl)
      simp_all [-List.length_eq_zero_iff, OM.chkR, emp, longB] <;> first | omega | (rw [Bool.eq_iff_iff]; simp [-List.length_eq_zero_iff] <;> omega)
     replace hb209 := X.nm hb209
     refine J.skip rfl rfl ?_
     refine J.skip rfl rfl ?_
     refine J.q rfl rfl (Q.pick_f rfl rfl) ?_
     refine J.q rfl rfl (Q.mv rfl) ?_
     refine J.skip rfl rfl ?_
     refine J.skip rfl rfl ?_
     refine J.q rfl rfl (Q.pick_f rfl rfl) ?_
     refine J.q rfl rfl (Q.mv rfl) ?_
     refine J.skip rfl rfl ?_
     refine J.skip rfl rfl ?_
     refine J.skip rfl rfl ?_
     refine J.q rfl rfl (Q.pick_f rfl rfl) ?_
     refine J.q rfl rfl (Q.mv rfl) ?_
     refine J.skip rfl rfl ?_
     refine J.skip rfl rfl ?_
     refine J.q rfl rfl (Q.pick_f rfl rfl) ?_
     refine J.q rfl rfl (Q.asg rfl) ?_
     refine J.nil ?_
     refine J.blk_n ?_
     first
       | refine J.meet _ ?_ ⟨rfl, rfl, trivial⟩ rfl
       | (refine J.keep [1, 0, 2] rfl ?_
          refine J.meet _ ?_ ⟨rfl, rfl, trivial⟩ rfl)
     simp_all [-List.length_eq_zero_iff, OM.chkR, emp, longB] <;> first | omega | (rw [Bool.eq_iff_iff]; simp [-List.length_eq_zero_iff] <;> omega)
    replace hb205 := X.nm hb205
    refine J.skip rfl rfl ?_
    refine J.skip rfl rfl ?_
    refine J.q rfl rfl (Q.pick_f rfl rfl) ?_
    refine J.q rfl rfl (Q.mv rfl) ?_
    refine J.skip rfl rfl ?_
    refine J.skip rfl rfl ?_
    refine J.q rfl rfl (Q.pick_f rfl rfl) ?_
    refine J.q rfl rfl (Q.mv rfl) ?_
    refine J.skip rfl rfl ?_
    refine J.skip rfl rfl ?_
    refine J.q rfl rfl (Q.pick_f rfl rfl) ?_
    refine J.q rfl rfl (Q.mv rfl) ?_
    refine J.skip rfl rfl ?_
    refine J.skip rfl rfl ?_
    refine J.skip rfl rfl ?_
    refine J.q rfl rfl (Q.pick_f rfl rfl) ?_
    refine J.q rfl rfl (Q.mv rfl) ?_
    refine J.skip rfl rfl ?_
    refine J.skip rfl rfl ?_
    refine J.q rfl rfl (Q.pick_f rfl rfl) ?_
    refine J.q rfl rfl (Q.asg rfl) ?_
    refine J.nil ?_
    refine J.blk_n ?_
    first
      | refine J.meet _ ?_ ⟨rfl, rfl, trivial⟩ rfl
      | (refine J.keep [1, 0, 2] rfl ?_
         refine J.meet _ ?_ ⟨rfl, rfl, trivial⟩ rfl)
    simp_all [-List.length_eq_zero_iff, OM.chkR, emp, longB] <;> first | omega | (rw [Bool.eq_iff_iff]; simp [-List.length_eq_zero_iff] <;> omega)
   replace hc201 := X.nm hc201
   refine J.cond_f rfl ?_
   refine J.seq ?_
   refine J.region ?_
   refine J.q rfl rfl (Q.eql rfl rfl) ?_
   refine J.q rfl rfl (Q.asg rfl) ?_
   refine J.nil ?_
   refine J.then_n ?_
   refine J.cases 226 rfl (fun hc226 => ?_) (fun hc226 => ?_)
   ·
    replace hc226 := X.nm hc226
    refine J.cond_t rfl ?_
    refine J.region ?_
    refine J.q rfl rfl (Q.mv rfl) ?_
    refine J.q rfl rfl (Q.not rfl) ?_
    refine J.q rfl rfl (Q.mv rfl) ?_
    refine J.cases 230 rfl (fun hb230 => ?_) (fun hb230 => ?_)
    ·
     replace hb230 := X.nm hb230
     refine J.q rfl rfl (Q.mv rfl) ?_
     refine J.q rfl rfl (Q.not rfl) ?_
     refine J.q rfl rfl (Q.pick_t rfl rfl) ?_
     refine J.q rfl rfl (Q.mv rfl) ?_
     refine J.cases 234 rfl (fun hb234 => ?_) (fun hb234 => ?_)
     ·
      replace hb234 := X.nm hb234
      refine J.q rfl rfl (Q.mv rfl) ?_
      refine J.q rfl rfl (Q.not rfl) ?_
      refine J.q rfl rfl (Q.pick_t rfl rfl) ?_
      refine J.q rfl rfl (Q.mv rfl) ?_
      refine J.cases 238 rfl (fun hb238 => ?_) (fun hb238 => ?_)
      ·
       replace hb238 := X.nm hb238
       refine J.q rfl rfl (Q.mv rfl) ?_
       refine J.q rfl rfl (Q.not rfl) ?_
       refine J.q rfl rfl (Q.pick_t rfl rfl) ?_
       refine J.q rfl rfl (Q.mv rfl) ?_
       refine J.cases 242 rfl (fun hb242 => ?_) (fun hb242 => ?_)
       ·
        replace hb242 := X.nm hb242
        refine J.q rfl rfl (Q.mv rfl) ?_
        refine J.q rfl rfl (Q.not rfl) ?_
        refine J.q rfl rfl (Q.pick_t rfl rfl) ?_
        refine J.q rfl rfl (Q.mv rfl) ?_
        refine J.cases 246 rfl (fun hb246 => ?_) (fun hb246 => ?_)
        ·
         replace hb246 := X.nm hb246
         refine J.q rfl rfl (Q.mv rfl) ?_
         refine J.q rfl rfl (Q.not rfl) ?_
         refine J.q rfl rfl (Q.pick_t rfl rfl) ?_
         refine J.q rfl rfl (Q.asg rfl) ?_
         refine J.nil ?_
         refine J.blk_n ?_
         first
           | refine J.meet _ ?_ ⟨rfl, rfl, trivial⟩ rfl
           | (refine J.keep [1, 0, 2] rfl ?_
              refine J.meet _ ?_ ⟨rfl, rfl, trivial⟩ rfl)
         simp_all [-List.length_eq_zero_iff, OM.chkR, emp, longB] <;> first | omega | (rw [Bool.eq_iff_iff]; simp [-List.length_eq_zero_iff] <;> omega)
        replace hb246 := X.nm hb246
        refine J.skip rfl rfl ?_
        refine J.skip rfl rfl ?_
        refine J.q rfl rfl (Q.pick_f rfl rfl) ?_
        refine J.q rfl rfl (Q.asg rfl) ?_
        refine J.nil ?_
        refine J.blk_n ?_
        first
          | refine J.meet _ ?_ ⟨rfl, rfl, trivial⟩ rfl
          | (refine J.keep [1, 0, 2] rfl ?_
             refine J.meet _ ?_ ⟨rfl, rfl, trivial⟩ rfl)
        simp_all [-List.length_eq_zero_iff, OM.chkR, emp, longB] <;> first | omega | (rw [Bool.eq_iff_iff]; simp [-List.length_eq_zero_iff] <;> omega)
       replace hb242 := X.nm hb242
       refine J.skip rfl rfl ?_
       refine J.skip rfl rfl ?_
       refine J.q rfl rfl (Q.pick_f rfl rfl) ?_
       refine J.q rfl rfl (Q.mv rfl) ?_
       refine J.skip rfl rfl ?_
       refine J.skip rfl rfl ?_
       refine J.q rfl rfl (Q.pick_f rfl rfl) ?_
       refine J.q rfl rfl (Q.asg rfl) ?_
       refine J.nil ?_
       refine J.blk_n ?_
       first
         | refine J.meet _ ?_ ⟨rfl, rfl, trivial⟩ rfl
         | (refine J.keep [1, 0, 2] rfl ?_
            refine J.meet _ ?_ ⟨rfl, rfl, trivial⟩ rfl)
       simp_all [-List.length_eq_zero_iff, OM.chkR, emp, longB] <;> first | omega | (rw [Bool.eq_iff_iff]; simp [-List.length_eq_zero_iff] <;> omega)
      replace hb238 := X.nm hb238
      refine J.skip rfl rfl ?_
      refine J.skip rfl rfl ?_
      refine J.q rfl rfl (Q.pick_f rfl rfl) ?_
      refine J.q rfl rfl (Q.mv rfl) ?_
      refine J.skip rfl rfl ?_
      refine J.skip rfl rfl ?_
      refine J.q rfl rfl (Q.pick_f rfl rfl) ?_
      refine J.q rfl rfl (Q.mv rfl) ?_
      refine J.skip rfl rfl ?_
      refine J.skip rfl rfl ?_
      refine J.q rfl rfl (Q.pick_f rfl rfl) ?_
      refine J.q rfl rfl (Q.asg rfl) ?_
      refine J.nil ?_
      refine J.blk_n ?_
      first
        | refine J.meet _ ?_ ⟨rfl, rfl, trivial⟩ rfl
        | (refine J.keep [1, 0, 2] rfl ?_
           refine J.meet _ ?_ ⟨rfl, rfl, trivial⟩ rfl)
      simp_all [-List.length_eq_zero_iff, OM.chkR, emp, longB] <;> first | omega | (rw [Bool.eq_iff_iff]; simp [-List.length_eq_zero_iff] <;> omega)
     replace hb234 := X.nm hb234
     refine J.skip rfl rfl ?_
     refine J.skip rfl rfl ?_
     refine J.q rfl rfl (Q.pick_f rfl rfl) ?_
     refine J.q rfl rfl (Q.mv rfl) ?_
     refine J.skip rfl rfl ?_
     refine J.skip rfl rfl ?_
     refine J.q rfl rfl (Q.pick_f rfl rfl) ?_
     refine J.q rfl rfl (Q.mv rfl) ?_
     refine J.skip rfl rfl ?_
     refine J.skip rfl rfl ?_
     refine J.q rfl rfl (Q.pick_f rfl rfl) ?_
     refine J.q rfl rfl (Q.mv rfl) ?_
     refine J.skip rfl rfl ?_
     refine J.skip rfl rfl ?_
     refine J.q rfl rfl (Q.pick_f rfl rfl) ?_
     refine J.q rfl rfl (Q.asg rfl) ?_
     refine J.nil ?_
     refine J.blk_n ?_
     first
       | refine J.meet _ ?_ ⟨rfl, rfl, trivial⟩ rfl
       | (refine J.keep [1, 0, 2] rfl ?_
          refine J.meet _ ?_ ⟨rfl, rfl, trivial⟩ rfl)
     simp_all [-List.length_eq_zero_iff, OM.chkR, emp, longB] <;> first | omega | (rw [Bool.eq_iff_iff]; simp [-List.length_eq_zero_iff] <;> omega)
    replace hb230 := X.nm hb230
    refine J.skip rfl rfl ?_
    refine J.skip rfl rfl ?_
    refine J.q rfl rfl (Q.pick_f rfl rfl) ?_
    refine J.q rfl rfl (Q.mv rfl) ?_
    refine J.skip rfl rfl ?_
    refine J.skip rfl rfl ?_
    refine J.q rfl rfl (Q.pick_f rfl rfl) ?_
    refine J.q rfl rfl (Q.mv rfl) ?_
    refine J.skip rfl rfl ?_
    refine J.skip rfl rfl ?_
    refine J.q rfl rfl (Q.pick_f rfl rfl) ?_
    refine J.q rfl rfl (Q.mv rfl) ?_
    refine J.skip rfl rfl ?_
    refine J.skip rfl rfl ?_
    refine J.q rfl rfl (Q.pick_f rfl rfl) ?_
    refine J.q rfl rfl (Q.mv rfl) ?_
    refine J.skip rfl rfl ?_
    refine J.skip rfl rfl ?_
    refine J.q rfl rfl (Q.pick_f rfl rfl) ?_
    refine J.q rfl rfl (Q.asg rfl) ?_
    refine J.nil ?_
    refine J.blk_n ?_
    first
      | refine J.meet _ ?_ ⟨rfl, rfl, trivial⟩ rfl
      | (refine J.keep [1, 0, 2] rfl ?_
         refine J.meet _ ?_ ⟨rfl, rfl, trivial⟩ rfl)
    simp_all [-List.length_eq_zero_iff, OM.chkR, emp, longB] <;> first | omega | (rw [Bool.eq_iff_iff]; simp [-List.length_eq_zero_iff] <;> omega)
   replace hc226 := X.nm hc226
   refine J.cond_f rfl ?_
   refine J.cskip ?_
   refine J.blk_n ?_
   first
     | refine J.meet _ ?_ ⟨rfl, rfl, trivial⟩ rfl
     | (refine J.keep [1, 0, 2] rfl ?_
        refine J.meet _ ?_ ⟨rfl, rfl, trivial⟩ rfl)
   simp_all [-List.length_eq_zero_iff, OM.chkR, emp, longB] <;> first | omega | (rw [Bool.eq_iff_iff]; simp [-List.length_eq_zero_iff] <;> omega)
  refine J.seq ?_
  refine J.seq ?_
  refine J.region ?_
  refine J.q rfl rfl (Q.mv rfl) ?_
  refine J.q rfl rfl (Q.not rfl) ?_
  refine J.nil ?_
  refine J.then_n ?_
  refine J.cases 251 rfl (fun hc251 => ?_) (fun hc251 => ?_)
  ·
   replace hc251 := X.nm hc251
   refine J.cond_t rfl ?_
   refine J.seq ?_
   refine J.region ?_
   refine J.q rfl rfl (Q.asg rfl) ?_
   refine J.nil ?_
   refine J.then_n ?_
   refine J.cret ?_
   refine J.then_r ?_
   refine J.keep [1, 2] rfl ?_
   refine J.ret1 (B := [G]) rfl rfl ⟨?_, rfl⟩ rfl
   simp_all
  replace hc251 := X.nm hc251
  refine J.cond_f rfl ?_
  refine J.cskip ?_
  refine J.then_n ?_
  refine J.seq ?_
  refine J.region ?_
  refine J.q rfl rfl (Q.asg rfl) ?_
  refine J.nil ?_
  refine J.then_n ?_
  refine J.cret ?_
  refine J.keep [1, 2] rfl ?_
  refine J.ret1 (B := [G]) rfl rfl ⟨?_, rfl⟩ rfl
  simp_all

theorem chk_eq (o : OM) : o.chkB = o.chkR := by
  have hd : (!decide (16777216 < o.data.length)) = decide (o.data.length ≤ 16777216) := by rw [Bool.eq_iff_iff]; simp
  have hz : (!decide (0 < o.data.length)) = decide (o.data.length = 0) := by rw [Bool.eq_iff_iff]; simp
  have hl : ∀ n : Nat, longB n 0 1024 = decide (n ≤ 1024) := fun n => by rw [Bool.eq_iff_iff]; simp [longB]; omega
  unfold OM.chkB OM.chkR OM.r4 OM.r3 OM.r2 OM.r1 OM.r0 fieldsM
  by_cases h1 : o.kind = 1 ∨ o.kind = 2
  · simp [h1, hz, Bool.and_assoc]
  by_cases h3 : o.kind = 3
  · simp [h1, h3, hd, Bool.and_assoc]
  by_cases h4 : o.kind = 4 ∨ o.kind = 5 ∨ o.kind = 7
  · simp [h1, h3, h4, hz, Bool.and_assoc]
  by_cases h6 : o.kind = 6
  · simp [h1, h3, h4, h6, hz, hl, Bool.and_assoc]
  by_cases h8 : o.kind = 8
  · simp [h1, h3, h4, h6, h8, hd, Bool.and_assoc]
  by_cases h9 : o.kind = 9
  · simp [h1, h3, h4, h6, h8, h9, hz, Bool.and_assoc]
  by_cases h10 : o.kind = 10
  · simp [h1, h3, h4, h6, h8, h9, h10, hz, Bool.and_assoc]
  simp [h1, h3, h4, h6, h8, h9, h10]
end Go.Proofs.YtdancegklkifaaaGreat
namespace Go.Proofs.YtdancegklkifaaaGreat
set_option linter.unusedSectionVars false
set_option linter.unusedSimpArgs false
set_option linter.unusedVariables false
open Go.X

structure RM where
  status : Int
  upload : Nat
  keys : List ByteArray
  more : Bool
  data : List UInt8

structure RW where
  r : RM
  kp : Option Addr
  kc : Nat
  dp : Option Addr
  dc : Nat

abbrev RW.cells (x : RW) : List Value := [.int .i64 x.r.status, .int .u64 x.r.upload, .slice x.kp x.r.keys.length x.kc, .bool x.r.more, .slice x.dp x.r.data.length x.dc]
def RW.asns (x : RW) : List Assn := [own 9 1 (.slice x.kp x.r.keys.length x.kc) (x.r.keys.map Value.string), own 5 1 (.slice x.dp x.r.data.length x.dc) (bytesV x.r.data)]
def RW.asn (x : RW) : Assn := star x.asns

/-- What is known of a result that is read. -/
structure RW.ok (G : Assn) (x : RW) : Prop where
  keys : SlR [G] 1 (.slice x.kp x.r.keys.length x.kc) (x.r.keys.map Value.string)
  data : SlR [G] 1 (.slice x.dp x.r.data.length x.dc) (bytesV x.r.data)
  small : x.r.keys.length ≤ 1099511627776 ∧ x.r.data.length ≤ 1099511627776

def st (n : Int) : RM := ⟨n, 0, [], false, []⟩

theorem strs_one (ss : List ByteArray) : ∀ v, v ∈ ss.map Value.string → oneC v = true := by
  intro v hv
  obtain ⟨s, _, rfl⟩ := List.mem_map.1 hv
  rfl

/-- A copy of bytes. -/
theorem clone_spec (G : Assn) (sp : Option Addr) (sc : Nat) (bs : List UInt8) (hs : SlR [G] 1 (.slice sp bs.length sc) (bytesV bs)) (hn : bs.length ≤ 140737488355328) :
    FSpec Tryz.prog 44 [.slice sp bs.length sc] [G] (fun v B => ∃ sp' sc', v = .slice sp' bs.length sc' ∧ B = [own 5 1 (.slice sp' bs.length sc') (bytesV bs), G]) := by
  refine FSpec.of Tryz.func44 rfl Tryz.ntmps44 rfl fun W0 F => ?_
  refine J.seq ?_
  refine J.region ?_
  refine J.q rfl rfl (Q.asg rfl) ?_
  refine J.nil ?_
  refine J.then_n ?_
  refine J.seq ?_
  refine J.seq ?_
  refine J.region ?_
  refine J.q rfl rfl (Q.mv rfl) ?_
  refine J.q rfl rfl (Q.eqlsl Tryz.runUnderlying25 rfl rfl) ?_
  refine J.nil ?_
  refine J.then_n ?_
  refine J.cases 4 rfl (fun hc4 => ?_) (fun hc4 => ?_)
  ·
   replace hc4 := X.nm hc4
   refine J.cond_t rfl ?_
   refine J.seq ?_
   refine J.region ?_
   refine J.q rfl rfl (Q.asg rfl) ?_
   refine J.nil ?_
   refine J.then_n ?_
   refine J.cret ?_
   refine J.then_r ?_
   have hb : bs = [] := by
     cases sp with
     | none =>
       rcases hs with ⟨_, c, e, hx⟩ | ⟨b, off, len, cap, e, _⟩
       · simpa [bytesV] using hx
       · cases e
     | some a => simp at hc4
   subst hb
   refine J.give (own.nil 5 1 _) ?_
   refine J.ret1 (B := [own 5 1 (.slice none 0 0) [], G]) rfl rfl ⟨none, 0, rfl, rfl⟩ rfl
  replace hc4 := X.nm hc4
  refine J.cond_f rfl ?_
  refine J.cskip ?_
  refine J.then_n ?_
  refine J.seq ?_
  refine J.region ?_
  refine J.c rfl rfl (C.bslG (l := []) Tryz.runUnderlying25 Tryz.sizeOf5 Tryz.zeroValue5 (by decide) rfl rfl rfl rfl rfl) ?_
  rintro _ _ ⟨b5, rfl, rfl⟩
  refine J.norm rfl ?_
  refine J.conv (Y := own 5 1 (.slice (some ⟨b5, 0, none⟩) 0 0) []) 0 rfl (own.of_pt rfl (Nat.le_refl _) (by simp) (by simp) (by simp)) ?_
  refine J.q rfl rfl (Q.mv rfl) ?_
  refine J.c rfl rfl (C.app (i := 0) Tryz.runUnderlying25 Tryz.runUnderlying25 Tryz.typeInfo5 Tryz.sizeOf5 Tryz.zeroValue5 rfl rfl rfl (hs.within (i := 1) rfl) (bytesV_one bs) (by rw [show Tryz.t5.bytes = 1 from rfl]; omega) (by decide)) ?_
  rintro _ _ ⟨p7, c7, rfl, rfl⟩
  refine J.norm rfl ?_
  refine J.q rfl rfl (Q.asg rfl) ?_
  refine J.nil ?_
  refine J.then_n ?_
  refine J.cret ?_
  refine J.ret1 (B := [own 5 1 (.slice p7 (0 + bs.length) c7) ([] ++ bytesV bs), G]) rfl rfl ⟨p7, c7, by rw [Nat.zero_add], by rw [Nat.zero_add, List.nil_append]⟩ rfl

/-- A copy of texts. -/
theorem cloneS_spec (G : Assn) (sp : Option Addr) (sc : Nat) (ss : List ByteArray) (hs : SlR [G] 1 (.slice sp ss.length sc) (ss.map Value.string)) (hn : ss.length ≤ 1099511627776) :
    FSpec Tryz.prog 61 [.slice sp ss.length sc] [G] (fun v B => ∃ sp' sc', v = .slice sp' ss.length sc' ∧ B = [own 9 1 (.slice sp' ss.length sc') (ss.map Value.string), G]) := by
  refine FSpec.of Tryz.func61 rfl Tryz.ntmps61 rfl fun W0 F => ?_
  refine J.seq ?_
  refine J.region ?_
  refine J.q rfl rfl (Q.asg rfl) ?_
  refine J.nil ?_
  refine J.then_n ?_
  refine J.seq ?_
  refine J.seq ?_
  refine J.region ?_
  refine J.q rfl rfl (Q.mv rfl) ?_
  refine J.q rfl rfl (Q.eqlsl Tryz.runUnderlying35 rfl rfl) ?_
  refine J.nil ?_
  refine J.then_n ?_
  refine J.cases 4 rfl (fun hc4 => ?_) (fun hc4 => ?_)
  ·
   replace hc4 := X.nm hc4
   refine J.cond_t rfl ?_
   refine J.seq ?_
   refine J.region ?_
   refine J.q rfl rfl (Q.asg rfl) ?_
   refine J.nil ?_
   refine J.then_n ?_
   refine J.cret ?_
   refine J.then_r ?_
   have hb : ss = [] := by
     cases sp with
     | none =>
       rcases hs with ⟨_, c, e, hx⟩ | ⟨b, off, len, cap, e, _⟩
       · simpa using hx
       · cases e
     | some a => simp at hc4
   subst hb
   refine J.give (own.nil 9 1 _) ?_
   refine J.ret1 (B := [own 9 1 (.slice none 0 0) [], G]) rfl rfl ⟨none, 0, rfl, rfl⟩ rfl
  replace hc4 := X.nm hc4
  refine J.cond_f rfl ?_
  refine J.cskip ?_
  refine J.then_n ?_
  refine J.seq ?_
  refine J.region ?_
  refine J.c rfl rfl (C.bslG (l := []) Tryz.runUnderlying35 Tryz.sizeOf9 Tryz.zeroValue9 (by decide) rfl rfl rfl rfl rfl) ?_
  rintro _ _ ⟨b5, rfl, rfl⟩
  refine J.norm rfl ?_
  refine J.conv (Y := own 9 1 (.slice (some ⟨b5, 0, none⟩) 0 0) []) 0 rfl (own.of_pt rfl (Nat.le_refl _) (by simp) (by simp) (by simp)) ?_
  refine J.q rfl rfl (Q.mv rfl) ?_
  refine J.c rfl rfl (C.app (i := 0) Tryz.runUnderlying35 Tryz.runUnderlying35 Tryz.typeInfo9 Tryz.sizeOf9 Tryz.zeroValue9 rfl rfl rfl (hs.within (i := 1) rfl) (strs_one ss) (by rw [show Tryz.t9.bytes = 16 from rfl]; omega) (by decide)) ?_
  rintro _ _ ⟨p7, c7, rfl, rfl⟩
  refine J.norm rfl ?_
  refine J.q rfl rfl (Q.asg rfl) ?_
  refine J.nil ?_
  refine J.then_n ?_
  refine J.cret ?_
  refine J.ret1 (B := [own 9 1 (.slice p7 (0 + ss.length) c7) ([] ++ (ss.map Value.string)), G]) rfl rfl ⟨p7, c7, by rw [Nat.zero_add], by rw [Nat.zero_add, List.nil_append]⟩ rfl

theorem empty_asn : star [own 9 1 (.slice none 0 0) ([] : List Value), own 5 1 (.slice none 0 0) ([] : List Value)] (fun _ => none) :=
  ⟨fun _ => none, fun _ => none, own.nil _ _ _, ⟨fun _ => none, fun _ => none, own.nil _ _ _, trivial, fun _ => .inl rfl, Sub.refl _, Sub.refl _⟩, fun _ => .inl rfl, Sub.refl _, Sub.refl _⟩

theorem status_spec (n : Int) : FSpec Tryz.prog 28 [.int .i64 n] [] (fun v B => ∃ x : RW, v = .agg x.cells.toArray ∧ x.r = st n ∧ B = [x.asn]) := by
  refine FSpec.of Tryz.func28 rfl Tryz.ntmps28 rfl fun W0 F => ?_
  refine J.seq ?_
  refine J.region ?_
  refine J.c rfl rfl (C.alloc (l := [_, _, _, _, _]) Tryz.zeroValue37 rfl) ?_
  rintro _ _ ⟨b2, rfl, rfl⟩
  refine J.norm rfl ?_
  refine J.nil ?_
  refine J.then_n ?_
  refine J.seq ?_
  refine J.region ?_
  refine J.q rfl rfl (Q.mv rfl) ?_
  refine J.q rfl rfl (Q.bld (l := [_, _, _, _, _]) Tryz.runUnderlying37 Tryz.zeroValue37 Tryz.places37 rfl rfl) ?_
  refine J.stAI (vs := [_, _, _, _, _]) rfl Tryz.sizeOf37 rfl rfl (by exact rfl) (by exact rfl) (by exact rfl) ?_
  refine J.nil ?_
  refine J.then_n ?_
  refine J.cret ?_
  refine J.give empty_asn ?_
  refine J.retC [0, 2] (vs := [_, _, _, _, _]) rfl rfl Tryz.isAgg37 Tryz.sizeOf37 (ReadsN.pt 1 rfl) rfl (B := [_]) ⟨⟨st n, none, 0, none, 0⟩, rfl, rfl, rfl⟩

theorem apart_spec (G : Assn) (x : RW) (hx : x.ok G) : FSpec Tryz.prog 29 [.agg x.cells.toArray] [G] (fun v B => ∃ y : RW, v = .agg y.cells.toArray ∧ y.r = x.r ∧ B = [y.asn, G]) := by
  have hsm := hx.small
  refine FSpec.of Tryz.func29 rfl Tryz.ntmps29 rfl fun W0 F => ?_
  refine J.seq ?_
  refine J.region ?_
  refine J.c rfl rfl (C.box (l := [_, _, _, _, _]) rfl rfl) ?_
  rintro _ _ ⟨b1, rfl, rfl⟩
  refine J.norm rfl ?_
  refine J.c rfl rfl (C.alloc (l := [_, _, _, _, _]) Tryz.zeroValue37 rfl) ?_
  rintro _ _ ⟨b2, rfl, rfl⟩
  refine J.norm rfl ?_
  refine J.nil ?_
  refine J.then_n ?_
  refine J.seq ?_
  refine J.keep [1, 0, 2, 3] rfl ?_
  refine J.drawE [2, 5, 7, 9] 1 Tryz.mixed (by kernel_rfl) rfl rfl fun hR => ?_
  refine RG.q 0 hR rfl rfl rfl rfl rfl rfl (Q.fa (n := 2) Tryz.runUnderlying37 rfl rfl Tryz.sizeOf35 rfl) ?_
  refine RG.q 1 hR rfl rfl rfl rfl rfl rfl (Q.ld Tryz.isAgg35 rfl (rdI (by exact rfl))) ?_
  refine RG.q 3 hR rfl rfl rfl rfl rfl rfl (Q.fa (n := 4) Tryz.runUnderlying37 rfl rfl Tryz.sizeOf25 rfl) ?_
  refine RG.q 4 hR rfl rfl rfl rfl rfl rfl (Q.ld Tryz.isAgg25 rfl (rdI (by exact rfl))) ?_
  refine RG.callk 2 hR rfl rfl rfl rfl rfl Tryz.call61 (cloneS_spec G x.kp x.kc x.r.keys hx.keys (by omega)) [2] rfl rfl ?_
  rintro _ _ ⟨p5, c5, rfl, rfl⟩
  refine ⟨_, X.pick_perm (is := [2]) rfl, ?_⟩
  refine RG.q 6 hR rfl rfl rfl rfl rfl rfl (Q.fa (n := 2) Tryz.runUnderlying37 rfl rfl Tryz.sizeOf35 rfl) ?_
  refine RG.callk 5 hR rfl rfl rfl rfl rfl Tryz.call44 (clone_spec G x.dp x.dc x.r.data hx.data (by omega)) [2] rfl rfl ?_
  rintro _ _ ⟨p8, c8, rfl, rfl⟩
  refine ⟨_, X.pick_perm (is := [2]) rfl, ?_⟩
  refine RG.stI 7 hR rfl rfl rfl rfl rfl Tryz.sizeOf35 rfl rfl rfl (by exact rfl) (by exact rfl) (by exact rfl) ?_
  refine RG.q 8 hR rfl rfl rfl rfl rfl rfl (Q.fa (n := 4) Tryz.runUnderlying37 rfl rfl Tryz.sizeOf25 rfl) ?_
  refine RG.stI 9 hR rfl rfl rfl rfl rfl Tryz.sizeOf25 rfl rfl rfl (by exact rfl) (by exact rfl) (by exact rfl) ?_
  refine RG.fin hR rfl ?_
  refine J.norm rfl ?_
  refine J.then_n ?_
  refine J.seq ?_
  refine J.region ?_
  refine J.q rfl rfl (Q.ldN (vs := [_, _, _, _, _]) Tryz.isAgg37 Tryz.sizeOf37 rfl rnI) ?_
  refine J.stAI (vs := [_, _, _, _, _]) rfl Tryz.sizeOf37 rfl rfl (by exact rfl) (by exact rfl) (by exact rfl) ?_
  refine J.nil ?_
  refine J.then_n ?_
  refine J.cret ?_
  refine J.pack [3, 1] rfl ?_
  refine J.retC [0, 2, 4] (vs := [_, _, _, _, _]) rfl rfl Tryz.isAgg37 Tryz.sizeOf37 (ReadsN.pt 3 rfl) rfl (B := [_, G]) ⟨⟨x.r, p5, c5, p8, c8⟩, rfl, rfl, rfl⟩

/-! ### The same -/
theorem take_same {α : Type} {l m : List α} {k : Nat} {a : α} (h : l.take k = m.take k) (h1 : l[k]? = some a) (h2 : m[k]? = some a) : l.take (k + 1) = m.take (k + 1) := by
  obtain ⟨a1, b1⟩ := List.getElem?_eq_some_iff.1 h1
  obtain ⟨a2, b2⟩ := List.getElem?_eq_some_iff.1 h2
  rw [List.take_succ_eq_append_getElem a1, List.take_succ_eq_append_getElem a2, h, b1, b2]

theorem equalB_spec (G : Assn) (p q : Option Addr) (c d : Nat) (bs cs : List UInt8) (hb : SlR [G] 1 (.slice p bs.length c) (bytesV bs)) (hc : SlR [G] 1 (.slice q cs.length d) (bytesV cs)) (hn : bs.length ≤ 1099511627776) (hm : cs.length ≤ 1099511627776) :
    FSpec Tryz.prog 36 [.slice p bs.length c, .slice q cs.length d] [G] (fun v B => v = .bool (decide (bs = cs)) ∧ B = [G]) := by
  refine FSpec.of Tryz.func36 rfl Tryz.ntmps36 rfl fun W0 F => ?_
  refine J.seq ?_
  refine J.region ?_
  refine J.q rfl rfl (Q.asg rfl) ?_
  refine J.nil ?_
  refine J.then_n ?_
  refine J.seq ?_
  refine J.seq ?_
  refine J.region ?_
  refine J.q rfl rfl (Q.mv rfl) ?_
  refine J.q rfl rfl (Q.lenSl Tryz.runUnderlying25 rfl) ?_
  refine J.q rfl rfl (Q.mv rfl) ?_
  refine J.q rfl rfl (Q.lenSl Tryz.runUnderlying25 rfl) ?_
  refine J.q rfl rfl (Q.neq rfl rfl) ?_
  refine J.nil ?_
  refine J.then_n ?_
  refine J.cases 10 rfl (fun hc10 => ?_) (fun hc10 => ?_)
  ·
   replace hc10 := X.nm hc10
   refine J.cond_t rfl ?_
   refine J.seq ?_
   refine J.region ?_
   refine J.q rfl rfl (Q.asg rfl) ?_
   refine J.nil ?_
   refine J.then_n ?_
   refine J.cret ?_
   refine J.then_r ?_
   refine J.ret1 (B := [G]) rfl rfl ⟨?_, rfl⟩ rfl
   have : bs ≠ cs := by rintro rfl; omega
   simp [this]
  replace hc10 := X.nm hc10
  refine J.cond_f rfl ?_
  refine J.cskip ?_
  refine J.then_n ?_
  refine J.seq ?_
  refine J.seq ?_
  refine J.region ?_
  refine J.q rfl rfl (Q.mv rfl) ?_
  refine J.q rfl rfl (Q.lenSl Tryz.runUnderlying25 rfl) ?_
  refine J.q rfl rfl (Q.mv rfl) ?_
  refine J.nil ?_
  refine J.then_n ?_
  refine J.block ?_
  have hlen : bs.length = cs.length := by omega
  refine J.loop (fun k : Nat => k ≤ bs.length ∧ bs.take k = cs.take k) (fun k => bs.length - k) (fun k => [(0, .slice p bs.length c), (1, .slice q cs.length d), (12, .int .i64 bs.length), (13, .int .i64 k)]) (fun _ => [G, F]) 0 ⟨by omega, rfl⟩ ⟨rfl, rfl, rfl, rfl, trivial⟩ rfl fun k hk => ?_
  obtain ⟨hk, hall⟩ := hk
  refine J.seq ?_
  refine J.region ?_
  refine J.q rfl rfl (Q.lss rfl rfl) ?_
  refine J.nil ?_
  refine J.then_n ?_
  refine J.seq ?_
  refine J.cases 14 rfl (fun hc14 => ?_) (fun hc14 => ?_)
  ·
   replace hc14 := X.nm hc14
   refine J.cond_t rfl ?_
   refine J.cskip ?_
   refine J.then_n ?_
   refine J.seq ?_
   refine J.block ?_
   refine J.seq ?_
   refine J.region ?_
   refine J.q rfl rfl (Q.mv rfl) ?_
   refine J.q rfl rfl (Q.asg rfl) ?_
   refine J.nil ?_
   refine J.then_n ?_
   refine J.seq ?_
   obtain ⟨b1, o1, rfl, hr1⟩ := hb.some_ (by omega)
   obtain ⟨b2, o2, rfl, hr2⟩ := hc.some_ (by omega)
   obtain ⟨u, hu⟩ : ∃ u, bs[k]? = some u := ⟨_, List.getElem?_eq_getElem (by omega)⟩
   obtain ⟨t, ht⟩ : ∃ t, cs[k]? = some t := ⟨_, List.getElem?_eq_getElem (by omega)⟩
   refine J.draw [] Tryz.mixed (by kernel_rfl) fun hR => ?_
   refine RG.q 0 hR rfl rfl rfl rfl rfl rfl (Q.mv rfl) ?_
   refine RG.q 1 hR rfl rfl rfl rfl rfl rfl (Q.mv rfl) ?_
   refine RG.q 2 hR rfl rfl rfl rfl rfl rfl (Q.ia Tryz.runUnderlying25 Tryz.sizeOf5 rfl rfl (by omega) (by omega)) ?_
   refine RG.q 3 hR rfl rfl rfl rfl rfl rfl (Q.ld Tryz.isAgg5 rfl (((hr1 k (byteV u) (by simp [bytesV, hu])).within (i := 0) rfl).cast (by simp))) ?_
   refine RG.q 4 hR rfl rfl rfl rfl rfl rfl (Q.mv rfl) ?_
   refine RG.q 5 hR rfl rfl rfl rfl rfl rfl (Q.mv rfl) ?_
   refine RG.q 6 hR rfl rfl rfl rfl rfl rfl (Q.ia Tryz.runUnderlying25 Tryz.sizeOf5 rfl rfl (by omega) (by omega)) ?_
   refine RG.q 7 hR rfl rfl rfl rfl rfl rfl (Q.ld Tryz.isAgg5 rfl (((hr2 k (byteV t) (by simp [bytesV, ht])).within (i := 0) rfl).cast (by simp))) ?_
   refine RG.q 8 hR rfl rfl rfl rfl rfl rfl (Q.neq rfl rfl) ?_
   refine RG.fin hR rfl ?_
   refine J.norm rfl ?_
   refine J.then_n ?_
   refine J.cases 24 rfl (fun hc24 => ?_) (fun hc24 => ?_)
   ·
    replace hc24 := X.nm hc24
    refine J.cond_t rfl ?_
    refine J.seq ?_
    refine J.region ?_
    refine J.q rfl rfl (Q.asg rfl) ?_
    refine J.nil ?_
    refine J.then_n ?_
    refine J.cret ?_
    refine J.blk_r ?_
    refine J.then_r ?_
    refine J.lp_r ?_
    refine J.blk_r ?_
    refine J.then_r ?_
    refine J.ret1 (B := [G]) rfl rfl ⟨?_, rfl⟩ rfl
    have hne : bs ≠ cs := by
      rintro rfl
      rw [hu] at ht
      cases ht
      exact hc24 rfl
    simp [hne]
   replace hc24 := X.nm hc24
   refine J.cond_f rfl ?_
   refine J.cskip ?_
   refine J.blk_n ?_
   refine J.then_n ?_
   refine J.region ?_
   refine J.q rfl rfl (Q.add64 rfl rfl (by omega)) ?_
   refine J.q rfl rfl (Q.mv rfl) ?_
   refine J.nil ?_
   have hut : u = t := by
     have : (u.toNat : Int) = t.toNat := hc24
     exact UInt8.toNat_inj.1 (by omega)
   subst hut
   refine J.again (k + 1) ⟨by omega, take_same hall hu ht⟩ (by omega) ⟨rfl, rfl, rfl, rfl, trivial⟩ rfl
  replace hc14 := X.nm hc14
  refine J.cond_f rfl ?_
  refine J.exit ?_
  refine J.then_x ?_
  refine J.lp_x ?_
  refine J.blk_x ?_
  refine J.then_n ?_
  refine J.seq ?_
  refine J.region ?_
  refine J.q rfl rfl (Q.asg rfl) ?_
  refine J.nil ?_
  refine J.then_n ?_
  refine J.cret ?_
  refine J.ret1 (B := [G]) rfl rfl ⟨?_, rfl⟩ rfl
  have hkn : k = bs.length := by omega
  have : bs = cs := by rw [hkn, List.take_length, hlen, List.take_length] at hall; exact hall
  simp [this]

theorem equalS_spec (G : Assn) (p q : Option Addr) (c d : Nat) (bs cs : List ByteArray) (hb : SlR [G] 1 (.slice p bs.length c) (bs.map Value.string)) (hc : SlR [G] 1 (.slice q cs.length d) (cs.map Value.string)) (hn : bs.length ≤ 1099511627776) (hm : cs.length ≤ 1099511627776) :
    FSpec Tryz.prog 35 [.slice p bs.length c, .slice q cs.length d] [G] (fun v B => v = .bool (decide (bs = cs)) ∧ B = [G]) := by
  refine FSpec.of Tryz.func35 rfl Tryz.ntmps35 rfl fun W0 F => ?_
  refine J.seq ?_
  refine J.region ?_
  refine J.q rfl rfl (Q.asg rfl) ?_
  refine J.nil ?_
  refine J.then_n ?_
  refine J.seq ?_
  refine J.seq ?_
  refine J.region ?_
  refine J.q rfl rfl (Q.mv rfl) ?_
  refine J.q rfl rfl (Q.lenSl Tryz.runUnderlying35 rfl) ?_
  refine J.q rfl rfl (Q.mv rfl) ?_
  refine J.q rfl rfl (Q.lenSl Tryz.runUnderlying35 rfl) ?_
  refine J.q rfl rfl (Q.neq rfl rfl) ?_
  refine J.nil ?_
  refine J.then_n ?_
  refine J.cases 10 rfl (fun hc10 => ?_) (fun hc10 => ?_)
  ·
   replace hc10 := X.nm hc10
   refine J.cond_t rfl ?_
   refine J.seq ?_
   refine J.region ?_
   refine J.q rfl rfl (Q.asg rfl) ?_
   refine J.nil ?_
   refine J.then_n ?_
   refine J.cret ?_
   refine J.then_r ?_
   refine J.ret1 (B := [G]) rfl rfl ⟨?_, rfl⟩ rfl
   have : bs ≠ cs := by rintro rfl; omega
   simp [this]
  replace hc10 := X.nm hc10
  refine J.cond_f rfl ?_
  refine J.cskip ?_
  refine J.then_n ?_
  refine J.seq ?_
  refine J.seq ?_
  refine J.region ?_
  refine J.q rfl rfl (Q.mv rfl) ?_
  refine J.q rfl rfl (Q.lenSl Tryz.runUnderlying35 rfl) ?_
  refine J.q rfl rfl (Q.mv rfl) ?_
  refine J.nil ?_
  refine J.then_n ?_
  refine J.block ?_
  have hlen : bs.length = cs.length := by omega
  refine J.loop (fun k : Nat => k ≤ bs.length ∧ bs.take k = cs.take k) (fun k => bs.length - k) (fun k => [(0, .slice p bs.length c), (1, .slice q cs.length d), (12, .int .i64 bs.length), (13, .int .i64 k)]) (fun _ => [G, F]) 0 ⟨by omega, rfl⟩ ⟨rfl, rfl, rfl, rfl, trivial⟩ rfl fun k hk => ?_
  obtain ⟨hk, hall⟩ := hk
  refine J.seq ?_
  refine J.region ?_
  refine J.q rfl rfl (Q.lss rfl rfl) ?_
  refine J.nil ?_
  refine J.then_n ?_
  refine J.seq ?_
  refine J.cases 14 rfl (fun hc14 => ?_) (fun hc14 => ?_)
  ·
   replace hc14 := X.nm hc14
   refine J.cond_t rfl ?_
   refine J.cskip ?_
   refine J.then_n ?_
   refine J.seq ?_
   refine J.block ?_
   refine J.seq ?_
   refine J.region ?_
   refine J.q rfl rfl (Q.mv rfl) ?_
   refine J.q rfl rfl (Q.asg rfl) ?_
   refine J.nil ?_
   refine J.then_n ?_
   refine J.seq ?_
   obtain ⟨b1, o1, rfl, hr1⟩ := hb.some_ (by omega)
   obtain ⟨b2, o2, rfl, hr2⟩ := hc.some_ (by omega)
   obtain ⟨u, hu⟩ : ∃ u, bs[k]? = some u := ⟨_, List.getElem?_eq_getElem (by omega)⟩
   obtain ⟨t, ht⟩ : ∃ t, cs[k]? = some t := ⟨_, List.getElem?_eq_getElem (by omega)⟩
   refine J.draw [] Tryz.mixed (by kernel_rfl) fun hR => ?_
   refine RG.q 0 hR rfl rfl rfl rfl rfl rfl (Q.mv rfl) ?_
   refine RG.q 1 hR rfl rfl rfl rfl rfl rfl (Q.mv rfl) ?_
   refine RG.q 2 hR rfl rfl rfl rfl rfl rfl (Q.ia Tryz.runUnderlying35 Tryz.sizeOf9 rfl rfl (by omega) (by omega)) ?_
   refine RG.q 3 hR rfl rfl rfl rfl rfl rfl (Q.ld Tryz.isAgg9 rfl (((hr1 k (.string u) (by simp [hu])).within (i := 0) rfl).cast (by simp))) ?_
   refine RG.q 4 hR rfl rfl rfl rfl rfl rfl (Q.mv rfl) ?_
   refine RG.q 5 hR rfl rfl rfl rfl rfl rfl (Q.mv rfl) ?_
   refine RG.q 6 hR rfl rfl rfl rfl rfl rfl (Q.ia Tryz.runUnderlying35 Tryz.sizeOf9 rfl rfl (by omega) (by omega)) ?_
   refine RG.q 7 hR rfl rfl rfl rfl rfl rfl (Q.ld Tryz.isAgg9 rfl (((hr2 k (.string t) (by simp [ht])).within (i := 0) rfl).cast (by simp))) ?_
   refine RG.q 8 hR rfl rfl rfl rfl rfl rfl (Q.neqs rfl rfl) ?_
   refine RG.fin hR rfl ?_
   refine J.norm rfl ?_
   refine J.then_n ?_
   refine J.cases 24 rfl (fun hc24 => ?_) (fun hc24 => ?_)
   ·
    replace hc24 := X.nm hc24
    refine J.cond_t rfl ?_
    refine J.seq ?_
    refine J.region ?_
    refine J.q rfl rfl (Q.asg rfl) ?_
    refine J.nil ?_
    refine J.then_n ?_
    refine J.cret ?_
    refine J.blk_r ?_
    refine J.then_r ?_
    refine J.lp_r ?_
    refine J.blk_r ?_
    refine J.then_r ?_
    refine J.ret1 (B := [G]) rfl rfl ⟨?_, rfl⟩ rfl
    have hne : bs ≠ cs := by
      rintro rfl
      rw [hu] at ht
      cases ht
      exact hc24 rfl
    simp [hne]
   replace hc24 := X.nm hc24
   refine J.cond_f rfl ?_
   refine J.cskip ?_
   refine J.blk_n ?_
   refine J.then_n ?_
   refine J.region ?_
   refine J.q rfl rfl (Q.add64 rfl rfl (by omega)) ?_
   refine J.q rfl rfl (Q.mv rfl) ?_
   refine J.nil ?_
   have hut : u = t := by
     have : u.data.toList = t.data.toList := hc24
     cases u; cases t; simp at this; rw [this]
   subst hut
   refine J.again (k + 1) ⟨by omega, take_same hall hu ht⟩ (by omega) ⟨rfl, rfl, rfl, rfl, trivial⟩ rfl
  replace hc14 := X.nm hc14
  refine J.cond_f rfl ?_
  refine J.exit ?_
  refine J.then_x ?_
  refine J.lp_x ?_
  refine J.blk_x ?_
  refine J.then_n ?_
  refine J.seq ?_
  refine J.region ?_
  refine J.q rfl rfl (Q.asg rfl) ?_
  refine J.nil ?_
  refine J.then_n ?_
  refine J.cret ?_
  refine J.ret1 (B := [G]) rfl rfl ⟨?_, rfl⟩ rfl
  have hkn : k = bs.length := by omega
  have : bs = cs := by rw [hkn, List.take_length, hlen, List.take_length] at hall; exact hall
  simp [this]

def sameM (a b : RM) : Bool := decide (a.status = b.status) && decide (a.upload = b.upload) && (a.more == b.more) && decide (a.keys = b.keys) && decide (a.data = b.data)
theorem sameM_iff (a b : RM) : sameM a b = true ↔ a = b := by
  cases a; cases b
  simp only [sameM, Bool.and_eq_true, decide_eq_true_eq, beq_iff_eq, RM.mk.injEq]
  exact ⟨fun ⟨⟨⟨⟨h1, h2⟩, h3⟩, h4⟩, h5⟩ => ⟨h1, h2, h4, h3, h5⟩, fun ⟨h1, h2, h4, h3, h5⟩ => ⟨⟨⟨⟨h1, h2⟩, h3⟩, h4⟩, h5⟩⟩

theorem same_spec (G : Assn) (x y : RW) (hx : x.ok G) (hy : y.ok G) : FSpec Tryz.prog 13 [.agg x.cells.toArray, .agg y.cells.toArray] [G] (fun v B => v = .bool (sameM x.r y.r) ∧ B = [G]) := by
  have hsm := hx.small
  have hsn := hy.small
  refine FSpec.of Tryz.func13 rfl Tryz.ntmps13 rfl fun W0 F => ?_
  refine J.seq ?_
  refine J.region ?_
  refine J.c rfl rfl (C.box (l := [_, _, _, _, _]) rfl rfl) ?_
  rintro _ _ ⟨b2, rfl, rfl⟩
  refine J.norm rfl ?_
  refine J.c rfl rfl (C.box (l := [_, _, _, _, _]) rfl rfl) ?_
  rintro _ _ ⟨b3, rfl, rfl⟩
  refine J.norm rfl ?_
  refine J.q rfl rfl (Q.asg rfl) ?_
  refine J.nil ?_
  refine J.then_n ?_
  refine J.seq ?_
  refine J.region ?_
  refine J.q rfl rfl (Q.fa (n := 0) Tryz.runUnderlying37 rfl rfl Tryz.sizeOf3 rfl) ?_
  refine J.q rfl rfl (Q.ld Tryz.isAgg3 rfl (rdI (by exact rfl))) ?_
  refine J.q rfl rfl (Q.fa (n := 0) Tryz.runUnderlying37 rfl rfl Tryz.sizeOf3 rfl) ?_
  refine J.q rfl rfl (Q.ld Tryz.isAgg3 rfl (rdI (by exact rfl))) ?_
  refine J.q rfl rfl (Q.eql rfl rfl) ?_
  refine J.q rfl rfl (Q.mv rfl) ?_
  refine J.cases 10 rfl (fun hb10 => ?_) (fun hb10 => ?_)
  ·
   replace hb10 := X.nm hb10
   refine J.q rfl rfl (Q.fa (n := 1) Tryz.runUnderlying37 rfl rfl Tryz.sizeOf23 rfl) ?_
   refine J.q rfl rfl (Q.ld Tryz.isAgg23 rfl (rdI (by exact rfl))) ?_
   refine J.q rfl rfl (Q.fa (n := 1) Tryz.runUnderlying37 rfl rfl Tryz.sizeOf23 rfl) ?_
   refine J.q rfl rfl (Q.ld Tryz.isAgg23 rfl (rdI (by exact rfl))) ?_
   refine J.q rfl rfl (Q.eql rfl rfl) ?_
   refine J.q rfl rfl (Q.pick_t rfl rfl) ?_
   refine J.q rfl rfl (Q.mv rfl) ?_
   refine J.cases 17 rfl (fun hb17 => ?_) (fun hb17 => ?_)
   ·
    replace hb17 := X.nm hb17
    refine J.q rfl rfl (Q.fa (n := 3) Tryz.runUnderlying37 rfl rfl Tryz.sizeOf4 rfl) ?_
    refine J.q rfl rfl (Q.ld Tryz.isAgg4 rfl (rdI (by exact rfl))) ?_
    refine J.q rfl rfl (Q.fa (n := 3) Tryz.runUnderlying37 rfl rfl Tryz.sizeOf4 rfl) ?_
    refine J.q rfl rfl (Q.ld Tryz.isAgg4 rfl (rdI (by exact rfl))) ?_
    refine J.q rfl rfl (Q.eqlb Tryz.runUnderlying4 rfl rfl) ?_
    refine J.q rfl rfl (Q.pick_t rfl rfl) ?_
    refine J.q rfl rfl (Q.mv rfl) ?_
    refine J.cases 24 rfl (fun hb24 => ?_) (fun hb24 => ?_)
    ·
     replace hb24 := X.nm hb24
     refine J.q rfl rfl (Q.fa (n := 2) Tryz.runUnderlying37 rfl rfl Tryz.sizeOf35 rfl) ?_
     refine J.q rfl rfl (Q.ld Tryz.isAgg35 rfl (rdI (by exact rfl))) ?_
     refine J.q rfl rfl (Q.fa (n := 2) Tryz.runUnderlying37 rfl rfl Tryz.sizeOf35 rfl) ?_
     refine J.q rfl rfl (Q.ld Tryz.isAgg35 rfl (rdI (by exact rfl))) ?_
     refine J.call Tryz.call35 (equalS_spec G x.kp y.kp x.kc y.kc x.r.keys y.r.keys hx.keys hy.keys (by omega) (by omega)) [2] rfl rfl rfl rfl ?_
     rintro _ _ ⟨rfl, rfl⟩
     refine J.norm rfl ?_
     refine J.q rfl rfl (Q.pick_t rfl rfl) ?_
     refine J.q rfl rfl (Q.mv rfl) ?_
     refine J.cases 31 rfl (fun hb31 => ?_) (fun hb31 => ?_)
     ·
      replace hb31 := X.nm hb31
      refine J.q rfl rfl (Q.fa (n := 4) Tryz.runUnderlying37 rfl rfl Tryz.sizeOf25 rfl) ?_
      refine J.q rfl rfl (Q.ld Tryz.isAgg25 rfl (rdI (by exact rfl))) ?_
      refine J.q rfl rfl (Q.fa (n := 4) Tryz.runUnderlying37 rfl rfl Tryz.sizeOf25 rfl) ?_
      refine J.q rfl rfl (Q.ld Tryz.isAgg25 rfl (rdI (by exact rfl))) ?_
      refine J.call Tryz.call36 (equalB_spec G x.dp y.dp x.dc y.dc x.r.data y.r.data hx.data hy.data (by omega) (by omega)) [0] rfl rfl rfl rfl ?_
      rintro _ _ ⟨rfl, rfl⟩
      refine J.norm rfl ?_
      refine J.q rfl rfl (Q.pick_t rfl rfl) ?_
      refine J.q rfl rfl (Q.asg rfl) ?_
      refine J.nil ?_
      refine J.then_n ?_
      refine J.cret ?_
      first | refine J.keep [0, 3] rfl ?_; refine J.ret1 (B := [G]) rfl rfl ⟨?_, rfl⟩ rfl | refine J.keep [2, 3] rfl ?_; refine J.ret1 (B := [G]) rfl rfl ⟨?_, rfl⟩ rfl
      simp_all [sameM] <;> omega
     replace hb31 := X.nm hb31
     refine J.skip rfl rfl ?_
     refine J.skip rfl rfl ?_
     refine J.skip rfl rfl ?_
     refine J.skip rfl rfl ?_
     refine J.skip rfl rfl ?_
     refine J.q rfl rfl (Q.pick_f rfl rfl) ?_
     refine J.q rfl rfl (Q.asg rfl) ?_
     refine J.nil ?_
     refine J.then_n ?_
     refine J.cret ?_
     first | refine J.keep [0, 3] rfl ?_; refine J.ret1 (B := [G]) rfl rfl ⟨?_, rfl⟩ rfl | refine J.keep [2, 3] rfl ?_; refine J.ret1 (B := [G]) rfl rfl ⟨?_, rfl⟩ rfl
     simp_all [sameM] <;> omega
    replace hb24 := X.nm hb24
    refine J.skip rfl rfl ?_
    refine J.skip rfl rfl ?_
    refine J.skip rfl rfl ?_
    refine J.skip rfl rfl ?_
    refine J.skip rfl rfl ?_
    refine J.q rfl rfl (Q.pick_f rfl rfl) ?_
    refine J.q rfl rfl (Q.mv rfl) ?_
    refine J.skip rfl rfl ?_
    refine J.skip rfl rfl ?_
    refine J.skip rfl rfl ?_
    refine J.skip rfl rfl ?_
    refine J.skip rfl rfl ?_
    refine J.q rfl rfl (Q.pick_f rfl rfl) ?_
    refine J.q rfl rfl (Q.asg rfl) ?_
    refine J.nil ?_
    refine J.then_n ?_
    refine J.cret ?_
    first | refine J.keep [0, 3] rfl ?_; refine J.ret1 (B := [G]) rfl rfl ⟨?_, rfl⟩ rfl | refine J.keep [2, 3] rfl ?_; refine J.ret1 (B := [G]) rfl rfl ⟨?_, rfl⟩ rfl
    simp_all [sameM] <;> omega
   replace hb17 := X.nm hb17
   refine J.skip rfl rfl ?_
   refine J.skip rfl rfl ?_
   refine J.skip rfl rfl ?_
   refine J.skip rfl rfl ?_
   refine J.skip rfl rfl ?_
   refine J.q rfl rfl (Q.pick_f rfl rfl) ?_
   refine J.q rfl rfl (Q.mv rfl) ?_
   refine J.skip rfl rfl ?_
   refine J.skip rfl rfl ?_
   refine J.skip rfl rfl ?_
   refine J.skip rfl rfl ?_
   refine J.skip rfl rfl ?_
   refine J.q rfl rfl (Q.pick_f rfl rfl) ?_
   refine J.q rfl rfl (Q.mv rfl) ?_
   refine J.skip rfl rfl ?_
   refine J.skip rfl rfl ?_
   refine J.skip rfl rfl ?_
   refine J.skip rfl rfl ?_
   refine J.skip rfl rfl ?_
   refine J.q rfl rfl (Q.pick_f rfl rfl) ?_
   refine J.q rfl rfl (Q.asg rfl) ?_
   refine J.nil ?_
   refine J.then_n ?_
   refine J.cret ?_
   first | refine J.keep [0, 3] rfl ?_; refine J.ret1 (B := [G]) rfl rfl ⟨?_, rfl⟩ rfl | refine J.keep [2, 3] rfl ?_; refine J.ret1 (B := [G]) rfl rfl ⟨?_, rfl⟩ rfl
   simp_all [sameM] <;> omega
  replace hb10 := X.nm hb10
  refine J.skip rfl rfl ?_
  refine J.skip rfl rfl ?_
  refine J.skip rfl rfl ?_
  refine J.skip rfl rfl ?_
  refine J.skip rfl rfl ?_
  refine J.q rfl rfl (Q.pick_f rfl rfl) ?_
  refine J.q rfl rfl (Q.mv rfl) ?_
  refine J.skip rfl rfl ?_
  refine J.skip rfl rfl ?_
  refine J.skip rfl rfl ?_
  refine J.skip rfl rfl ?_
  refine J.skip rfl rfl ?_
  refine J.q rfl rfl (Q.pick_f rfl rfl) ?_
  refine J.q rfl rfl (Q.mv rfl) ?_
  refine J.skip rfl rfl ?_
  refine J.skip rfl rfl ?_
  refine J.skip rfl rfl ?_
  refine J.skip rfl rfl ?_
  refine J.skip rfl rfl ?_
  refine J.q rfl rfl (Q.pick_f rfl rfl) ?_
  refine J.q rfl rfl (Q.mv rfl) ?_
  refine J.skip rfl rfl ?_
  refine J.skip rfl rfl ?_
  refine J.skip rfl rfl ?_
  refine J.skip rfl rfl ?_
  refine J.skip rfl rfl ?_
  refine J.q rfl rfl (Q.pick_f rfl rfl) ?_
  refine J.q rfl rfl (Q.asg rfl) ?_
  refine J.nil ?_
  refine J.then_n ?_
  refine J.cret ?_
  first | refine J.keep [0, 3] rfl ?_; refine J.ret1 (B := [G]) rfl rfl ⟨?_, rfl⟩ rfl | refine J.keep [2, 3] rfl ?_; refine J.ret1 (B := [G]) rfl rfl ⟨?_, rfl⟩ rfl
  simp_all [sameM] <;> omega
end Go.Proofs.YtdancegklkifaaaGreat
namespace Go.Proofs.YtdancegklkifaaaGreat
set_option linter.unusedSectionVars false
set_option linter.unusedSimpArgs false
set_option linter.unusedVariables false
open Go.X
open Go.X.G (Ord3 ord3_nat ord3_int ord3_str ltB sget sput sdel Srtd MapAt MapHole plainRep)

abbrev ltN : Nat → Nat → Bool := fun a b => decide (a < b)
abbrev ltI : Int → Int → Bool := fun a b => decide (a < b)
abbrev Objs := List (ByteArray × List UInt8)
abbrev Parts := List (Int × List UInt8)

structure UM where
  bucket : ByteArray
  key : ByteArray
  parts : Parts

structure BM where
  buckets : List (ByteArray × Objs)
  uploads : List (Nat × UM)
  done : List (Nat × RM)

/-- What holds of a store, with so many things in it at the most. -/
structure BM.ok (k : Nat) (M : BM) : Prop where
  bs : Srtd ltB M.buckets
  os : ∀ n o, sget n M.buckets = some o → Srtd ltB o ∧ o.length ≤ k ∧ ∀ a d, sget a o = some d → d.length ≤ 274877906944
  us : Srtd ltN M.uploads
  ps : ∀ n u, sget n M.uploads = some u → Srtd ltI u.parts ∧ (sget u.bucket M.buckets).isSome = true ∧ ∀ a d, sget a u.parts = some d → d.length ≤ 16777216
  ds : Srtd ltN M.done
  rs : ∀ n r, sget n M.done = some r → r.keys.length ≤ 1000 ∧ r.data.length ≤ 274877906944
  len : M.buckets.length ≤ k ∧ M.uploads.length ≤ k ∧ M.done.length ≤ k

theorem BM.ok.new : BM.ok 0 ⟨[], [], []⟩ := ⟨List.Pairwise.nil, (fun _ _ h => by cases h), List.Pairwise.nil, (fun _ _ h => by cases h), List.Pairwise.nil, (fun _ _ h => by cases h), by simp⟩

/-! ### In memory -/
def encU (n : Nat) : Value := .int .u64 n
theorem keyS : X.G.Keyed Tryz.prog 9 Value.string := X.G.keyed_str Tryz.runUnderlying9
theorem keyU : X.G.Keyed Tryz.prog 23 encU := X.G.keyed_nat .u64 Tryz.runUnderlying23
theorem keyI : X.G.Keyed Tryz.prog 3 (Value.int .i64) := X.G.keyed_int .i64 Tryz.runUnderlying3

/-- Bytes that an entry holds for itself. -/
def datRep {κ : Type} (_ : κ) (bs : List UInt8) (val : Value) : Assn := fun h => ∃ z : Option Addr × Nat, val = .slice z.1 bs.length z.2 ∧ HSat h [own 5 1 (.slice z.1 bs.length z.2) (bytesV bs)]
def bRep (_ : ByteArray) (o : Objs) (val : Value) : Assn := fun h => ∃ r : Nat, val = .map (some r) ∧ HSat h [MapAt Value.string datRep r o]
def uRep (_ : Nat) (u : UM) (val : Value) : Assn := fun h => ∃ z : Nat × Nat, val = .pointer (some ⟨z.1, 0, none⟩) ∧ HSat h [pt z.1 (.cells [.string u.bucket, .string u.key, .map (some z.2)].toArray 68 (0, 0)), MapAt (Value.int .i64) datRep z.2 u.parts]
def dRep (_ : Nat) (r : RM) (val : Value) : Assn := fun h => ∃ x : RW, (x.r = r ∧ val = .agg x.cells.toArray) ∧ HSat h [x.asn]

def bktAsns (m : Nat) (M : BM) (z : Nat × Nat × Nat) : List Assn :=
  [pt m (.cells [.map (some z.1), .map (some z.2.1), .map (some z.2.2)].toArray 51 (0, 0)), MapAt Value.string bRep z.1 M.buckets, MapAt encU uRep z.2.1 M.uploads, MapAt encU dRep z.2.2 M.done]
def BktAt (m : Nat) (M : BM) : Assn := fun h => ∃ z : Nat × Nat × Nat, HSat h (bktAsns m M z)

theorem new_spec : FSpec Tryz.prog 7 [] [] (fun v B => ∃ m, v = .pointer (some ⟨m, 0, none⟩) ∧ B = [BktAt m ⟨[], [], []⟩]) := by
  refine FSpec.of Tryz.func7 rfl Tryz.ntmps7 rfl fun W0 F => ?_
  refine J.seq ?_
  refine J.region ?_
  refine J.q rfl rfl (Q.asg rfl) ?_
  refine J.nil ?_
  refine J.then_n ?_
  refine J.seq ?_
  refine J.region ?_
  refine J.c rfl rfl C.mkMap ?_
  rintro _ _ ⟨b1, rfl, rfl⟩
  refine J.norm rfl ?_
  refine J.c rfl rfl C.mkMap ?_
  rintro _ _ ⟨b2, rfl, rfl⟩
  refine J.norm rfl ?_
  refine J.c rfl rfl C.mkMap ?_
  rintro _ _ ⟨b3, rfl, rfl⟩
  refine J.norm rfl ?_
  refine J.q rfl rfl (Q.bld (l := [_, _, _]) Tryz.runUnderlying51 Tryz.zeroValue51 Tryz.places51 rfl rfl) ?_
  refine J.c rfl rfl (C.box (l := [_, _, _]) rfl rfl) ?_
  rintro _ _ ⟨b5, rfl, rfl⟩
  refine J.norm rfl ?_
  refine J.q rfl rfl (Q.asg rfl) ?_
  refine J.nil ?_
  refine J.then_n ?_
  refine J.cret ?_
  refine J.conv (Y := MapAt encU dRep b3 []) 1 rfl MapAt.new ?_
  refine J.conv (Y := MapAt encU uRep b2 []) 2 rfl MapAt.new ?_
  refine J.conv (Y := MapAt Value.string bRep b1 []) 3 rfl MapAt.new ?_
  refine J.shut [3, 0, 1, 2] (BktAt b5 ⟨[], [], []⟩) rfl (fun h s => ⟨(b1, b2, b3), s⟩) ?_
  refine J.ret1 (B := [BktAt b5 ⟨[], [], []⟩]) rfl rfl ⟨b5, rfl, rfl⟩ rfl

theorem known_no (m : Nat) (M : BM) (x : OW) (hB : sget x.o.bucket M.buckets = none) : FSpec Tryz.prog 94 [.pointer (some ⟨m, 0, none⟩), .agg x.cells.toArray] [BktAt m M] (fun v B => v = .bool false ∧ B = [BktAt m M]) := by
  refine FSpec.of Tryz.func94 rfl Tryz.ntmps94 rfl fun W0 F => ?_
  refine J.seq ?_
  refine J.region ?_
  refine J.c rfl rfl (C.box (l := [_, _, _, _, _, _, _, _, _]) rfl rfl) ?_
  rintro _ _ ⟨b3, rfl, rfl⟩
  refine J.norm rfl ?_
  refine J.q rfl rfl (Q.asg rfl) ?_
  refine J.nil ?_
  refine J.then_n ?_
  refine J.seq ?_
  refine J.open1 1 rfl (fun _ h => h) fun z => ?_
  refine J.norm rfl ?_
  first
    | (refine J.mapFocus 1 hB rfl fun val => ?_
       refine J.norm rfl ?_
       refine J.open_ 0 rfl rfl (fun _ h => h) fun r hr => ?_
       subst hr
       refine J.norm rfl ?_)
    | skip
  refine J.draw [8] Tryz.mixed (by kernel_rfl) fun hR => ?_
  refine RG.q 0 hR rfl rfl rfl rfl rfl rfl (Q.mv rfl) ?_
  refine RG.q 1 hR rfl rfl rfl rfl rfl rfl (Q.nil_ rfl) ?_
  refine RG.q 2 hR rfl rfl rfl rfl rfl rfl (Q.fa (n := 0) Tryz.runUnderlying51 rfl rfl Tryz.sizeOf47 rfl) ?_
  refine RG.q 3 hR rfl rfl rfl rfl rfl rfl (Q.ld Tryz.isAgg47 rfl (rdI (by exact rfl))) ?_
  refine RG.q 4 hR rfl rfl rfl rfl rfl rfl (Q.fa (n := 2) Tryz.runUnderlying27 rfl rfl Tryz.sizeOf9 rfl) ?_
  refine RG.q 5 hR rfl rfl rfl rfl rfl rfl (Q.ld Tryz.isAgg9 rfl (rdI (by exact rfl))) ?_
  refine RG.q 6 hR rfl rfl rfl rfl rfl rfl (by first | exact X.G.Q.lkNo (i := 1) Tryz.runUnderlying47 keyS Tryz.zeroValue57 rfl rfl rfl hB | exact X.G.Q.lkYes (i := 1) Tryz.runUnderlying47 keyS Tryz.zeroValue57 rfl rfl rfl) ?_
  refine RG.q 7 hR rfl rfl rfl rfl rfl rfl (Q.neqm Tryz.runUnderlying57 rfl rfl) ?_
  refine RG.bar 8 hR rfl rfl rfl rfl rfl rfl (Q.asg rfl).toC ?_
  rintro _ _ ⟨rfl, rfl⟩
  refine RG.norm rfl ?_
  refine RG.fin hR rfl ?_
  refine J.norm rfl ?_
  refine J.then_n ?_
  refine J.cret ?_
  first
    | (refine J.shut [0] (bRep x.o.bucket objs (.map (some r))) rfl (fun h s => ⟨r, rfl, s⟩) ?_
       refine J.mapSame 0 1 ord3_str hM.bs hB rfl ?_)
    | skip
  first
    | (refine J.shut [0, 1, 2, 3] (BktAt m M) rfl (fun h s => ⟨z, s⟩) ?_
       refine J.keep [0, 2] rfl ?_
       refine J.ret1 (B := [BktAt m M]) rfl rfl ⟨rfl, rfl⟩ rfl)
    | (refine J.shut [1, 0, 2, 3] (BktAt m M) rfl (fun h s => ⟨z, s⟩) ?_
       refine J.keep [0, 2] rfl ?_
       refine J.ret1 (B := [BktAt m M]) rfl rfl ⟨rfl, rfl⟩ rfl)
theorem known_yes {k : Nat} (m : Nat) (M : BM) (hM : M.ok k) (x : OW) {objs : Objs} (hB : sget x.o.bucket M.buckets = some objs) : FSpec Tryz.prog 94 [.pointer (some ⟨m, 0, none⟩), .agg x.cells.toArray] [BktAt m M] (fun v B => v = .bool true ∧ B = [BktAt m M]) := by
  refine FSpec.of Tryz.func94 rfl Tryz.ntmps94 rfl fun W0 F => ?_
  refine J.seq ?_
  refine J.region ?_
  refine J.c rfl rfl (C.box (l := [_, _, _, _, _, _, _, _, _]) rfl rfl) ?_
  rintro _ _ ⟨b3, rfl, rfl⟩
  refine J.norm rfl ?_
  refine J.q rfl rfl (Q.asg rfl) ?_
  refine J.nil ?_
  refine J.then_n ?_
  refine J.seq ?_
  refine J.open1 1 rfl (fun _ h => h) fun z => ?_
  refine J.norm rfl ?_
  first
    | (refine J.mapFocus 1 hB rfl fun val => ?_
       refine J.norm rfl ?_
       refine J.open_ 0 rfl rfl (fun _ h => h) fun r hr => ?_
       subst hr
       refine J.norm rfl ?_)
    | skip
  refine J.draw [8] Tryz.mixed (by kernel_rfl) fun hR => ?_
  refine RG.q 0 hR rfl rfl rfl rfl rfl rfl (Q.mv rfl) ?_
  refine RG.q 1 hR rfl rfl rfl rfl rfl rfl (Q.nil_ rfl) ?_
  refine RG.q 2 hR rfl rfl rfl rfl rfl rfl (Q.fa (n := 0) Tryz.runUnderlying51 rfl rfl Tryz.sizeOf47 rfl) ?_
  refine RG.q 3 hR rfl rfl rfl rfl rfl rfl (Q.ld Tryz.isAgg47 rfl (rdI (by exact rfl))) ?_
  refine RG.q 4 hR rfl rfl rfl rfl rfl rfl (Q.fa (n := 2) Tryz.runUnderlying27 rfl rfl Tryz.sizeOf9 rfl) ?_
  refine RG.q 5 hR rfl rfl rfl rfl rfl rfl (Q.ld Tryz.isAgg9 rfl (rdI (by exact rfl))) ?_
  refine RG.q 6 hR rfl rfl rfl rfl rfl rfl (by first | exact X.G.Q.lkNo (i := 1) Tryz.runUnderlying47 keyS Tryz.zeroValue57 rfl rfl rfl hB | exact X.G.Q.lkYes (i := 1) Tryz.runUnderlying47 keyS Tryz.zeroValue57 rfl rfl rfl) ?_
  refine RG.q 7 hR rfl rfl rfl rfl rfl rfl (Q.neqm Tryz.runUnderlying57 rfl rfl) ?_
  refine RG.bar 8 hR rfl rfl rfl rfl rfl rfl (Q.asg rfl).toC ?_
  rintro _ _ ⟨rfl, rfl⟩
  refine RG.norm rfl ?_
  refine RG.fin hR rfl ?_
  refine J.norm rfl ?_
  refine J.then_n ?_
  refine J.cret ?_
  first
    | (refine J.shut [0] (bRep x.o.bucket objs (.map (some r))) rfl (fun h s => ⟨r, rfl, s⟩) ?_
       refine J.mapSame 0 1 ord3_str hM.bs hB rfl ?_)
    | skip
  first
    | (refine J.shut [0, 1, 2, 3] (BktAt m M) rfl (fun h s => ⟨z, s⟩) ?_
       refine J.keep [0, 2] rfl ?_
       refine J.ret1 (B := [BktAt m M]) rfl rfl ⟨rfl, rfl⟩ rfl)
    | (refine J.shut [1, 0, 2, 3] (BktAt m M) rfl (fun h s => ⟨z, s⟩) ?_
       refine J.keep [0, 2] rfl ?_
       refine J.ret1 (B := [BktAt m M]) rfl rfl ⟨rfl, rfl⟩ rfl)

/-! ### The table -/
def tabM (m : Nat) : List (Int × Value) := [(1, .func (.func 62) #[.pointer (some ⟨m, 0, none⟩)] #[]), (2, .func (.func 63) #[.pointer (some ⟨m, 0, none⟩)] #[]), (3, .func (.func 64) #[.pointer (some ⟨m, 0, none⟩)] #[]), (4, .func (.func 65) #[.pointer (some ⟨m, 0, none⟩)] #[]), (5, .func (.func 66) #[.pointer (some ⟨m, 0, none⟩)] #[]),
  (6, .func (.func 67) #[.pointer (some ⟨m, 0, none⟩)] #[]), (7, .func (.func 68) #[.pointer (some ⟨m, 0, none⟩)] #[]), (8, .func (.func 69) #[.pointer (some ⟨m, 0, none⟩)] #[]), (9, .func (.func 70) #[.pointer (some ⟨m, 0, none⟩)] #[]), (10, .func (.func 71) #[.pointer (some ⟨m, 0, none⟩)] #[])]

theorem tab_step {r : Nat} {S : List (Int × Value)} {k : Int} {v : Value} (hS : Srtd ltI S) : ∀ h, MapHole (Value.int .i64) plainRep r (sput ltI k v S) k v h → MapAt (Value.int .i64) plainRep r (sput ltI k v S) h := by
  intro h hh
  have h1 := MapHole.back (rep := plainRep) (v' := v) ord3_int (X.G.srtd_put ord3_int hS k v) h (X.G.HSat.two (h1 := fun _ => none) (show plainRep k v v (fun _ => none) from rfl) hh (fun _ => Or.inl rfl) (fun _ _ e => nomatch e) (Sub.refl _))
  rwa [X.G.sput_put ord3_int hS] at h1

theorem tabIns {L : Slots} {A : List Assn} {ty : TypeId} {x y z : Operand} {r : Nat} {S : List (Int × Value)} {k : Int} {val : Value} (i : Nat) (hS : Srtd ltI S) (ex : ev L x = some (.map (some r))) (ey : ev L y = some (.int .i64 k)) (ez : ev L z = some val)
    (hA : A[i]? = some (MapAt (Value.int .i64) plainRep r S)) : OpC Tryz.prog (.insert 77 x y z) ty L A (fun u B => ∃ S', S' = sput ltI k val S ∧ Srtd ltI S' ∧ u = undef ∧ B = A.set i (MapAt (Value.int .i64) plainRep r S')) := by
  refine (X.G.C.mapIns (rep := plainRep) i val ord3_int hS Tryz.runUnderlying77 keyI ex ey ez hA).shutTo ?_
  rintro u B ⟨rfl, rfl⟩
  refine ⟨_, ⟨_, rfl, X.G.srtd_put ord3_int hS _ _, rfl, rfl⟩, fun h s => ?_⟩
  have h1 := set_imp s (X := MapHole (Value.int .i64) plainRep r (sput ltI k val S) k val) (i := i) (by simp [(List.getElem?_eq_some_iff.1 hA).1]) (tab_step hS)
  rwa [List.set_set] at h1

theorem table_spec (m : Nat) : FSpec Tryz.prog 30 [.pointer (some ⟨m, 0, none⟩)] [] (fun v B => ∃ r, v = .map (some r) ∧ B = [MapAt (Value.int .i64) plainRep r (tabM m)]) := by
  refine FSpec.of Tryz.func30 rfl Tryz.ntmps30 rfl fun W0 F => ?_
  refine J.seq ?_
  refine J.region ?_
  refine J.q rfl rfl (Q.asg rfl) ?_
  refine J.nil ?_
  refine J.then_n ?_
  refine J.seq ?_
  refine J.region ?_
  refine J.c rfl rfl C.mkMap ?_
  rintro _ _ ⟨b3, rfl, rfl⟩
  refine J.norm rfl ?_
  refine J.conv (Y := MapAt (Value.int .i64) plainRep b3 []) 0 rfl MapAt.new ?_
  obtain ⟨S, hE, hS⟩ : ∃ S : List (Int × Value), S = [] ∧ Srtd ltI S := ⟨[], rfl, List.Pairwise.nil⟩
  rw [← hE]
  refine J.q rfl rfl (Q.mv rfl) ?_
  refine J.q rfl rfl (Q.func rfl rfl) ?_
  refine J.c0 rfl (tabIns 0 hS rfl rfl rfl rfl) ?_
  rintro _ _ ⟨S, hE, hS, rfl, rfl⟩
  refine J.norm rfl ?_
  refine J.q rfl rfl (Q.mv rfl) ?_
  refine J.q rfl rfl (Q.func rfl rfl) ?_
  refine J.c0 rfl (tabIns 0 hS rfl rfl rfl rfl) ?_
  rintro _ _ ⟨S, hE, hS, rfl, rfl⟩
  refine J.norm rfl ?_
  refine J.q rfl rfl (Q.mv rfl) ?_
  refine J.q rfl rfl (Q.func rfl rfl) ?_
  refine J.c0 rfl (tabIns 0 hS rfl rfl rfl rfl) ?_
  rintro _ _ ⟨S, hE, hS, rfl, rfl⟩
  refine J.norm rfl ?_
  refine J.q rfl rfl (Q.mv rfl) ?_
  refine J.q rfl rfl (Q.func rfl rfl) ?_
  refine J.c0 rfl (tabIns 0 hS rfl rfl rfl rfl) ?_
  rintro _ _ ⟨S, hE, hS, rfl, rfl⟩
  refine J.norm rfl ?_
  refine J.q rfl rfl (Q.mv rfl) ?_
  refine J.q rfl rfl (Q.func rfl rfl) ?_
  refine J.c0 rfl (tabIns 0 hS rfl rfl rfl rfl) ?_
  rintro _ _ ⟨S, hE, hS, rfl, rfl⟩
  refine J.norm rfl ?_
  refine J.q rfl rfl (Q.mv rfl) ?_
  refine J.q rfl rfl (Q.func rfl rfl) ?_
  refine J.c0 rfl (tabIns 0 hS rfl rfl rfl rfl) ?_
  rintro _ _ ⟨S, hE, hS, rfl, rfl⟩
  refine J.norm rfl ?_
  refine J.q rfl rfl (Q.mv rfl) ?_
  refine J.q rfl rfl (Q.func rfl rfl) ?_
  refine J.c0 rfl (tabIns 0 hS rfl rfl rfl rfl) ?_
  rintro _ _ ⟨S, hE, hS, rfl, rfl⟩
  refine J.norm rfl ?_
  refine J.q rfl rfl (Q.mv rfl) ?_
  refine J.q rfl rfl (Q.func rfl rfl) ?_
  refine J.c0 rfl (tabIns 0 hS rfl rfl rfl rfl) ?_
  rintro _ _ ⟨S, hE, hS, rfl, rfl⟩
  refine J.norm rfl ?_
  refine J.q rfl rfl (Q.mv rfl) ?_
  refine J.q rfl rfl (Q.func rfl rfl) ?_
  refine J.c0 rfl (tabIns 0 hS rfl rfl rfl rfl) ?_
  rintro _ _ ⟨S, hE, hS, rfl, rfl⟩
  refine J.norm rfl ?_
  refine J.q rfl rfl (Q.mv rfl) ?_
  refine J.q rfl rfl (Q.func rfl rfl) ?_
  refine J.c0 rfl (tabIns 0 hS rfl rfl rfl rfl) ?_
  rintro _ _ ⟨S, hE, hS, rfl, rfl⟩
  refine J.norm rfl ?_
  refine J.q rfl rfl (Q.mv rfl) ?_
  refine J.q rfl rfl (Q.asg rfl) ?_
  refine J.nil ?_
  refine J.then_n ?_
  refine J.cret ?_
  have e : S = tabM m := by subst_vars; simp [sput, tabM]
  refine J.ret1 (B := [MapAt (Value.int .i64) plainRep b3 (tabM m)]) rfl rfl ⟨b3, rfl, rfl⟩ (by rw [e]; rfl)
end Go.Proofs.YtdancegklkifaaaGreat
namespace Go.Proofs.YtdancegklkifaaaGreat
set_option linter.unusedSectionVars false
set_option linter.unusedSimpArgs false
set_option linter.unusedVariables false
open Go.X
open Go.X.G (Ord3 ord3_nat ord3_int ord3_str ltB sget sput sdel Srtd MapAt MapHole)

/-- What a call comes to that takes an op on a store. -/
def ActR (m : Nat) (G : Assn) (res : RM × BM) (v : Value) (B : List Assn) : Prop := ∃ y : RW, v = .agg y.cells.toArray ∧ y.r = res.1 ∧ B = [BktAt m res.2, y.asn, G]

def BM.make (M : BM) (o : OM) : RM × BM :=
  match sget o.bucket M.buckets with
  | some _ => (st 409, M)
  | none => (st 200, { M with buckets := sput ltB o.bucket [] M.buckets })
def BM.put (M : BM) (o : OM) : RM × BM :=
  match sget o.bucket M.buckets with
  | none => (st 404, M)
  | some objs => (st 200, { M with buckets := sput ltB o.bucket (sput ltB o.key o.data objs) M.buckets })
def BM.get (M : BM) (o : OM) : RM × BM :=
  match sget o.bucket M.buckets with
  | none => (st 404, M)
  | some objs => match sget o.key objs with
    | none => (st 404, M)
    | some d => (⟨200, 0, [], false, d⟩, M)
def BM.delete (M : BM) (o : OM) : RM × BM :=
  match sget o.bucket M.buckets with
  | none => (st 404, M)
  | some objs => match sget o.key objs with
    | none => (st 404, M)
    | some _ => (st 200, { M with buckets := sput ltB o.bucket (sdel o.key objs) M.buckets })
def BM.begin (M : BM) (o : OM) : RM × BM :=
  match sget o.bucket M.buckets with
  | none => (st 404, M)
  | some _ => (⟨200, o.id, [], false, []⟩, { M with uploads := sput ltN o.id ⟨o.bucket, o.key, []⟩ M.uploads })
def BM.part (M : BM) (o : OM) : RM × BM :=
  match sget o.upload M.uploads with
  | none => (st 404, M)
  | some u => (st 200, { M with uploads := sput ltN o.upload ⟨u.bucket, u.key, sput ltI o.n o.data u.parts⟩ M.uploads })
def BM.abort (M : BM) (o : OM) : RM × BM :=
  match sget o.upload M.uploads with
  | none => (st 404, M)
  | some _ => (st 200, { M with uploads := sdel o.upload M.uploads })

section
variable {k : Nat} (m : Nat) (M : BM) (hM : M.ok k) (x : OW) (G : Assn) (hx : x.ok G)
include hM hx

theorem make_yes {objs : Objs} (hB : sget x.o.bucket M.buckets = some objs) : FSpec Tryz.prog 62 [.pointer (some ⟨m, 0, none⟩), .agg x.cells.toArray] [BktAt m M, G] (ActR m G (st 409, M)) := by
  refine FSpec.of Tryz.func62 rfl Tryz.ntmps62 rfl fun W0 F => ?_
  refine J.seq ?_
  refine J.region ?_
  refine J.c rfl rfl (C.box (l := [_, _, _, _, _, _, _, _, _]) rfl rfl) ?_
  rintro _ _ ⟨b3, rfl, rfl⟩
  refine J.norm rfl ?_
  refine J.c rfl rfl (C.alloc (l := [_, _, _, _, _]) Tryz.zeroValue37 rfl) ?_
  rintro _ _ ⟨b4, rfl, rfl⟩
  refine J.norm rfl ?_
  refine J.nil ?_
  refine J.then_n ?_
  refine J.seq ?_
  refine J.seq ?_
  refine J.region ?_
  refine J.q rfl rfl (Q.mv rfl) ?_
  refine J.q rfl rfl (Q.ldN (vs := [_, _, _, _, _, _, _, _, _]) Tryz.isAgg27 Tryz.sizeOf27 rfl rnI) ?_
  refine J.call Tryz.call94 ((by first | exact known_no m M x hB | exact known_yes m M hM x hB)) [2] rfl rfl rfl rfl ?_
  rintro _ _ ⟨rfl, rfl⟩
  refine J.norm rfl ?_
  refine J.nil ?_
  refine J.then_n ?_
  refine J.cases 7 rfl (fun hc7 => ?_) (fun hc7 => ?_)
  ·
   replace hc7 := X.nm hc7
   try (first | (cases hc7; done) | (exfalso; simp at hc7; done))
   all_goals
    refine J.cond_t rfl ?_
    refine J.seq ?_
    refine J.region ?_
    refine J.call Tryz.call28 (status_spec 409) [] rfl rfl rfl rfl ?_
    rintro _ _ ⟨y, rfl, hy, rfl⟩
    refine J.norm rfl ?_
    refine J.stAI (vs := [_, _, _, _, _]) rfl Tryz.sizeOf37 rfl rfl (by exact rfl) (by exact rfl) (by exact rfl) ?_
    refine J.nil ?_
    refine J.then_n ?_
    refine J.cret ?_
    refine J.then_r ?_
    refine J.retC [1, 0, 4, 5] (vs := [_, _, _, _, _]) rfl rfl Tryz.isAgg37 Tryz.sizeOf37 (ReadsN.pt 2 rfl) rfl (B := [_, _, _]) ⟨_, rfl, hy, rfl⟩
  replace hc7 := X.nm hc7
  try (first | (cases hc7; done) | (exfalso; simp at hc7; done))
  all_goals
   refine J.cond_f rfl ?_
   refine J.cskip ?_
   refine J.then_n ?_
   refine J.seq ?_
   refine J.open1 0 rfl (fun _ h => h) fun z => ?_
   refine J.norm rfl ?_
   refine J.draw [6, 7] Tryz.mixed (by kernel_rfl) fun hR => ?_
   refine RG.q 0 hR rfl rfl rfl rfl rfl rfl (Q.mv rfl) ?_
   refine RG.q 1 hR rfl rfl rfl rfl rfl rfl (Q.nil_ rfl) ?_
   refine RG.q 2 hR rfl rfl rfl rfl rfl rfl (Q.fa (n := 0) Tryz.runUnderlying51 rfl rfl Tryz.sizeOf47 rfl) ?_
   refine RG.q 3 hR rfl rfl rfl rfl rfl rfl (Q.ld Tryz.isAgg47 rfl (rdI (by exact rfl))) ?_
   refine RG.q 4 hR rfl rfl rfl rfl rfl rfl (Q.fa (n := 2) Tryz.runUnderlying27 rfl rfl Tryz.sizeOf9 rfl) ?_
   refine RG.q 5 hR rfl rfl rfl rfl rfl rfl (Q.ld Tryz.isAgg9 rfl (rdI (by exact rfl))) ?_
   refine RG.made 6 hR rfl rfl rfl rfl rfl C.mkMap ?_
   rintro b15
   refine RG.bar 7 hR rfl rfl rfl rfl rfl rfl (X.G.C.mapPut 1 [] ord3_str hM.bs Tryz.runUnderlying47 keyS rfl rfl rfl rfl) ?_
   rintro _ _ ⟨rfl, rfl⟩
   refine RG.norm rfl ?_
   refine RG.fin hR rfl ?_
   refine J.norm rfl ?_
   refine J.then_n ?_
   refine J.seq ?_
   refine J.region ?_
   refine J.call Tryz.call28 (status_spec 200) [] rfl rfl rfl rfl ?_
   rintro _ _ ⟨y, rfl, hy, rfl⟩
   refine J.norm rfl ?_
   refine J.stAI (vs := [_, _, _, _, _]) rfl Tryz.sizeOf37 rfl rfl (by exact rfl) (by exact rfl) (by exact rfl) ?_
   refine J.nil ?_
   refine J.then_n ?_
   refine J.cret ?_
   refine J.conv (Y := MapAt Value.string datRep b15 []) 9 rfl MapAt.new ?_
   refine J.shut [0] (bRep x.o.bucket [] (.map (some b15))) rfl (fun h s => ⟨b15, rfl, s⟩) ?_
   refine J.mapBack 0 3 [] ord3_str (X.G.srtd_put ord3_str hM.bs _ _) rfl ?_
   rw [X.G.sput_put ord3_str hM.bs]
   refine J.shut [2, 0, 3, 4] (BktAt m { M with buckets := sput ltB x.o.bucket [] M.buckets }) rfl (fun h s => ⟨z, s⟩) ?_
   refine J.retC [0, 1, 4, 5] (vs := [_, _, _, _, _]) rfl rfl Tryz.isAgg37 Tryz.sizeOf37 (ReadsN.pt 2 rfl) rfl (B := [_, _, _]) ⟨_, rfl, hy, rfl⟩
theorem make_no (hB : sget x.o.bucket M.buckets = none) : FSpec Tryz.prog 62 [.pointer (some ⟨m, 0, none⟩), .agg x.cells.toArray] [BktAt m M, G] (ActR m G (st 200, { M with buckets := sput ltB x.o.bucket [] M.buckets })) := by
  refine FSpec.of Tryz.func62 rfl Tryz.ntmps62 rfl fun W0 F => ?_
  refine J.seq ?_
  refine J.region ?_
  refine J.c rfl rfl (C.box (l := [_, _, _, _, _, _, _, _, _]) rfl rfl) ?_
  rintro _ _ ⟨b3, rfl, rfl⟩
  refine J.norm rfl ?_
  refine J.c rfl rfl (C.alloc (l := [_, _, _, _, _]) Tryz.zeroValue37 rfl) ?_
  rintro _ _ ⟨b4, rfl, rfl⟩
  refine J.norm rfl ?_
  refine J.nil ?_
  refine J.then_n ?_
  refine J.seq ?_
  refine J.seq ?_
  refine J.region ?_
  refine J.q rfl rfl (Q.mv rfl) ?_
  refine J.q rfl rfl (Q.ldN (vs := [_, _, _, _, _, _, _, _, _]) Tryz.isAgg27 Tryz.sizeOf27 rfl rnI) ?_
  refine J.call Tryz.call94 ((by first | exact known_no m M x hB | exact known_yes m M hM x hB)) [2] rfl rfl rfl rfl ?_
  rintro _ _ ⟨rfl, rfl⟩
  refine J.norm rfl ?_
  refine J.nil ?_
  refine J.then_n ?_
  refine J.cases 7 rfl (fun hc7 => ?_) (fun hc7 => ?_)
  ·
   replace hc7 := X.nm hc7
   try (first | (cases hc7; done) | (exfalso; simp at hc7; done))
   all_goals
    refine J.cond_t rfl ?_
    refine J.seq ?_
    refine J.region ?_
    refine J.call Tryz.call28 (status_spec 409) [] rfl rfl rfl rfl ?_
    rintro _ _ ⟨y, rfl, hy, rfl⟩
    refine J.norm rfl ?_
    refine J.stAI (vs := [_, _, _, _, _]) rfl Tryz.sizeOf37 rfl rfl (by exact rfl) (by exact rfl) (by exact rfl) ?_
    refine J.nil ?_
    refine J.then_n ?_
    refine J.cret ?_
    refine J.then_r ?_
    refine J.retC [1, 0, 4, 5] (vs := [_, _, _, _, _]) rfl rfl Tryz.isAgg37 Tryz.sizeOf37 (ReadsN.pt 2 rfl) rfl (B := [_, _, _]) ⟨_, rfl, hy, rfl⟩
  replace hc7 := X.nm hc7
  try (first | (cases hc7; done) | (exfalso; simp at hc7; done))
  all_goals
   refine J.cond_f rfl ?_
   refine J.cskip ?_
   refine J.then_n ?_
   refine J.seq ?_
   refine J.open1 0 rfl (fun _ h => h) fun z => ?_
   refine J.norm rfl ?_
   refine J.draw [6, 7] Tryz.mixed (by kernel_rfl) fun hR => ?_
   refine RG.q 0 hR rfl rfl rfl rfl rfl rfl (Q.mv rfl) ?_
   refine RG.q 1 hR rfl rfl rfl rfl rfl rfl (Q.nil_ rfl) ?_
   refine RG.q 2 hR rfl rfl rfl rfl rfl rfl (Q.fa (n := 0) Tryz.runUnderlying51 rfl rfl Tryz.sizeOf47 rfl) ?_
   refine RG.q 3 hR rfl rfl rfl rfl rfl rfl (Q.ld Tryz.isAgg47 rfl (rdI (by exact rfl))) ?_
   refine RG.q 4 hR rfl rfl rfl rfl rfl rfl (Q.fa (n := 2) Tryz.runUnderlying27 rfl rfl Tryz.sizeOf9 rfl) ?_
   refine RG.q 5 hR rfl rfl rfl rfl rfl rfl (Q.ld Tryz.isAgg9 rfl (rdI (by exact rfl))) ?_
   refine RG.made 6 hR rfl rfl rfl rfl rfl C.mkMap ?_
   rintro b15
   refine RG.bar 7 hR rfl rfl rfl rfl rfl rfl (X.G.C.mapPut 1 [] ord3_str hM.bs Tryz.runUnderlying47 keyS rfl rfl rfl rfl) ?_
   rintro _ _ ⟨rfl, rfl⟩
   refine RG.norm rfl ?_
   refine RG.fin hR rfl ?_
   refine J.norm rfl ?_
   refine J.then_n ?_
   refine J.seq ?_
   refine J.region ?_
   refine J.call Tryz.call28 (status_spec 200) [] rfl rfl rfl rfl ?_
   rintro _ _ ⟨y, rfl, hy, rfl⟩
   refine J.norm rfl ?_
   refine J.stAI (vs := [_, _, _, _, _]) rfl Tryz.sizeOf37 rfl rfl (by exact rfl) (by exact rfl) (by exact rfl) ?_
   refine J.nil ?_
   refine J.then_n ?_
   refine J.cret ?_
   refine J.conv (Y := MapAt Value.string datRep b15 []) 9 rfl MapAt.new ?_
   refine J.shut [0] (bRep x.o.bucket [] (.map (some b15))) rfl (fun h s => ⟨b15, rfl, s⟩) ?_
   refine J.mapBack 0 3 [] ord3_str (X.G.srtd_put ord3_str hM.bs _ _) rfl ?_
   rw [X.G.sput_put ord3_str hM.bs]
   refine J.shut [2, 0, 3, 4] (BktAt m { M with buckets := sput ltB x.o.bucket [] M.buckets }) rfl (fun h s => ⟨z, s⟩) ?_
   refine J.retC [0, 1, 4, 5] (vs := [_, _, _, _, _]) rfl rfl Tryz.isAgg37 Tryz.sizeOf37 (ReadsN.pt 2 rfl) rfl (B := [_, _, _]) ⟨_, rfl, hy, rfl⟩
theorem make_spec : FSpec Tryz.prog 62 [.pointer (some ⟨m, 0, none⟩), .agg x.cells.toArray] [BktAt m M, G] (ActR m G (M.make x.o)) := by
  unfold BM.make
  split
  · rename_i hB; exact make_yes m M hM x G hx hB
  · rename_i hB; exact make_no m M hM x G hx hB

theorem put_no (hB : sget x.o.bucket M.buckets = none) : FSpec Tryz.prog 64 [.pointer (some ⟨m, 0, none⟩), .agg x.cells.toArray] [BktAt m M, G] (ActR m G (st 404, M)) := by
  have hsm := hx.small
  refine FSpec.of Tryz.func64 rfl Tryz.ntmps64 rfl fun W0 F => ?_
  refine J.seq ?_
  refine J.region ?_
  refine J.c rfl rfl (C.box (l := [_, _, _, _, _, _, _, _, _]) rfl rfl) ?_
  rintro _ _ ⟨b3, rfl, rfl⟩
  refine J.norm rfl ?_
  refine J.c rfl rfl (C.alloc (l := [_, _, _, _, _]) Tryz.zeroValue37 rfl) ?_
  rintro _ _ ⟨b4, rfl, rfl⟩
  refine J.norm rfl ?_
  refine J.nil ?_
  refine J.then_n ?_
  refine J.seq ?_
  refine J.seq ?_
  refine J.region ?_
  refine J.q rfl rfl (Q.mv rfl) ?_
  refine J.q rfl rfl (Q.ldN (vs := [_, _, _, _, _, _, _, _, _]) Tryz.isAgg27 Tryz.sizeOf27 rfl rnI) ?_
  refine J.call Tryz.call94 ((by first | exact known_no m M x hB | exact known_yes m M hM x hB)) [2] rfl rfl rfl rfl ?_
  rintro _ _ ⟨rfl, rfl⟩
  refine J.norm rfl ?_
  refine J.q rfl rfl (Q.not rfl) ?_
  refine J.nil ?_
  refine J.then_n ?_
  refine J.cases 8 rfl (fun hc8 => ?_) (fun hc8 => ?_)
  ·
   replace hc8 := X.nm hc8
   try (first | (cases hc8; done) | (exfalso; simp at hc8; done))
   all_goals
    refine J.cond_t rfl ?_
    refine J.seq ?_
    refine J.region ?_
    refine J.call Tryz.call28 (status_spec 404) [] rfl rfl rfl rfl ?_
    rintro _ _ ⟨y, rfl, hy, rfl⟩
    refine J.norm rfl ?_
    refine J.stAI (vs := [_, _, _, _, _]) rfl Tryz.sizeOf37 rfl rfl (by exact rfl) (by exact rfl) (by exact rfl) ?_
    refine J.nil ?_
    refine J.then_n ?_
    refine J.cret ?_
    refine J.then_r ?_
    refine J.retC [1, 0, 4, 5] (vs := [_, _, _, _, _]) rfl rfl Tryz.isAgg37 Tryz.sizeOf37 (ReadsN.pt 2 rfl) rfl (B := [_, _, _]) ⟨_, rfl, hy, rfl⟩
  replace hc8 := X.nm hc8
  try (first | (cases hc8; done) | (exfalso; simp at hc8; done))
  all_goals
   refine J.cond_f rfl ?_
   refine J.cskip ?_
   refine J.then_n ?_
   refine J.seq ?_
   have hO := hM.os _ _ hB
   refine J.open1 0 rfl (fun _ h => h) fun z => ?_
   refine J.norm rfl ?_
   refine J.mapFocus 1 hB rfl fun val => ?_
   refine J.norm rfl ?_
   refine J.open_ 0 rfl rfl (fun _ h => h) fun r hr => ?_
   subst hr
   refine J.norm rfl ?_
   refine J.keep [1, 2, 6, 0, 3, 4, 5, 7, 8] rfl ?_
   refine J.drawE [11, 12] 3 Tryz.mixed (by kernel_rfl) rfl rfl fun hR => ?_
   refine RG.q 0 hR rfl rfl rfl rfl rfl rfl (Q.mv rfl) ?_
   refine RG.q 1 hR rfl rfl rfl rfl rfl rfl (Q.nil_ rfl) ?_
   refine RG.q 2 hR rfl rfl rfl rfl rfl rfl (Q.fa (n := 0) Tryz.runUnderlying51 rfl rfl Tryz.sizeOf47 rfl) ?_
   refine RG.q 3 hR rfl rfl rfl rfl rfl rfl (Q.ld Tryz.isAgg47 rfl (rdI (by exact rfl))) ?_
   refine RG.q 4 hR rfl rfl rfl rfl rfl rfl (Q.fa (n := 2) Tryz.runUnderlying27 rfl rfl Tryz.sizeOf9 rfl) ?_
   refine RG.q 5 hR rfl rfl rfl rfl rfl rfl (Q.ld Tryz.isAgg9 rfl (rdI (by exact rfl))) ?_
   refine RG.q 6 hR rfl rfl rfl rfl rfl rfl (X.G.Q.lkYes (i := 0) Tryz.runUnderlying47 keyS Tryz.zeroValue57 rfl rfl rfl) ?_
   refine RG.q 7 hR rfl rfl rfl rfl rfl rfl (Q.fa (n := 3) Tryz.runUnderlying27 rfl rfl Tryz.sizeOf9 rfl) ?_
   refine RG.q 8 hR rfl rfl rfl rfl rfl rfl (Q.ld Tryz.isAgg9 rfl (rdI (by exact rfl))) ?_
   refine RG.q 9 hR rfl rfl rfl rfl rfl rfl (Q.fa (n := 8) Tryz.runUnderlying27 rfl rfl Tryz.sizeOf25 rfl) ?_
   refine RG.q 10 hR rfl rfl rfl rfl rfl rfl (Q.ld Tryz.isAgg25 rfl (rdI (by exact rfl))) ?_
   refine RG.callk 11 hR rfl rfl rfl rfl rfl Tryz.call44 (clone_spec G x.dp x.dc x.o.data hx.data (by omega)) [7] rfl rfl ?_
   rintro _ _ ⟨p21, c21, rfl, rfl⟩
   refine ⟨_, X.pick_perm (is := [2, 3, 4]) rfl, ?_⟩
   refine RG.bar 12 hR rfl rfl rfl rfl rfl rfl (X.G.C.mapPut 5 x.o.data ord3_str hO.1 Tryz.runUnderlying57 keyS rfl rfl rfl rfl) ?_
   rintro _ _ ⟨rfl, rfl⟩
   refine RG.norm rfl ?_
   refine RG.fin hR rfl ?_
   refine J.norm rfl ?_
   refine J.then_n ?_
   refine J.seq ?_
   refine J.region ?_
   refine J.call Tryz.call28 (status_spec 200) [] rfl rfl rfl rfl ?_
   rintro _ _ ⟨y, rfl, hy, rfl⟩
   refine J.norm rfl ?_
   refine J.stAI (vs := [_, _, _, _, _]) rfl Tryz.sizeOf37 rfl rfl (by exact rfl) (by exact rfl) (by exact rfl) ?_
   refine J.nil ?_
   refine J.then_n ?_
   refine J.cret ?_
   refine J.shut [4] (datRep x.o.key x.o.data (.slice p21 x.o.data.length c21)) rfl (fun h s => ⟨(p21, c21), rfl, s⟩) ?_
   refine J.mapBack 0 6 x.o.data ord3_str (X.G.srtd_put ord3_str hO.1 _ _) rfl ?_
   rw [X.G.sput_put ord3_str hO.1]
   refine J.shut [0] (bRep x.o.bucket (sput ltB x.o.key x.o.data objs) (.map (some r))) rfl (fun h s => ⟨r, rfl, s⟩) ?_
   refine J.mapBack 0 2 (sput ltB x.o.key x.o.data objs) ord3_str hM.bs rfl ?_
   refine J.shut [2, 0, 5, 6] (BktAt m { M with buckets := sput ltB x.o.bucket (sput ltB x.o.key x.o.data objs) M.buckets }) rfl (fun h s => ⟨z, s⟩) ?_
   refine J.retC [0, 1, 3, 5] (vs := [_, _, _, _, _]) rfl rfl Tryz.isAgg37 Tryz.sizeOf37 (ReadsN.pt 4 rfl) rfl (B := [_, _, _]) ⟨_, rfl, hy, rfl⟩
theorem put_yes (hdl : x.o.data.length ≤ 16777216) {objs : Objs} (hB : sget x.o.bucket M.buckets = some objs) : FSpec Tryz.prog 64 [.pointer (some ⟨m, 0, none⟩), .agg x.cells.toArray] [BktAt m M, G] (ActR m G (st 200, { M with buckets := sput ltB x.o.bucket (sput ltB x.o.key x.o.data objs) M.buckets })) := by
  have hsm := hx.small
  refine FSpec.of Tryz.func64 rfl Tryz.ntmps64 rfl fun W0 F => ?_
  refine J.seq ?_
  refine J.region ?_
  refine J.c rfl rfl (C.box (l := [_, _, _, _, _, _, _, _, _]) rfl rfl) ?_
  rintro _ _ ⟨b3, rfl, rfl⟩
  refine J.norm rfl ?_
  refine J.c rfl rfl (C.alloc (l := [_, _, _, _, _]) Tryz.zeroValue37 rfl) ?_
  rintro _ _ ⟨b4, rfl, rfl⟩
  refine J.norm rfl ?_
  refine J.nil ?_
  refine J.then_n ?_
  refine J.seq ?_
  refine J.seq ?_
  refine J.region ?_
  refine J.q rfl rfl (Q.mv rfl) ?_
  refine J.q rfl rfl (Q.ldN (vs := [_, _, _, _, _, _, _, _, _]) Tryz.isAgg27 Tryz.sizeOf27 rfl rnI) ?_
  refine J.call Tryz.call94 ((by first | exact known_no m M x hB | exact known_yes m M hM x hB)) [2] rfl rfl rfl rfl ?_
  rintro _ _ ⟨rfl, rfl⟩
  refine J.norm rfl ?_
  refine J.q rfl rfl (Q.not rfl) ?_
  refine J.nil ?_
  refine J.then_n ?_
  refine J.cases 8 rfl (fun hc8 => ?_) (fun hc8 => ?_)
  ·
   replace hc8 := X.nm hc8
   try (first | (cases hc8; done) | (exfalso; simp at hc8; done))
   all_goals
    refine J.cond_t rfl ?_
    refine J.seq ?_
    refine J.region ?_
    refine J.call Tryz.call28 (status_spec 404) [] rfl rfl rfl rfl ?_
    rintro _ _ ⟨y, rfl, hy, rfl⟩
    refine J.norm rfl ?_
    refine J.stAI (vs := [_, _, _, _, _]) rfl Tryz.sizeOf37 rfl rfl (by exact rfl) (by exact rfl) (by exact rfl) ?_
    refine J.nil ?_
    refine J.then_n ?_
    refine J.cret ?_
    refine J.then_r ?_
    refine J.retC [1, 0, 4, 5] (vs := [_, _, _, _, _]) rfl rfl Tryz.isAgg37 Tryz.sizeOf37 (ReadsN.pt 2 rfl) rfl (B := [_, _, _]) ⟨_, rfl, hy, rfl⟩
  replace hc8 := X.nm hc8
  try (first | (cases hc8; done) | (exfalso; simp at hc8; done))
  all_goals
   refine J.cond_f rfl ?_
   refine J.cskip ?_
   refine J.then_n ?_
   refine J.seq ?_
   have hO := hM.os _ _ hB
   refine J.open1 0 rfl (fun _ h => h) fun z => ?_
   refine J.norm rfl ?_
   refine J.mapFocus 1 hB rfl fun val => ?_
   refine J.norm rfl ?_
   refine J.open_ 0 rfl rfl (fun _ h => h) fun r hr => ?_
   subst hr
   refine J.norm rfl ?_
   refine J.keep [1, 2, 6, 0, 3, 4, 5, 7, 8] rfl ?_
   refine J.drawE [11, 12] 3 Tryz.mixed (by kernel_rfl) rfl rfl fun hR => ?_
   refine RG.q 0 hR rfl rfl rfl rfl rfl rfl (Q.mv rfl) ?_
   refine RG.q 1 hR rfl rfl rfl rfl rfl rfl (Q.nil_ rfl) ?_
   refine RG.q 2 hR rfl rfl rfl rfl rfl rfl (Q.fa (n := 0) Tryz.runUnderlying51 rfl rfl Tryz.sizeOf47 rfl) ?_
   refine RG.q 3 hR rfl rfl rfl rfl rfl rfl (Q.ld Tryz.isAgg47 rfl (rdI (by exact rfl))) ?_
   refine RG.q 4 hR rfl rfl rfl rfl rfl rfl (Q.fa (n := 2) Tryz.runUnderlying27 rfl rfl Tryz.sizeOf9 rfl) ?_
   refine RG.q 5 hR rfl rfl rfl rfl rfl rfl (Q.ld Tryz.isAgg9 rfl (rdI (by exact rfl))) ?_
   refine RG.q 6 hR rfl rfl rfl rfl rfl rfl (X.G.Q.lkYes (i := 0) Tryz.runUnderlying47 keyS Tryz.zeroValue57 rfl rfl rfl) ?_
   refine RG.q 7 hR rfl rfl rfl rfl rfl rfl (Q.fa (n := 3) Tryz.runUnderlying27 rfl rfl Tryz.sizeOf9 rfl) ?_
   refine RG.q 8 hR rfl rfl rfl rfl rfl rfl (Q.ld Tryz.isAgg9 rfl (rdI (by exact rfl))) ?_
   refine RG.q 9 hR rfl rfl rfl rfl rfl rfl (Q.fa (n := 8) Tryz.runUnderlying27 rfl rfl Tryz.sizeOf25 rfl) ?_
   refine RG.q 10 hR rfl rfl rfl rfl rfl rfl (Q.ld Tryz.isAgg25 rfl (rdI (by exact rfl))) ?_
   refine RG.callk 11 hR rfl rfl rfl rfl rfl Tryz.call44 (clone_spec G x.dp x.dc x.o.data hx.data (by omega)) [7] rfl rfl ?_
   rintro _ _ ⟨p21, c21, rfl, rfl⟩
   refine ⟨_, X.pick_perm (is := [2, 3, 4]) rfl, ?_⟩
   refine RG.bar 12 hR rfl rfl rfl rfl rfl rfl (X.G.C.mapPut 5 x.o.data ord3_str hO.1 Tryz.runUnderlying57 keyS rfl rfl rfl rfl) ?_
   rintro _ _ ⟨rfl, rfl⟩
   refine RG.norm rfl ?_
   refine RG.fin hR rfl ?_
   refine J.norm rfl ?_
   refine J.then_n ?_
   refine J.seq ?_
   refine J.region ?_
   refine J.call Tryz.call28 (status_spec 200) [] rfl rfl rfl rfl ?_
   rintro _ _ ⟨y, rfl, hy, rfl⟩
   refine J.norm rfl ?_
   refine J.stAI (vs := [_, _, _, _, _]) rfl Tryz.sizeOf37 rfl rfl (by exact rfl) (by exact rfl) (by exact rfl) ?_
   refine J.nil ?_
   refine J.then_n ?_
   refine J.cret ?_
   refine J.shut [4] (datRep x.o.key x.o.data (.slice p21 x.o.data.length c21)) rfl (fun h s => ⟨(p21, c21), rfl, s⟩) ?_
   refine J.mapBack 0 6 x.o.data ord3_str (X.G.srtd_put ord3_str hO.1 _ _) rfl ?_
   rw [X.G.sput_put ord3_str hO.1]
   refine J.shut [0] (bRep x.o.bucket (sput ltB x.o.key x.o.data objs) (.map (some r))) rfl (fun h s => ⟨r, rfl, s⟩) ?_
   refine J.mapBack 0 2 (sput ltB x.o.key x.o.data objs) ord3_str hM.bs rfl ?_
   refine J.shut [2, 0, 5, 6] (BktAt m { M with buckets := sput ltB x.o.bucket (sput ltB x.o.key x.o.data objs) M.buckets }) rfl (fun h s => ⟨z, s⟩) ?_
   refine J.retC [0, 1, 3, 5] (vs := [_, _, _, _, _]) rfl rfl Tryz.isAgg37 Tryz.sizeOf37 (ReadsN.pt 4 rfl) rfl (B := [_, _, _]) ⟨_, rfl, hy, rfl⟩
theorem put_spec (hdl : x.o.data.length ≤ 16777216) : FSpec Tryz.prog 64 [.pointer (some ⟨m, 0, none⟩), .agg x.cells.toArray] [BktAt m M, G] (ActR m G (M.put x.o)) := by
  unfold BM.put
  split
  · rename_i hB; exact put_no m M hM x G hx hB
  · rename_i hB; exact put_yes m M hM x G hx hdl hB

theorem get_no (hB : sget x.o.bucket M.buckets = none) : FSpec Tryz.prog 65 [.pointer (some ⟨m, 0, none⟩), .agg x.cells.toArray] [BktAt m M, G] (ActR m G (st 404, M)) := by
  refine FSpec.of Tryz.func65 rfl Tryz.ntmps65 rfl fun W0 F => ?_
  refine J.seq ?_
  refine J.region ?_
  refine J.c rfl rfl (C.box (l := [_, _, _, _, _, _, _, _, _]) rfl rfl) ?_
  rintro _ _ ⟨b3, rfl, rfl⟩
  refine J.norm rfl ?_
  refine J.c rfl rfl (C.alloc (l := [_, _, _, _, _]) Tryz.zeroValue37 rfl) ?_
  rintro _ _ ⟨b4, rfl, rfl⟩
  refine J.norm rfl ?_
  refine J.nil ?_
  refine J.then_n ?_
  refine J.seq ?_
  try have hO := hM.os _ _ hB
  try have hdl := hO.2.2 _ _ hK
  refine J.open1 2 rfl (fun _ h => h) fun z => ?_
  refine J.norm rfl ?_
  first
    | (refine J.mapFocus 1 hB rfl fun val => ?_
       refine J.norm rfl ?_
       refine J.open_ 0 rfl rfl (fun _ h => h) fun r hr => ?_
       subst hr
       refine J.norm rfl ?_)
    | skip
  first
    | (refine J.mapFocus 0 hK rfl fun val => ?_
       refine J.norm rfl ?_
       refine J.open_ 0 rfl rfl (fun _ h => h) fun z2 hz2 => ?_
       subst hz2
       refine J.norm rfl ?_)
    | skip
  refine J.draw [13, 14] Tryz.mixed (by kernel_rfl) fun hR => ?_
  refine RG.q 0 hR rfl rfl rfl rfl rfl rfl (Q.mv rfl) ?_
  refine RG.q 1 hR rfl rfl rfl rfl rfl rfl (Q.nil_ rfl) ?_
  refine RG.q 2 hR rfl rfl rfl rfl rfl rfl (Q.fa (n := 0) Tryz.runUnderlying51 rfl rfl Tryz.sizeOf47 rfl) ?_
  refine RG.q 3 hR rfl rfl rfl rfl rfl rfl (Q.ld Tryz.isAgg47 rfl (rdI (by exact rfl))) ?_
  refine RG.q 4 hR rfl rfl rfl rfl rfl rfl (Q.fa (n := 2) Tryz.runUnderlying27 rfl rfl Tryz.sizeOf9 rfl) ?_
  refine RG.q 5 hR rfl rfl rfl rfl rfl rfl (Q.ld Tryz.isAgg9 rfl (rdI (by exact rfl))) ?_
  refine RG.q 6 hR rfl rfl rfl rfl rfl rfl (by first | exact X.G.Q.lkNo (i := 1) Tryz.runUnderlying47 keyS Tryz.zeroValue57 rfl rfl rfl hB | exact X.G.Q.lkYes (i := 1) Tryz.runUnderlying47 keyS Tryz.zeroValue57 rfl rfl rfl | exact X.G.Q.lkYes (i := 2) Tryz.runUnderlying47 keyS Tryz.zeroValue57 rfl rfl rfl) ?_
  refine RG.q 7 hR rfl rfl rfl rfl rfl rfl (Q.fa (n := 3) Tryz.runUnderlying27 rfl rfl Tryz.sizeOf9 rfl) ?_
  refine RG.q 8 hR rfl rfl rfl rfl rfl rfl (Q.ld Tryz.isAgg9 rfl (rdI (by exact rfl))) ?_
  refine RG.q 9 hR rfl rfl rfl rfl rfl rfl (by first | exact X.G.Q.lk2Nil Tryz.runUnderlying57 keyS Tryz.zeroValue25 rfl rfl | exact X.G.Q.lk2No (i := 0) Tryz.runUnderlying57 keyS Tryz.zeroValue25 rfl rfl rfl hK | exact X.G.Q.lk2Yes (i := 1) Tryz.runUnderlying57 keyS Tryz.zeroValue25 rfl rfl rfl) ?_
  refine RG.q 10 hR rfl rfl rfl rfl rfl rfl (Q.mv rfl) ?_
  refine RG.q 11 hR rfl rfl rfl rfl rfl rfl (Q.ext rfl rfl) ?_
  refine RG.q 12 hR rfl rfl rfl rfl rfl rfl (Q.ext rfl rfl) ?_
  refine RG.keep 13 hR rfl rfl rfl rfl rfl (Q.asg rfl) ?_
  refine RG.bar 14 hR rfl rfl rfl rfl rfl rfl (Q.asg rfl).toC ?_
  rintro _ _ ⟨rfl, rfl⟩
  refine RG.norm rfl ?_
  refine RG.fin hR rfl ?_
  refine J.norm rfl ?_
  refine J.then_n ?_
  refine J.seq ?_
  refine J.seq ?_
  refine J.region ?_
  refine J.q rfl rfl (Q.mv rfl) ?_
  refine J.q rfl rfl (Q.not rfl) ?_
  refine J.nil ?_
  refine J.then_n ?_
  refine J.cases 21 rfl (fun hc21 => ?_) (fun hc21 => ?_)
  ·
   replace hc21 := X.nm hc21
   try (first | (cases hc21; done) | (exfalso; simp at hc21; done))
   all_goals
    refine J.cond_t rfl ?_
    refine J.seq ?_
    refine J.region ?_
    refine J.call Tryz.call28 (status_spec 404) [] rfl rfl rfl rfl ?_
    rintro _ _ ⟨y, rfl, hy, rfl⟩
    refine J.norm rfl ?_
    refine J.stAI (vs := [_, _, _, _, _]) rfl Tryz.sizeOf37 rfl rfl (by exact rfl) (by exact rfl) (by exact rfl) ?_
    refine J.nil ?_
    refine J.then_n ?_
    refine J.cret ?_
    refine J.then_r ?_
    first
      | (refine J.shut [1, 2, 3, 4] (BktAt m M) rfl (fun h s => ⟨z, s⟩) ?_
         refine J.retC [0, 1, 4, 5] (vs := [_, _, _, _, _]) rfl rfl Tryz.isAgg37 Tryz.sizeOf37 (ReadsN.pt 2 rfl) rfl (B := [_, _, _]) ⟨_, rfl, hy, rfl⟩)
      | (refine J.shut [1] (bRep x.o.bucket objs (.map (some r))) rfl (fun h s => ⟨r, rfl, s⟩) ?_
         refine J.mapSame 0 2 ord3_str hM.bs hB rfl ?_
         refine J.shut [2, 0, 3, 4] (BktAt m M) rfl (fun h s => ⟨z, s⟩) ?_
         refine J.retC [0, 1, 4, 5] (vs := [_, _, _, _, _]) rfl rfl Tryz.isAgg37 Tryz.sizeOf37 (ReadsN.pt 2 rfl) rfl (B := [_, _, _]) ⟨_, rfl, hy, rfl⟩)
  replace hc21 := X.nm hc21
  try (first | (cases hc21; done) | (exfalso; simp at hc21; done))
  all_goals
   refine J.cond_f rfl ?_
   refine J.cskip ?_
   refine J.then_n ?_
   refine J.seq ?_
   refine J.region ?_
   refine J.q rfl rfl (Q.mv rfl) ?_
   refine J.slr1 0 rfl fun hs24 => ?_
   refine J.call Tryz.call44 (clone_spec (own 5 1 (.slice z2.1 d.length z2.2) (bytesV d)) z2.1 z2.2 d hs24 (by omega)) [0] rfl rfl rfl rfl ?_
   rintro _ _ ⟨p24, c24, rfl, rfl⟩
   refine J.norm rfl ?_
   refine J.q rfl rfl (Q.bld (l := [_, _, _, _, _]) Tryz.runUnderlying37 Tryz.zeroValue37 Tryz.places37 rfl rfl) ?_
   refine J.stAI (vs := [_, _, _, _, _]) rfl Tryz.sizeOf37 rfl rfl (by exact rfl) (by exact rfl) (by exact rfl) ?_
   refine J.nil ?_
   refine J.then_n ?_
   refine J.cret ?_
   refine J.give (own.nil 9 1 _) ?_
   refine J.pack [0, 1] rfl ?_
   refine J.shut [1] (datRep x.o.key d (.slice z2.1 d.length z2.2)) rfl (fun h s => ⟨z2, rfl, s⟩) ?_
   refine J.mapSame 0 2 ord3_str hO.1 hK rfl ?_
   refine J.shut [0] (bRep x.o.bucket objs (.map (some r))) rfl (fun h s => ⟨r, rfl, s⟩) ?_
   refine J.mapSame 0 2 ord3_str hM.bs hB rfl ?_
   refine J.shut [2, 0, 3, 4] (BktAt m M) rfl (fun h s => ⟨z, s⟩) ?_
   refine J.retC [0, 1, 4, 5] (vs := [_, _, _, _, _]) rfl rfl Tryz.isAgg37 Tryz.sizeOf37 (ReadsN.pt 2 rfl) rfl (B := [_, _, _]) ⟨⟨⟨200, 0, [], false, d⟩, none, 0, p24, c24⟩, rfl, rfl, rfl⟩
theorem get_none {objs : Objs} (hB : sget x.o.bucket M.buckets = some objs) (hK : sget x.o.key objs = none) : FSpec Tryz.prog 65 [.pointer (some ⟨m, 0, none⟩), .agg x.cells.toArray] [BktAt m M, G] (ActR m G (st 404, M)) := by
  refine FSpec.of Tryz.func65 rfl Tryz.ntmps65 rfl fun W0 F => ?_
  refine J.seq ?_
  refine J.region ?_
  refine J.c rfl rfl (C.box (l := [_, _, _, _, _, _, _, _, _]) rfl rfl) ?_
  rintro _ _ ⟨b3, rfl, rfl⟩
  refine J.norm rfl ?_
  refine J.c rfl rfl (C.alloc (l := [_, _, _, _, _]) Tryz.zeroValue37 rfl) ?_
  rintro _ _ ⟨b4, rfl, rfl⟩
  refine J.norm rfl ?_
  refine J.nil ?_
  refine J.then_n ?_
  refine J.seq ?_
  try have hO := hM.os _ _ hB
  try have hdl := hO.2.2 _ _ hK
  refine J.open1 2 rfl (fun _ h => h) fun z => ?_
  refine J.norm rfl ?_
  first
    | (refine J.mapFocus 1 hB rfl fun val => ?_
       refine J.norm rfl ?_
       refine J.open_ 0 rfl rfl (fun _ h => h) fun r hr => ?_
       subst hr
       refine J.norm rfl ?_)
    | skip
  first
    | (refine J.mapFocus 0 hK rfl fun val => ?_
       refine J.norm rfl ?_
       refine J.open_ 0 rfl rfl (fun _ h => h) fun z2 hz2 => ?_
       subst hz2
       refine J.norm rfl ?_)
    | skip
  refine J.draw [13, 14] Tryz.mixed (by kernel_rfl) fun hR => ?_
  refine RG.q 0 hR rfl rfl rfl rfl rfl rfl (Q.mv rfl) ?_
  refine RG.q 1 hR rfl rfl rfl rfl rfl rfl (Q.nil_ rfl) ?_
  refine RG.q 2 hR rfl rfl rfl rfl rfl rfl (Q.fa (n := 0) Tryz.runUnderlying51 rfl rfl Tryz.sizeOf47 rfl) ?_
  refine RG.q 3 hR rfl rfl rfl rfl rfl rfl (Q.ld Tryz.isAgg47 rfl (rdI (by exact rfl))) ?_
  refine RG.q 4 hR rfl rfl rfl rfl rfl rfl (Q.fa (n := 2) Tryz.runUnderlying27 rfl rfl Tryz.sizeOf9 rfl) ?_
  refine RG.q 5 hR rfl rfl rfl rfl rfl rfl (Q.ld Tryz.isAgg9 rfl (rdI (by exact rfl))) ?_
  refine RG.q 6 hR rfl rfl rfl rfl rfl rfl (by first | exact X.G.Q.lkNo (i := 1) Tryz.runUnderlying47 keyS Tryz.zeroValue57 rfl rfl rfl hB | exact X.G.Q.lkYes (i := 1) Tryz.runUnderlying47 keyS Tryz.zeroValue57 rfl rfl rfl | exact X.G.Q.lkYes (i := 2) Tryz.runUnderlying47 keyS Tryz.zeroValue57 rfl rfl rfl) ?_
  refine RG.q 7 hR rfl rfl rfl rfl rfl rfl (Q.fa (n := 3) Tryz.runUnderlying27 rfl rfl Tryz.sizeOf9 rfl) ?_
  refine RG.q 8 hR rfl rfl rfl rfl rfl rfl (Q.ld Tryz.isAgg9 rfl (rdI (by exact rfl))) ?_
  refine RG.q 9 hR rfl rfl rfl rfl rfl rfl (by first | exact X.G.Q.lk2Nil Tryz.runUnderlying57 keyS Tryz.zeroValue25 rfl rfl | exact X.G.Q.lk2No (i := 0) Tryz.runUnderlying57 keyS Tryz.zeroValue25 rfl rfl rfl hK | exact X.G.Q.lk2Yes (i := 1) Tryz.runUnderlying57 keyS Tryz.zeroValue25 rfl rfl rfl) ?_
  refine RG.q 10 hR rfl rfl rfl rfl rfl rfl (Q.mv rfl) ?_
  refine RG.q 11 hR rfl rfl rfl rfl rfl rfl (Q.ext rfl rfl) ?_
  refine RG.q 12 hR rfl rfl rfl rfl rfl rfl (Q.ext rfl rfl) ?_
  refine RG.keep 13 hR rfl rfl rfl rfl rfl (Q.asg rfl) ?_
  refine RG.bar 14 hR rfl rfl rfl rfl rfl rfl (Q.asg rfl).toC ?_
  rintro _ _ ⟨rfl, rfl⟩
  refine RG.norm rfl ?_
  refine RG.fin hR rfl ?_
  refine J.norm rfl ?_
  refine J.then_n ?_
  refine J.seq ?_
  refine J.seq ?_
  refine J.region ?_
  refine J.q rfl rfl (Q.mv rfl) ?_
  refine J.q rfl rfl (Q.not rfl) ?_
  refine J.nil ?_
  refine J.then_n ?_
  refine J.cases 21 rfl (fun hc21 => ?_) (fun hc21 => ?_)
  ·
   replace hc21 := X.nm hc21
   try (first | (cases hc21; done) | (exfalso; simp at hc21; done))
   all_goals
    refine J.cond_t rfl ?_
    refine J.seq ?_
    refine J.region ?_
    refine J.call Tryz.call28 (status_spec 404) [] rfl rfl rfl rfl ?_
    rintro _ _ ⟨y, rfl, hy, rfl⟩
    refine J.norm rfl ?_
    refine J.stAI (vs := [_, _, _, _, _]) rfl Tryz.sizeOf37 rfl rfl (by exact rfl) (by exact rfl) (by exact rfl) ?_
    refine J.nil ?_
    refine J.then_n ?_
    refine J.cret ?_
    refine J.then_r ?_
    first
      | (refine J.shut [1, 2, 3, 4] (BktAt m M) rfl (fun h s => ⟨z, s⟩) ?_
         refine J.retC [0, 1, 4, 5] (vs := [_, _, _, _, _]) rfl rfl Tryz.isAgg37 Tryz.sizeOf37 (ReadsN.pt 2 rfl) rfl (B := [_, _, _]) ⟨_, rfl, hy, rfl⟩)
      | (refine J.shut [1] (bRep x.o.bucket objs (.map (some r))) rfl (fun h s => ⟨r, rfl, s⟩) ?_
         refine J.mapSame 0 2 ord3_str hM.bs hB rfl ?_
         refine J.shut [2, 0, 3, 4] (BktAt m M) rfl (fun h s => ⟨z, s⟩) ?_
         refine J.retC [0, 1, 4, 5] (vs := [_, _, _, _, _]) rfl rfl Tryz.isAgg37 Tryz.sizeOf37 (ReadsN.pt 2 rfl) rfl (B := [_, _, _]) ⟨_, rfl, hy, rfl⟩)
  replace hc21 := X.nm hc21
  try (first | (cases hc21; done) | (exfalso; simp at hc21; done))
  all_goals
   refine J.cond_f rfl ?_
   refine J.cskip ?_
   refine J.then_n ?_
   refine J.seq ?_
   refine J.region ?_
   refine J.q rfl rfl (Q.mv rfl) ?_
   refine J.slr1 0 rfl fun hs24 => ?_
   refine J.call Tryz.call44 (clone_spec (own 5 1 (.slice z2.1 d.length z2.2) (bytesV d)) z2.1 z2.2 d hs24 (by omega)) [0] rfl rfl rfl rfl ?_
   rintro _ _ ⟨p24, c24, rfl, rfl⟩
   refine J.norm rfl ?_
   refine J.q rfl rfl (Q.bld (l := [_, _, _, _, _]) Tryz.runUnderlying37 Tryz.zeroValue37 Tryz.places37 rfl rfl) ?_
   refine J.stAI (vs := [_, _, _, _, _]) rfl Tryz.sizeOf37 rfl rfl (by exact rfl) (by exact rfl) (by exact rfl) ?_
   refine J.nil ?_
   refine J.then_n ?_
   refine J.cret ?_
   refine J.give (own.nil 9 1 _) ?_
   refine J.pack [0, 1] rfl ?_
   refine J.shut [1] (datRep x.o.key d (.slice z2.1 d.length z2.2)) rfl (fun h s => ⟨z2, rfl, s⟩) ?_
   refine J.mapSame 0 2 ord3_str hO.1 hK rfl ?_
   refine J.shut [0] (bRep x.o.bucket objs (.map (some r))) rfl (fun h s => ⟨r, rfl, s⟩) ?_
   refine J.mapSame 0 2 ord3_str hM.bs hB rfl ?_
   refine J.shut [2, 0, 3, 4] (BktAt m M) rfl (fun h s => ⟨z, s⟩) ?_
   refine J.retC [0, 1, 4, 5] (vs := [_, _, _, _, _]) rfl rfl Tryz.isAgg37 Tryz.sizeOf37 (ReadsN.pt 2 rfl) rfl (B := [_, _, _]) ⟨⟨⟨200, 0, [], false, d⟩, none, 0, p24, c24⟩, rfl, rfl, rfl⟩
theorem get_yes {objs : Objs} (hB : sget x.o.bucket M.buckets = some objs) {d : List UInt8} (hK : sget x.o.key objs = some d) : FSpec Tryz.prog 65 [.pointer (some ⟨m, 0, none⟩), .agg x.cells.toArray] [BktAt m M, G] (ActR m G (⟨200, 0, [], false, d⟩, M)) := by
  refine FSpec.of Tryz.func65 rfl Tryz.ntmps65 rfl fun W0 F => ?_
  refine J.seq ?_
  refine J.region ?_
  refine J.c rfl rfl (C.box (l := [_, _, _, _, _, _, _, _, _]) rfl rfl) ?_
  rintro _ _ ⟨b3, rfl, rfl⟩
  refine J.norm rfl ?_
  refine J.c rfl rfl (C.alloc (l := [_, _, _, _, _]) Tryz.zeroValue37 rfl) ?_
  rintro _ _ ⟨b4, rfl, rfl⟩
  refine J.norm rfl ?_
  refine J.nil ?_
  refine J.then_n ?_
  refine J.seq ?_
  try have hO := hM.os _ _ hB
  try have hdl := hO.2.2 _ _ hK
  refine J.open1 2 rfl (fun _ h => h) fun z => ?_
  refine J.norm rfl ?_
  first
    | (refine J.mapFocus 1 hB rfl fun val => ?_
       refine J.norm rfl ?_
       refine J.open_ 0 rfl rfl (fun _ h => h) fun r hr => ?_
       subst hr
       refine J.norm rfl ?_)
    | skip
  first
    | (refine J.mapFocus 0 hK rfl fun val => ?_
       refine J.norm rfl ?_
       refine J.open_ 0 rfl rfl (fun _ h => h) fun z2 hz2 => ?_
       subst hz2
       refine J.norm rfl ?_)
    | skip
  refine J.draw [13, 14] Tryz.mixed (by kernel_rfl) fun hR => ?_
  refine RG.q 0 hR rfl rfl rfl rfl rfl rfl (Q.mv rfl) ?_
  refine RG.q 1 hR rfl rfl rfl rfl rfl rfl (Q.nil_ rfl) ?_
  refine RG.q 2 hR rfl rfl rfl rfl rfl rfl (Q.fa (n := 0) Tryz.runUnderlying51 rfl rfl Tryz.sizeOf47 rfl) ?_
  refine RG.q 3 hR rfl rfl rfl rfl rfl rfl (Q.ld Tryz.isAgg47 rfl (rdI (by exact rfl))) ?_
  refine RG.q 4 hR rfl rfl rfl rfl rfl rfl (Q.fa (n := 2) Tryz.runUnderlying27 rfl rfl Tryz.sizeOf9 rfl) ?_
  refine RG.q 5 hR rfl rfl rfl rfl rfl rfl (Q.ld Tryz.isAgg9 rfl (rdI (by exact rfl))) ?_
  refine RG.q 6 hR rfl rfl rfl rfl rfl rfl (by first | exact X.G.Q.lkNo (i := 1) Tryz.runUnderlying47 keyS Tryz.zeroValue57 rfl rfl rfl hB | exact X.G.Q.lkYes (i := 1) Tryz.runUnderlying47 keyS Tryz.zeroValue57 rfl rfl rfl | exact X.G.Q.lkYes (i := 2) Tryz.runUnderlying47 keyS Tryz.zeroValue57 rfl rfl rfl) ?_
  refine RG.q 7 hR rfl rfl rfl rfl rfl rfl (Q.fa (n := 3) Tryz.runUnderlying27 rfl rfl Tryz.sizeOf9 rfl) ?_
  refine RG.q 8 hR rfl rfl rfl rfl rfl rfl (Q.ld Tryz.isAgg9 rfl (rdI (by exact rfl))) ?_
  refine RG.q 9 hR rfl rfl rfl rfl rfl rfl (by first | exact X.G.Q.lk2Nil Tryz.runUnderlying57 keyS Tryz.zeroValue25 rfl rfl | exact X.G.Q.lk2No (i := 0) Tryz.runUnderlying57 keyS Tryz.zeroValue25 rfl rfl rfl hK | exact X.G.Q.lk2Yes (i := 1) Tryz.runUnderlying57 keyS Tryz.zeroValue25 rfl rfl rfl) ?_
  refine RG.q 10 hR rfl rfl rfl rfl rfl rfl (Q.mv rfl) ?_
  refine RG.q 11 hR rfl rfl rfl rfl rfl rfl (Q.ext rfl rfl) ?_
  refine RG.q 12 hR rfl rfl rfl rfl rfl rfl (Q.ext rfl rfl) ?_
  refine RG.keep 13 hR rfl rfl rfl rfl rfl (Q.asg rfl) ?_
  refine RG.bar 14 hR rfl rfl rfl rfl rfl rfl (Q.asg rfl).toC ?_
  rintro _ _ ⟨rfl, rfl⟩
  refine RG.norm rfl ?_
  refine RG.fin hR rfl ?_
  refine J.norm rfl ?_
  refine J.then_n ?_
  refine J.seq ?_
  refine J.seq ?_
  refine J.region ?_
  refine J.q rfl rfl (Q.mv rfl) ?_
  refine J.q rfl rfl (Q.not rfl) ?_
  refine J.nil ?_
  refine J.then_n ?_
  refine J.cases 21 rfl (fun hc21 => ?_) (fun hc21 => ?_)
  ·
   replace hc21 := X.nm hc21
   try (first | (cases hc21; done) | (exfalso; simp at hc21; done))
   all_goals
    refine J.cond_t rfl ?_
    refine J.seq ?_
    refine J.region ?_
    refine J.call Tryz.call28 (status_spec 404) [] rfl rfl rfl rfl ?_
    rintro _ _ ⟨y, rfl, hy, rfl⟩
    refine J.norm rfl ?_
    refine J.stAI (vs := [_, _, _, _, _]) rfl Tryz.sizeOf37 rfl rfl (by exact rfl) (by exact rfl) (by exact rfl) ?_
    refine J.nil ?_
    refine J.then_n ?_
    refine J.cret ?_
    refine J.then_r ?_
    first
      | (refine J.shut [1, 2, 3, 4] (BktAt m M) rfl (fun h s => ⟨z, s⟩) ?_
         refine J.retC [0, 1, 4, 5] (vs := [_, _, _, _, _]) rfl rfl Tryz.isAgg37 Tryz.sizeOf37 (ReadsN.pt 2 rfl) rfl (B := [_, _, _]) ⟨_, rfl, hy, rfl⟩)
      | (refine J.shut [1] (bRep x.o.bucket objs (.map (some r))) rfl (fun h s => ⟨r, rfl, s⟩) ?_
         refine J.mapSame 0 2 ord3_str hM.bs hB rfl ?_
         refine J.shut [2, 0, 3, 4] (BktAt m M) rfl (fun h s => ⟨z, s⟩) ?_
         refine J.retC [0, 1, 4, 5] (vs := [_, _, _, _, _]) rfl rfl Tryz.isAgg37 Tryz.sizeOf37 (ReadsN.pt 2 rfl) rfl (B := [_, _, _]) ⟨_, rfl, hy, rfl⟩)
  replace hc21 := X.nm hc21
  try (first | (cases hc21; done) | (exfalso; simp at hc21; done))
  all_goals
   refine J.cond_f rfl ?_
   refine J.cskip ?_
   refine J.then_n ?_
   refine J.seq ?_
   refine J.region ?_
   refine J.q rfl rfl (Q.mv rfl) ?_
   refine J.slr1 0 rfl fun hs24 => ?_
   refine J.call Tryz.call44 (clone_spec (own 5 1 (.slice z2.1 d.length z2.2) (bytesV d)) z2.1 z2.2 d hs24 (by omega)) [0] rfl rfl rfl rfl ?_
   rintro _ _ ⟨p24, c24, rfl, rfl⟩
   refine J.norm rfl ?_
   refine J.q rfl rfl (Q.bld (l := [_, _, _, _, _]) Tryz.runUnderlying37 Tryz.zeroValue37 Tryz.places37 rfl rfl) ?_
   refine J.stAI (vs := [_, _, _, _, _]) rfl Tryz.sizeOf37 rfl rfl (by exact rfl) (by exact rfl) (by exact rfl) ?_
   refine J.nil ?_
   refine J.then_n ?_
   refine J.cret ?_
   refine J.give (own.nil 9 1 _) ?_
   refine J.pack [0, 1] rfl ?_
   refine J.shut [1] (datRep x.o.key d (.slice z2.1 d.length z2.2)) rfl (fun h s => ⟨z2, rfl, s⟩) ?_
   refine J.mapSame 0 2 ord3_str hO.1 hK rfl ?_
   refine J.shut [0] (bRep x.o.bucket objs (.map (some r))) rfl (fun h s => ⟨r, rfl, s⟩) ?_
   refine J.mapSame 0 2 ord3_str hM.bs hB rfl ?_
   refine J.shut [2, 0, 3, 4] (BktAt m M) rfl (fun h s => ⟨z, s⟩) ?_
   refine J.retC [0, 1, 4, 5] (vs := [_, _, _, _, _]) rfl rfl Tryz.isAgg37 Tryz.sizeOf37 (ReadsN.pt 2 rfl) rfl (B := [_, _, _]) ⟨⟨⟨200, 0, [], false, d⟩, none, 0, p24, c24⟩, rfl, rfl, rfl⟩
theorem get_spec : FSpec Tryz.prog 65 [.pointer (some ⟨m, 0, none⟩), .agg x.cells.toArray] [BktAt m M, G] (ActR m G (M.get x.o)) := by
  unfold BM.get
  split
  · rename_i hB; exact get_no m M hM x G hx hB
  · rename_i hB
    split
    · rename_i hK; exact get_none m M hM x G hx hB hK
    · rename_i hK; exact get_yes m M hM x G hx hB hK

theorem delete_no (hB : sget x.o.bucket M.buckets = none) : FSpec Tryz.prog 66 [.pointer (some ⟨m, 0, none⟩), .agg x.cells.toArray] [BktAt m M, G] (ActR m G (st 404, M)) := by
  refine FSpec.of Tryz.func66 rfl Tryz.ntmps66 rfl fun W0 F => ?_
  refine J.seq ?_
  refine J.region ?_
  refine J.c rfl rfl (C.box (l := [_, _, _, _, _, _, _, _, _]) rfl rfl) ?_
  rintro _ _ ⟨b3, rfl, rfl⟩
  refine J.norm rfl ?_
  refine J.c rfl rfl (C.alloc (l := [_, _, _, _, _]) Tryz.zeroValue37 rfl) ?_
  rintro _ _ ⟨b4, rfl, rfl⟩
  refine J.norm rfl ?_
  refine J.nil ?_
  refine J.then_n ?_
  refine J.seq ?_
  refine J.seq ?_
  try have hO := hM.os _ _ hB
  try have hdl := hO.2.2 _ _ hK
  refine J.open1 2 rfl (fun _ h => h) fun z => ?_
  refine J.norm rfl ?_
  first
    | (refine J.mapFocus 1 hB rfl fun val => ?_
       refine J.norm rfl ?_
       refine J.open_ 0 rfl rfl (fun _ h => h) fun r hr => ?_
       subst hr
       refine J.norm rfl ?_)
    | skip
  first
    | (refine J.mapFocus 0 hK rfl fun val => ?_
       refine J.norm rfl ?_
       refine J.open_ 0 rfl rfl (fun _ h => h) fun z2 hz2 => ?_
       subst hz2
       refine J.norm rfl ?_)
    | skip
  refine J.draw [13, 14] Tryz.mixed (by kernel_rfl) fun hR => ?_
  refine RG.q 0 hR rfl rfl rfl rfl rfl rfl (Q.mv rfl) ?_
  refine RG.q 1 hR rfl rfl rfl rfl rfl rfl (Q.nil_ rfl) ?_
  refine RG.q 2 hR rfl rfl rfl rfl rfl rfl (Q.fa (n := 0) Tryz.runUnderlying51 rfl rfl Tryz.sizeOf47 rfl) ?_
  refine RG.q 3 hR rfl rfl rfl rfl rfl rfl (Q.ld Tryz.isAgg47 rfl (rdI (by exact rfl))) ?_
  refine RG.q 4 hR rfl rfl rfl rfl rfl rfl (Q.fa (n := 2) Tryz.runUnderlying27 rfl rfl Tryz.sizeOf9 rfl) ?_
  refine RG.q 5 hR rfl rfl rfl rfl rfl rfl (Q.ld Tryz.isAgg9 rfl (rdI (by exact rfl))) ?_
  refine RG.q 6 hR rfl rfl rfl rfl rfl rfl (by first | exact X.G.Q.lkNo (i := 1) Tryz.runUnderlying47 keyS Tryz.zeroValue57 rfl rfl rfl hB | exact X.G.Q.lkYes (i := 1) Tryz.runUnderlying47 keyS Tryz.zeroValue57 rfl rfl rfl | exact X.G.Q.lkYes (i := 2) Tryz.runUnderlying47 keyS Tryz.zeroValue57 rfl rfl rfl) ?_
  refine RG.q 7 hR rfl rfl rfl rfl rfl rfl (Q.fa (n := 3) Tryz.runUnderlying27 rfl rfl Tryz.sizeOf9 rfl) ?_
  refine RG.q 8 hR rfl rfl rfl rfl rfl rfl (Q.ld Tryz.isAgg9 rfl (rdI (by exact rfl))) ?_
  refine RG.q 9 hR rfl rfl rfl rfl rfl rfl (by first | exact X.G.Q.lk2Nil Tryz.runUnderlying57 keyS Tryz.zeroValue25 rfl rfl | exact X.G.Q.lk2No (i := 0) Tryz.runUnderlying57 keyS Tryz.zeroValue25 rfl rfl rfl hK | exact X.G.Q.lk2Yes (i := 1) Tryz.runUnderlying57 keyS Tryz.zeroValue25 rfl rfl rfl) ?_
  refine RG.q 10 hR rfl rfl rfl rfl rfl rfl (Q.mv rfl) ?_
  refine RG.q 11 hR rfl rfl rfl rfl rfl rfl (Q.ext rfl rfl) ?_
  refine RG.q 12 hR rfl rfl rfl rfl rfl rfl (Q.ext rfl rfl) ?_
  refine RG.keep 13 hR rfl rfl rfl rfl rfl (Q.asg rfl) ?_
  refine RG.bar 14 hR rfl rfl rfl rfl rfl rfl (Q.asg rfl).toC ?_
  rintro _ _ ⟨rfl, rfl⟩
  refine RG.norm rfl ?_
  refine RG.fin hR rfl ?_
  refine J.norm rfl ?_
  refine J.then_n ?_
  refine J.seq ?_
  refine J.region ?_
  refine J.q rfl rfl (Q.mv rfl) ?_
  refine J.q rfl rfl (Q.not rfl) ?_
  refine J.nil ?_
  refine J.then_n ?_
  refine J.cases 21 rfl (fun hc21 => ?_) (fun hc21 => ?_)
  ·
   replace hc21 := X.nm hc21
   try (first | (cases hc21; done) | (exfalso; simp at hc21; done))
   all_goals
    refine J.cond_t rfl ?_
    refine J.seq ?_
    refine J.region ?_
    refine J.call Tryz.call28 (status_spec 404) [] rfl rfl rfl rfl ?_
    rintro _ _ ⟨y, rfl, hy, rfl⟩
    refine J.norm rfl ?_
    refine J.stAI (vs := [_, _, _, _, _]) rfl Tryz.sizeOf37 rfl rfl (by exact rfl) (by exact rfl) (by exact rfl) ?_
    refine J.nil ?_
    refine J.then_n ?_
    refine J.cret ?_
    refine J.then_r ?_
    first
      | (refine J.shut [1, 2, 3, 4] (BktAt m M) rfl (fun h s => ⟨z, s⟩) ?_
         refine J.retC [0, 1, 4, 5] (vs := [_, _, _, _, _]) rfl rfl Tryz.isAgg37 Tryz.sizeOf37 (ReadsN.pt 2 rfl) rfl (B := [_, _, _]) ⟨_, rfl, hy, rfl⟩)
      | (refine J.shut [1] (bRep x.o.bucket objs (.map (some r))) rfl (fun h s => ⟨r, rfl, s⟩) ?_
         refine J.mapSame 0 2 ord3_str hM.bs hB rfl ?_
         refine J.shut [2, 0, 3, 4] (BktAt m M) rfl (fun h s => ⟨z, s⟩) ?_
         refine J.retC [0, 1, 4, 5] (vs := [_, _, _, _, _]) rfl rfl Tryz.isAgg37 Tryz.sizeOf37 (ReadsN.pt 2 rfl) rfl (B := [_, _, _]) ⟨_, rfl, hy, rfl⟩)
  replace hc21 := X.nm hc21
  try (first | (cases hc21; done) | (exfalso; simp at hc21; done))
  all_goals
   refine J.cond_f rfl ?_
   refine J.cskip ?_
   refine J.then_n ?_
   refine J.seq ?_
   refine J.shut [0] (datRep x.o.key d (.slice z2.1 d.length z2.2)) rfl (fun h s => ⟨z2, rfl, s⟩) ?_
   refine J.mapSame 0 1 ord3_str hO.1 hK rfl ?_
   refine J.draw [9] Tryz.mixed (by kernel_rfl) fun hR => ?_
   refine RG.q 0 hR rfl rfl rfl rfl rfl rfl (Q.mv rfl) ?_
   refine RG.q 1 hR rfl rfl rfl rfl rfl rfl (Q.nil_ rfl) ?_
   refine RG.q 2 hR rfl rfl rfl rfl rfl rfl (Q.fa (n := 0) Tryz.runUnderlying51 rfl rfl Tryz.sizeOf47 rfl) ?_
   refine RG.q 3 hR rfl rfl rfl rfl rfl rfl (Q.ld Tryz.isAgg47 rfl (rdI (by exact rfl))) ?_
   refine RG.q 4 hR rfl rfl rfl rfl rfl rfl (Q.fa (n := 2) Tryz.runUnderlying27 rfl rfl Tryz.sizeOf9 rfl) ?_
   refine RG.q 5 hR rfl rfl rfl rfl rfl rfl (Q.ld Tryz.isAgg9 rfl (rdI (by exact rfl))) ?_
   refine RG.q 6 hR rfl rfl rfl rfl rfl rfl (X.G.Q.lkYes (i := 1) Tryz.runUnderlying47 keyS Tryz.zeroValue57 rfl rfl rfl) ?_
   refine RG.q 7 hR rfl rfl rfl rfl rfl rfl (Q.fa (n := 3) Tryz.runUnderlying27 rfl rfl Tryz.sizeOf9 rfl) ?_
   refine RG.q 8 hR rfl rfl rfl rfl rfl rfl (Q.ld Tryz.isAgg9 rfl (rdI (by exact rfl))) ?_
   refine RG.bar 9 hR rfl rfl rfl rfl rfl rfl (X.G.C.mapDel 0 Tryz.runUnderlying57 keyS rfl rfl) ?_
   rintro _ _ ⟨rfl, rfl⟩
   refine RG.norm rfl ?_
   refine RG.fin hR rfl ?_
   refine J.norm rfl ?_
   refine J.then_n ?_
   refine J.seq ?_
   refine J.region ?_
   refine J.call Tryz.call28 (status_spec 200) [] rfl rfl rfl rfl ?_
   rintro _ _ ⟨y, rfl, hy, rfl⟩
   refine J.norm rfl ?_
   refine J.stAI (vs := [_, _, _, _, _]) rfl Tryz.sizeOf37 rfl rfl (by exact rfl) (by exact rfl) (by exact rfl) ?_
   refine J.nil ?_
   refine J.then_n ?_
   refine J.cret ?_
   refine J.shut [1] (bRep x.o.bucket (sdel x.o.key objs) (.map (some r))) rfl (fun h s => ⟨r, rfl, s⟩) ?_
   refine J.mapBack 0 2 (sdel x.o.key objs) ord3_str hM.bs rfl ?_
   refine J.shut [2, 0, 3, 4] (BktAt m { M with buckets := sput ltB x.o.bucket (sdel x.o.key objs) M.buckets }) rfl (fun h s => ⟨z, s⟩) ?_
   refine J.retC [0, 1, 4, 5] (vs := [_, _, _, _, _]) rfl rfl Tryz.isAgg37 Tryz.sizeOf37 (ReadsN.pt 2 rfl) rfl (B := [_, _, _]) ⟨_, rfl, hy, rfl⟩
theorem delete_none {objs : Objs} (hB : sget x.o.bucket M.buckets = some objs) (hK : sget x.o.key objs = none) : FSpec Tryz.prog 66 [.pointer (some ⟨m, 0, none⟩), .agg x.cells.toArray] [BktAt m M, G] (ActR m G (st 404, M)) := by
  refine FSpec.of Tryz.func66 rfl Tryz.ntmps66 rfl fun W0 F => ?_
  refine J.seq ?_
  refine J.region ?_
  refine J.c rfl rfl (C.box (l := [_, _, _, _, _, _, _, _, _]) rfl rfl) ?_
  rintro _ _ ⟨b3, rfl, rfl⟩
  refine J.norm rfl ?_
  refine J.c rfl rfl (C.alloc (l := [_, _, _, _, _]) Tryz.zeroValue37 rfl) ?_
  rintro _ _ ⟨b4, rfl, rfl⟩
  refine J.norm rfl ?_
  refine J.nil ?_
  refine J.then_n ?_
  refine J.seq ?_
  refine J.seq ?_
  try have hO := hM.os _ _ hB
  try have hdl := hO.2.2 _ _ hK
  refine J.open1 2 rfl (fun _ h => h) fun z => ?_
  refine J.norm rfl ?_
  first
    | (refine J.mapFocus 1 hB rfl fun val => ?_
       refine J.norm rfl ?_
       refine J.open_ 0 rfl rfl (fun _ h => h) fun r hr => ?_
       subst hr
       refine J.norm rfl ?_)
    | skip
  first
    | (refine J.mapFocus 0 hK rfl fun val => ?_
       refine J.norm rfl ?_
       refine J.open_ 0 rfl rfl (fun _ h => h) fun z2 hz2 => ?_
       subst hz2
       refine J.norm rfl ?_)
    | skip
  refine J.draw [13, 14] Tryz.mixed (by kernel_rfl) fun hR => ?_
  refine RG.q 0 hR rfl rfl rfl rfl rfl rfl (Q.mv rfl) ?_
  refine RG.q 1 hR rfl rfl rfl rfl rfl rfl (Q.nil_ rfl) ?_
  refine RG.q 2 hR rfl rfl rfl rfl rfl rfl (Q.fa (n := 0) Tryz.runUnderlying51 rfl rfl Tryz.sizeOf47 rfl) ?_
  refine RG.q 3 hR rfl rfl rfl rfl rfl rfl (Q.ld Tryz.isAgg47 rfl (rdI (by exact rfl))) ?_
  refine RG.q 4 hR rfl rfl rfl rfl rfl rfl (Q.fa (n := 2) Tryz.runUnderlying27 rfl rfl Tryz.sizeOf9 rfl) ?_
  refine RG.q 5 hR rfl rfl rfl rfl rfl rfl (Q.ld Tryz.isAgg9 rfl (rdI (by exact rfl))) ?_
  refine RG.q 6 hR rfl rfl rfl rfl rfl rfl (by first | exact X.G.Q.lkNo (i := 1) Tryz.runUnderlying47 keyS Tryz.zeroValue57 rfl rfl rfl hB | exact X.G.Q.lkYes (i := 1) Tryz.runUnderlying47 keyS Tryz.zeroValue57 rfl rfl rfl | exact X.G.Q.lkYes (i := 2) Tryz.runUnderlying47 keyS Tryz.zeroValue57 rfl rfl rfl) ?_
  refine RG.q 7 hR rfl rfl rfl rfl rfl rfl (Q.fa (n := 3) Tryz.runUnderlying27 rfl rfl Tryz.sizeOf9 rfl) ?_
  refine RG.q 8 hR rfl rfl rfl rfl rfl rfl (Q.ld Tryz.isAgg9 rfl (rdI (by exact rfl))) ?_
  refine RG.q 9 hR rfl rfl rfl rfl rfl rfl (by first | exact X.G.Q.lk2Nil Tryz.runUnderlying57 keyS Tryz.zeroValue25 rfl rfl | exact X.G.Q.lk2No (i := 0) Tryz.runUnderlying57 keyS Tryz.zeroValue25 rfl rfl rfl hK | exact X.G.Q.lk2Yes (i := 1) Tryz.runUnderlying57 keyS Tryz.zeroValue25 rfl rfl rfl) ?_
  refine RG.q 10 hR rfl rfl rfl rfl rfl rfl (Q.mv rfl) ?_
  refine RG.q 11 hR rfl rfl rfl rfl rfl rfl (Q.ext rfl rfl) ?_
  refine RG.q 12 hR rfl rfl rfl rfl rfl rfl (Q.ext rfl rfl) ?_
  refine RG.keep 13 hR rfl rfl rfl rfl rfl (Q.asg rfl) ?_
  refine RG.bar 14 hR rfl rfl rfl rfl rfl rfl (Q.asg rfl).toC ?_
  rintro _ _ ⟨rfl, rfl⟩
  refine RG.norm rfl ?_
  refine RG.fin hR rfl ?_
  refine J.norm rfl ?_
  refine J.then_n ?_
  refine J.seq ?_
  refine J.region ?_
  refine J.q rfl rfl (Q.mv rfl) ?_
  refine J.q rfl rfl (Q.not rfl) ?_
  refine J.nil ?_
  refine J.then_n ?_
  refine J.cases 21 rfl (fun hc21 => ?_) (fun hc21 => ?_)
  ·
   replace hc21 := X.nm hc21
   try (first | (cases hc21; done) | (exfalso; simp at hc21; done))
   all_goals
    refine J.cond_t rfl ?_
    refine J.seq ?_
    refine J.region ?_
    refine J.call Tryz.call28 (status_spec 404) [] rfl rfl rfl rfl ?_
    rintro _ _ ⟨y, rfl, hy, rfl⟩
    refine J.norm rfl ?_
    refine J.stAI (vs := [_, _, _, _, _]) rfl Tryz.sizeOf37 rfl rfl (by exact rfl) (by exact rfl) (by exact rfl) ?_
    refine J.nil ?_
    refine J.then_n ?_
    refine J.cret ?_
    refine J.then_r ?_
    first
      | (refine J.shut [1, 2, 3, 4] (BktAt m M) rfl (fun h s => ⟨z, s⟩) ?_
         refine J.retC [0, 1, 4, 5] (vs := [_, _, _, _, _]) rfl rfl Tryz.isAgg37 Tryz.sizeOf37 (ReadsN.pt 2 rfl) rfl (B := [_, _, _]) ⟨_, rfl, hy, rfl⟩)
      | (refine J.shut [1] (bRep x.o.bucket objs (.map (some r))) rfl (fun h s => ⟨r, rfl, s⟩) ?_
         refine J.mapSame 0 2 ord3_str hM.bs hB rfl ?_
         refine J.shut [2, 0, 3, 4] (BktAt m M) rfl (fun h s => ⟨z, s⟩) ?_
         refine J.retC [0, 1, 4, 5] (vs := [_, _, _, _, _]) rfl rfl Tryz.isAgg37 Tryz.sizeOf37 (ReadsN.pt 2 rfl) rfl (B := [_, _, _]) ⟨_, rfl, hy, rfl⟩)
  replace hc21 := X.nm hc21
  try (first | (cases hc21; done) | (exfalso; simp at hc21; done))
  all_goals
   refine J.cond_f rfl ?_
   refine J.cskip ?_
   refine J.then_n ?_
   refine J.seq ?_
   refine J.shut [0] (datRep x.o.key d (.slice z2.1 d.length z2.2)) rfl (fun h s => ⟨z2, rfl, s⟩) ?_
   refine J.mapSame 0 1 ord3_str hO.1 hK rfl ?_
   refine J.draw [9] Tryz.mixed (by kernel_rfl) fun hR => ?_
   refine RG.q 0 hR rfl rfl rfl rfl rfl rfl (Q.mv rfl) ?_
   refine RG.q 1 hR rfl rfl rfl rfl rfl rfl (Q.nil_ rfl) ?_
   refine RG.q 2 hR rfl rfl rfl rfl rfl rfl (Q.fa (n := 0) Tryz.runUnderlying51 rfl rfl Tryz.sizeOf47 rfl) ?_
   refine RG.q 3 hR rfl rfl rfl rfl rfl rfl (Q.ld Tryz.isAgg47 rfl (rdI (by exact rfl))) ?_
   refine RG.q 4 hR rfl rfl rfl rfl rfl rfl (Q.fa (n := 2) Tryz.runUnderlying27 rfl rfl Tryz.sizeOf9 rfl) ?_
   refine RG.q 5 hR rfl rfl rfl rfl rfl rfl (Q.ld Tryz.isAgg9 rfl (rdI (by exact rfl))) ?_
   refine RG.q 6 hR rfl rfl rfl rfl rfl rfl (X.G.Q.lkYes (i := 1) Tryz.runUnderlying47 keyS Tryz.zeroValue57 rfl rfl rfl) ?_
   refine RG.q 7 hR rfl rfl rfl rfl rfl rfl (Q.fa (n := 3) Tryz.runUnderlying27 rfl rfl Tryz.sizeOf9 rfl) ?_
   refine RG.q 8 hR rfl rfl rfl rfl rfl rfl (Q.ld Tryz.isAgg9 rfl (rdI (by exact rfl))) ?_
   refine RG.bar 9 hR rfl rfl rfl rfl rfl rfl (X.G.C.mapDel 0 Tryz.runUnderlying57 keyS rfl rfl) ?_
   rintro _ _ ⟨rfl, rfl⟩
   refine RG.norm rfl ?_
   refine RG.fin hR rfl ?_
   refine J.norm rfl ?_
   refine J.then_n ?_
   refine J.seq ?_
   refine J.region ?_
   refine J.call Tryz.call28 (status_spec 200) [] rfl rfl rfl rfl ?_
   rintro _ _ ⟨y, rfl, hy, rfl⟩
   refine J.norm rfl ?_
   refine J.stAI (vs := [_, _, _, _, _]) rfl Tryz.sizeOf37 rfl rfl (by exact rfl) (by exact rfl) (by exact rfl) ?_
   refine J.nil ?_
   refine J.then_n ?_
   refine J.cret ?_
   refine J.shut [1] (bRep x.o.bucket (sdel x.o.key objs) (.map (some r))) rfl (fun h s => ⟨r, rfl, s⟩) ?_
   refine J.mapBack 0 2 (sdel x.o.key objs) ord3_str hM.bs rfl ?_
   refine J.shut [2, 0, 3, 4] (BktAt m { M with buckets := sput ltB x.o.bucket (sdel x.o.key objs) M.buckets }) rfl (fun h s => ⟨z, s⟩) ?_
   refine J.retC [0, 1, 4, 5] (vs := [_, _, _, _, _]) rfl rfl Tryz.isAgg37 Tryz.sizeOf37 (ReadsN.pt 2 rfl) rfl (B := [_, _, _]) ⟨_, rfl, hy, rfl⟩
theorem delete_yes {objs : Objs} (hB : sget x.o.bucket M.buckets = some objs) {d : List UInt8} (hK : sget x.o.key objs = some d) : FSpec Tryz.prog 66 [.pointer (some ⟨m, 0, none⟩), .agg x.cells.toArray] [BktAt m M, G] (ActR m G (st 200, { M with buckets := sput ltB x.o.bucket (sdel x.o.key objs) M.buckets })) := by
  refine FSpec.of Tryz.func66 rfl Tryz.ntmps66 rfl fun W0 F => ?_
  refine J.seq ?_
  refine J.region ?_
  refine J.c rfl rfl (C.box (l := [_, _, _, _, _, _, _, _, _]) rfl rfl) ?_
  rintro _ _ ⟨b3, rfl, rfl⟩
  refine J.norm rfl ?_
  refine J.c rfl rfl (C.alloc (l := [_, _, _, _, _]) Tryz.zeroValue37 rfl) ?_
  rintro _ _ ⟨b4, rfl, rfl⟩
  refine J.norm rfl ?_
  refine J.nil ?_
  refine J.then_n ?_
  refine J.seq ?_
  refine J.seq ?_
  try have hO := hM.os _ _ hB
  try have hdl := hO.2.2 _ _ hK
  refine J.open1 2 rfl (fun _ h => h) fun z => ?_
  refine J.norm rfl ?_
  first
    | (refine J.mapFocus 1 hB rfl fun val => ?_
       refine J.norm rfl ?_
       refine J.open_ 0 rfl rfl (fun _ h => h) fun r hr => ?_
       subst hr
       refine J.norm rfl ?_)
    | skip
  first
    | (refine J.mapFocus 0 hK rfl fun val => ?_
       refine J.norm rfl ?_
       refine J.open_ 0 rfl rfl (fun _ h => h) fun z2 hz2 => ?_
       subst hz2
       refine J.norm rfl ?_)
    | skip
  refine J.draw [13, 14] Tryz.mixed (by kernel_rfl) fun hR => ?_
  refine RG.q 0 hR rfl rfl rfl rfl rfl rfl (Q.mv rfl) ?_
  refine RG.q 1 hR rfl rfl rfl rfl rfl rfl (Q.nil_ rfl) ?_
  refine RG.q 2 hR rfl rfl rfl rfl rfl rfl (Q.fa (n := 0) Tryz.runUnderlying51 rfl rfl Tryz.sizeOf47 rfl) ?_
  refine RG.q 3 hR rfl rfl rfl rfl rfl rfl (Q.ld Tryz.isAgg47 rfl (rdI (by exact rfl))) ?_
  refine RG.q 4 hR rfl rfl rfl rfl rfl rfl (Q.fa (n := 2) Tryz.runUnderlying27 rfl rfl Tryz.sizeOf9 rfl) ?_
  refine RG.q 5 hR rfl rfl rfl rfl rfl rfl (Q.ld Tryz.isAgg9 rfl (rdI (by exact rfl))) ?_
  refine RG.q 6 hR rfl rfl rfl rfl rfl rfl (by first | exact X.G.Q.lkNo (i := 1) Tryz.runUnderlying47 keyS Tryz.zeroValue57 rfl rfl rfl hB | exact X.G.Q.lkYes (i := 1) Tryz.runUnderlying47 keyS Tryz.zeroValue57 rfl rfl rfl | exact X.G.Q.lkYes (i := 2) Tryz.runUnderlying47 keyS Tryz.zeroValue57 rfl rfl rfl) ?_
  refine RG.q 7 hR rfl rfl rfl rfl rfl rfl (Q.fa (n := 3) Tryz.runUnderlying27 rfl rfl Tryz.sizeOf9 rfl) ?_
  refine RG.q 8 hR rfl rfl rfl rfl rfl rfl (Q.ld Tryz.isAgg9 rfl (rdI (by exact rfl))) ?_
  refine RG.q 9 hR rfl rfl rfl rfl rfl rfl (by first | exact X.G.Q.lk2Nil Tryz.runUnderlying57 keyS Tryz.zeroValue25 rfl rfl | exact X.G.Q.lk2No (i := 0) Tryz.runUnderlying57 keyS Tryz.zeroValue25 rfl rfl rfl hK | exact X.G.Q.lk2Yes (i := 1) Tryz.runUnderlying57 keyS Tryz.zeroValue25 rfl rfl rfl) ?_
  refine RG.q 10 hR rfl rfl rfl rfl rfl rfl (Q.mv rfl) ?_
  refine RG.q 11 hR rfl rfl rfl rfl rfl rfl (Q.ext rfl rfl) ?_
  refine RG.q 12 hR rfl rfl rfl rfl rfl rfl (Q.ext rfl rfl) ?_
  refine RG.keep 13 hR rfl rfl rfl rfl rfl (Q.asg rfl) ?_
  refine RG.bar 14 hR rfl rfl rfl rfl rfl rfl (Q.asg rfl).toC ?_
  rintro _ _ ⟨rfl, rfl⟩
  refine RG.norm rfl ?_
  refine RG.fin hR rfl ?_
  refine J.norm rfl ?_
  refine J.then_n ?_
  refine J.seq ?_
  refine J.region ?_
  refine J.q rfl rfl (Q.mv rfl) ?_
  refine J.q rfl rfl (Q.not rfl) ?_
  refine J.nil ?_
  refine J.then_n ?_
  refine J.cases 21 rfl (fun hc21 => ?_) (fun hc21 => ?_)
  ·
   replace hc21 := X.nm hc21
   try (first | (cases hc21; done) | (exfalso; simp at hc21; done))
   all_goals
    refine J.cond_t rfl ?_
    refine J.seq ?_
    refine J.region ?_
    refine J.call Tryz.call28 (status_spec 404) [] rfl rfl rfl rfl ?_
    rintro _ _ ⟨y, rfl, hy, rfl⟩
    refine J.norm rfl ?_
    refine J.stAI (vs := [_, _, _, _, _]) rfl Tryz.sizeOf37 rfl rfl (by exact rfl) (by exact rfl) (by exact rfl) ?_
    refine J.nil ?_
    refine J.then_n ?_
    refine J.cret ?_
    refine J.then_r ?_
    first
      | (refine J.shut [1, 2, 3, 4] (BktAt m M) rfl (fun h s => ⟨z, s⟩) ?_
         refine J.retC [0, 1, 4, 5] (vs := [_, _, _, _, _]) rfl rfl Tryz.isAgg37 Tryz.sizeOf37 (ReadsN.pt 2 rfl) rfl (B := [_, _, _]) ⟨_, rfl, hy, rfl⟩)
      | (refine J.shut [1] (bRep x.o.bucket objs (.map (some r))) rfl (fun h s => ⟨r, rfl, s⟩) ?_
         refine J.mapSame 0 2 ord3_str hM.bs hB rfl ?_
         refine J.shut [2, 0, 3, 4] (BktAt m M) rfl (fun h s => ⟨z, s⟩) ?_
         refine J.retC [0, 1, 4, 5] (vs := [_, _, _, _, _]) rfl rfl Tryz.isAgg37 Tryz.sizeOf37 (ReadsN.pt 2 rfl) rfl (B := [_, _, _]) ⟨_, rfl, hy, rfl⟩)
  replace hc21 := X.nm hc21
  try (first | (cases hc21; done) | (exfalso; simp at hc21; done))
  all_goals
   refine J.cond_f rfl ?_
   refine J.cskip ?_
   refine J.then_n ?_
   refine J.seq ?_
   refine J.shut [0] (datRep x.o.key d (.slice z2.1 d.length z2.2)) rfl (fun h s => ⟨z2, rfl, s⟩) ?_
   refine J.mapSame 0 1 ord3_str hO.1 hK rfl ?_
   refine J.draw [9] Tryz.mixed (by kernel_rfl) fun hR => ?_
   refine RG.q 0 hR rfl rfl rfl rfl rfl rfl (Q.mv rfl) ?_
   refine RG.q 1 hR rfl rfl rfl rfl rfl rfl (Q.nil_ rfl) ?_
   refine RG.q 2 hR rfl rfl rfl rfl rfl rfl (Q.fa (n := 0) Tryz.runUnderlying51 rfl rfl Tryz.sizeOf47 rfl) ?_
   refine RG.q 3 hR rfl rfl rfl rfl rfl rfl (Q.ld Tryz.isAgg47 rfl (rdI (by exact rfl))) ?_
   refine RG.q 4 hR rfl rfl rfl rfl rfl rfl (Q.fa (n := 2) Tryz.runUnderlying27 rfl rfl Tryz.sizeOf9 rfl) ?_
   refine RG.q 5 hR rfl rfl rfl rfl rfl rfl (Q.ld Tryz.isAgg9 rfl (rdI (by exact rfl))) ?_
   refine RG.q 6 hR rfl rfl rfl rfl rfl rfl (X.G.Q.lkYes (i := 1) Tryz.runUnderlying47 keyS Tryz.zeroValue57 rfl rfl rfl) ?_
   refine RG.q 7 hR rfl rfl rfl rfl rfl rfl (Q.fa (n := 3) Tryz.runUnderlying27 rfl rfl Tryz.sizeOf9 rfl) ?_
   refine RG.q 8 hR rfl rfl rfl rfl rfl rfl (Q.ld Tryz.isAgg9 rfl (rdI (by exact rfl))) ?_
   refine RG.bar 9 hR rfl rfl rfl rfl rfl rfl (X.G.C.mapDel 0 Tryz.runUnderlying57 keyS rfl rfl) ?_
   rintro _ _ ⟨rfl, rfl⟩
   refine RG.norm rfl ?_
   refine RG.fin hR rfl ?_
   refine J.norm rfl ?_
   refine J.then_n ?_
   refine J.seq ?_
   refine J.region ?_
   refine J.call Tryz.call28 (status_spec 200) [] rfl rfl rfl rfl ?_
   rintro _ _ ⟨y, rfl, hy, rfl⟩
   refine J.norm rfl ?_
   refine J.stAI (vs := [_, _, _, _, _]) rfl Tryz.sizeOf37 rfl rfl (by exact rfl) (by exact rfl) (by exact rfl) ?_
   refine J.nil ?_
   refine J.then_n ?_
   refine J.cret ?_
   refine J.shut [1] (bRep x.o.bucket (sdel x.o.key objs) (.map (some r))) rfl (fun h s => ⟨r, rfl, s⟩) ?_
   refine J.mapBack 0 2 (sdel x.o.key objs) ord3_str hM.bs rfl ?_
   refine J.shut [2, 0, 3, 4] (BktAt m { M with buckets := sput ltB x.o.bucket (sdel x.o.key objs) M.buckets }) rfl (fun h s => ⟨z, s⟩) ?_
   refine J.retC [0, 1, 4, 5] (vs := [_, _, _, _, _]) rfl rfl Tryz.isAgg37 Tryz.sizeOf37 (ReadsN.pt 2 rfl) rfl (B := [_, _, _]) ⟨_, rfl, hy, rfl⟩
theorem delete_spec : FSpec Tryz.prog 66 [.pointer (some ⟨m, 0, none⟩), .agg x.cells.toArray] [BktAt m M, G] (ActR m G (M.delete x.o)) := by
  unfold BM.delete
  split
  · rename_i hB; exact delete_no m M hM x G hx hB
  · rename_i hB
    split
    · rename_i hK; exact delete_none m M hM x G hx hB hK
    · rename_i hK; exact delete_yes m M hM x G hx hB hK

theorem begin_no (hB : sget x.o.bucket M.buckets = none) : FSpec Tryz.prog 68 [.pointer (some ⟨m, 0, none⟩), .agg x.cells.toArray] [BktAt m M, G] (ActR m G (st 404, M)) := by
  refine FSpec.of Tryz.func68 rfl Tryz.ntmps68 rfl fun W0 F => ?_
  refine J.seq ?_
  refine J.region ?_
  refine J.c rfl rfl (C.box (l := [_, _, _, _, _, _, _, _, _]) rfl rfl) ?_
  rintro _ _ ⟨b3, rfl, rfl⟩
  refine J.norm rfl ?_
  refine J.c rfl rfl (C.alloc (l := [_, _, _, _, _]) Tryz.zeroValue37 rfl) ?_
  rintro _ _ ⟨b4, rfl, rfl⟩
  refine J.norm rfl ?_
  refine J.nil ?_
  refine J.then_n ?_
  refine J.seq ?_
  refine J.seq ?_
  refine J.region ?_
  refine J.q rfl rfl (Q.mv rfl) ?_
  refine J.q rfl rfl (Q.ldN (vs := [_, _, _, _, _, _, _, _, _]) Tryz.isAgg27 Tryz.sizeOf27 rfl rnI) ?_
  refine J.call Tryz.call94 ((by first | exact known_no m M x hB | exact known_yes m M hM x hB)) [2] rfl rfl rfl rfl ?_
  rintro _ _ ⟨rfl, rfl⟩
  refine J.norm rfl ?_
  refine J.q rfl rfl (Q.not rfl) ?_
  refine J.nil ?_
  refine J.then_n ?_
  refine J.cases 8 rfl (fun hc8 => ?_) (fun hc8 => ?_)
  ·
   replace hc8 := X.nm hc8
   try (first | (cases hc8; done) | (exfalso; simp at hc8; done))
   all_goals
    refine J.cond_t rfl ?_
    refine J.seq ?_
    refine J.region ?_
    refine J.call Tryz.call28 (status_spec 404) [] rfl rfl rfl rfl ?_
    rintro _ _ ⟨y, rfl, hy, rfl⟩
    refine J.norm rfl ?_
    refine J.stAI (vs := [_, _, _, _, _]) rfl Tryz.sizeOf37 rfl rfl (by exact rfl) (by exact rfl) (by exact rfl) ?_
    refine J.nil ?_
    refine J.then_n ?_
    refine J.cret ?_
    refine J.then_r ?_
    refine J.retC [1, 0, 4, 5] (vs := [_, _, _, _, _]) rfl rfl Tryz.isAgg37 Tryz.sizeOf37 (ReadsN.pt 2 rfl) rfl (B := [_, _, _]) ⟨_, rfl, hy, rfl⟩
  replace hc8 := X.nm hc8
  try (first | (cases hc8; done) | (exfalso; simp at hc8; done))
  all_goals
   refine J.cond_f rfl ?_
   refine J.cskip ?_
   refine J.then_n ?_
   refine J.seq ?_
   refine J.open1 0 rfl (fun _ h => h) fun z => ?_
   refine J.norm rfl ?_
   refine J.draw [10, 12, 13] Tryz.mixed (by kernel_rfl) fun hR => ?_
   refine RG.q 0 hR rfl rfl rfl rfl rfl rfl (Q.mv rfl) ?_
   refine RG.q 1 hR rfl rfl rfl rfl rfl rfl (Q.nil_ rfl) ?_
   refine RG.q 2 hR rfl rfl rfl rfl rfl rfl (Q.fa (n := 1) Tryz.runUnderlying51 rfl rfl Tryz.sizeOf48 rfl) ?_
   refine RG.q 3 hR rfl rfl rfl rfl rfl rfl (Q.ld Tryz.isAgg48 rfl (rdI (by exact rfl))) ?_
   refine RG.q 4 hR rfl rfl rfl rfl rfl rfl (Q.fa (n := 0) Tryz.runUnderlying27 rfl rfl Tryz.sizeOf23 rfl) ?_
   refine RG.q 5 hR rfl rfl rfl rfl rfl rfl (Q.ld Tryz.isAgg23 rfl (rdI (by exact rfl))) ?_
   refine RG.q 6 hR rfl rfl rfl rfl rfl rfl (Q.fa (n := 2) Tryz.runUnderlying27 rfl rfl Tryz.sizeOf9 rfl) ?_
   refine RG.q 7 hR rfl rfl rfl rfl rfl rfl (Q.ld Tryz.isAgg9 rfl (rdI (by exact rfl))) ?_
   refine RG.q 8 hR rfl rfl rfl rfl rfl rfl (Q.fa (n := 3) Tryz.runUnderlying27 rfl rfl Tryz.sizeOf9 rfl) ?_
   refine RG.q 9 hR rfl rfl rfl rfl rfl rfl (Q.ld Tryz.isAgg9 rfl (rdI (by exact rfl))) ?_
   refine RG.made 10 hR rfl rfl rfl rfl rfl C.mkMap ?_
   rintro b20
   refine RG.q 11 hR rfl rfl rfl rfl rfl rfl (Q.bld (l := [_, _, _]) Tryz.runUnderlying68 Tryz.zeroValue68 Tryz.places68 rfl rfl) ?_
   refine RG.made 12 hR rfl rfl rfl rfl rfl (C.box (l := [_, _, _]) rfl rfl) ?_
   rintro b22
   refine RG.bar 13 hR rfl rfl rfl rfl rfl rfl (X.G.C.mapPut (rep := uRep) 2 ⟨x.o.bucket, x.o.key, []⟩ ord3_nat hM.us Tryz.runUnderlying48 keyU rfl rfl rfl rfl) ?_
   rintro _ _ ⟨rfl, rfl⟩
   refine RG.norm rfl ?_
   refine RG.fin hR rfl ?_
   refine J.norm rfl ?_
   refine J.then_n ?_
   refine J.seq ?_
   refine J.region ?_
   refine J.q rfl rfl (Q.fa (n := 0) Tryz.runUnderlying27 rfl rfl Tryz.sizeOf23 rfl) ?_
   refine J.q rfl rfl (Q.ld Tryz.isAgg23 rfl (rdI (by exact rfl))) ?_
   refine J.q rfl rfl (Q.bld (l := [_, _, _, _, _]) Tryz.runUnderlying37 Tryz.zeroValue37 Tryz.places37 rfl rfl) ?_
   refine J.stAI (vs := [_, _, _, _, _]) rfl Tryz.sizeOf37 rfl rfl (by exact rfl) (by exact rfl) (by exact rfl) ?_
   refine J.nil ?_
   refine J.then_n ?_
   refine J.cret ?_
   refine J.give empty_asn ?_
   refine J.conv (Y := MapAt (Value.int .i64) datRep b20 []) 10 rfl MapAt.new ?_
   refine J.shut [10, 0] (uRep x.o.id ⟨x.o.bucket, x.o.key, []⟩ (.pointer (some ⟨b22, 0, none⟩))) rfl (fun h s => ⟨(b22, b20), rfl, s⟩) ?_
   refine J.mapBack 0 4 ⟨x.o.bucket, x.o.key, []⟩ ord3_nat (X.G.srtd_put ord3_nat hM.us _ _) rfl ?_
   rw [X.G.sput_put ord3_nat hM.us]
   refine J.shut [2, 3, 0, 4] (BktAt m { M with uploads := sput ltN x.o.id ⟨x.o.bucket, x.o.key, []⟩ M.uploads }) rfl (fun h s => ⟨z, s⟩) ?_
   refine J.retC [0, 1, 4, 5] (vs := [_, _, _, _, _]) rfl rfl Tryz.isAgg37 Tryz.sizeOf37 (ReadsN.pt 2 rfl) rfl (B := [_, _, _]) ⟨⟨⟨200, x.o.id, [], false, []⟩, none, 0, none, 0⟩, rfl, rfl, rfl⟩
theorem begin_yes {objs : Objs} (hB : sget x.o.bucket M.buckets = some objs) : FSpec Tryz.prog 68 [.pointer (some ⟨m, 0, none⟩), .agg x.cells.toArray] [BktAt m M, G] (ActR m G (⟨200, x.o.id, [], false, []⟩, { M with uploads := sput ltN x.o.id ⟨x.o.bucket, x.o.key, []⟩ M.uploads })) := by
  refine FSpec.of Tryz.func68 rfl Tryz.ntmps68 rfl fun W0 F => ?_
  refine J.seq ?_
  refine J.region ?_
  refine J.c rfl rfl (C.box (l := [_, _, _, _, _, _, _, _, _]) rfl rfl) ?_
  rintro _ _ ⟨b3, rfl, rfl⟩
  refine J.norm rfl ?_
  refine J.c rfl rfl (C.alloc (l := [_, _, _, _, _]) Tryz.zeroValue37 rfl) ?_
  rintro _ _ ⟨b4, rfl, rfl⟩
  refine J.norm rfl ?_
  refine J.nil ?_
  refine J.then_n ?_
  refine J.seq ?_
  refine J.seq ?_
  refine J.region ?_
  refine J.q rfl rfl (Q.mv rfl) ?_
  refine J.q rfl rfl (Q.ldN (vs := [_, _, _, _, _, _, _, _, _]) Tryz.isAgg27 Tryz.sizeOf27 rfl rnI) ?_
  refine J.call Tryz.call94 ((by first | exact known_no m M x hB | exact known_yes m M hM x hB)) [2] rfl rfl rfl rfl ?_
  rintro _ _ ⟨rfl, rfl⟩
  refine J.norm rfl ?_
  refine J.q rfl rfl (Q.not rfl) ?_
  refine J.nil ?_
  refine J.then_n ?_
  refine J.cases 8 rfl (fun hc8 => ?_) (fun hc8 => ?_)
  ·
   replace hc8 := X.nm hc8
   try (first | (cases hc8; done) | (exfalso; simp at hc8; done))
   all_goals
    refine J.cond_t rfl ?_
    refine J.seq ?_
    refine J.region ?_
    refine J.call Tryz.call28 (status_spec 404) [] rfl rfl rfl rfl ?_
    rintro _ _ ⟨y, rfl, hy, rfl⟩
    refine J.norm rfl ?_
    refine J.stAI (vs := [_, _, _, _, _]) rfl Tryz.sizeOf37 rfl rfl (by exact rfl) (by exact rfl) (by exact rfl) ?_
    refine J.nil ?_
    refine J.then_n ?_
    refine J.cret ?_
    refine J.then_r ?_
    refine J.retC [1, 0, 4, 5] (vs := [_, _, _, _, _]) rfl rfl Tryz.isAgg37 Tryz.sizeOf37 (ReadsN.pt 2 rfl) rfl (B := [_, _, _]) ⟨_, rfl, hy, rfl⟩
  replace hc8 := X.nm hc8
  try (first | (cases hc8; done) | (exfalso; simp at hc8; done))
  all_goals
   refine J.cond_f rfl ?_
   refine J.cskip ?_
   refine J.then_n ?_
   refine J.seq ?_
   refine J.open1 0 rfl (fun _ h => h) fun z => ?_
   refine J.norm rfl ?_
   refine J.draw [10, 12, 13] Tryz.mixed (by kernel_rfl) fun hR => ?_
   refine RG.q 0 hR rfl rfl rfl rfl rfl rfl (Q.mv rfl) ?_
   refine RG.q 1 hR rfl rfl rfl rfl rfl rfl (Q.nil_ rfl) ?_
   refine RG.q 2 hR rfl rfl rfl rfl rfl rfl (Q.fa (n := 1) Tryz.runUnderlying51 rfl rfl Tryz.sizeOf48 rfl) ?_
   refine RG.q 3 hR rfl rfl rfl rfl rfl rfl (Q.ld Tryz.isAgg48 rfl (rdI (by exact rfl))) ?_
   refine RG.q 4 hR rfl rfl rfl rfl rfl rfl (Q.fa (n := 0) Tryz.runUnderlying27 rfl rfl Tryz.sizeOf23 rfl) ?_
   refine RG.q 5 hR rfl rfl rfl rfl rfl rfl (Q.ld Tryz.isAgg23 rfl (rdI (by exact rfl))) ?_
   refine RG.q 6 hR rfl rfl rfl rfl rfl rfl (Q.fa (n := 2) Tryz.runUnderlying27 rfl rfl Tryz.sizeOf9 rfl) ?_
   refine RG.q 7 hR rfl rfl rfl rfl rfl rfl (Q.ld Tryz.isAgg9 rfl (rdI (by exact rfl))) ?_
   refine RG.q 8 hR rfl rfl rfl rfl rfl rfl (Q.fa (n := 3) Tryz.runUnderlying27 rfl rfl Tryz.sizeOf9 rfl) ?_
   refine RG.q 9 hR rfl rfl rfl rfl rfl rfl (Q.ld Tryz.isAgg9 rfl (rdI (by exact rfl))) ?_
   refine RG.made 10 hR rfl rfl rfl rfl rfl C.mkMap ?_
   rintro b20
   refine RG.q 11 hR rfl rfl rfl rfl rfl rfl (Q.bld (l := [_, _, _]) Tryz.runUnderlying68 Tryz.zeroValue68 Tryz.places68 rfl rfl) ?_
   refine RG.made 12 hR rfl rfl rfl rfl rfl (C.box (l := [_, _, _]) rfl rfl) ?_
   rintro b22
   refine RG.bar 13 hR rfl rfl rfl rfl rfl rfl (X.G.C.mapPut (rep := uRep) 2 ⟨x.o.bucket, x.o.key, []⟩ ord3_nat hM.us Tryz.runUnderlying48 keyU rfl rfl rfl rfl) ?_
   rintro _ _ ⟨rfl, rfl⟩
   refine RG.norm rfl ?_
   refine RG.fin hR rfl ?_
   refine J.norm rfl ?_
   refine J.then_n ?_
   refine J.seq ?_
   refine J.region ?_
   refine J.q rfl rfl (Q.fa (n := 0) Tryz.runUnderlying27 rfl rfl Tryz.sizeOf23 rfl) ?_
   refine J.q rfl rfl (Q.ld Tryz.isAgg23 rfl (rdI (by exact rfl))) ?_
   refine J.q rfl rfl (Q.bld (l := [_, _, _, _, _]) Tryz.runUnderlying37 Tryz.zeroValue37 Tryz.places37 rfl rfl) ?_
   refine J.stAI (vs := [_, _, _, _, _]) rfl Tryz.sizeOf37 rfl rfl (by exact rfl) (by exact rfl) (by exact rfl) ?_
   refine J.nil ?_
   refine J.then_n ?_
   refine J.cret ?_
   refine J.give empty_asn ?_
   refine J.conv (Y := MapAt (Value.int .i64) datRep b20 []) 10 rfl MapAt.new ?_
   refine J.shut [10, 0] (uRep x.o.id ⟨x.o.bucket, x.o.key, []⟩ (.pointer (some ⟨b22, 0, none⟩))) rfl (fun h s => ⟨(b22, b20), rfl, s⟩) ?_
   refine J.mapBack 0 4 ⟨x.o.bucket, x.o.key, []⟩ ord3_nat (X.G.srtd_put ord3_nat hM.us _ _) rfl ?_
   rw [X.G.sput_put ord3_nat hM.us]
   refine J.shut [2, 3, 0, 4] (BktAt m { M with uploads := sput ltN x.o.id ⟨x.o.bucket, x.o.key, []⟩ M.uploads }) rfl (fun h s => ⟨z, s⟩) ?_
   refine J.retC [0, 1, 4, 5] (vs := [_, _, _, _, _]) rfl rfl Tryz.isAgg37 Tryz.sizeOf37 (ReadsN.pt 2 rfl) rfl (B := [_, _, _]) ⟨⟨⟨200, x.o.id, [], false, []⟩, none, 0, none, 0⟩, rfl, rfl, rfl⟩
theorem begin_spec : FSpec Tryz.prog 68 [.pointer (some ⟨m, 0, none⟩), .agg x.cells.toArray] [BktAt m M, G] (ActR m G (M.begin x.o)) := by
  unfold BM.begin
  split
  · rename_i hB; exact begin_no m M hM x G hx hB
  · rename_i hB; exact begin_yes m M hM x G hx hB

theorem part_no (hU : sget x.o.upload M.uploads = none) : FSpec Tryz.prog 69 [.pointer (some ⟨m, 0, none⟩), .agg x.cells.toArray] [BktAt m M, G] (ActR m G (st 404, M)) := by
  have hsm := hx.small
  refine FSpec.of Tryz.func69 rfl Tryz.ntmps69 rfl fun W0 F => ?_
  refine J.seq ?_
  refine J.region ?_
  refine J.c rfl rfl (C.box (l := [_, _, _, _, _, _, _, _, _]) rfl rfl) ?_
  rintro _ _ ⟨b3, rfl, rfl⟩
  refine J.norm rfl ?_
  refine J.c rfl rfl (C.alloc (l := [_, _, _, _, _]) Tryz.zeroValue37 rfl) ?_
  rintro _ _ ⟨b4, rfl, rfl⟩
  refine J.norm rfl ?_
  refine J.nil ?_
  refine J.then_n ?_
  refine J.seq ?_
  try have hP := hM.ps _ _ hU
  refine J.open1 2 rfl (fun _ h => h) fun z => ?_
  refine J.norm rfl ?_
  first
    | (refine J.mapFocus 2 hU rfl fun val => ?_
       refine J.norm rfl ?_
       refine J.open_ 0 rfl rfl (fun _ h => h) fun z2 hz2 => ?_
       subst hz2
       refine J.norm rfl ?_)
    | skip
  refine J.draw [7] Tryz.mixed (by kernel_rfl) fun hR => ?_
  refine RG.q 0 hR rfl rfl rfl rfl rfl rfl (Q.mv rfl) ?_
  refine RG.q 1 hR rfl rfl rfl rfl rfl rfl (Q.nil_ rfl) ?_
  refine RG.q 2 hR rfl rfl rfl rfl rfl rfl (Q.fa (n := 1) Tryz.runUnderlying51 rfl rfl Tryz.sizeOf48 rfl) ?_
  refine RG.q 3 hR rfl rfl rfl rfl rfl rfl (Q.ld Tryz.isAgg48 rfl (rdI (by exact rfl))) ?_
  refine RG.q 4 hR rfl rfl rfl rfl rfl rfl (Q.fa (n := 6) Tryz.runUnderlying27 rfl rfl Tryz.sizeOf23 rfl) ?_
  refine RG.q 5 hR rfl rfl rfl rfl rfl rfl (Q.ld Tryz.isAgg23 rfl (rdI (by exact rfl))) ?_
  refine RG.q 6 hR rfl rfl rfl rfl rfl rfl (by first | exact X.G.Q.lkNo (i := 2) Tryz.runUnderlying48 keyU Tryz.zeroValue65 rfl rfl rfl hU | exact X.G.Q.lkYes (i := 2) Tryz.runUnderlying48 keyU Tryz.zeroValue65 rfl rfl rfl) ?_
  refine RG.bar 7 hR rfl rfl rfl rfl rfl rfl (Q.asg rfl).toC ?_
  rintro _ _ ⟨rfl, rfl⟩
  refine RG.norm rfl ?_
  refine RG.fin hR rfl ?_
  refine J.norm rfl ?_
  refine J.then_n ?_
  refine J.seq ?_
  refine J.seq ?_
  refine J.region ?_
  refine J.q rfl rfl (Q.mv rfl) ?_
  refine J.q rfl rfl (Q.eqlp Tryz.runUnderlying65 rfl rfl) ?_
  refine J.nil ?_
  refine J.then_n ?_
  refine J.cases 14 rfl (fun hc14 => ?_) (fun hc14 => ?_)
  ·
   replace hc14 := X.nm hc14
   try (first | (cases hc14; done) | (exfalso; simp at hc14; done))
   all_goals
    refine J.cond_t rfl ?_
    refine J.seq ?_
    refine J.region ?_
    refine J.call Tryz.call28 (status_spec 404) [] rfl rfl rfl rfl ?_
    rintro _ _ ⟨y, rfl, hy, rfl⟩
    refine J.norm rfl ?_
    refine J.stAI (vs := [_, _, _, _, _]) rfl Tryz.sizeOf37 rfl rfl (by exact rfl) (by exact rfl) (by exact rfl) ?_
    refine J.nil ?_
    refine J.then_n ?_
    refine J.cret ?_
    refine J.then_r ?_
    refine J.shut [1, 2, 3, 4] (BktAt m M) rfl (fun h s => ⟨z, s⟩) ?_
    refine J.retC [0, 1, 4, 5] (vs := [_, _, _, _, _]) rfl rfl Tryz.isAgg37 Tryz.sizeOf37 (ReadsN.pt 2 rfl) rfl (B := [_, _, _]) ⟨_, rfl, hy, rfl⟩
  replace hc14 := X.nm hc14
  try (first | (cases hc14; done) | (exfalso; simp at hc14; done))
  all_goals
   refine J.cond_f rfl ?_
   refine J.cskip ?_
   refine J.then_n ?_
   refine J.seq ?_
   refine J.keep [0, 7, 1, 2, 3, 4, 5, 6, 8, 9] rfl ?_
   refine J.drawE [8, 9] 2 Tryz.mixed (by kernel_rfl) rfl rfl fun hR => ?_
   refine RG.q 0 hR rfl rfl rfl rfl rfl rfl (Q.mv rfl) ?_
   refine RG.q 1 hR rfl rfl rfl rfl rfl rfl (Q.nil_ rfl) ?_
   refine RG.q 2 hR rfl rfl rfl rfl rfl rfl (Q.fa (n := 2) Tryz.runUnderlying68 rfl rfl Tryz.sizeOf66 rfl) ?_
   refine RG.q 3 hR rfl rfl rfl rfl rfl rfl (Q.ld Tryz.isAgg66 rfl (rdI (by exact rfl))) ?_
   refine RG.q 4 hR rfl rfl rfl rfl rfl rfl (Q.fa (n := 5) Tryz.runUnderlying27 rfl rfl Tryz.sizeOf3 rfl) ?_
   refine RG.q 5 hR rfl rfl rfl rfl rfl rfl (Q.ld Tryz.isAgg3 rfl (rdI (by exact rfl))) ?_
   refine RG.q 6 hR rfl rfl rfl rfl rfl rfl (Q.fa (n := 8) Tryz.runUnderlying27 rfl rfl Tryz.sizeOf25 rfl) ?_
   refine RG.q 7 hR rfl rfl rfl rfl rfl rfl (Q.ld Tryz.isAgg25 rfl (rdI (by exact rfl))) ?_
   refine RG.callk 8 hR rfl rfl rfl rfl rfl Tryz.call44 (clone_spec G x.dp x.dc x.o.data hx.data (by omega)) [8] rfl rfl ?_
   rintro _ _ ⟨p24, c24, rfl, rfl⟩
   refine ⟨_, X.pick_perm (is := [2, 3]) rfl, ?_⟩
   refine RG.bar 9 hR rfl rfl rfl rfl rfl rfl (X.G.C.mapPut 4 x.o.data ord3_int hP.1 Tryz.runUnderlying66 keyI rfl rfl rfl rfl) ?_
   rintro _ _ ⟨rfl, rfl⟩
   refine RG.norm rfl ?_
   refine RG.fin hR rfl ?_
   refine J.norm rfl ?_
   refine J.then_n ?_
   refine J.seq ?_
   refine J.region ?_
   refine J.call Tryz.call28 (status_spec 200) [] rfl rfl rfl rfl ?_
   rintro _ _ ⟨y, rfl, hy, rfl⟩
   refine J.norm rfl ?_
   refine J.stAI (vs := [_, _, _, _, _]) rfl Tryz.sizeOf37 rfl rfl (by exact rfl) (by exact rfl) (by exact rfl) ?_
   refine J.nil ?_
   refine J.then_n ?_
   refine J.cret ?_
   refine J.shut [3] (datRep x.o.n x.o.data (.slice p24 x.o.data.length c24)) rfl (fun h s => ⟨(p24, c24), rfl, s⟩) ?_
   refine J.mapBack 0 5 x.o.data ord3_int (X.G.srtd_put ord3_int hP.1 _ _) rfl ?_
   rw [X.G.sput_put ord3_int hP.1]
   refine J.shut [2, 0] (uRep x.o.upload ⟨u.bucket, u.key, sput ltI x.o.n x.o.data u.parts⟩ (.pointer (some ⟨z2.1, 0, none⟩))) rfl (fun h s => ⟨z2, rfl, s⟩) ?_
   refine J.mapBack 0 4 ⟨u.bucket, u.key, sput ltI x.o.n x.o.data u.parts⟩ ord3_nat hM.us rfl ?_
   refine J.shut [4, 5, 0, 6] (BktAt m { M with uploads := sput ltN x.o.upload ⟨u.bucket, u.key, sput ltI x.o.n x.o.data u.parts⟩ M.uploads }) rfl (fun h s => ⟨z, s⟩) ?_
   refine J.retC [0, 1, 3, 5] (vs := [_, _, _, _, _]) rfl rfl Tryz.isAgg37 Tryz.sizeOf37 (ReadsN.pt 4 rfl) rfl (B := [_, _, _]) ⟨_, rfl, hy, rfl⟩
theorem part_yes (hdl : x.o.data.length ≤ 16777216) {u : UM} (hU : sget x.o.upload M.uploads = some u) : FSpec Tryz.prog 69 [.pointer (some ⟨m, 0, none⟩), .agg x.cells.toArray] [BktAt m M, G] (ActR m G (st 200, { M with uploads := sput ltN x.o.upload ⟨u.bucket, u.key, sput ltI x.o.n x.o.data u.parts⟩ M.uploads })) := by
  have hsm := hx.small
  refine FSpec.of Tryz.func69 rfl Tryz.ntmps69 rfl fun W0 F => ?_
  refine J.seq ?_
  refine J.region ?_
  refine J.c rfl rfl (C.box (l := [_, _, _, _, _, _, _, _, _]) rfl rfl) ?_
  rintro _ _ ⟨b3, rfl, rfl⟩
  refine J.norm rfl ?_
  refine J.c rfl rfl (C.alloc (l := [_, _, _, _, _]) Tryz.zeroValue37 rfl) ?_
  rintro _ _ ⟨b4, rfl, rfl⟩
  refine J.norm rfl ?_
  refine J.nil ?_
  refine J.then_n ?_
  refine J.seq ?_
  try have hP := hM.ps _ _ hU
  refine J.open1 2 rfl (fun _ h => h) fun z => ?_
  refine J.norm rfl ?_
  first
    | (refine J.mapFocus 2 hU rfl fun val => ?_
       refine J.norm rfl ?_
       refine J.open_ 0 rfl rfl (fun _ h => h) fun z2 hz2 => ?_
       subst hz2
       refine J.norm rfl ?_)
    | skip
  refine J.draw [7] Tryz.mixed (by kernel_rfl) fun hR => ?_
  refine RG.q 0 hR rfl rfl rfl rfl rfl rfl (Q.mv rfl) ?_
  refine RG.q 1 hR rfl rfl rfl rfl rfl rfl (Q.nil_ rfl) ?_
  refine RG.q 2 hR rfl rfl rfl rfl rfl rfl (Q.fa (n := 1) Tryz.runUnderlying51 rfl rfl Tryz.sizeOf48 rfl) ?_
  refine RG.q 3 hR rfl rfl rfl rfl rfl rfl (Q.ld Tryz.isAgg48 rfl (rdI (by exact rfl))) ?_
  refine RG.q 4 hR rfl rfl rfl rfl rfl rfl (Q.fa (n := 6) Tryz.runUnderlying27 rfl rfl Tryz.sizeOf23 rfl) ?_
  refine RG.q 5 hR rfl rfl rfl rfl rfl rfl (Q.ld Tryz.isAgg23 rfl (rdI (by exact rfl))) ?_
  refine RG.q 6 hR rfl rfl rfl rfl rfl rfl (by first | exact X.G.Q.lkNo (i := 2) Tryz.runUnderlying48 keyU Tryz.zeroValue65 rfl rfl rfl hU | exact X.G.Q.lkYes (i := 2) Tryz.runUnderlying48 keyU Tryz.zeroValue65 rfl rfl rfl) ?_
  refine RG.bar 7 hR rfl rfl rfl rfl rfl rfl (Q.asg rfl).toC ?_
  rintro _ _ ⟨rfl, rfl⟩
  refine RG.norm rfl ?_
  refine RG.fin hR rfl ?_
  refine J.norm rfl ?_
  refine J.then_n ?_
  refine J.seq ?_
  refine J.seq ?_
  refine J.region ?_
  refine J.q rfl rfl (Q.mv rfl) ?_
  refine J.q rfl rfl (Q.eqlp Tryz.runUnderlying65 rfl rfl) ?_
  refine J.nil ?_
  refine J.then_n ?_
  refine J.cases 14 rfl (fun hc14 => ?_) (fun hc14 => ?_)
  ·
   replace hc14 := X.nm hc14
   try (first | (cases hc14; done) | (exfalso; simp at hc14; done))
   all_goals
    refine J.cond_t rfl ?_
    refine J.seq ?_
    refine J.region ?_
    refine J.call Tryz.call28 (status_spec 404) [] rfl rfl rfl rfl ?_
    rintro _ _ ⟨y, rfl, hy, rfl⟩
    refine J.norm rfl ?_
    refine J.stAI (vs := [_, _, _, _, _]) rfl Tryz.sizeOf37 rfl rfl (by exact rfl) (by exact rfl) (by exact rfl) ?_
    refine J.nil ?_
    refine J.then_n ?_
    refine J.cret ?_
    refine J.then_r ?_
    refine J.shut [1, 2, 3, 4] (BktAt m M) rfl (fun h s => ⟨z, s⟩) ?_
    refine J.retC [0, 1, 4, 5] (vs := [_, _, _, _, _]) rfl rfl Tryz.isAgg37 Tryz.sizeOf37 (ReadsN.pt 2 rfl) rfl (B := [_, _, _]) ⟨_, rfl, hy, rfl⟩
  replace hc14 := X.nm hc14
  try (first | (cases hc14; done) | (exfalso; simp at hc14; done))
  all_goals
   refine J.cond_f rfl ?_
   refine J.cskip ?_
   refine J.then_n ?_
   refine J.seq ?_
   refine J.keep [0, 7, 1, 2, 3, 4, 5, 6, 8, 9] rfl ?_
   refine J.drawE [8, 9] 2 Tryz.mixed (by kernel_rfl) rfl rfl fun hR => ?_
   refine RG.q 0 hR rfl rfl rfl rfl rfl rfl (Q.mv rfl) ?_
   refine RG.q 1 hR rfl rfl rfl rfl rfl rfl (Q.nil_ rfl) ?_
   refine RG.q 2 hR rfl rfl rfl rfl rfl rfl (Q.fa (n := 2) Tryz.runUnderlying68 rfl rfl Tryz.sizeOf66 rfl) ?_
   refine RG.q 3 hR rfl rfl rfl rfl rfl rfl (Q.ld Tryz.isAgg66 rfl (rdI (by exact rfl))) ?_
   refine RG.q 4 hR rfl rfl rfl rfl rfl rfl (Q.fa (n := 5) Tryz.runUnderlying27 rfl rfl Tryz.sizeOf3 rfl) ?_
   refine RG.q 5 hR rfl rfl rfl rfl rfl rfl (Q.ld Tryz.isAgg3 rfl (rdI (by exact rfl))) ?_
   refine RG.q 6 hR rfl rfl rfl rfl rfl rfl (Q.fa (n := 8) Tryz.runUnderlying27 rfl rfl Tryz.sizeOf25 rfl) ?_
   refine RG.q 7 hR rfl rfl rfl rfl rfl rfl (Q.ld Tryz.isAgg25 rfl (rdI (by exact rfl))) ?_
   refine RG.callk 8 hR rfl rfl rfl rfl rfl Tryz.call44 (clone_spec G x.dp x.dc x.o.data hx.data (by omega)) [8] rfl rfl ?_
   rintro _ _ ⟨p24, c24, rfl, rfl⟩
   refine ⟨_, X.pick_perm (is := [2, 3]) rfl, ?_⟩
   refine RG.bar 9 hR rfl rfl rfl rfl rfl rfl (X.G.C.mapPut 4 x.o.data ord3_int hP.1 Tryz.runUnderlying66 keyI rfl rfl rfl rfl) ?_
   rintro _ _ ⟨rfl, rfl⟩
   refine RG.norm rfl ?_
   refine RG.fin hR rfl ?_
   refine J.norm rfl ?_
   refine J.then_n ?_
   refine J.seq ?_
   refine J.region ?_
   refine J.call Tryz.call28 (status_spec 200) [] rfl rfl rfl rfl ?_
   rintro _ _ ⟨y, rfl, hy, rfl⟩
   refine J.norm rfl ?_
   refine J.stAI (vs := [_, _, _, _, _]) rfl Tryz.sizeOf37 rfl rfl (by exact rfl) (by exact rfl) (by exact rfl) ?_
   refine J.nil ?_
   refine J.then_n ?_
   refine J.cret ?_
   refine J.shut [3] (datRep x.o.n x.o.data (.slice p24 x.o.data.length c24)) rfl (fun h s => ⟨(p24, c24), rfl, s⟩) ?_
   refine J.mapBack 0 5 x.o.data ord3_int (X.G.srtd_put ord3_int hP.1 _ _) rfl ?_
   rw [X.G.sput_put ord3_int hP.1]
   refine J.shut [2, 0] (uRep x.o.upload ⟨u.bucket, u.key, sput ltI x.o.n x.o.data u.parts⟩ (.pointer (some ⟨z2.1, 0, none⟩))) rfl (fun h s => ⟨z2, rfl, s⟩) ?_
   refine J.mapBack 0 4 ⟨u.bucket, u.key, sput ltI x.o.n x.o.data u.parts⟩ ord3_nat hM.us rfl ?_
   refine J.shut [4, 5, 0, 6] (BktAt m { M with uploads := sput ltN x.o.upload ⟨u.bucket, u.key, sput ltI x.o.n x.o.data u.parts⟩ M.uploads }) rfl (fun h s => ⟨z, s⟩) ?_
   refine J.retC [0, 1, 3, 5] (vs := [_, _, _, _, _]) rfl rfl Tryz.isAgg37 Tryz.sizeOf37 (ReadsN.pt 4 rfl) rfl (B := [_, _, _]) ⟨_, rfl, hy, rfl⟩
theorem part_spec (hdl : x.o.data.length ≤ 16777216) : FSpec Tryz.prog 69 [.pointer (some ⟨m, 0, none⟩), .agg x.cells.toArray] [BktAt m M, G] (ActR m G (M.part x.o)) := by
  unfold BM.part
  split
  · rename_i hU; exact part_no m M hM x G hx hU
  · rename_i hU; exact part_yes m M hM x G hx hdl hU

theorem abort_no (hU : sget x.o.upload M.uploads = none) : FSpec Tryz.prog 71 [.pointer (some ⟨m, 0, none⟩), .agg x.cells.toArray] [BktAt m M, G] (ActR m G (st 404, M)) := by
  refine FSpec.of Tryz.func71 rfl Tryz.ntmps71 rfl fun W0 F => ?_
  refine J.seq ?_
  refine J.region ?_
  refine J.c rfl rfl (C.box (l := [_, _, _, _, _, _, _, _, _]) rfl rfl) ?_
  rintro _ _ ⟨b3, rfl, rfl⟩
  refine J.norm rfl ?_
  refine J.c rfl rfl (C.alloc (l := [_, _, _, _, _]) Tryz.zeroValue37 rfl) ?_
  rintro _ _ ⟨b4, rfl, rfl⟩
  refine J.norm rfl ?_
  refine J.nil ?_
  refine J.then_n ?_
  refine J.seq ?_
  refine J.seq ?_
  try have hP := hM.ps _ _ hU
  refine J.open1 2 rfl (fun _ h => h) fun z => ?_
  refine J.norm rfl ?_
  first
    | (refine J.mapFocus 2 hU rfl fun val => ?_
       refine J.norm rfl ?_
       refine J.open_ 0 rfl rfl (fun _ h => h) fun z2 hz2 => ?_
       subst hz2
       refine J.norm rfl ?_)
    | skip
  refine J.draw [] Tryz.mixed (by kernel_rfl) fun hR => ?_
  refine RG.q 0 hR rfl rfl rfl rfl rfl rfl (Q.mv rfl) ?_
  refine RG.q 1 hR rfl rfl rfl rfl rfl rfl (Q.nil_ rfl) ?_
  refine RG.q 2 hR rfl rfl rfl rfl rfl rfl (Q.fa (n := 1) Tryz.runUnderlying51 rfl rfl Tryz.sizeOf48 rfl) ?_
  refine RG.q 3 hR rfl rfl rfl rfl rfl rfl (Q.ld Tryz.isAgg48 rfl (rdI (by exact rfl))) ?_
  refine RG.q 4 hR rfl rfl rfl rfl rfl rfl (Q.fa (n := 6) Tryz.runUnderlying27 rfl rfl Tryz.sizeOf23 rfl) ?_
  refine RG.q 5 hR rfl rfl rfl rfl rfl rfl (Q.ld Tryz.isAgg23 rfl (rdI (by exact rfl))) ?_
  refine RG.q 6 hR rfl rfl rfl rfl rfl rfl (by first | exact X.G.Q.lkNo (i := 2) Tryz.runUnderlying48 keyU Tryz.zeroValue65 rfl rfl rfl hU | exact X.G.Q.lkYes (i := 2) Tryz.runUnderlying48 keyU Tryz.zeroValue65 rfl rfl rfl) ?_
  refine RG.q 7 hR rfl rfl rfl rfl rfl rfl (Q.eqlp Tryz.runUnderlying65 rfl rfl) ?_
  refine RG.fin hR rfl ?_
  refine J.norm rfl ?_
  refine J.then_n ?_
  refine J.cases 12 rfl (fun hc12 => ?_) (fun hc12 => ?_)
  ·
   replace hc12 := X.nm hc12
   try (first | (cases hc12; done) | (exfalso; simp at hc12; done))
   all_goals
    refine J.cond_t rfl ?_
    refine J.seq ?_
    refine J.region ?_
    refine J.call Tryz.call28 (status_spec 404) [] rfl rfl rfl rfl ?_
    rintro _ _ ⟨y, rfl, hy, rfl⟩
    refine J.norm rfl ?_
    refine J.stAI (vs := [_, _, _, _, _]) rfl Tryz.sizeOf37 rfl rfl (by exact rfl) (by exact rfl) (by exact rfl) ?_
    refine J.nil ?_
    refine J.then_n ?_
    refine J.cret ?_
    refine J.then_r ?_
    refine J.shut [1, 2, 3, 4] (BktAt m M) rfl (fun h s => ⟨z, s⟩) ?_
    refine J.retC [0, 1, 4, 5] (vs := [_, _, _, _, _]) rfl rfl Tryz.isAgg37 Tryz.sizeOf37 (ReadsN.pt 2 rfl) rfl (B := [_, _, _]) ⟨_, rfl, hy, rfl⟩
  replace hc12 := X.nm hc12
  try (first | (cases hc12; done) | (exfalso; simp at hc12; done))
  all_goals
   refine J.cond_f rfl ?_
   refine J.cskip ?_
   refine J.then_n ?_
   refine J.seq ?_
   refine J.shut [0, 1] (uRep x.o.upload u (.pointer (some ⟨z2.1, 0, none⟩))) rfl (fun h s => ⟨z2, rfl, s⟩) ?_
   refine J.mapSame 0 1 ord3_nat hM.us hU rfl ?_
   refine J.draw [6] Tryz.mixed (by kernel_rfl) fun hR => ?_
   refine RG.q 0 hR rfl rfl rfl rfl rfl rfl (Q.mv rfl) ?_
   refine RG.q 1 hR rfl rfl rfl rfl rfl rfl (Q.nil_ rfl) ?_
   refine RG.q 2 hR rfl rfl rfl rfl rfl rfl (Q.fa (n := 1) Tryz.runUnderlying51 rfl rfl Tryz.sizeOf48 rfl) ?_
   refine RG.q 3 hR rfl rfl rfl rfl rfl rfl (Q.ld Tryz.isAgg48 rfl (rdI (by exact rfl))) ?_
   refine RG.q 4 hR rfl rfl rfl rfl rfl rfl (Q.fa (n := 6) Tryz.runUnderlying27 rfl rfl Tryz.sizeOf23 rfl) ?_
   refine RG.q 5 hR rfl rfl rfl rfl rfl rfl (Q.ld Tryz.isAgg23 rfl (rdI (by exact rfl))) ?_
   refine RG.bar 6 hR rfl rfl rfl rfl rfl rfl (X.G.C.mapDel 0 Tryz.runUnderlying48 keyU rfl rfl) ?_
   rintro _ _ ⟨rfl, rfl⟩
   refine RG.norm rfl ?_
   refine RG.fin hR rfl ?_
   refine J.norm rfl ?_
   refine J.then_n ?_
   refine J.seq ?_
   refine J.region ?_
   refine J.call Tryz.call28 (status_spec 200) [] rfl rfl rfl rfl ?_
   rintro _ _ ⟨y, rfl, hy, rfl⟩
   refine J.norm rfl ?_
   refine J.stAI (vs := [_, _, _, _, _]) rfl Tryz.sizeOf37 rfl rfl (by exact rfl) (by exact rfl) (by exact rfl) ?_
   refine J.nil ?_
   refine J.then_n ?_
   refine J.cret ?_
   refine J.shut [2, 3, 1, 4] (BktAt m { M with uploads := sdel x.o.upload M.uploads }) rfl (fun h s => ⟨z, s⟩) ?_
   refine J.retC [0, 1, 4, 5] (vs := [_, _, _, _, _]) rfl rfl Tryz.isAgg37 Tryz.sizeOf37 (ReadsN.pt 2 rfl) rfl (B := [_, _, _]) ⟨_, rfl, hy, rfl⟩
theorem abort_yes {u : UM} (hU : sget x.o.upload M.uploads = some u) : FSpec Tryz.prog 71 [.pointer (some ⟨m, 0, none⟩), .agg x.cells.toArray] [BktAt m M, G] (ActR m G (st 200, { M with uploads := sdel x.o.upload M.uploads })) := by
  refine FSpec.of Tryz.func71 rfl Tryz.ntmps71 rfl fun W0 F => ?_
  refine J.seq ?_
  refine J.region ?_
  refine J.c rfl rfl (C.box (l := [_, _, _, _, _, _, _, _, _]) rfl rfl) ?_
  rintro _ _ ⟨b3, rfl, rfl⟩
  refine J.norm rfl ?_
  refine J.c rfl rfl (C.alloc (l := [_, _, _, _, _]) Tryz.zeroValue37 rfl) ?_
  rintro _ _ ⟨b4, rfl, rfl⟩
  refine J.norm rfl ?_
  refine J.nil ?_
  refine J.then_n ?_
  refine J.seq ?_
  refine J.seq ?_
  try have hP := hM.ps _ _ hU
  refine J.open1 2 rfl (fun _ h => h) fun z => ?_
  refine J.norm rfl ?_
  first
    | (refine J.mapFocus 2 hU rfl fun val => ?_
       refine J.norm rfl ?_
       refine J.open_ 0 rfl rfl (fun _ h => h) fun z2 hz2 => ?_
       subst hz2
       refine J.norm rfl ?_)
    | skip
  refine J.draw [] Tryz.mixed (by kernel_rfl) fun hR => ?_
  refine RG.q 0 hR rfl rfl rfl rfl rfl rfl (Q.mv rfl) ?_
  refine RG.q 1 hR rfl rfl rfl rfl rfl rfl (Q.nil_ rfl) ?_
  refine RG.q 2 hR rfl rfl rfl rfl rfl rfl (Q.fa (n := 1) Tryz.runUnderlying51 rfl rfl Tryz.sizeOf48 rfl) ?_
  refine RG.q 3 hR rfl rfl rfl rfl rfl rfl (Q.ld Tryz.isAgg48 rfl (rdI (by exact rfl))) ?_
  refine RG.q 4 hR rfl rfl rfl rfl rfl rfl (Q.fa (n := 6) Tryz.runUnderlying27 rfl rfl Tryz.sizeOf23 rfl) ?_
  refine RG.q 5 hR rfl rfl rfl rfl rfl rfl (Q.ld Tryz.isAgg23 rfl (rdI (by exact rfl))) ?_
  refine RG.q 6 hR rfl rfl rfl rfl rfl rfl (by first | exact X.G.Q.lkNo (i := 2) Tryz.runUnderlying48 keyU Tryz.zeroValue65 rfl rfl rfl hU | exact X.G.Q.lkYes (i := 2) Tryz.runUnderlying48 keyU Tryz.zeroValue65 rfl rfl rfl) ?_
  refine RG.q 7 hR rfl rfl rfl rfl rfl rfl (Q.eqlp Tryz.runUnderlying65 rfl rfl) ?_
  refine RG.fin hR rfl ?_
  refine J.norm rfl ?_
  refine J.then_n ?_
  refine J.cases 12 rfl (fun hc12 => ?_) (fun hc12 => ?_)
  ·
   replace hc12 := X.nm hc12
   try (first | (cases hc12; done) | (exfalso; simp at hc12; done))
   all_goals
    refine J.cond_t rfl ?_
    refine J.seq ?_
    refine J.region ?_
    refine J.call Tryz.call28 (status_spec 404) [] rfl rfl rfl rfl ?_
    rintro _ _ ⟨y, rfl, hy, rfl⟩
    refine J.norm rfl ?_
    refine J.stAI (vs := [_, _, _, _, _]) rfl Tryz.sizeOf37 rfl rfl (by exact rfl) (by exact rfl) (by exact rfl) ?_
    refine J.nil ?_
    refine J.then_n ?_
    refine J.cret ?_
    refine J.then_r ?_
    refine J.shut [1, 2, 3, 4] (BktAt m M) rfl (fun h s => ⟨z, s⟩) ?_
    refine J.retC [0, 1, 4, 5] (vs := [_, _, _, _, _]) rfl rfl Tryz.isAgg37 Tryz.sizeOf37 (ReadsN.pt 2 rfl) rfl (B := [_, _, _]) ⟨_, rfl, hy, rfl⟩
  replace hc12 := X.nm hc12
  try (first | (cases hc12; done) | (exfalso; simp at hc12; done))
  all_goals
   refine J.cond_f rfl ?_
   refine J.cskip ?_
   refine J.then_n ?_
   refine J.seq ?_
   refine J.shut [0, 1] (uRep x.o.upload u (.pointer (some ⟨z2.1, 0, none⟩))) rfl (fun h s => ⟨z2, rfl, s⟩) ?_
   refine J.mapSame 0 1 ord3_nat hM.us hU rfl ?_
   refine J.draw [6] Tryz.mixed (by kernel_rfl) fun hR => ?_
   refine RG.q 0 hR rfl rfl rfl rfl rfl rfl (Q.mv rfl) ?_
   refine RG.q 1 hR rfl rfl rfl rfl rfl rfl (Q.nil_ rfl) ?_
   refine RG.q 2 hR rfl rfl rfl rfl rfl rfl (Q.fa (n := 1) Tryz.runUnderlying51 rfl rfl Tryz.sizeOf48 rfl) ?_
   refine RG.q 3 hR rfl rfl rfl rfl rfl rfl (Q.ld Tryz.isAgg48 rfl (rdI (by exact rfl))) ?_
   refine RG.q 4 hR rfl rfl rfl rfl rfl rfl (Q.fa (n := 6) Tryz.runUnderlying27 rfl rfl Tryz.sizeOf23 rfl) ?_
   refine RG.q 5 hR rfl rfl rfl rfl rfl rfl (Q.ld Tryz.isAgg23 rfl (rdI (by exact rfl))) ?_
   refine RG.bar 6 hR rfl rfl rfl rfl rfl rfl (X.G.C.mapDel 0 Tryz.runUnderlying48 keyU rfl rfl) ?_
   rintro _ _ ⟨rfl, rfl⟩
   refine RG.norm rfl ?_
   refine RG.fin hR rfl ?_
   refine J.norm rfl ?_
   refine J.then_n ?_
   refine J.seq ?_
   refine J.region ?_
   refine J.call Tryz.call28 (status_spec 200) [] rfl rfl rfl rfl ?_
   rintro _ _ ⟨y, rfl, hy, rfl⟩
   refine J.norm rfl ?_
   refine J.stAI (vs := [_, _, _, _, _]) rfl Tryz.sizeOf37 rfl rfl (by exact rfl) (by exact rfl) (by exact rfl) ?_
   refine J.nil ?_
   refine J.then_n ?_
   refine J.cret ?_
   refine J.shut [2, 3, 1, 4] (BktAt m { M with uploads := sdel x.o.upload M.uploads }) rfl (fun h s => ⟨z, s⟩) ?_
   refine J.retC [0, 1, 4, 5] (vs := [_, _, _, _, _]) rfl rfl Tryz.isAgg37 Tryz.sizeOf37 (ReadsN.pt 2 rfl) rfl (B := [_, _, _]) ⟨_, rfl, hy, rfl⟩
theorem abort_spec : FSpec Tryz.prog 71 [.pointer (some ⟨m, 0, none⟩), .agg x.cells.toArray] [BktAt m M, G] (ActR m G (M.abort x.o)) := by
  unfold BM.abort
  split
  · rename_i hU; exact abort_no m M hM x G hx hU
  · rename_i hU; exact abort_yes m M hM x G hx hU
end
end Go.Proofs.YtdancegklkifaaaGreat
namespace Go.Proofs.YtdancegklkifaaaGreat
set_option linter.unusedSectionVars false
set_option linter.unusedSimpArgs false
set_option linter.unusedVariables false
open Go.X
open Go.X.G (Ord3 ord3_nat ord3_int ord3_str ltB sget sput sdel Srtd MapAt MapHole Ent Ents edone eleft)

def BM.uses (M : BM) (b : ByteArray) : Bool := M.uploads.any fun p => decide (p.2.bucket = b)
def BM.unmake (M : BM) (o : OM) : RM × BM :=
  match sget o.bucket M.buckets with
  | none => (st 404, M)
  | some objs => if (decide (0 < objs.length) || M.uses o.bucket) = true then (st 409, M) else (st 200, { M with buckets := sdel o.bucket M.buckets })

/-- The parts that are named, in their order. -/
def partOf (P : Parts) (n : Int) : List UInt8 := (sget n P).getD []
def collect (P : Parts) (l : List Int) : Option (List UInt8) := if (l.all fun n => (sget n P).isSome) = true then some (l.flatMap (partOf P)) else none
def BM.complete (M : BM) (o : OM) : RM × BM :=
  match sget o.upload M.uploads with
  | none => (st 404, M)
  | some u => match collect u.parts o.parts with
    | none => (st 400, M)
    | some d => (st 200, { M with buckets := sput ltB u.bucket (sput ltB u.key d ((sget u.bucket M.buckets).getD [])) M.buckets, uploads := sdel o.upload M.uploads })

theorem bytes_eq (a b : ByteArray) : decide (a.data.toList = b.data.toList) = decide (a = b) := by
  rw [Bool.eq_iff_iff]
  simp only [decide_eq_true_eq]
  refine ⟨fun h => ?_, fun h => by rw [h]⟩
  cases a; cases b; simp only [ByteArray.mk.injEq] at *; exact Array.toList_inj.1 h

theorem any_perm {α : Type} {p : α → Bool} {l m : List α} (h : l.Perm m) : l.any p = m.any p := by
  rw [Bool.eq_iff_iff, List.any_eq_true, List.any_eq_true]
  exact ⟨fun ⟨x, a, b⟩ => ⟨x, h.mem_iff.1 a, b⟩, fun ⟨x, a, b⟩ => ⟨x, h.mem_iff.2 a, b⟩⟩

def entUses (b : ByteArray) (es : List (Ent Nat UM)) : Bool := es.any fun e => decide (e.v.bucket = b)
theorem entUses_all {M : BM} {es : List (Ent Nat UM)} {c : Nat} (h : Ents M.uploads es c) (b : ByteArray) : entUses b es = M.uses b := by
  unfold entUses BM.uses
  rw [← any_perm h.perm, List.any_map]; rfl
theorem entUses_step {es : List (Ent Nat UM)} {seen : List Nat} {e : Ent Nat UM} (hn : (es.map (·.born)).Nodup) (he : e ∈ eleft es seen) (b : ByteArray) : entUses b (edone es (seen ++ [e.born])) = (entUses b (edone es seen) || decide (e.v.bucket = b)) := by
  unfold entUses
  rw [any_perm (X.G.estep hn he).1, List.any_cons, Bool.or_comm]

theorem flat_take_succ {P : Parts} {l : List Int} {k : Nat} {v : Int} {d : List UInt8} (h : l[k]? = some v) (hd : sget v P = some d) : (l.take (k + 1)).flatMap (partOf P) = (l.take k).flatMap (partOf P) ++ d := by
  obtain ⟨h1, h2⟩ := List.getElem?_eq_some_iff.1 h
  rw [List.take_succ_eq_append_getElem h1, List.flatMap_append, h2, List.flatMap_cons, List.flatMap_nil, List.append_nil]
  congr 1
  unfold partOf; rw [hd]; rfl
theorem all_take_some {P : Parts} {l : List Int} {k : Nat} {v : Int} (h : l[k]? = some v) (ha : ((l.take k).all fun n => (sget n P).isSome) = true) (hd : (sget v P).isSome = true) : ((l.take (k + 1)).all fun n => (sget n P).isSome) = true := by
  obtain ⟨h1, h2⟩ := List.getElem?_eq_some_iff.1 h
  rw [List.take_succ_eq_append_getElem h1, List.all_append, ha, h2, List.all_cons, hd]; rfl
theorem collect_none {P : Parts} {l : List Int} {k : Nat} {v : Int} (h : l[k]? = some v) (hd : sget v P = none) : collect P l = none := by
  unfold collect
  rw [if_neg]
  intro ha
  rw [List.all_eq_true] at ha
  have := ha v (List.mem_of_getElem? h)
  rw [hd] at this; cases this

theorem partOf_len {P : Parts} (hP : ∀ a d, sget a P = some d → d.length ≤ 16777216) (n : Int) : (partOf P n).length ≤ 16777216 := by
  unfold partOf
  cases h : sget n P with
  | none => simp
  | some d => exact hP n d h
theorem flat_len {P : Parts} (hP : ∀ a d, sget a P = some d → d.length ≤ 16777216) : ∀ l : List Int, (l.flatMap (partOf P)).length ≤ l.length * 16777216
  | [] => by simp
  | n :: l => by
    have h1 := flat_len hP l
    have h2 := partOf_len hP n
    simp only [List.flatMap_cons, List.length_append, List.length_cons]; omega

section
variable {k : Nat} (m : Nat) (M : BM) (hM : M.ok k) (x : OW) (G : Assn) (hx : x.ok G)
include hM hx

theorem unmake_no (hB : sget x.o.bucket M.buckets = none) : FSpec Tryz.prog 63 [.pointer (some ⟨m, 0, none⟩), .agg x.cells.toArray] [BktAt m M, G] (ActR m G (st 404, M)) := by
  refine FSpec.of Tryz.func63 rfl Tryz.ntmps63 rfl fun W0 F => ?_
  refine J.seq ?_
  refine J.region ?_
  refine J.c rfl rfl (C.box (l := [_, _, _, _, _, _, _, _, _]) rfl rfl) ?_
  rintro _ _ ⟨b3, rfl, rfl⟩
  refine J.norm rfl ?_
  refine J.c rfl rfl (C.alloc (l := [_, _, _, _, _]) Tryz.zeroValue37 rfl) ?_
  rintro _ _ ⟨b4, rfl, rfl⟩
  refine J.norm rfl ?_
  refine J.nil ?_
  refine J.then_n ?_
  refine J.seq ?_
  refine J.seq ?_
  refine J.region ?_
  refine J.q rfl rfl (Q.mv rfl) ?_
  refine J.q rfl rfl (Q.ldN (vs := [_, _, _, _, _, _, _, _, _]) Tryz.isAgg27 Tryz.sizeOf27 rfl rnI) ?_
  refine J.call Tryz.call94 (known_no m M x hB) [2] rfl rfl rfl rfl ?_
  rintro _ _ ⟨rfl, rfl⟩
  refine J.norm rfl ?_
  refine J.q rfl rfl (Q.not rfl) ?_
  refine J.nil ?_
  refine J.then_n ?_
  refine J.cases 11 rfl (fun hc11 => ?_) (fun hc11 => ?_)
  ·
   replace hc11 := X.nm hc11
   try (first | (cases hc11; done) | (exfalso; simp at hc11; done))
   all_goals
    refine J.cond_t rfl ?_
    refine J.seq ?_
    refine J.region ?_
    refine J.call Tryz.call28 (status_spec 404) [] rfl rfl rfl rfl ?_
    rintro _ _ ⟨y, rfl, hy, rfl⟩
    refine J.norm rfl ?_
    refine J.stAI (vs := [_, _, _, _, _]) rfl Tryz.sizeOf37 rfl rfl (by exact rfl) (by exact rfl) (by exact rfl) ?_
    refine J.nil ?_
    refine J.then_n ?_
    refine J.cret ?_
    refine J.then_r ?_
    refine J.retC [1, 0, 4, 5] (vs := [_, _, _, _, _]) rfl rfl Tryz.isAgg37 Tryz.sizeOf37 (ReadsN.pt 2 rfl) rfl (B := [_, _, _]) ⟨_, rfl, hy, rfl⟩
  exact absurd hc11 (by simp)
theorem unmake_yes {objs : Objs} (hB : sget x.o.bucket M.buckets = some objs) : FSpec Tryz.prog 63 [.pointer (some ⟨m, 0, none⟩), .agg x.cells.toArray] [BktAt m M, G] (ActR m G (if (decide (0 < objs.length) || M.uses x.o.bucket) = true then (st 409, M) else (st 200, { M with buckets := sdel x.o.bucket M.buckets }))) := by
  refine FSpec.of Tryz.func63 rfl Tryz.ntmps63 rfl fun W0 F => ?_
  refine J.seq ?_
  refine J.region ?_
  refine J.c rfl rfl (C.box (l := [_, _, _, _, _, _, _, _, _]) rfl rfl) ?_
  rintro _ _ ⟨b3, rfl, rfl⟩
  refine J.norm rfl ?_
  refine J.c rfl rfl (C.alloc (l := [_, _, _, _, _]) Tryz.zeroValue37 rfl) ?_
  rintro _ _ ⟨b4, rfl, rfl⟩
  refine J.norm rfl ?_
  refine J.nil ?_
  refine J.then_n ?_
  refine J.seq ?_
  refine J.seq ?_
  refine J.region ?_
  refine J.q rfl rfl (Q.mv rfl) ?_
  refine J.q rfl rfl (Q.ldN (vs := [_, _, _, _, _, _, _, _, _]) Tryz.isAgg27 Tryz.sizeOf27 rfl rnI) ?_
  refine J.call Tryz.call94 (known_yes m M hM x hB) [2] rfl rfl rfl rfl ?_
  rintro _ _ ⟨rfl, rfl⟩
  refine J.norm rfl ?_
  refine J.q rfl rfl (Q.not rfl) ?_
  refine J.nil ?_
  refine J.then_n ?_
  refine J.cases 11 rfl (fun hc11 => ?_) (fun hc11 => ?_)
  ·
   cases hc11
  replace hc11 := X.nm hc11
  refine J.cond_f rfl ?_
  refine J.cskip ?_
  refine J.then_n ?_
  refine J.seq ?_
  refine J.open1 0 rfl (fun _ h => h) fun z => ?_
  refine J.norm rfl ?_
  refine J.mapFocus 1 hB rfl fun val => ?_
  refine J.norm rfl ?_
  refine J.open_ 0 rfl rfl (fun _ h => h) fun r hr => ?_
  subst hr
  refine J.norm rfl ?_
  refine J.draw [9] Tryz.mixed (by kernel_rfl) fun hR => ?_
  refine RG.q 0 hR rfl rfl rfl rfl rfl rfl (Q.mv rfl) ?_
  refine RG.q 1 hR rfl rfl rfl rfl rfl rfl (Q.nil_ rfl) ?_
  refine RG.q 2 hR rfl rfl rfl rfl rfl rfl (Q.fa (n := 0) Tryz.runUnderlying51 rfl rfl Tryz.sizeOf47 rfl) ?_
  refine RG.q 3 hR rfl rfl rfl rfl rfl rfl (Q.ld Tryz.isAgg47 rfl (rdI (by exact rfl))) ?_
  refine RG.q 4 hR rfl rfl rfl rfl rfl rfl (Q.fa (n := 2) Tryz.runUnderlying27 rfl rfl Tryz.sizeOf9 rfl) ?_
  refine RG.q 5 hR rfl rfl rfl rfl rfl rfl (Q.ld Tryz.isAgg9 rfl (rdI (by exact rfl))) ?_
  refine RG.q 6 hR rfl rfl rfl rfl rfl rfl (X.G.Q.lkYes (i := 1) Tryz.runUnderlying47 keyS Tryz.zeroValue57 rfl rfl rfl) ?_
  refine RG.q 7 hR rfl rfl rfl rfl rfl rfl (X.G.Q.lenAt (i := 0) Tryz.runUnderlying57 rfl rfl) ?_
  refine RG.q 8 hR rfl rfl rfl rfl rfl rfl (Q.gtr rfl rfl) ?_
  refine RG.bar 9 hR rfl rfl rfl rfl rfl rfl (Q.asg rfl).toC ?_
  rintro _ _ ⟨rfl, rfl⟩
  refine RG.norm rfl ?_
  refine RG.fin hR rfl ?_
  refine J.norm rfl ?_
  refine J.then_n ?_
  refine J.seq ?_
  refine J.seq ?_
  refine J.open_ 3 rfl rfl (fun _ h => h) fun q hq => ?_
  refine J.norm rfl ?_
  refine J.region ?_
  refine J.q rfl rfl (Q.mv rfl) ?_
  refine J.q rfl rfl (Q.nil_ rfl) ?_
  refine J.q rfl rfl (Q.fa (n := 1) Tryz.runUnderlying51 rfl rfl Tryz.sizeOf48 rfl) ?_
  refine J.q rfl rfl (Q.ld Tryz.isAgg48 rfl (rdI (by exact rfl))) ?_
  refine J.c rfl rfl (X.G.C.range (i := 0) Tryz.runUnderlying48 rfl rfl) ?_
  rintro _ _ ⟨b26, rfl, rfl⟩
  refine J.norm rfl ?_
  refine J.nil ?_
  refine J.then_n ?_
  refine J.block ?_
  refine J.loop (fun z' : List Nat × Bool => z'.2 = (decide (0 < objs.length) || entUses x.o.bucket (edone q.1 z'.1))) (fun z' => (eleft q.1 z'.1).length) (fun z' => [(0, .pointer (some ⟨m, 0, none⟩)), (3, .pointer (some ⟨b3, 0, none⟩)), (4, .pointer (some ⟨b4, 0, none⟩)), (5, .bool z'.2), (26, .pointer (some ⟨b26, 0, none⟩))])
    (fun z' => [pt b26 (X.G.miter z.2.1 q.2 z'.1), pt z.2.1 (X.G.mobj encU (q.1.map Ent.m) q.2), star (q.1.map (Ent.asn uRep)), MapAt Value.string datRep r objs, MapHole Value.string bRep z.1 M.buckets x.o.bucket (.map (some r)), pt m (.cells [.map (some z.1), .map (some z.2.1), .map (some z.2.2)].toArray 51 (0, 0)), MapAt encU dRep z.2.2 M.done, pt b4 (.cells [Value.int .i64 0, .int .u64 0, .slice none 0 0, .bool false, .slice none 0 0].toArray 37 (0, 0)), pt b3 (.cells x.cells.toArray 27 (0, 0)), G, F])
    ([], decide (0 < objs.length)) (by simp [X.G.edone_nil, entUses]) ⟨rfl, rfl, rfl, congrArg some (congrArg Value.bool (by simp)), rfl, trivial⟩ rfl fun z' hz => ?_
  obtain ⟨seen, used⟩ := z'
  dsimp only at hz
  refine J.seq ?_
  refine J.region ?_
  refine J.c rfl rfl (X.G.C.nextE (i := 0) (j := 1) hq rfl rfl rfl) ?_
  rintro _ _ ⟨t, rest, seen', rfl, rfl, hst⟩
  refine J.norm rfl ?_
  refine J.q rfl rfl (Q.ext rfl rfl) ?_
  refine J.nil ?_
  refine J.then_n ?_
  refine J.seq ?_
  refine J.cases 28 rfl (fun hc28 => ?_) (fun hc28 => ?_)
  ·
   replace hc28 := X.nm hc28
   obtain ⟨e, he, rfl⟩ : ∃ e, e ∈ eleft q.1 seen ∧ seen' = seen ++ [e.born] := by rcases hst with ⟨h, _⟩ | ⟨_, h⟩; exact absurd hc28 (by rw [h]; decide); exact h
   refine J.cond_t rfl ?_
   refine J.cskip ?_
   refine J.then_n ?_
   refine J.block ?_
   refine J.seq ?_
   refine J.region ?_
   have hstep := X.G.estep hq.born he
   have huse := entUses_step hq.born he x.o.bucket
   obtain ⟨j, hj⟩ := List.getElem?_of_mem (List.mem_filter.1 he).1
   obtain ⟨ek, eu, eval, eb⟩ := e
   refine J.q rfl rfl (X.G.Q.entryE (i := 0) (j := 1) hq he rfl rfl rfl) ?_
   refine J.focus 2 j rfl hj ?_
   refine J.norm rfl ?_
   refine J.conv (Y := uRep ek eu eval) 0 rfl (fun _ h => h) ?_
   refine J.open_ 0 rfl rfl (fun _ h => h) fun z2 hz2 => ?_
   subst hz2
   refine J.norm rfl ?_
   refine J.q rfl rfl (Q.ext rfl rfl) ?_
   refine J.q rfl rfl (Q.asg rfl) ?_
   refine J.nil ?_
   refine J.then_n ?_
   refine J.draw [10] Tryz.mixed (by kernel_rfl) fun hR => ?_
   refine RG.q 0 hR rfl rfl rfl rfl rfl rfl (Q.mv rfl) ?_
   refine RG.q 1 hR rfl rfl rfl rfl rfl rfl (Q.mv rfl) ?_
   refine RG.cases 32 rfl (fun hb32 => ?_) (fun hb32 => ?_)
   ·
    replace hb32 := X.nm hb32
    refine RG.skip 2 hR rfl rfl rfl rfl rfl rfl ?_
    refine RG.skip 3 hR rfl rfl rfl rfl rfl rfl ?_
    refine RG.skip 4 hR rfl rfl rfl rfl rfl rfl ?_
    refine RG.skip 5 hR rfl rfl rfl rfl rfl rfl ?_
    refine RG.skip 6 hR rfl rfl rfl rfl rfl rfl ?_
    refine RG.skip 7 hR rfl rfl rfl rfl rfl rfl ?_
    refine RG.skip 8 hR rfl rfl rfl rfl rfl rfl ?_
    refine RG.q 9 hR rfl rfl rfl rfl rfl rfl (Q.pick_t rfl rfl) ?_
    refine RG.bar 10 hR rfl rfl rfl rfl rfl rfl (Q.asg rfl).toC ?_
    rintro _ _ ⟨rfl, rfl⟩
    refine RG.norm rfl ?_
    refine RG.fin hR rfl ?_
    refine J.norm rfl ?_
    refine J.blk_n ?_
    refine J.shut [0, 1] (uRep ek eu (.pointer (some ⟨z2.1, 0, none⟩))) rfl (fun h s => ⟨z2, rfl, s⟩) ?_
    refine J.refocus (f := Ent.asn uRep) 0 1 j ⟨ek, eu, .pointer (some ⟨z2.1, 0, none⟩), eb⟩ rfl hj ?_
    refine J.keep [1, 2, 0, 3, 4, 5, 6, 7, 8, 9, 10] rfl ?_
    refine J.again (seen ++ [eb], _) ?_ hstep.2 ⟨rfl, rfl, rfl, rfl, rfl, trivial⟩ rfl
    dsimp only at huse ⊢
    rw [huse, ← Bool.or_assoc, ← hz]
    first
      | (have hb : used = true := hb32
         rw [hb]; rfl)
      | (have hb : used = false := hb32
         rw [hb, Bool.false_or]; exact bytes_eq _ _)
   replace hb32 := X.nm hb32
   refine RG.q 2 hR rfl rfl rfl rfl rfl rfl (Q.mv rfl) ?_
   refine RG.q 3 hR rfl rfl rfl rfl rfl rfl (Q.nil_ rfl) ?_
   refine RG.q 4 hR rfl rfl rfl rfl rfl rfl (Q.fa (n := 0) Tryz.runUnderlying68 rfl rfl Tryz.sizeOf9 rfl) ?_
   refine RG.q 5 hR rfl rfl rfl rfl rfl rfl (Q.ld Tryz.isAgg9 rfl (rdI (by exact rfl))) ?_
   refine RG.q 6 hR rfl rfl rfl rfl rfl rfl (Q.fa (n := 2) Tryz.runUnderlying27 rfl rfl Tryz.sizeOf9 rfl) ?_
   refine RG.q 7 hR rfl rfl rfl rfl rfl rfl (Q.ld Tryz.isAgg9 rfl (rdI (by exact rfl))) ?_
   refine RG.q 8 hR rfl rfl rfl rfl rfl rfl (Q.eqls rfl rfl) ?_
   refine RG.q 9 hR rfl rfl rfl rfl rfl rfl (Q.pick_f rfl rfl) ?_
   refine RG.bar 10 hR rfl rfl rfl rfl rfl rfl (Q.asg rfl).toC ?_
   rintro _ _ ⟨rfl, rfl⟩
   refine RG.norm rfl ?_
   refine RG.fin hR rfl ?_
   refine J.norm rfl ?_
   refine J.blk_n ?_
   refine J.shut [0, 1] (uRep ek eu (.pointer (some ⟨z2.1, 0, none⟩))) rfl (fun h s => ⟨z2, rfl, s⟩) ?_
   refine J.refocus (f := Ent.asn uRep) 0 1 j ⟨ek, eu, .pointer (some ⟨z2.1, 0, none⟩), eb⟩ rfl hj ?_
   refine J.keep [1, 2, 0, 3, 4, 5, 6, 7, 8, 9, 10] rfl ?_
   refine J.again (seen ++ [eb], _) ?_ hstep.2 ⟨rfl, rfl, rfl, rfl, rfl, trivial⟩ rfl
   dsimp only at huse ⊢
   rw [huse, ← Bool.or_assoc, ← hz]
   first
     | (have hb : used = true := hb32
        rw [hb]; rfl)
     | (have hb : used = false := hb32
        rw [hb, Bool.false_or]; exact bytes_eq _ _)
  replace hc28 := X.nm hc28
  obtain ⟨hall, rfl⟩ : edone q.1 seen = q.1 ∧ seen' = seen := by rcases hst with ⟨_, h⟩ | ⟨h, _⟩; exact h; exact absurd hc28 (by rw [h]; decide)
  refine J.cond_f rfl ?_
  refine J.exit ?_
  refine J.then_x ?_
  refine J.lp_x ?_
  refine J.blk_x ?_
  refine J.then_n ?_
  refine J.seq ?_
  refine J.seq ?_
  have hused : used = (decide (0 < objs.length) || M.uses x.o.bucket) := by rw [hz, hall, entUses_all hq]
  refine J.shut [1, 2] (MapAt encU uRep z.2.1 M.uploads) rfl (fun h s => ⟨q, hq, s⟩) ?_
  refine J.region ?_
  refine J.q rfl rfl (Q.mv rfl) ?_
  refine J.nil ?_
  refine J.then_n ?_
  refine J.cases 41 rfl (fun hc41 => ?_) (fun hc41 => ?_)
  ·
   replace hc41 := X.nm hc41
   refine J.cond_t rfl ?_
   refine J.seq ?_
   refine J.region ?_
   refine J.call Tryz.call28 (status_spec 409) [] rfl rfl rfl rfl ?_
   rintro _ _ ⟨y, rfl, hy, rfl⟩
   refine J.norm rfl ?_
   refine J.stAI (vs := [_, _, _, _, _]) rfl Tryz.sizeOf37 rfl rfl (by exact rfl) (by exact rfl) (by exact rfl) ?_
   refine J.nil ?_
   refine J.then_n ?_
   refine J.cret ?_
   refine J.then_r ?_
   rw [if_pos (by rw [← hused]; exact hc41)]
   refine J.shut [3] (bRep x.o.bucket objs (.map (some r))) rfl (fun h s => ⟨r, rfl, s⟩) ?_
   refine J.mapSame 0 4 ord3_str hM.bs hB rfl ?_
   refine J.shut [4, 0, 2, 5] (BktAt m M) rfl (fun h s => ⟨z, s⟩) ?_
   refine J.retC [0, 1, 5, 6] (vs := [_, _, _, _, _]) rfl rfl Tryz.isAgg37 Tryz.sizeOf37 (ReadsN.pt 3 rfl) rfl (B := [_, _, _]) ⟨_, rfl, hy, rfl⟩
  replace hc41 := X.nm hc41
  refine J.cond_f rfl ?_
  refine J.cskip ?_
  refine J.then_n ?_
  refine J.seq ?_
  refine J.shut [2] (bRep x.o.bucket objs (.map (some r))) rfl (fun h s => ⟨r, rfl, s⟩) ?_
  refine J.mapSame 0 3 ord3_str hM.bs hB rfl ?_
  refine J.draw [6] Tryz.mixed (by kernel_rfl) fun hR => ?_
  refine RG.q 0 hR rfl rfl rfl rfl rfl rfl (Q.mv rfl) ?_
  refine RG.q 1 hR rfl rfl rfl rfl rfl rfl (Q.nil_ rfl) ?_
  refine RG.q 2 hR rfl rfl rfl rfl rfl rfl (Q.fa (n := 0) Tryz.runUnderlying51 rfl rfl Tryz.sizeOf47 rfl) ?_
  refine RG.q 3 hR rfl rfl rfl rfl rfl rfl (Q.ld Tryz.isAgg47 rfl (rdI (by exact rfl))) ?_
  refine RG.q 4 hR rfl rfl rfl rfl rfl rfl (Q.fa (n := 2) Tryz.runUnderlying27 rfl rfl Tryz.sizeOf9 rfl) ?_
  refine RG.q 5 hR rfl rfl rfl rfl rfl rfl (Q.ld Tryz.isAgg9 rfl (rdI (by exact rfl))) ?_
  refine RG.bar 6 hR rfl rfl rfl rfl rfl rfl (X.G.C.mapDel 0 Tryz.runUnderlying47 keyS rfl rfl) ?_
  rintro _ _ ⟨rfl, rfl⟩
  refine RG.norm rfl ?_
  refine RG.fin hR rfl ?_
  refine J.norm rfl ?_
  refine J.then_n ?_
  refine J.seq ?_
  refine J.region ?_
  refine J.call Tryz.call28 (status_spec 200) [] rfl rfl rfl rfl ?_
  rintro _ _ ⟨y, rfl, hy, rfl⟩
  refine J.norm rfl ?_
  refine J.stAI (vs := [_, _, _, _, _]) rfl Tryz.sizeOf37 rfl rfl (by exact rfl) (by exact rfl) (by exact rfl) ?_
  refine J.nil ?_
  refine J.then_n ?_
  refine J.cret ?_
  have hcu : used = false := hc41
  rw [if_neg (by rw [← hused, hcu]; simp)]
  refine J.shut [4, 1, 2, 5] (BktAt m { M with buckets := sdel x.o.bucket M.buckets }) rfl (fun h s => ⟨z, s⟩) ?_
  refine J.retC [0, 1, 5, 6] (vs := [_, _, _, _, _]) rfl rfl Tryz.isAgg37 Tryz.sizeOf37 (ReadsN.pt 3 rfl) rfl (B := [_, _, _]) ⟨_, rfl, hy, rfl⟩
theorem unmake_spec : FSpec Tryz.prog 63 [.pointer (some ⟨m, 0, none⟩), .agg x.cells.toArray] [BktAt m M, G] (ActR m G (M.unmake x.o)) := by
  unfold BM.unmake
  split
  · rename_i hB; exact unmake_no m M hM x G hx hB
  · rename_i hB; exact unmake_yes m M hM x G hx hB

theorem complete_no (hU : sget x.o.upload M.uploads = none) : FSpec Tryz.prog 70 [.pointer (some ⟨m, 0, none⟩), .agg x.cells.toArray] [BktAt m M, G] (ActR m G (st 404, M)) := by
  refine FSpec.of Tryz.func70 rfl Tryz.ntmps70 rfl fun W0 F => ?_
  refine J.seq ?_
  refine J.region ?_
  refine J.c rfl rfl (C.box (l := [_, _, _, _, _, _, _, _, _]) rfl rfl) ?_
  rintro _ _ ⟨b3, rfl, rfl⟩
  refine J.norm rfl ?_
  refine J.c rfl rfl (C.alloc (l := [_, _, _, _, _]) Tryz.zeroValue37 rfl) ?_
  rintro _ _ ⟨b4, rfl, rfl⟩
  refine J.norm rfl ?_
  refine J.nil ?_
  refine J.then_n ?_
  refine J.seq ?_
  refine J.open1 2 rfl (fun _ h => h) fun z => ?_
  refine J.norm rfl ?_
  refine J.draw [7] Tryz.mixed (by kernel_rfl) fun hR => ?_
  refine RG.q 0 hR rfl rfl rfl rfl rfl rfl (Q.mv rfl) ?_
  refine RG.q 1 hR rfl rfl rfl rfl rfl rfl (Q.nil_ rfl) ?_
  refine RG.q 2 hR rfl rfl rfl rfl rfl rfl (Q.fa (n := 1) Tryz.runUnderlying51 rfl rfl Tryz.sizeOf48 rfl) ?_
  refine RG.q 3 hR rfl rfl rfl rfl rfl rfl (Q.ld Tryz.isAgg48 rfl (rdI (by exact rfl))) ?_
  refine RG.q 4 hR rfl rfl rfl rfl rfl rfl (Q.fa (n := 6) Tryz.runUnderlying27 rfl rfl Tryz.sizeOf23 rfl) ?_
  refine RG.q 5 hR rfl rfl rfl rfl rfl rfl (Q.ld Tryz.isAgg23 rfl (rdI (by exact rfl))) ?_
  refine RG.q 6 hR rfl rfl rfl rfl rfl rfl (X.G.Q.lkNo (i := 2) Tryz.runUnderlying48 keyU Tryz.zeroValue65 rfl rfl rfl hU) ?_
  refine RG.bar 7 hR rfl rfl rfl rfl rfl rfl (Q.asg rfl).toC ?_
  rintro _ _ ⟨rfl, rfl⟩
  refine RG.norm rfl ?_
  refine RG.fin hR rfl ?_
  refine J.norm rfl ?_
  refine J.then_n ?_
  refine J.seq ?_
  refine J.seq ?_
  refine J.region ?_
  refine J.q rfl rfl (Q.mv rfl) ?_
  refine J.q rfl rfl (Q.eqlp Tryz.runUnderlying65 rfl rfl) ?_
  refine J.nil ?_
  refine J.then_n ?_
  refine J.cases 19 rfl (fun hc19 => ?_) (fun hc19 => ?_)
  ·
   replace hc19 := X.nm hc19
   try (first | (cases hc19; done) | (exfalso; simp at hc19; done))
   all_goals
    refine J.cond_t rfl ?_
    refine J.seq ?_
    refine J.region ?_
    refine J.call Tryz.call28 (status_spec 404) [] rfl rfl rfl rfl ?_
    rintro _ _ ⟨y, rfl, hy, rfl⟩
    refine J.norm rfl ?_
    refine J.stAI (vs := [_, _, _, _, _]) rfl Tryz.sizeOf37 rfl rfl (by exact rfl) (by exact rfl) (by exact rfl) ?_
    refine J.nil ?_
    refine J.then_n ?_
    refine J.cret ?_
    refine J.then_r ?_
    refine J.shut [1, 2, 3, 4] (BktAt m M) rfl (fun h s => ⟨z, s⟩) ?_
    refine J.retC [0, 1, 4, 5] (vs := [_, _, _, _, _]) rfl rfl Tryz.isAgg37 Tryz.sizeOf37 (ReadsN.pt 2 rfl) rfl (B := [_, _, _]) ⟨_, rfl, hy, rfl⟩
  cases hc19

theorem complete_yes (hpl : x.o.parts.length ≤ 10000) {u : UM} (hU : sget x.o.upload M.uploads = some u) : FSpec Tryz.prog 70 [.pointer (some ⟨m, 0, none⟩), .agg x.cells.toArray] [BktAt m M, G]
    (ActR m G (match collect u.parts x.o.parts with
    | none => (st 400, M)
    | some d => (st 200, { M with buckets := sput ltB u.bucket (sput ltB u.key d ((sget u.bucket M.buckets).getD [])) M.buckets, uploads := sdel x.o.upload M.uploads }))) := by
  have hP := hM.ps _ _ hU
  obtain ⟨objs, hB⟩ := Option.isSome_iff_exists.1 hP.2.1
  have hO := hM.os _ _ hB
  have hfl := flat_len hP.2.2
  refine FSpec.of Tryz.func70 rfl Tryz.ntmps70 rfl fun W0 F => ?_
  refine J.seq ?_
  refine J.region ?_
  refine J.c rfl rfl (C.box (l := [_, _, _, _, _, _, _, _, _]) rfl rfl) ?_
  rintro _ _ ⟨b3, rfl, rfl⟩
  refine J.norm rfl ?_
  refine J.c rfl rfl (C.alloc (l := [_, _, _, _, _]) Tryz.zeroValue37 rfl) ?_
  rintro _ _ ⟨b4, rfl, rfl⟩
  refine J.norm rfl ?_
  refine J.nil ?_
  refine J.then_n ?_
  refine J.seq ?_
  refine J.open1 2 rfl (fun _ h => h) fun z => ?_
  refine J.norm rfl ?_
  refine J.mapFocus 2 hU rfl fun val => ?_
  refine J.norm rfl ?_
  refine J.open_ 0 rfl rfl (fun _ h => h) fun z2 hz2 => ?_
  subst hz2
  refine J.norm rfl ?_
  refine J.draw [7] Tryz.mixed (by kernel_rfl) fun hR => ?_
  refine RG.q 0 hR rfl rfl rfl rfl rfl rfl (Q.mv rfl) ?_
  refine RG.q 1 hR rfl rfl rfl rfl rfl rfl (Q.nil_ rfl) ?_
  refine RG.q 2 hR rfl rfl rfl rfl rfl rfl (Q.fa (n := 1) Tryz.runUnderlying51 rfl rfl Tryz.sizeOf48 rfl) ?_
  refine RG.q 3 hR rfl rfl rfl rfl rfl rfl (Q.ld Tryz.isAgg48 rfl (rdI (by exact rfl))) ?_
  refine RG.q 4 hR rfl rfl rfl rfl rfl rfl (Q.fa (n := 6) Tryz.runUnderlying27 rfl rfl Tryz.sizeOf23 rfl) ?_
  refine RG.q 5 hR rfl rfl rfl rfl rfl rfl (Q.ld Tryz.isAgg23 rfl (rdI (by exact rfl))) ?_
  refine RG.q 6 hR rfl rfl rfl rfl rfl rfl (X.G.Q.lkYes (i := 2) Tryz.runUnderlying48 keyU Tryz.zeroValue65 rfl rfl rfl) ?_
  refine RG.bar 7 hR rfl rfl rfl rfl rfl rfl (Q.asg rfl).toC ?_
  rintro _ _ ⟨rfl, rfl⟩
  refine RG.norm rfl ?_
  refine RG.fin hR rfl ?_
  refine J.norm rfl ?_
  refine J.then_n ?_
  refine J.seq ?_
  refine J.seq ?_
  refine J.region ?_
  refine J.q rfl rfl (Q.mv rfl) ?_
  refine J.q rfl rfl (Q.eqlp Tryz.runUnderlying65 rfl rfl) ?_
  refine J.nil ?_
  refine J.then_n ?_
  refine J.cases 19 rfl (fun hc19 => ?_) (fun hc19 => ?_)
  ·
   cases hc19
  replace hc19 := X.nm hc19
  refine J.cond_f rfl ?_
  refine J.cskip ?_
  refine J.then_n ?_
  refine J.seq ?_
  refine J.region ?_
  refine J.q rfl rfl (Q.asg rfl) ?_
  refine J.nil ?_
  refine J.then_n ?_
  refine J.seq ?_
  refine J.seq ?_
  refine J.region ?_
  refine J.q rfl rfl (Q.fa (n := 7) Tryz.runUnderlying27 rfl rfl Tryz.sizeOf24 rfl) ?_
  refine J.q rfl rfl (Q.ld Tryz.isAgg24 rfl (rdI (by exact rfl))) ?_
  refine J.q rfl rfl (Q.lenSl Tryz.runUnderlying24 rfl) ?_
  refine J.q rfl rfl (Q.mv rfl) ?_
  refine J.nil ?_
  refine J.then_n ?_
  refine J.block ?_
  refine J.open_ 1 rfl rfl (fun _ h => h) fun q hq => ?_
  refine J.norm rfl ?_
  refine J.give (own.nil 5 1 _) ?_
  refine J.loop (fun w : Nat × Option Addr × Nat => w.1 ≤ x.o.parts.length ∧ ((x.o.parts.take w.1).all fun n => (sget n u.parts).isSome) = true) (fun w => x.o.parts.length - w.1) (fun w => [(0, .pointer (some ⟨m, 0, none⟩)), (3, .pointer (some ⟨b3, 0, none⟩)), (4, .pointer (some ⟨b4, 0, none⟩)), (5, .pointer (some ⟨z2.1, 0, none⟩)), (6, .slice w.2.1 ((x.o.parts.take w.1).flatMap (partOf u.parts)).length w.2.2), (22, .slice x.pp x.o.parts.length x.pc), (23, .int .i64 x.o.parts.length), (24, .int .i64 w.1)])
    (fun w => [own 5 1 (.slice w.2.1 ((x.o.parts.take w.1).flatMap (partOf u.parts)).length w.2.2) (bytesV ((x.o.parts.take w.1).flatMap (partOf u.parts))), pt z2.2 (X.G.mobj (Value.int .i64) (q.1.map Ent.m) q.2), star (q.1.map (Ent.asn datRep)), pt z2.1 (.cells [.string u.bucket, .string u.key, .map (some z2.2)].toArray 68 (0, 0)), MapHole encU uRep z.2.1 M.uploads x.o.upload (.pointer (some ⟨z2.1, 0, none⟩)), pt m (.cells [.map (some z.1), .map (some z.2.1), .map (some z.2.2)].toArray 51 (0, 0)), MapAt Value.string bRep z.1 M.buckets, MapAt encU dRep z.2.2 M.done, pt b4 (.cells [Value.int .i64 0, .int .u64 0, .slice none 0 0, .bool false, .slice none 0 0].toArray 37 (0, 0)), pt b3 (.cells x.cells.toArray 27 (0, 0)), G, F])
    (0, none, 0) ⟨Nat.zero_le _, rfl⟩ ⟨rfl, rfl, rfl, rfl, rfl, rfl, rfl, rfl, trivial⟩ rfl fun w hw => ?_
  obtain ⟨i, p6, c6⟩ := w
  obtain ⟨hi, hall⟩ := hw
  dsimp only at hi hall
  refine J.seq ?_
  refine J.region ?_
  refine J.q rfl rfl (Q.lss rfl rfl) ?_
  refine J.nil ?_
  refine J.then_n ?_
  refine J.seq ?_
  refine J.cases 25 rfl (fun hc25 => ?_) (fun hc25 => ?_)
  ·
   replace hc25 := X.nm hc25
   refine J.cond_t rfl ?_
   refine J.cskip ?_
   refine J.then_n ?_
   refine J.seq ?_
   refine J.block ?_
   refine J.seq ?_
   obtain ⟨b, off, hpp, hrd⟩ := hx.parts.some_ (by omega)
   obtain ⟨v, hv⟩ : ∃ v, x.o.parts[i]? = some v := ⟨_, List.getElem?_eq_getElem (by omega)⟩
   refine J.slot 22 (.slice (some ⟨b, off, none⟩) x.o.parts.length x.pc) rfl (by rw [hpp]) ?_
   refine J.region ?_
   refine J.q rfl rfl (Q.ia Tryz.runUnderlying24 Tryz.sizeOf3 rfl rfl (by omega) (by omega)) ?_
   refine J.q rfl rfl (Q.ld Tryz.isAgg3 rfl (((hrd i (.int .i64 v) (by simp [hv])).within (i := 10) rfl).cast (by simp))) ?_
   refine J.q rfl rfl (Q.asg rfl) ?_
   refine J.nil ?_
   refine J.then_n ?_
   refine J.seq ?_
   refine J.region ?_
   refine J.q rfl rfl (Q.mv rfl) ?_
   refine J.q rfl rfl (Q.nil_ rfl) ?_
   refine J.q rfl rfl (Q.fa (n := 2) Tryz.runUnderlying68 rfl rfl Tryz.sizeOf66 rfl) ?_
   refine J.q rfl rfl (Q.ld Tryz.isAgg66 rfl (rdI (by exact rfl))) ?_
   refine J.q rfl rfl (Q.mv rfl) ?_
   refine J.q rfl rfl (X.G.Q.lk2 (i := 1) Tryz.runUnderlying66 keyI Tryz.zeroValue25 rfl rfl rfl) ?_
   refine J.q rfl rfl (Q.mv rfl) ?_
   refine J.q rfl rfl (Q.ext rfl rfl) ?_
   refine J.q rfl rfl (Q.ext rfl rfl) ?_
   refine J.q rfl rfl (Q.asg rfl) ?_
   refine J.q rfl rfl (Q.asg rfl) ?_
   refine J.nil ?_
   refine J.then_n ?_
   refine J.seq ?_
   refine J.seq ?_
   refine J.region ?_
   refine J.q rfl rfl (Q.mv rfl) ?_
   refine J.q rfl rfl (Q.not rfl) ?_
   refine J.nil ?_
   refine J.then_n ?_
   refine J.cases 38 rfl (fun hc38 => ?_) (fun hc38 => ?_)
   ·
    replace hc38 := X.nm hc38
    refine J.cond_t rfl ?_
    refine J.seq ?_
    refine J.region ?_
    refine J.call Tryz.call28 (status_spec 400) [] rfl rfl rfl rfl ?_
    rintro _ _ ⟨y, rfl, hy, rfl⟩
    refine J.norm rfl ?_
    refine J.stAI (vs := [_, _, _, _, _]) rfl Tryz.sizeOf37 rfl rfl (by exact rfl) (by exact rfl) (by exact rfl) ?_
    refine J.nil ?_
    refine J.then_n ?_
    refine J.cret ?_
    refine J.then_r ?_
    refine J.blk_r ?_
    refine J.then_r ?_
    refine J.lp_r ?_
    refine J.blk_r ?_
    refine J.then_r ?_
    have hno : sget v u.parts = none := by
      rw [hq.get]
      rcases X.G.elook v q.1 with ⟨_, h2, _⟩ | ⟨j, e, _, _, h3, _⟩
      · exact h2
      · rw [h3] at hc38; cases hc38
    rw [collect_none hv hno]
    refine J.shut [2, 3] (MapAt (Value.int .i64) datRep z2.2 u.parts) rfl (fun h s => ⟨q, hq, s⟩) ?_
    refine J.shut [3, 0] (uRep x.o.upload u (.pointer (some ⟨z2.1, 0, none⟩))) rfl (fun h s => ⟨z2, rfl, s⟩) ?_
    refine J.mapSame 0 3 ord3_nat hM.us hU rfl ?_
    refine J.shut [3, 4, 0, 5] (BktAt m M) rfl (fun h s => ⟨z, s⟩) ?_
    refine J.retC [0, 1, 5, 6] (vs := [_, _, _, _, _]) rfl rfl Tryz.isAgg37 Tryz.sizeOf37 (ReadsN.pt 3 rfl) rfl (B := [_, _, _]) ⟨_, rfl, hy, rfl⟩
   replace hc38 := X.nm hc38
   refine J.cond_f rfl ?_
   refine J.cskip ?_
   refine J.then_n ?_
   obtain ⟨j, e, hj, hek, hmg, hsg⟩ : ∃ (j : Nat) (e : Ent Int (List UInt8)), q.1[j]? = some e ∧ e.key = v ∧ X.G.mget v (q.1.map Ent.m) = some e.val ∧ sget v u.parts = some e.v := by
     rcases X.G.elook v q.1 with ⟨h1, _, _⟩ | ⟨j, e, h1, h2, h3, h4, _⟩
     · rw [h1] at hc38; cases hc38
     · exact ⟨j, e, h1, h2, h3, by rw [hq.get]; exact h4⟩
   obtain ⟨ek, d, eval, eb⟩ := e
   have hd16 : d.length ≤ 16777216 := hP.2.2 _ _ hsg
   have hacc := hfl (x.o.parts.take i)
   have hil : (x.o.parts.take i).length ≤ 10000 := by rw [List.length_take]; omega
   have hacc2 : (List.flatMap (partOf u.parts) (List.take (i, p6, c6).fst x.o.parts)).length ≤ 167772160000 := by show (List.flatMap (partOf u.parts) (List.take i x.o.parts)).length ≤ _; omega
   refine J.focus 2 j rfl hj ?_
   refine J.norm rfl ?_
   refine J.conv (Y := datRep ek d eval) 0 rfl (fun _ h => h) ?_
   refine J.open_ 0 rfl rfl (fun _ h => h) fun z3 hz3 => ?_
   subst hz3
   refine J.norm rfl ?_
   refine J.slr1 0 rfl fun hs9 => ?_
   refine J.slot 9 (.slice z3.1 d.length z3.2) rfl (by rw [hmg]; rfl) ?_
   refine J.region ?_
   refine J.q rfl rfl (Q.mv rfl) ?_
   refine J.q rfl rfl (Q.mv rfl) ?_
   refine J.c rfl rfl (C.app (i := 2) Tryz.runUnderlying25 Tryz.runUnderlying25 Tryz.typeInfo5 Tryz.sizeOf5 Tryz.zeroValue5 rfl rfl rfl (hs9.within (i := 0) rfl) (bytesV_one _) (by rw [show Tryz.t5.bytes = 1 from rfl]; omega) (by decide)) ?_
   rintro _ _ ⟨p42, c42, rfl, rfl⟩
   refine J.norm rfl ?_
   refine J.q rfl rfl (Q.asg rfl) ?_
   refine J.nil ?_
   refine J.blk_n ?_
   refine J.then_n ?_
   refine J.region ?_
   refine J.q rfl rfl (Q.add64 rfl rfl (by omega)) ?_
   refine J.q rfl rfl (Q.mv rfl) ?_
   refine J.nil ?_
   have hfs := flat_take_succ hv hsg
   dsimp only at hfs
   refine J.shut [0] (datRep ek d (.slice z3.1 d.length z3.2)) rfl (fun h s => ⟨z3, rfl, s⟩) ?_
   refine J.refocus (f := Ent.asn datRep) 0 1 j ⟨ek, d, .slice z3.1 d.length z3.2, eb⟩ rfl hj ?_
   refine J.keep [1, 2, 0, 3, 4, 5, 6, 7, 8, 9, 10, 11] rfl ?_
   refine J.again (i + 1, p42, c42) ⟨by show i + 1 ≤ _; omega, all_take_some hv hall (by rw [hsg]; rfl)⟩ (by show x.o.parts.length - (i + 1) < x.o.parts.length - i; omega) ⟨rfl, rfl, rfl, rfl, (by show _ = some (Value.slice p42 _ c42); rw [hfs, List.length_append]; rfl), (by show _ = some (Value.slice x.pp _ _); rw [hpp]; rfl), rfl, rfl, trivial⟩ ?_
   show _ = [own 5 1 (.slice p42 ((x.o.parts.take (i + 1)).flatMap (partOf u.parts)).length c42) (bytesV ((x.o.parts.take (i + 1)).flatMap (partOf u.parts))), _, _, _, _, _, _, _, _, _, _, _]
   rw [hfs, List.length_append, ← bytesV_append]
  replace hc25 := X.nm hc25
  refine J.cond_f rfl ?_
  refine J.exit ?_
  refine J.then_x ?_
  refine J.lp_x ?_
  refine J.blk_x ?_
  refine J.then_n ?_
  refine J.seq ?_
  have hin : i = x.o.parts.length := by omega
  subst hin
  rw [List.take_length] at hall ⊢
  have hcs : collect u.parts x.o.parts = some (x.o.parts.flatMap (partOf u.parts)) := by unfold collect; rw [if_pos hall]
  rw [hcs, hB]
  obtain ⟨acc, hac⟩ : ∃ acc, acc = x.o.parts.flatMap (partOf u.parts) := ⟨_, rfl⟩
  rw [← hac]
  refine J.shut [1, 2] (MapAt (Value.int .i64) datRep z2.2 u.parts) rfl (fun h s => ⟨q, hq, s⟩) ?_
  refine J.mapFocus 5 hB rfl fun val => ?_
  refine J.norm rfl ?_
  refine J.open_ 0 rfl rfl (fun _ h => h) fun r hr => ?_
  subst hr
  refine J.norm rfl ?_
  refine J.draw [14] Tryz.mixed (by kernel_rfl) fun hR => ?_
  refine RG.q 0 hR rfl rfl rfl rfl rfl rfl (Q.mv rfl) ?_
  refine RG.q 1 hR rfl rfl rfl rfl rfl rfl (Q.nil_ rfl) ?_
  refine RG.q 2 hR rfl rfl rfl rfl rfl rfl (Q.fa (n := 0) Tryz.runUnderlying51 rfl rfl Tryz.sizeOf47 rfl) ?_
  refine RG.q 3 hR rfl rfl rfl rfl rfl rfl (Q.ld Tryz.isAgg47 rfl (rdI (by exact rfl))) ?_
  refine RG.q 4 hR rfl rfl rfl rfl rfl rfl (Q.mv rfl) ?_
  refine RG.q 5 hR rfl rfl rfl rfl rfl rfl (Q.nil_ rfl) ?_
  refine RG.q 6 hR rfl rfl rfl rfl rfl rfl (Q.fa (n := 0) Tryz.runUnderlying68 rfl rfl Tryz.sizeOf9 rfl) ?_
  refine RG.q 7 hR rfl rfl rfl rfl rfl rfl (Q.ld Tryz.isAgg9 rfl (rdI (by exact rfl))) ?_
  refine RG.q 8 hR rfl rfl rfl rfl rfl rfl (X.G.Q.lkYes (i := 1) Tryz.runUnderlying47 keyS Tryz.zeroValue57 rfl rfl rfl) ?_
  refine RG.q 9 hR rfl rfl rfl rfl rfl rfl (Q.mv rfl) ?_
  refine RG.q 10 hR rfl rfl rfl rfl rfl rfl (Q.nil_ rfl) ?_
  refine RG.q 11 hR rfl rfl rfl rfl rfl rfl (Q.fa (n := 1) Tryz.runUnderlying68 rfl rfl Tryz.sizeOf9 rfl) ?_
  refine RG.q 12 hR rfl rfl rfl rfl rfl rfl (Q.ld Tryz.isAgg9 rfl (rdI (by exact rfl))) ?_
  refine RG.q 13 hR rfl rfl rfl rfl rfl rfl (Q.mv rfl) ?_
  refine RG.bar 14 hR rfl rfl rfl rfl rfl rfl (X.G.C.mapPut 0 acc ord3_str hO.1 Tryz.runUnderlying57 keyS rfl rfl rfl rfl) ?_
  rintro _ _ ⟨rfl, rfl⟩
  refine RG.norm rfl ?_
  refine RG.fin hR rfl ?_
  refine J.norm rfl ?_
  refine J.then_n ?_
  refine J.seq ?_
  refine J.shut [4, 2] (uRep x.o.upload u (.pointer (some ⟨z2.1, 0, none⟩))) rfl (fun h s => ⟨z2, rfl, s⟩) ?_
  refine J.mapSame 0 4 ord3_nat hM.us hU rfl ?_
  refine J.draw [6] Tryz.mixed (by kernel_rfl) fun hR => ?_
  refine RG.q 0 hR rfl rfl rfl rfl rfl rfl (Q.mv rfl) ?_
  refine RG.q 1 hR rfl rfl rfl rfl rfl rfl (Q.nil_ rfl) ?_
  refine RG.q 2 hR rfl rfl rfl rfl rfl rfl (Q.fa (n := 1) Tryz.runUnderlying51 rfl rfl Tryz.sizeOf48 rfl) ?_
  refine RG.q 3 hR rfl rfl rfl rfl rfl rfl (Q.ld Tryz.isAgg48 rfl (rdI (by exact rfl))) ?_
  refine RG.q 4 hR rfl rfl rfl rfl rfl rfl (Q.fa (n := 6) Tryz.runUnderlying27 rfl rfl Tryz.sizeOf23 rfl) ?_
  refine RG.q 5 hR rfl rfl rfl rfl rfl rfl (Q.ld Tryz.isAgg23 rfl (rdI (by exact rfl))) ?_
  refine RG.bar 6 hR rfl rfl rfl rfl rfl rfl (X.G.C.mapDel 0 Tryz.runUnderlying48 keyU rfl rfl) ?_
  rintro _ _ ⟨rfl, rfl⟩
  refine RG.norm rfl ?_
  refine RG.fin hR rfl ?_
  refine J.norm rfl ?_
  refine J.then_n ?_
  refine J.seq ?_
  refine J.region ?_
  refine J.call Tryz.call28 (status_spec 200) [] rfl rfl rfl rfl ?_
  rintro _ _ ⟨y, rfl, hy, rfl⟩
  refine J.norm rfl ?_
  refine J.stAI (vs := [_, _, _, _, _]) rfl Tryz.sizeOf37 rfl rfl (by exact rfl) (by exact rfl) (by exact rfl) ?_
  refine J.nil ?_
  refine J.then_n ?_
  refine J.cret ?_
  refine J.shut [4] (datRep u.key acc (.slice p6 acc.length c6)) rfl (fun h s => ⟨(p6, c6), rfl, s⟩) ?_
  refine J.mapBack 0 3 acc ord3_str (X.G.srtd_put ord3_str hO.1 _ _) rfl ?_
  rw [X.G.sput_put ord3_str hO.1]
  refine J.shut [0] (bRep u.bucket (sput ltB u.key acc objs) (.map (some r))) rfl (fun h s => ⟨r, rfl, s⟩) ?_
  refine J.mapBack 0 3 (sput ltB u.key acc objs) ord3_str hM.bs rfl ?_
  refine J.shut [3, 0, 2, 4] (BktAt m { M with buckets := sput ltB u.bucket (sput ltB u.key acc objs) M.buckets, uploads := sdel x.o.upload M.uploads }) rfl (fun h s => ⟨z, s⟩) ?_
  refine J.retC [0, 1, 4, 5] (vs := [_, _, _, _, _]) rfl rfl Tryz.isAgg37 Tryz.sizeOf37 (ReadsN.pt 2 rfl) rfl (B := [_, _, _]) ⟨_, rfl, hy, rfl⟩
theorem complete_spec (hpl : x.o.parts.length ≤ 10000) : FSpec Tryz.prog 70 [.pointer (some ⟨m, 0, none⟩), .agg x.cells.toArray] [BktAt m M, G] (ActR m G (M.complete x.o)) := by
  unfold BM.complete
  split
  · rename_i hU; exact complete_no m M hM x G hx hU
  · rename_i hU; exact complete_yes m M hM x G hx hpl hU
end
end Go.Proofs.YtdancegklkifaaaGreat
namespace Go.Proofs.YtdancegklkifaaaGreat
set_option linter.unusedSectionVars false
set_option linter.unusedSimpArgs false
set_option linter.unusedVariables false
open Go.X
open Go.X.G (Ord3 ord3_nat ord3_int ord3_str ltB sget sput sdel Srtd MapAt MapHole)

/-- Does a text begin with another one? -/
def beg (s p : ByteArray) : Bool := decide (p.size ≤ s.size) && decide ((s.extract 0 p.size).data.toList = p.data.toList)
def listed (o : OM) (objs : Objs) : List ByteArray := (objs.map (·.1)).filter fun a => beg a o.key && ltB o.after a
def BM.list (M : BM) (o : OM) : RM × BM :=
  match sget o.bucket M.buckets with
  | none => (st 404, M)
  | some objs => (⟨200, 0, (listed o objs).take o.n.toNat, decide (o.n.toNat < (listed o objs).length), []⟩, M)

def BM.act (M : BM) (o : OM) : RM × BM :=
  if o.kind = 1 then M.make o else if o.kind = 2 then M.unmake o else if o.kind = 3 then M.put o else if o.kind = 4 then M.get o else if o.kind = 5 then M.delete o
  else if o.kind = 6 then M.list o else if o.kind = 7 then M.begin o else if o.kind = 8 then M.part o else if o.kind = 9 then M.complete o else M.abort o
def readsK (k : Int) : Bool := decide (k = 4) || decide (k = 6)
def BM.run (M : BM) (o : OM) : RM × BM :=
  if o.chkB = true then
    if readsK o.kind = true then M.act o
    else match sget o.id M.done with
      | some r => (r, M)
      | none => ((M.act o).1, { (M.act o).2 with done := sput ltN o.id (M.act o).1 M.done })
  else (st 400, M)

theorem sput_len {κ ν : Type} [DecidableEq κ] {lt : κ → κ → Bool} (o : Ord3 lt) {l : List (κ × ν)} (h : Srtd lt l) (k : κ) (v : ν) : (sput lt k v l).length ≤ l.length + 1 := by
  rw [(X.G.sput_perm o (h.nodup o) k v).length_eq, List.length_cons]
  have : (sdel k l).length ≤ l.length := List.length_filter_le _ _
  omega
theorem sdel_len {κ ν : Type} [DecidableEq κ] (k : κ) (l : List (κ × ν)) : (sdel k l).length ≤ l.length := List.length_filter_le _ _

theorem chk_9 {o : OM} (h : o.chkB = true) (hk : o.kind = 9) : o.parts.length ≤ 10000 := by
  rw [chk_eq] at h
  unfold OM.chkR at h
  simp only [hk] at h
  simp [partsOK] at h
  omega
theorem chk_len {o : OM} (h : o.chkB = true) : o.data.length ≤ 16777216 := by
  rw [chk_eq] at h
  unfold OM.chkR at h
  split at h
  · simp only [Bool.and_eq_true, decide_eq_true_eq] at h; omega
  split at h
  · simp only [Bool.and_eq_true, decide_eq_true_eq] at h; omega
  split at h
  · simp only [Bool.and_eq_true, decide_eq_true_eq] at h; omega
  split at h
  · simp only [Bool.and_eq_true, decide_eq_true_eq] at h; omega
  split at h
  · simp only [Bool.and_eq_true, decide_eq_true_eq] at h; omega
  split at h
  · simp only [Bool.and_eq_true, decide_eq_true_eq] at h; omega
  split at h
  · simp only [Bool.and_eq_true, decide_eq_true_eq] at h; omega
  · cases h
theorem chk_kind {o : OM} (h : o.chkB = true) : 1 ≤ o.kind ∧ o.kind ≤ 10 := by
  rw [chk_eq] at h
  unfold OM.chkR at h
  split at h
  · omega
  split at h
  · omega
  split at h
  · omega
  split at h
  · omega
  split at h
  · omega
  split at h
  · omega
  split at h
  · omega
  · cases h
theorem chk_6 {o : OM} (h : o.chkB = true) (hk : o.kind = 6) : 1 ≤ o.n ∧ o.n ≤ 1000 := by
  rw [chk_eq] at h
  unfold OM.chkR at h
  simp only [hk] at h
  simp only [show ¬ ((6 : Int) = 1 ∨ (6 : Int) = 2) by omega, show ¬ (6 : Int) = 3 by omega, show ¬ ((6 : Int) = 4 ∨ (6 : Int) = 5 ∨ (6 : Int) = 7) by omega, if_false, if_true, Bool.and_eq_true, decide_eq_true_eq] at h
  omega

theorem BM.ok.mono {k j : Nat} {M : BM} (h : M.ok k) (hk : k ≤ j) : M.ok j :=
  ⟨h.bs, fun n o e => ⟨(h.os n o e).1, Nat.le_trans (h.os n o e).2.1 hk, (h.os n o e).2.2⟩, h.us, h.ps, h.ds, h.rs, by have := h.len; omega⟩

/-- A bucket's objects are others. -/
theorem BM.ok.objs {k : Nat} {M : BM} (h : M.ok k) {b : ByteArray} {o o' : Objs} (hb : sget b M.buckets = some o) (h1 : Srtd ltB o') (h2 : o'.length ≤ k + 1) (h3 : ∀ a d, sget a o' = some d → d.length ≤ 274877906944) (us : List (Nat × UM)) (hus : Srtd ltN us) (hul : us.length ≤ k + 1)
    (hps : ∀ n u, sget n us = some u → sget n M.uploads = some u) : BM.ok (k + 1) ⟨sput ltB b o' M.buckets, us, M.done⟩ := by
  have hl := h.len
  refine ⟨X.G.srtd_put ord3_str h.bs _ _, ?_, hus, ?_, h.ds, h.rs, ?_, hul, by show M.done.length ≤ _; omega⟩
  · intro n q hq
    rw [X.G.sget_put ord3_str] at hq
    split at hq
    · cases hq; exact ⟨h1, h2, h3⟩
    · have := h.os n q hq; exact ⟨this.1, by omega, this.2.2⟩
  · intro n u hu
    obtain ⟨p1, p2, p3⟩ := h.ps n u (hps n u hu)
    refine ⟨p1, ?_, p3⟩
    show (sget u.bucket (sput ltB b o' M.buckets)).isSome = true
    rw [X.G.sget_put ord3_str]
    split
    · rfl
    · exact p2
  · have := sput_len ord3_str h.bs b o'
    show (sput ltB b o' M.buckets).length ≤ k + 1
    omega

theorem act_done (M : BM) (o : OM) : (M.act o).2.done = M.done := by
  unfold BM.act BM.make BM.unmake BM.put BM.get BM.delete BM.list BM.begin BM.part BM.complete BM.abort
  repeat' split
  all_goals rfl
theorem act_small {k : Nat} {M : BM} (h : M.ok k) {o : OM} (hc : o.chkB = true) : (M.act o).1.keys.length ≤ 1000 ∧ (M.act o).1.data.length ≤ 274877906944 := by
  have h6 := chk_6 hc
  unfold BM.act BM.make BM.unmake BM.put BM.get BM.delete BM.list BM.begin BM.part BM.complete BM.abort
  repeat' split
  all_goals first
    | (refine ⟨?_, ?_⟩ <;> simp [st] <;> done)
    | skip
  · rename_i h1 _ d h2
    exact ⟨by simp, (h.os _ _ h1).2.2 _ _ h2⟩
  · rename_i hk _ _ _
    have := h6 hk
    exact ⟨by simp only [List.length_take]; omega, by simp⟩

theorem act_ok {k : Nat} {M : BM} (h : M.ok k) {o : OM} (hc : o.chkB = true) : (M.act o).2.ok (k + 1) := by
  have hl := h.len
  have hd := chk_len hc
  unfold BM.act
  split
  · unfold BM.make
    split
    · exact h.mono (Nat.le_succ k)
    · rename_i hb
      refine ⟨X.G.srtd_put ord3_str h.bs _ _, ?_, h.us, ?_, h.ds, h.rs, ?_, by show M.uploads.length ≤ _; omega, by show M.done.length ≤ _; omega⟩
      · intro n q hq
        rw [X.G.sget_put ord3_str] at hq
        split at hq
        · cases hq; exact ⟨List.Pairwise.nil, by simp, by simp [sget]⟩
        · have := h.os n q hq; exact ⟨this.1, by omega, this.2.2⟩
      · intro n u hu
        obtain ⟨p1, p2, p3⟩ := h.ps n u hu
        refine ⟨p1, ?_, p3⟩
        show (sget u.bucket (sput ltB o.bucket [] M.buckets)).isSome = true
        rw [X.G.sget_put ord3_str]
        split
        · rfl
        · exact p2
      · have := sput_len ord3_str h.bs o.bucket []
        show (sput ltB o.bucket [] M.buckets).length ≤ k + 1
        omega
  split
  · unfold BM.unmake
    split
    · exact h.mono (Nat.le_succ k)
    · split
      · exact h.mono (Nat.le_succ k)
      · rename_i hu
        refine ⟨X.G.srtd_del h.bs _, ?_, h.us, ?_, h.ds, h.rs, ?_, by show M.uploads.length ≤ _; omega, by show M.done.length ≤ _; omega⟩
        · intro n q hq
          rw [X.G.sget_del] at hq
          split at hq
          · cases hq
          · have := h.os n q hq; exact ⟨this.1, by omega, this.2.2⟩
        · intro n u hu'
          obtain ⟨p1, p2, p3⟩ := h.ps n u hu'
          refine ⟨p1, ?_, p3⟩
          show (sget u.bucket (sdel o.bucket M.buckets)).isSome = true
          rw [X.G.sget_del]
          split
          · rename_i e
            exfalso
            apply hu
            rw [Bool.or_eq_true]; right
            unfold BM.uses
            rw [List.any_eq_true]
            exact ⟨_, X.G.sget_mem hu', by simpa using e⟩
          · exact p2
        · have := sdel_len o.bucket M.buckets
          show (sdel o.bucket M.buckets).length ≤ k + 1
          omega
  split
  · unfold BM.put
    split
    · exact h.mono (Nat.le_succ k)
    · rename_i objs hb
      have ho := h.os _ _ hb
      refine h.objs hb (X.G.srtd_put ord3_str ho.1 _ _) (by have := sput_len ord3_str ho.1 o.key o.data; omega) ?_ M.uploads h.us (by omega) (fun _ _ e => e)
      intro a d hq
      rw [X.G.sget_put ord3_str] at hq
      split at hq
      · cases hq; omega
      · exact ho.2.2 a d hq
  split
  · unfold BM.get
    repeat' split
    all_goals exact h.mono (Nat.le_succ k)
  split
  · unfold BM.delete
    split
    · exact h.mono (Nat.le_succ k)
    · rename_i objs hb
      split
      · exact h.mono (Nat.le_succ k)
      · have ho := h.os _ _ hb
        refine h.objs hb (X.G.srtd_del ho.1 _) (by have := sdel_len o.key objs; omega) ?_ M.uploads h.us (by omega) (fun _ _ e => e)
        intro a d hq
        rw [X.G.sget_del] at hq
        split at hq
        · cases hq
        · exact ho.2.2 a d hq
  split
  · unfold BM.list
    repeat' split
    all_goals exact h.mono (Nat.le_succ k)
  split
  · unfold BM.begin
    split
    · exact h.mono (Nat.le_succ k)
    · rename_i objs hb
      refine ⟨h.bs, fun n q hq => ⟨(h.os n q hq).1, by have := (h.os n q hq).2.1; omega, (h.os n q hq).2.2⟩, X.G.srtd_put ord3_nat h.us _ _, ?_, h.ds, h.rs, by show M.buckets.length ≤ _; omega, ?_, by show M.done.length ≤ _; omega⟩
      · intro n u hu
        rw [X.G.sget_put ord3_nat] at hu
        split at hu
        · cases hu; exact ⟨List.Pairwise.nil, by show (sget o.bucket M.buckets).isSome = true; rw [hb]; rfl, by simp [sget]⟩
        · exact h.ps n u hu
      · have := sput_len (lt := ltN) ord3_nat h.us o.id ⟨o.bucket, o.key, []⟩
        show (sput ltN o.id _ M.uploads).length ≤ k + 1
        omega
  split
  · unfold BM.part
    split
    · exact h.mono (Nat.le_succ k)
    · rename_i u hu
      obtain ⟨p1, p2, p3⟩ := h.ps _ _ hu
      refine ⟨h.bs, fun n q hq => ⟨(h.os n q hq).1, by have := (h.os n q hq).2.1; omega, (h.os n q hq).2.2⟩, X.G.srtd_put ord3_nat h.us _ _, ?_, h.ds, h.rs, by show M.buckets.length ≤ _; omega, ?_, by show M.done.length ≤ _; omega⟩
      · intro n v hv
        rw [X.G.sget_put ord3_nat] at hv
        split at hv
        · cases hv
          refine ⟨X.G.srtd_put ord3_int p1 _ _, p2, ?_⟩
          intro a d hq
          rw [X.G.sget_put ord3_int] at hq
          split at hq
          · cases hq; exact hd
          · exact p3 a d hq
        · exact h.ps n v hv
      · have := sput_len (lt := ltN) ord3_nat h.us o.upload ⟨u.bucket, u.key, sput ltI o.n o.data u.parts⟩
        show (sput ltN o.upload _ M.uploads).length ≤ k + 1
        omega
  split
  · rename_i hk
    have h9 := chk_9 hc hk
    unfold BM.complete
    split
    · exact h.mono (Nat.le_succ k)
    · rename_i u hu
      obtain ⟨p1, p2, p3⟩ := h.ps _ _ hu
      obtain ⟨objs, hb⟩ := Option.isSome_iff_exists.1 p2
      split
      · exact h.mono (Nat.le_succ k)
      · rename_i d hcd
        rw [hb]
        have ho := h.os _ _ hb
        have hdl : d.length ≤ 274877906944 := by
          unfold collect at hcd
          split at hcd
          · cases hcd
            have := flat_len p3 o.parts
            omega
          · cases hcd
        refine h.objs hb (X.G.srtd_put ord3_str ho.1 _ _) (by have := sput_len ord3_str ho.1 u.key d; show (sput ltB u.key d objs).length ≤ _; omega) ?_ (sdel o.upload M.uploads) (X.G.srtd_del h.us _) (by have := sdel_len o.upload M.uploads; omega) ?_
        · intro a e hq
          have hq : sget a (sput ltB u.key d objs) = some e := hq
          rw [X.G.sget_put ord3_str] at hq
          split at hq
          · cases hq; exact hdl
          · exact ho.2.2 a e hq
        · intro n v hv
          rw [X.G.sget_del] at hv
          split at hv
          · cases hv
          · exact hv
  · unfold BM.abort
    split
    · exact h.mono (Nat.le_succ k)
    · refine ⟨h.bs, fun n q hq => ⟨(h.os n q hq).1, by have := (h.os n q hq).2.1; omega, (h.os n q hq).2.2⟩, X.G.srtd_del h.us _, ?_, h.ds, h.rs, by show M.buckets.length ≤ _; omega, by have := sdel_len o.upload M.uploads; show (sdel o.upload M.uploads).length ≤ _; omega, by show M.done.length ≤ _; omega⟩
      intro n v hv
      rw [X.G.sget_del] at hv
      split at hv
      · cases hv
      · exact h.ps n v hv

theorem run_ok {k : Nat} {M : BM} (h : M.ok k) (o : OM) : (M.run o).2.ok (k + 1) := by
  unfold BM.run
  split
  · rename_i hc
    have h1 := act_ok h hc
    have h2 := act_small h hc
    split
    · exact h1
    · split
      · exact h.mono (Nat.le_succ k)
      · refine ⟨h1.bs, h1.os, h1.us, h1.ps, X.G.srtd_put ord3_nat h.ds _ _, ?_, h1.len.1, h1.len.2.1, ?_⟩
        · intro n r hr
          rw [X.G.sget_put ord3_nat] at hr
          split at hr
          · cases hr; exact h2
          · exact h.rs n r hr
        · have := sput_len (lt := ltN) ord3_nat h.ds o.id (M.act o).1
          have := h.len
          show (sput ltN o.id _ M.done).length ≤ k + 1
          omega
  · exact h.mono (Nat.le_succ k)
theorem run_small {k : Nat} {M : BM} (h : M.ok k) (o : OM) : (M.run o).1.keys.length ≤ 1000 ∧ (M.run o).1.data.length ≤ 274877906944 := by
  unfold BM.run
  split
  · rename_i hc
    have h2 := act_small h hc
    split
    · exact h2
    · split
      · rename_i r hr; exact h.rs _ _ hr
      · exact h2
  · exact ⟨by simp [st], by simp [st]⟩
end Go.Proofs.YtdancegklkifaaaGreat
