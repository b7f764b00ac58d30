/-
  Ops; which are right: the two functions that tell it.
-/
import Derived.Test.YtdancegklkifaaaBktA
namespace Go.Proofs.Ytdancegklkifaaa
set_option linter.unusedSectionVars false
set_option linter.unusedSimpArgs false
set_option linter.unusedVariables false
open Go.X

structure OM where
  id : Nat
  kind : Int
  bucket : ByteArray
  key : ByteArray
  after : ByteArray
  n : Int
  upload : Nat
  parts : List Int
  data : List UInt8

structure OW where
  o : OM
  pp : Option Addr
  pc : Nat
  dp : Option Addr
  dc : Nat

def OW.cells (x : OW) : List Value := [.int .u64 x.o.id, .int .i64 x.o.kind, .string x.o.bucket, .string x.o.key, .string x.o.after, .int .i64 x.o.n, .int .u64 x.o.upload, .slice x.pp x.o.parts.length x.pc, .slice x.dp x.o.data.length x.dc]
theorem OW.cells_length (x : OW) : x.cells.length = 9 := rfl

/-- What is known of an op that is handed in. -/
structure OW.ok (G : Assn) (x : OW) : Prop where
  parts : SlR [G] 1 (.slice x.pp x.o.parts.length x.pc) (x.o.parts.map (Value.int .i64))
  data : SlR [G] 1 (.slice x.dp x.o.data.length x.dc) (bytesV x.o.data)
  small : x.o.bucket.size ≤ 9223372036854775807 ∧ x.o.key.size ≤ 9223372036854775807 ∧ x.o.after.size ≤ 9223372036854775807 ∧ x.o.parts.length ≤ 9223372036854775807 ∧ x.o.data.length ≤ 9223372036854775807

structure HM where
  bucket : Bool
  key : Bool
  list : Bool
  upload : Bool
  n : Bool
  parts : Bool
  data : Bool
def HM.cells (f : HM) : List Value := [.bool f.bucket, .bool f.key, .bool f.list, .bool f.upload, .bool f.n, .bool f.parts, .bool f.data]

def fieldsM (k : Int) : HM × Bool :=
  if k = 1 ∨ k = 2 then (⟨true, false, false, false, false, false, false⟩, true)
  else if k = 3 then (⟨true, true, false, false, false, false, true⟩, true)
  else if k = 4 ∨ k = 5 ∨ k = 7 then (⟨true, true, false, false, false, false, false⟩, true)
  else if k = 6 then (⟨true, false, true, false, false, false, false⟩, true)
  else if k = 8 then (⟨false, false, false, true, true, false, true⟩, true)
  else if k = 9 then (⟨false, false, false, true, false, true, false⟩, true)
  else if k = 10 then (⟨false, false, false, true, false, false, false⟩, true)
  else (⟨false, false, false, false, false, false, false⟩, false)

theorem fields_spec (k : Int) : FSpec Try.prog 17 [.int .i64 k] [] (fun v B => v = .tuple #[.agg (fieldsM k).1.cells.toArray, .bool (fieldsM k).2] ∧ B = []) := by
  refine FSpec.of Try.func17 rfl Try.ntmps17 rfl fun W0 F => ?_
  refine J.seq ?_
  refine J.region ?_
  refine J.c rfl rfl (C.alloc (l := [_, _, _, _, _, _, _]) Try.zeroValue52 rfl) ?_
  rintro _ _ ⟨b2, rfl, rfl⟩
  refine J.norm rfl ?_
  refine J.q rfl rfl (Q.asg rfl) ?_
  refine J.nil ?_
  refine J.then_n ?_
  refine J.seq ?_
  refine J.seq ?_
  refine J.region ?_
  refine J.q rfl rfl (Q.mv rfl) ?_
  refine J.nil ?_
  refine J.then_n ?_
  refine J.block ?_
  refine J.seq ?_
  refine J.seq ?_
  refine J.region ?_
  refine J.q rfl rfl (Q.eql rfl rfl) ?_
  refine J.q rfl rfl (Q.asg rfl) ?_
  refine J.nil ?_
  refine J.then_n ?_
  refine J.cases 5 rfl (fun hc5 => ?_) (fun hc5 => ?_)
  ·
    first | replace hc5 := X.tt_dec hc5 | replace hc5 := X.tt_not hc5 | replace hc5 := X.ff_dec hc5 | replace hc5 := X.ff_not hc5 | skip
    refine J.cond_t rfl ?_
    refine J.cskip ?_
    refine J.then_n ?_
    refine J.cond_t rfl ?_
    refine J.seq ?_
    refine J.region ?_
    refine J.q rfl rfl (Q.bld (l := [_, _, _, _, _, _, _]) Try.runUnderlying52 Try.zeroValue52 Try.places52 rfl rfl) ?_
    first | refine J.c0 rfl (C.stA (i := 0) (vs := [_, _, _, _, _, _, _]) Try.sizeOf52 rfl rfl rfl rfl rfl rfl) ?_ | refine J.c0 rfl (C.stA (i := 1) (vs := [_, _, _, _, _, _, _]) Try.sizeOf52 rfl rfl rfl rfl rfl rfl) ?_ | refine J.c0 rfl (C.stA (i := 2) (vs := [_, _, _, _, _, _, _]) Try.sizeOf52 rfl rfl rfl rfl rfl rfl) ?_ | refine J.c0 rfl (C.stA (i := 3) (vs := [_, _, _, _, _, _, _]) Try.sizeOf52 rfl rfl rfl rfl rfl rfl) ?_ | refine J.c0 rfl (C.stA (i := 4) (vs := [_, _, _, _, _, _, _]) Try.sizeOf52 rfl rfl rfl rfl rfl rfl) ?_ | refine J.c0 rfl (C.stA (i := 5) (vs := [_, _, _, _, _, _, _]) Try.sizeOf52 rfl rfl rfl rfl rfl rfl) ?_ | refine J.c0 rfl (C.stA (i := 6) (vs := [_, _, _, _, _, _, _]) Try.sizeOf52 rfl rfl rfl rfl rfl rfl) ?_ | refine J.c0 rfl (C.stA (i := 7) (vs := [_, _, _, _, _, _, _]) Try.sizeOf52 rfl rfl rfl rfl rfl rfl) ?_ | refine J.c0 rfl (C.stA (i := 8) (vs := [_, _, _, _, _, _, _]) Try.sizeOf52 rfl rfl rfl rfl rfl rfl) ?_ | refine J.c0 rfl (C.stA (i := 9) (vs := [_, _, _, _, _, _, _]) Try.sizeOf52 rfl rfl rfl rfl rfl rfl) ?_ | refine J.c0 rfl (C.stA (i := 10) (vs := [_, _, _, _, _, _, _]) Try.sizeOf52 rfl rfl rfl rfl rfl rfl) ?_ | refine J.c0 rfl (C.stA (i := 11) (vs := [_, _, _, _, _, _, _]) Try.sizeOf52 rfl rfl rfl rfl rfl rfl) ?_ | refine J.c0 rfl (C.stA (i := 12) (vs := [_, _, _, _, _, _, _]) Try.sizeOf52 rfl rfl rfl rfl rfl rfl) ?_ | refine J.c0 rfl (C.stA (i := 13) (vs := [_, _, _, _, _, _, _]) Try.sizeOf52 rfl rfl rfl rfl rfl rfl) ?_ | refine J.c0 rfl (C.stA (i := 14) (vs := [_, _, _, _, _, _, _]) Try.sizeOf52 rfl rfl rfl rfl rfl rfl) ?_ | refine J.c0 rfl (C.stA (i := 15) (vs := [_, _, _, _, _, _, _]) Try.sizeOf52 rfl rfl rfl rfl rfl rfl) ?_
    rintro _ _ ⟨rfl, rfl⟩
    refine J.q rfl rfl (Q.asg rfl) ?_
    refine J.nil ?_
    refine J.then_n ?_
    refine J.cret ?_
    refine J.blk_r ?_
    refine J.then_r ?_
    refine J.retC2 [1] (vs := [_, _, _, _, _, _, _]) rfl rfl rfl Try.isAgg52 Try.sizeOf52 (ReadsN.pt 0 rfl) rfl (B := []) ⟨?_, rfl⟩
    simp [fieldsM, HM.cells, *] <;> (repeat' apply And.intro) <;> rfl
  ·
    first | replace hc5 := X.tt_dec hc5 | replace hc5 := X.tt_not hc5 | replace hc5 := X.ff_dec hc5 | replace hc5 := X.ff_not hc5 | skip
    refine J.cond_f rfl ?_
    refine J.region ?_
    refine J.q rfl rfl (Q.eql rfl rfl) ?_
    refine J.q rfl rfl (Q.asg rfl) ?_
    refine J.nil ?_
    refine J.then_n ?_
    refine J.cases 5 rfl (fun hc5 => ?_) (fun hc5 => ?_)
    ·
      first | replace hc5 := X.tt_dec hc5 | replace hc5 := X.tt_not hc5 | replace hc5 := X.ff_dec hc5 | replace hc5 := X.ff_not hc5 | skip
      refine J.cond_t rfl ?_
      refine J.seq ?_
      refine J.region ?_
      refine J.q rfl rfl (Q.bld (l := [_, _, _, _, _, _, _]) Try.runUnderlying52 Try.zeroValue52 Try.places52 rfl rfl) ?_
      first | refine J.c0 rfl (C.stA (i := 0) (vs := [_, _, _, _, _, _, _]) Try.sizeOf52 rfl rfl rfl rfl rfl rfl) ?_ | refine J.c0 rfl (C.stA (i := 1) (vs := [_, _, _, _, _, _, _]) Try.sizeOf52 rfl rfl rfl rfl rfl rfl) ?_ | refine J.c0 rfl (C.stA (i := 2) (vs := [_, _, _, _, _, _, _]) Try.sizeOf52 rfl rfl rfl rfl rfl rfl) ?_ | refine J.c0 rfl (C.stA (i := 3) (vs := [_, _, _, _, _, _, _]) Try.sizeOf52 rfl rfl rfl rfl rfl rfl) ?_ | refine J.c0 rfl (C.stA (i := 4) (vs := [_, _, _, _, _, _, _]) Try.sizeOf52 rfl rfl rfl rfl rfl rfl) ?_ | refine J.c0 rfl (C.stA (i := 5) (vs := [_, _, _, _, _, _, _]) Try.sizeOf52 rfl rfl rfl rfl rfl rfl) ?_ | refine J.c0 rfl (C.stA (i := 6) (vs := [_, _, _, _, _, _, _]) Try.sizeOf52 rfl rfl rfl rfl rfl rfl) ?_ | refine J.c0 rfl (C.stA (i := 7) (vs := [_, _, _, _, _, _, _]) Try.sizeOf52 rfl rfl rfl rfl rfl rfl) ?_ | refine J.c0 rfl (C.stA (i := 8) (vs := [_, _, _, _, _, _, _]) Try.sizeOf52 rfl rfl rfl rfl rfl rfl) ?_ | refine J.c0 rfl (C.stA (i := 9) (vs := [_, _, _, _, _, _, _]) Try.sizeOf52 rfl rfl rfl rfl rfl rfl) ?_ | refine J.c0 rfl (C.stA (i := 10) (vs := [_, _, _, _, _, _, _]) Try.sizeOf52 rfl rfl rfl rfl rfl rfl) ?_ | refine J.c0 rfl (C.stA (i := 11) (vs := [_, _, _, _, _, _, _]) Try.sizeOf52 rfl rfl rfl rfl rfl rfl) ?_ | refine J.c0 rfl (C.stA (i := 12) (vs := [_, _, _, _, _, _, _]) Try.sizeOf52 rfl rfl rfl rfl rfl rfl) ?_ | refine J.c0 rfl (C.stA (i := 13) (vs := [_, _, _, _, _, _, _]) Try.sizeOf52 rfl rfl rfl rfl rfl rfl) ?_ | refine J.c0 rfl (C.stA (i := 14) (vs := [_, _, _, _, _, _, _]) Try.sizeOf52 rfl rfl rfl rfl rfl rfl) ?_ | refine J.c0 rfl (C.stA (i := 15) (vs := [_, _, _, _, _, _, _]) Try.sizeOf52 rfl rfl rfl rfl rfl rfl) ?_
      rintro _ _ ⟨rfl, rfl⟩
      refine J.q rfl rfl (Q.asg rfl) ?_
      refine J.nil ?_
      refine J.then_n ?_
      refine J.cret ?_
      refine J.blk_r ?_
      refine J.then_r ?_
      refine J.retC2 [1] (vs := [_, _, _, _, _, _, _]) rfl rfl rfl Try.isAgg52 Try.sizeOf52 (ReadsN.pt 0 rfl) rfl (B := []) ⟨?_, rfl⟩
      simp [fieldsM, HM.cells, *] <;> (repeat' apply And.intro) <;> rfl
    ·
      first | replace hc5 := X.tt_dec hc5 | replace hc5 := X.tt_not hc5 | replace hc5 := X.ff_dec hc5 | replace hc5 := X.ff_not hc5 | skip
      refine J.cond_f rfl ?_
      refine J.seq ?_
      refine J.region ?_
      refine J.q rfl rfl (Q.eql rfl rfl) ?_
      refine J.q rfl rfl (Q.asg rfl) ?_
      refine J.nil ?_
      refine J.then_n ?_
      refine J.cases 9 rfl (fun hc9 => ?_) (fun hc9 => ?_)
      ·
        first | replace hc9 := X.tt_dec hc9 | replace hc9 := X.tt_not hc9 | replace hc9 := X.ff_dec hc9 | replace hc9 := X.ff_not hc9 | skip
        refine J.cond_t rfl ?_
        refine J.seq ?_
        refine J.region ?_
        refine J.q rfl rfl (Q.bld (l := [_, _, _, _, _, _, _]) Try.runUnderlying52 Try.zeroValue52 Try.places52 rfl rfl) ?_
        first | refine J.c0 rfl (C.stA (i := 0) (vs := [_, _, _, _, _, _, _]) Try.sizeOf52 rfl rfl rfl rfl rfl rfl) ?_ | refine J.c0 rfl (C.stA (i := 1) (vs := [_, _, _, _, _, _, _]) Try.sizeOf52 rfl rfl rfl rfl rfl rfl) ?_ | refine J.c0 rfl (C.stA (i := 2) (vs := [_, _, _, _, _, _, _]) Try.sizeOf52 rfl rfl rfl rfl rfl rfl) ?_ | refine J.c0 rfl (C.stA (i := 3) (vs := [_, _, _, _, _, _, _]) Try.sizeOf52 rfl rfl rfl rfl rfl rfl) ?_ | refine J.c0 rfl (C.stA (i := 4) (vs := [_, _, _, _, _, _, _]) Try.sizeOf52 rfl rfl rfl rfl rfl rfl) ?_ | refine J.c0 rfl (C.stA (i := 5) (vs := [_, _, _, _, _, _, _]) Try.sizeOf52 rfl rfl rfl rfl rfl rfl) ?_ | refine J.c0 rfl (C.stA (i := 6) (vs := [_, _, _, _, _, _, _]) Try.sizeOf52 rfl rfl rfl rfl rfl rfl) ?_ | refine J.c0 rfl (C.stA (i := 7) (vs := [_, _, _, _, _, _, _]) Try.sizeOf52 rfl rfl rfl rfl rfl rfl) ?_ | refine J.c0 rfl (C.stA (i := 8) (vs := [_, _, _, _, _, _, _]) Try.sizeOf52 rfl rfl rfl rfl rfl rfl) ?_ | refine J.c0 rfl (C.stA (i := 9) (vs := [_, _, _, _, _, _, _]) Try.sizeOf52 rfl rfl rfl rfl rfl rfl) ?_ | refine J.c0 rfl (C.stA (i := 10) (vs := [_, _, _, _, _, _, _]) Try.sizeOf52 rfl rfl rfl rfl rfl rfl) ?_ | refine J.c0 rfl (C.stA (i := 11) (vs := [_, _, _, _, _, _, _]) Try.sizeOf52 rfl rfl rfl rfl rfl rfl) ?_ | refine J.c0 rfl (C.stA (i := 12) (vs := [_, _, _, _, _, _, _]) Try.sizeOf52 rfl rfl rfl rfl rfl rfl) ?_ | refine J.c0 rfl (C.stA (i := 13) (vs := [_, _, _, _, _, _, _]) Try.sizeOf52 rfl rfl rfl rfl rfl rfl) ?_ | refine J.c0 rfl (C.stA (i := 14) (vs := [_, _, _, _, _, _, _]) Try.sizeOf52 rfl rfl rfl rfl rfl rfl) ?_ | refine J.c0 rfl (C.stA (i := 15) (vs := [_, _, _, _, _, _, _]) Try.sizeOf52 rfl rfl rfl rfl rfl rfl) ?_
        rintro _ _ ⟨rfl, rfl⟩
        refine J.q rfl rfl (Q.asg rfl) ?_
        refine J.nil ?_
        refine J.then_n ?_
        refine J.cret ?_
        refine J.blk_r ?_
        refine J.then_r ?_
        refine J.retC2 [1] (vs := [_, _, _, _, _, _, _]) rfl rfl rfl Try.isAgg52 Try.sizeOf52 (ReadsN.pt 0 rfl) rfl (B := []) ⟨?_, rfl⟩
        simp [fieldsM, HM.cells, *] <;> (repeat' apply And.intro) <;> rfl
      ·
        first | replace hc9 := X.tt_dec hc9 | replace hc9 := X.tt_not hc9 | replace hc9 := X.ff_dec hc9 | replace hc9 := X.ff_not hc9 | skip
        refine J.cond_f rfl ?_
        refine J.seq ?_
        refine J.seq ?_
        refine J.region ?_
        refine J.q rfl rfl (Q.eql rfl rfl) ?_
        refine J.q rfl rfl (Q.asg rfl) ?_
        refine J.nil ?_
        refine J.then_n ?_
        refine J.cases 12 rfl (fun hc12 => ?_) (fun hc12 => ?_)
        ·
          first | replace hc12 := X.tt_dec hc12 | replace hc12 := X.tt_not hc12 | replace hc12 := X.ff_dec hc12 | replace hc12 := X.ff_not hc12 | skip
          refine J.cond_t rfl ?_
          refine J.cskip ?_
          refine J.then_n ?_
          refine J.cond_t rfl ?_
          refine J.seq ?_
          refine J.region ?_
          refine J.q rfl rfl (Q.bld (l := [_, _, _, _, _, _, _]) Try.runUnderlying52 Try.zeroValue52 Try.places52 rfl rfl) ?_
          first | refine J.c0 rfl (C.stA (i := 0) (vs := [_, _, _, _, _, _, _]) Try.sizeOf52 rfl rfl rfl rfl rfl rfl) ?_ | refine J.c0 rfl (C.stA (i := 1) (vs := [_, _, _, _, _, _, _]) Try.sizeOf52 rfl rfl rfl rfl rfl rfl) ?_ | refine J.c0 rfl (C.stA (i := 2) (vs := [_, _, _, _, _, _, _]) Try.sizeOf52 rfl rfl rfl rfl rfl rfl) ?_ | refine J.c0 rfl (C.stA (i := 3) (vs := [_, _, _, _, _, _, _]) Try.sizeOf52 rfl rfl rfl rfl rfl rfl) ?_ | refine J.c0 rfl (C.stA (i := 4) (vs := [_, _, _, _, _, _, _]) Try.sizeOf52 rfl rfl rfl rfl rfl rfl) ?_ | refine J.c0 rfl (C.stA (i := 5) (vs := [_, _, _, _, _, _, _]) Try.sizeOf52 rfl rfl rfl rfl rfl rfl) ?_ | refine J.c0 rfl (C.stA (i := 6) (vs := [_, _, _, _, _, _, _]) Try.sizeOf52 rfl rfl rfl rfl rfl rfl) ?_ | refine J.c0 rfl (C.stA (i := 7) (vs := [_, _, _, _, _, _, _]) Try.sizeOf52 rfl rfl rfl rfl rfl rfl) ?_ | refine J.c0 rfl (C.stA (i := 8) (vs := [_, _, _, _, _, _, _]) Try.sizeOf52 rfl rfl rfl rfl rfl rfl) ?_ | refine J.c0 rfl (C.stA (i := 9) (vs := [_, _, _, _, _, _, _]) Try.sizeOf52 rfl rfl rfl rfl rfl rfl) ?_ | refine J.c0 rfl (C.stA (i := 10) (vs := [_, _, _, _, _, _, _]) Try.sizeOf52 rfl rfl rfl rfl rfl rfl) ?_ | refine J.c0 rfl (C.stA (i := 11) (vs := [_, _, _, _, _, _, _]) Try.sizeOf52 rfl rfl rfl rfl rfl rfl) ?_ | refine J.c0 rfl (C.stA (i := 12) (vs := [_, _, _, _, _, _, _]) Try.sizeOf52 rfl rfl rfl rfl rfl rfl) ?_ | refine J.c0 rfl (C.stA (i := 13) (vs := [_, _, _, _, _, _, _]) Try.sizeOf52 rfl rfl rfl rfl rfl rfl) ?_ | refine J.c0 rfl (C.stA (i := 14) (vs := [_, _, _, _, _, _, _]) Try.sizeOf52 rfl rfl rfl rfl rfl rfl) ?_ | refine J.c0 rfl (C.stA (i := 15) (vs := [_, _, _, _, _, _, _]) Try.sizeOf52 rfl rfl rfl rfl rfl rfl) ?_
          rintro _ _ ⟨rfl, rfl⟩
          refine J.q rfl rfl (Q.asg rfl) ?_
          refine J.nil ?_
          refine J.then_n ?_
          refine J.cret ?_
          refine J.blk_r ?_
          refine J.then_r ?_
          refine J.retC2 [1] (vs := [_, _, _, _, _, _, _]) rfl rfl rfl Try.isAgg52 Try.sizeOf52 (ReadsN.pt 0 rfl) rfl (B := []) ⟨?_, rfl⟩
          simp [fieldsM, HM.cells, *] <;> (repeat' apply And.intro) <;> rfl
        ·
          first | replace hc12 := X.tt_dec hc12 | replace hc12 := X.tt_not hc12 | replace hc12 := X.ff_dec hc12 | replace hc12 := X.ff_not hc12 | skip
          refine J.cond_f rfl ?_
          refine J.seq ?_
          refine J.region ?_
          refine J.q rfl rfl (Q.eql rfl rfl) ?_
          refine J.q rfl rfl (Q.asg rfl) ?_
          refine J.nil ?_
          refine J.then_n ?_
          refine J.cases 12 rfl (fun hc12 => ?_) (fun hc12 => ?_)
          ·
            first | replace hc12 := X.tt_dec hc12 | replace hc12 := X.tt_not hc12 | replace hc12 := X.ff_dec hc12 | replace hc12 := X.ff_not hc12 | skip
            refine J.cond_t rfl ?_
            refine J.cskip ?_
            refine J.then_n ?_
            refine J.cond_t rfl ?_
            refine J.seq ?_
            refine J.region ?_
            refine J.q rfl rfl (Q.bld (l := [_, _, _, _, _, _, _]) Try.runUnderlying52 Try.zeroValue52 Try.places52 rfl rfl) ?_
            first | refine J.c0 rfl (C.stA (i := 0) (vs := [_, _, _, _, _, _, _]) Try.sizeOf52 rfl rfl rfl rfl rfl rfl) ?_ | refine J.c0 rfl (C.stA (i := 1) (vs := [_, _, _, _, _, _, _]) Try.sizeOf52 rfl rfl rfl rfl rfl rfl) ?_ | refine J.c0 rfl (C.stA (i := 2) (vs := [_, _, _, _, _, _, _]) Try.sizeOf52 rfl rfl rfl rfl rfl rfl) ?_ | refine J.c0 rfl (C.stA (i := 3) (vs := [_, _, _, _, _, _, _]) Try.sizeOf52 rfl rfl rfl rfl rfl rfl) ?_ | refine J.c0 rfl (C.stA (i := 4) (vs := [_, _, _, _, _, _, _]) Try.sizeOf52 rfl rfl rfl rfl rfl rfl) ?_ | refine J.c0 rfl (C.stA (i := 5) (vs := [_, _, _, _, _, _, _]) Try.sizeOf52 rfl rfl rfl rfl rfl rfl) ?_ | refine J.c0 rfl (C.stA (i := 6) (vs := [_, _, _, _, _, _, _]) Try.sizeOf52 rfl rfl rfl rfl rfl rfl) ?_ | refine J.c0 rfl (C.stA (i := 7) (vs := [_, _, _, _, _, _, _]) Try.sizeOf52 rfl rfl rfl rfl rfl rfl) ?_ | refine J.c0 rfl (C.stA (i := 8) (vs := [_, _, _, _, _, _, _]) Try.sizeOf52 rfl rfl rfl rfl rfl rfl) ?_ | refine J.c0 rfl (C.stA (i := 9) (vs := [_, _, _, _, _, _, _]) Try.sizeOf52 rfl rfl rfl rfl rfl rfl) ?_ | refine J.c0 rfl (C.stA (i := 10) (vs := [_, _, _, _, _, _, _]) Try.sizeOf52 rfl rfl rfl rfl rfl rfl) ?_ | refine J.c0 rfl (C.stA (i := 11) (vs := [_, _, _, _, _, _, _]) Try.sizeOf52 rfl rfl rfl rfl rfl rfl) ?_ | refine J.c0 rfl (C.stA (i := 12) (vs := [_, _, _, _, _, _, _]) Try.sizeOf52 rfl rfl rfl rfl rfl rfl) ?_ | refine J.c0 rfl (C.stA (i := 13) (vs := [_, _, _, _, _, _, _]) Try.sizeOf52 rfl rfl rfl rfl rfl rfl) ?_ | refine J.c0 rfl (C.stA (i := 14) (vs := [_, _, _, _, _, _, _]) Try.sizeOf52 rfl rfl rfl rfl rfl rfl) ?_ | refine J.c0 rfl (C.stA (i := 15) (vs := [_, _, _, _, _, _, _]) Try.sizeOf52 rfl rfl rfl rfl rfl rfl) ?_
            rintro _ _ ⟨rfl, rfl⟩
            refine J.q rfl rfl (Q.asg rfl) ?_
            refine J.nil ?_
            refine J.then_n ?_
            refine J.cret ?_
            refine J.blk_r ?_
            refine J.then_r ?_
            refine J.retC2 [1] (vs := [_, _, _, _, _, _, _]) rfl rfl rfl Try.isAgg52 Try.sizeOf52 (ReadsN.pt 0 rfl) rfl (B := []) ⟨?_, rfl⟩
            simp [fieldsM, HM.cells, *] <;> (repeat' apply And.intro) <;> rfl
          ·
            first | replace hc12 := X.tt_dec hc12 | replace hc12 := X.tt_not hc12 | replace hc12 := X.ff_dec hc12 | replace hc12 := X.ff_not hc12 | skip
            refine J.cond_f rfl ?_
            refine J.region ?_
            refine J.q rfl rfl (Q.eql rfl rfl) ?_
            refine J.q rfl rfl (Q.asg rfl) ?_
            refine J.nil ?_
            refine J.then_n ?_
            refine J.cases 12 rfl (fun hc12 => ?_) (fun hc12 => ?_)
            ·
              first | replace hc12 := X.tt_dec hc12 | replace hc12 := X.tt_not hc12 | replace hc12 := X.ff_dec hc12 | replace hc12 := X.ff_not hc12 | skip
              refine J.cond_t rfl ?_
              refine J.seq ?_
              refine J.region ?_
              refine J.q rfl rfl (Q.bld (l := [_, _, _, _, _, _, _]) Try.runUnderlying52 Try.zeroValue52 Try.places52 rfl rfl) ?_
              first | refine J.c0 rfl (C.stA (i := 0) (vs := [_, _, _, _, _, _, _]) Try.sizeOf52 rfl rfl rfl rfl rfl rfl) ?_ | refine J.c0 rfl (C.stA (i := 1) (vs := [_, _, _, _, _, _, _]) Try.sizeOf52 rfl rfl rfl rfl rfl rfl) ?_ | refine J.c0 rfl (C.stA (i := 2) (vs := [_, _, _, _, _, _, _]) Try.sizeOf52 rfl rfl rfl rfl rfl rfl) ?_ | refine J.c0 rfl (C.stA (i := 3) (vs := [_, _, _, _, _, _, _]) Try.sizeOf52 rfl rfl rfl rfl rfl rfl) ?_ | refine J.c0 rfl (C.stA (i := 4) (vs := [_, _, _, _, _, _, _]) Try.sizeOf52 rfl rfl rfl rfl rfl rfl) ?_ | refine J.c0 rfl (C.stA (i := 5) (vs := [_, _, _, _, _, _, _]) Try.sizeOf52 rfl rfl rfl rfl rfl rfl) ?_ | refine J.c0 rfl (C.stA (i := 6) (vs := [_, _, _, _, _, _, _]) Try.sizeOf52 rfl rfl rfl rfl rfl rfl) ?_ | refine J.c0 rfl (C.stA (i := 7) (vs := [_, _, _, _, _, _, _]) Try.sizeOf52 rfl rfl rfl rfl rfl rfl) ?_ | refine J.c0 rfl (C.stA (i := 8) (vs := [_, _, _, _, _, _, _]) Try.sizeOf52 rfl rfl rfl rfl rfl rfl) ?_ | refine J.c0 rfl (C.stA (i := 9) (vs := [_, _, _, _, _, _, _]) Try.sizeOf52 rfl rfl rfl rfl rfl rfl) ?_ | refine J.c0 rfl (C.stA (i := 10) (vs := [_, _, _, _, _, _, _]) Try.sizeOf52 rfl rfl rfl rfl rfl rfl) ?_ | refine J.c0 rfl (C.stA (i := 11) (vs := [_, _, _, _, _, _, _]) Try.sizeOf52 rfl rfl rfl rfl rfl rfl) ?_ | refine J.c0 rfl (C.stA (i := 12) (vs := [_, _, _, _, _, _, _]) Try.sizeOf52 rfl rfl rfl rfl rfl rfl) ?_ | refine J.c0 rfl (C.stA (i := 13) (vs := [_, _, _, _, _, _, _]) Try.sizeOf52 rfl rfl rfl rfl rfl rfl) ?_ | refine J.c0 rfl (C.stA (i := 14) (vs := [_, _, _, _, _, _, _]) Try.sizeOf52 rfl rfl rfl rfl rfl rfl) ?_ | refine J.c0 rfl (C.stA (i := 15) (vs := [_, _, _, _, _, _, _]) Try.sizeOf52 rfl rfl rfl rfl rfl rfl) ?_
              rintro _ _ ⟨rfl, rfl⟩
              refine J.q rfl rfl (Q.asg rfl) ?_
              refine J.nil ?_
              refine J.then_n ?_
              refine J.cret ?_
              refine J.blk_r ?_
              refine J.then_r ?_
              refine J.retC2 [1] (vs := [_, _, _, _, _, _, _]) rfl rfl rfl Try.isAgg52 Try.sizeOf52 (ReadsN.pt 0 rfl) rfl (B := []) ⟨?_, rfl⟩
              simp [fieldsM, HM.cells, *] <;> (repeat' apply And.intro) <;> rfl
            ·
              first | replace hc12 := X.tt_dec hc12 | replace hc12 := X.tt_not hc12 | replace hc12 := X.ff_dec hc12 | replace hc12 := X.ff_not hc12 | skip
              refine J.cond_f rfl ?_
              refine J.seq ?_
              refine J.region ?_
              refine J.q rfl rfl (Q.eql rfl rfl) ?_
              refine J.q rfl rfl (Q.asg rfl) ?_
              refine J.nil ?_
              refine J.then_n ?_
              refine J.cases 17 rfl (fun hc17 => ?_) (fun hc17 => ?_)
              ·
                first | replace hc17 := X.tt_dec hc17 | replace hc17 := X.tt_not hc17 | replace hc17 := X.ff_dec hc17 | replace hc17 := X.ff_not hc17 | skip
                refine J.cond_t rfl ?_
                refine J.seq ?_
                refine J.region ?_
                refine J.q rfl rfl (Q.bld (l := [_, _, _, _, _, _, _]) Try.runUnderlying52 Try.zeroValue52 Try.places52 rfl rfl) ?_
                first | refine J.c0 rfl (C.stA (i := 0) (vs := [_, _, _, _, _, _, _]) Try.sizeOf52 rfl rfl rfl rfl rfl rfl) ?_ | refine J.c0 rfl (C.stA (i := 1) (vs := [_, _, _, _, _, _, _]) Try.sizeOf52 rfl rfl rfl rfl rfl rfl) ?_ | refine J.c0 rfl (C.stA (i := 2) (vs := [_, _, _, _, _, _, _]) Try.sizeOf52 rfl rfl rfl rfl rfl rfl) ?_ | refine J.c0 rfl (C.stA (i := 3) (vs := [_, _, _, _, _, _, _]) Try.sizeOf52 rfl rfl rfl rfl rfl rfl) ?_ | refine J.c0 rfl (C.stA (i := 4) (vs := [_, _, _, _, _, _, _]) Try.sizeOf52 rfl rfl rfl rfl rfl rfl) ?_ | refine J.c0 rfl (C.stA (i := 5) (vs := [_, _, _, _, _, _, _]) Try.sizeOf52 rfl rfl rfl rfl rfl rfl) ?_ | refine J.c0 rfl (C.stA (i := 6) (vs := [_, _, _, _, _, _, _]) Try.sizeOf52 rfl rfl rfl rfl rfl rfl) ?_ | refine J.c0 rfl (C.stA (i := 7) (vs := [_, _, _, _, _, _, _]) Try.sizeOf52 rfl rfl rfl rfl rfl rfl) ?_ | refine J.c0 rfl (C.stA (i := 8) (vs := [_, _, _, _, _, _, _]) Try.sizeOf52 rfl rfl rfl rfl rfl rfl) ?_ | refine J.c0 rfl (C.stA (i := 9) (vs := [_, _, _, _, _, _, _]) Try.sizeOf52 rfl rfl rfl rfl rfl rfl) ?_ | refine J.c0 rfl (C.stA (i := 10) (vs := [_, _, _, _, _, _, _]) Try.sizeOf52 rfl rfl rfl rfl rfl rfl) ?_ | refine J.c0 rfl (C.stA (i := 11) (vs := [_, _, _, _, _, _, _]) Try.sizeOf52 rfl rfl rfl rfl rfl rfl) ?_ | refine J.c0 rfl (C.stA (i := 12) (vs := [_, _, _, _, _, _, _]) Try.sizeOf52 rfl rfl rfl rfl rfl rfl) ?_ | refine J.c0 rfl (C.stA (i := 13) (vs := [_, _, _, _, _, _, _]) Try.sizeOf52 rfl rfl rfl rfl rfl rfl) ?_ | refine J.c0 rfl (C.stA (i := 14) (vs := [_, _, _, _, _, _, _]) Try.sizeOf52 rfl rfl rfl rfl rfl rfl) ?_ | refine J.c0 rfl (C.stA (i := 15) (vs := [_, _, _, _, _, _, _]) Try.sizeOf52 rfl rfl rfl rfl rfl rfl) ?_
                rintro _ _ ⟨rfl, rfl⟩
                refine J.q rfl rfl (Q.asg rfl) ?_
                refine J.nil ?_
                refine J.then_n ?_
                refine J.cret ?_
                refine J.blk_r ?_
                refine J.then_r ?_
                refine J.retC2 [1] (vs := [_, _, _, _, _, _, _]) rfl rfl rfl Try.isAgg52 Try.sizeOf52 (ReadsN.pt 0 rfl) rfl (B := []) ⟨?_, rfl⟩
                simp [fieldsM, HM.cells, *] <;> (repeat' apply And.intro) <;> rfl
              ·
                first | replace hc17 := X.tt_dec hc17 | replace hc17 := X.tt_not hc17 | replace hc17 := X.ff_dec hc17 | replace hc17 := X.ff_not hc17 | skip
                refine J.cond_f rfl ?_
                refine J.seq ?_
                refine J.region ?_
                refine J.q rfl rfl (Q.eql rfl rfl) ?_
                refine J.q rfl rfl (Q.asg rfl) ?_
                refine J.nil ?_
                refine J.then_n ?_
                refine J.cases 20 rfl (fun hc20 => ?_) (fun hc20 => ?_)
                ·
                  first | replace hc20 := X.tt_dec hc20 | replace hc20 := X.tt_not hc20 | replace hc20 := X.ff_dec hc20 | replace hc20 := X.ff_not hc20 | skip
                  refine J.cond_t rfl ?_
                  refine J.seq ?_
                  refine J.region ?_
                  refine J.q rfl rfl (Q.bld (l := [_, _, _, _, _, _, _]) Try.runUnderlying52 Try.zeroValue52 Try.places52 rfl rfl) ?_
                  first | refine J.c0 rfl (C.stA (i := 0) (vs := [_, _, _, _, _, _, _]) Try.sizeOf52 rfl rfl rfl rfl rfl rfl) ?_ | refine J.c0 rfl (C.stA (i := 1) (vs := [_, _, _, _, _, _, _]) Try.sizeOf52 rfl rfl rfl rfl rfl rfl) ?_ | refine J.c0 rfl (C.stA (i := 2) (vs := [_, _, _, _, _, _, _]) Try.sizeOf52 rfl rfl rfl rfl rfl rfl) ?_ | refine J.c0 rfl (C.stA (i := 3) (vs := [_, _, _, _, _, _, _]) Try.sizeOf52 rfl rfl rfl rfl rfl rfl) ?_ | refine J.c0 rfl (C.stA (i := 4) (vs := [_, _, _, _, _, _, _]) Try.sizeOf52 rfl rfl rfl rfl rfl rfl) ?_ | refine J.c0 rfl (C.stA (i := 5) (vs := [_, _, _, _, _, _, _]) Try.sizeOf52 rfl rfl rfl rfl rfl rfl) ?_ | refine J.c0 rfl (C.stA (i := 6) (vs := [_, _, _, _, _, _, _]) Try.sizeOf52 rfl rfl rfl rfl rfl rfl) ?_ | refine J.c0 rfl (C.stA (i := 7) (vs := [_, _, _, _, _, _, _]) Try.sizeOf52 rfl rfl rfl rfl rfl rfl) ?_ | refine J.c0 rfl (C.stA (i := 8) (vs := [_, _, _, _, _, _, _]) Try.sizeOf52 rfl rfl rfl rfl rfl rfl) ?_ | refine J.c0 rfl (C.stA (i := 9) (vs := [_, _, _, _, _, _, _]) Try.sizeOf52 rfl rfl rfl rfl rfl rfl) ?_ | refine J.c0 rfl (C.stA (i := 10) (vs := [_, _, _, _, _, _, _]) Try.sizeOf52 rfl rfl rfl rfl rfl rfl) ?_ | refine J.c0 rfl (C.stA (i := 11) (vs := [_, _, _, _, _, _, _]) Try.sizeOf52 rfl rfl rfl rfl rfl rfl) ?_ | refine J.c0 rfl (C.stA (i := 12) (vs := [_, _, _, _, _, _, _]) Try.sizeOf52 rfl rfl rfl rfl rfl rfl) ?_ | refine J.c0 rfl (C.stA (i := 13) (vs := [_, _, _, _, _, _, _]) Try.sizeOf52 rfl rfl rfl rfl rfl rfl) ?_ | refine J.c0 rfl (C.stA (i := 14) (vs := [_, _, _, _, _, _, _]) Try.sizeOf52 rfl rfl rfl rfl rfl rfl) ?_ | refine J.c0 rfl (C.stA (i := 15) (vs := [_, _, _, _, _, _, _]) Try.sizeOf52 rfl rfl rfl rfl rfl rfl) ?_
                  rintro _ _ ⟨rfl, rfl⟩
                  refine J.q rfl rfl (Q.asg rfl) ?_
                  refine J.nil ?_
                  refine J.then_n ?_
                  refine J.cret ?_
                  refine J.blk_r ?_
                  refine J.then_r ?_
                  refine J.retC2 [1] (vs := [_, _, _, _, _, _, _]) rfl rfl rfl Try.isAgg52 Try.sizeOf52 (ReadsN.pt 0 rfl) rfl (B := []) ⟨?_, rfl⟩
                  simp [fieldsM, HM.cells, *] <;> (repeat' apply And.intro) <;> rfl
                ·
                  first | replace hc20 := X.tt_dec hc20 | replace hc20 := X.tt_not hc20 | replace hc20 := X.ff_dec hc20 | replace hc20 := X.ff_not hc20 | skip
                  refine J.cond_f rfl ?_
                  refine J.seq ?_
                  refine J.region ?_
                  refine J.q rfl rfl (Q.eql rfl rfl) ?_
                  refine J.q rfl rfl (Q.asg rfl) ?_
                  refine J.nil ?_
                  refine J.then_n ?_
                  refine J.cases 23 rfl (fun hc23 => ?_) (fun hc23 => ?_)
                  ·
                    first | replace hc23 := X.tt_dec hc23 | replace hc23 := X.tt_not hc23 | replace hc23 := X.ff_dec hc23 | replace hc23 := X.ff_not hc23 | skip
                    refine J.cond_t rfl ?_
                    refine J.seq ?_
                    refine J.region ?_
                    refine J.q rfl rfl (Q.bld (l := [_, _, _, _, _, _, _]) Try.runUnderlying52 Try.zeroValue52 Try.places52 rfl rfl) ?_
                    first | refine J.c0 rfl (C.stA (i := 0) (vs := [_, _, _, _, _, _, _]) Try.sizeOf52 rfl rfl rfl rfl rfl rfl) ?_ | refine J.c0 rfl (C.stA (i := 1) (vs := [_, _, _, _, _, _, _]) Try.sizeOf52 rfl rfl rfl rfl rfl rfl) ?_ | refine J.c0 rfl (C.stA (i := 2) (vs := [_, _, _, _, _, _, _]) Try.sizeOf52 rfl rfl rfl rfl rfl rfl) ?_ | refine J.c0 rfl (C.stA (i := 3) (vs := [_, _, _, _, _, _, _]) Try.sizeOf52 rfl rfl rfl rfl rfl rfl) ?_ | refine J.c0 rfl (C.stA (i := 4) (vs := [_, _, _, _, _, _, _]) Try.sizeOf52 rfl rfl rfl rfl rfl rfl) ?_ | refine J.c0 rfl (C.stA (i := 5) (vs := [_, _, _, _, _, _, _]) Try.sizeOf52 rfl rfl rfl rfl rfl rfl) ?_ | refine J.c0 rfl (C.stA (i := 6) (vs := [_, _, _, _, _, _, _]) Try.sizeOf52 rfl rfl rfl rfl rfl rfl) ?_ | refine J.c0 rfl (C.stA (i := 7) (vs := [_, _, _, _, _, _, _]) Try.sizeOf52 rfl rfl rfl rfl rfl rfl) ?_ | refine J.c0 rfl (C.stA (i := 8) (vs := [_, _, _, _, _, _, _]) Try.sizeOf52 rfl rfl rfl rfl rfl rfl) ?_ | refine J.c0 rfl (C.stA (i := 9) (vs := [_, _, _, _, _, _, _]) Try.sizeOf52 rfl rfl rfl rfl rfl rfl) ?_ | refine J.c0 rfl (C.stA (i := 10) (vs := [_, _, _, _, _, _, _]) Try.sizeOf52 rfl rfl rfl rfl rfl rfl) ?_ | refine J.c0 rfl (C.stA (i := 11) (vs := [_, _, _, _, _, _, _]) Try.sizeOf52 rfl rfl rfl rfl rfl rfl) ?_ | refine J.c0 rfl (C.stA (i := 12) (vs := [_, _, _, _, _, _, _]) Try.sizeOf52 rfl rfl rfl rfl rfl rfl) ?_ | refine J.c0 rfl (C.stA (i := 13) (vs := [_, _, _, _, _, _, _]) Try.sizeOf52 rfl rfl rfl rfl rfl rfl) ?_ | refine J.c0 rfl (C.stA (i := 14) (vs := [_, _, _, _, _, _, _]) Try.sizeOf52 rfl rfl rfl rfl rfl rfl) ?_ | refine J.c0 rfl (C.stA (i := 15) (vs := [_, _, _, _, _, _, _]) Try.sizeOf52 rfl rfl rfl rfl rfl rfl) ?_
                    rintro _ _ ⟨rfl, rfl⟩
                    refine J.q rfl rfl (Q.asg rfl) ?_
                    refine J.nil ?_
                    refine J.then_n ?_
                    refine J.cret ?_
                    refine J.blk_r ?_
                    refine J.then_r ?_
                    refine J.retC2 [1] (vs := [_, _, _, _, _, _, _]) rfl rfl rfl Try.isAgg52 Try.sizeOf52 (ReadsN.pt 0 rfl) rfl (B := []) ⟨?_, rfl⟩
                    simp [fieldsM, HM.cells, *] <;> (repeat' apply And.intro) <;> rfl
                  ·
                    first | replace hc23 := X.tt_dec hc23 | replace hc23 := X.tt_not hc23 | replace hc23 := X.ff_dec hc23 | replace hc23 := X.ff_not hc23 | skip
                    refine J.cond_f rfl ?_
                    refine J.seq ?_
                    refine J.region ?_
                    refine J.q rfl rfl (Q.eql rfl rfl) ?_
                    refine J.q rfl rfl (Q.asg rfl) ?_
                    refine J.nil ?_
                    refine J.then_n ?_
                    refine J.cases 26 rfl (fun hc26 => ?_) (fun hc26 => ?_)
                    ·
                      first | replace hc26 := X.tt_dec hc26 | replace hc26 := X.tt_not hc26 | replace hc26 := X.ff_dec hc26 | replace hc26 := X.ff_not hc26 | skip
                      refine J.cond_t rfl ?_
                      refine J.seq ?_
                      refine J.region ?_
                      refine J.q rfl rfl (Q.bld (l := [_, _, _, _, _, _, _]) Try.runUnderlying52 Try.zeroValue52 Try.places52 rfl rfl) ?_
                      first | refine J.c0 rfl (C.stA (i := 0) (vs := [_, _, _, _, _, _, _]) Try.sizeOf52 rfl rfl rfl rfl rfl rfl) ?_ | refine J.c0 rfl (C.stA (i := 1) (vs := [_, _, _, _, _, _, _]) Try.sizeOf52 rfl rfl rfl rfl rfl rfl) ?_ | refine J.c0 rfl (C.stA (i := 2) (vs := [_, _, _, _, _, _, _]) Try.sizeOf52 rfl rfl rfl rfl rfl rfl) ?_ | refine J.c0 rfl (C.stA (i := 3) (vs := [_, _, _, _, _, _, _]) Try.sizeOf52 rfl rfl rfl rfl rfl rfl) ?_ | refine J.c0 rfl (C.stA (i := 4) (vs := [_, _, _, _, _, _, _]) Try.sizeOf52 rfl rfl rfl rfl rfl rfl) ?_ | refine J.c0 rfl (C.stA (i := 5) (vs := [_, _, _, _, _, _, _]) Try.sizeOf52 rfl rfl rfl rfl rfl rfl) ?_ | refine J.c0 rfl (C.stA (i := 6) (vs := [_, _, _, _, _, _, _]) Try.sizeOf52 rfl rfl rfl rfl rfl rfl) ?_ | refine J.c0 rfl (C.stA (i := 7) (vs := [_, _, _, _, _, _, _]) Try.sizeOf52 rfl rfl rfl rfl rfl rfl) ?_ | refine J.c0 rfl (C.stA (i := 8) (vs := [_, _, _, _, _, _, _]) Try.sizeOf52 rfl rfl rfl rfl rfl rfl) ?_ | refine J.c0 rfl (C.stA (i := 9) (vs := [_, _, _, _, _, _, _]) Try.sizeOf52 rfl rfl rfl rfl rfl rfl) ?_ | refine J.c0 rfl (C.stA (i := 10) (vs := [_, _, _, _, _, _, _]) Try.sizeOf52 rfl rfl rfl rfl rfl rfl) ?_ | refine J.c0 rfl (C.stA (i := 11) (vs := [_, _, _, _, _, _, _]) Try.sizeOf52 rfl rfl rfl rfl rfl rfl) ?_ | refine J.c0 rfl (C.stA (i := 12) (vs := [_, _, _, _, _, _, _]) Try.sizeOf52 rfl rfl rfl rfl rfl rfl) ?_ | refine J.c0 rfl (C.stA (i := 13) (vs := [_, _, _, _, _, _, _]) Try.sizeOf52 rfl rfl rfl rfl rfl rfl) ?_ | refine J.c0 rfl (C.stA (i := 14) (vs := [_, _, _, _, _, _, _]) Try.sizeOf52 rfl rfl rfl rfl rfl rfl) ?_ | refine J.c0 rfl (C.stA (i := 15) (vs := [_, _, _, _, _, _, _]) Try.sizeOf52 rfl rfl rfl rfl rfl rfl) ?_
                      rintro _ _ ⟨rfl, rfl⟩
                      refine J.q rfl rfl (Q.asg rfl) ?_
                      refine J.nil ?_
                      refine J.then_n ?_
                      refine J.cret ?_
                      refine J.blk_r ?_
                      refine J.then_r ?_
                      refine J.retC2 [1] (vs := [_, _, _, _, _, _, _]) rfl rfl rfl Try.isAgg52 Try.sizeOf52 (ReadsN.pt 0 rfl) rfl (B := []) ⟨?_, rfl⟩
                      simp [fieldsM, HM.cells, *] <;> (repeat' apply And.intro) <;> rfl
                    ·
                      first | replace hc26 := X.tt_dec hc26 | replace hc26 := X.tt_not hc26 | replace hc26 := X.ff_dec hc26 | replace hc26 := X.ff_not hc26 | skip
                      refine J.cond_f rfl ?_
                      refine J.cskip ?_
                      refine J.blk_n ?_
                      refine J.then_n ?_
                      refine J.seq ?_
                      refine J.region ?_
                      refine J.q rfl rfl (Q.bld (l := [_, _, _, _, _, _, _]) Try.runUnderlying52 Try.zeroValue52 Try.places52 rfl rfl) ?_
                      first | refine J.c0 rfl (C.stA (i := 0) (vs := [_, _, _, _, _, _, _]) Try.sizeOf52 rfl rfl rfl rfl rfl rfl) ?_ | refine J.c0 rfl (C.stA (i := 1) (vs := [_, _, _, _, _, _, _]) Try.sizeOf52 rfl rfl rfl rfl rfl rfl) ?_ | refine J.c0 rfl (C.stA (i := 2) (vs := [_, _, _, _, _, _, _]) Try.sizeOf52 rfl rfl rfl rfl rfl rfl) ?_ | refine J.c0 rfl (C.stA (i := 3) (vs := [_, _, _, _, _, _, _]) Try.sizeOf52 rfl rfl rfl rfl rfl rfl) ?_ | refine J.c0 rfl (C.stA (i := 4) (vs := [_, _, _, _, _, _, _]) Try.sizeOf52 rfl rfl rfl rfl rfl rfl) ?_ | refine J.c0 rfl (C.stA (i := 5) (vs := [_, _, _, _, _, _, _]) Try.sizeOf52 rfl rfl rfl rfl rfl rfl) ?_ | refine J.c0 rfl (C.stA (i := 6) (vs := [_, _, _, _, _, _, _]) Try.sizeOf52 rfl rfl rfl rfl rfl rfl) ?_ | refine J.c0 rfl (C.stA (i := 7) (vs := [_, _, _, _, _, _, _]) Try.sizeOf52 rfl rfl rfl rfl rfl rfl) ?_ | refine J.c0 rfl (C.stA (i := 8) (vs := [_, _, _, _, _, _, _]) Try.sizeOf52 rfl rfl rfl rfl rfl rfl) ?_ | refine J.c0 rfl (C.stA (i := 9) (vs := [_, _, _, _, _, _, _]) Try.sizeOf52 rfl rfl rfl rfl rfl rfl) ?_ | refine J.c0 rfl (C.stA (i := 10) (vs := [_, _, _, _, _, _, _]) Try.sizeOf52 rfl rfl rfl rfl rfl rfl) ?_ | refine J.c0 rfl (C.stA (i := 11) (vs := [_, _, _, _, _, _, _]) Try.sizeOf52 rfl rfl rfl rfl rfl rfl) ?_ | refine J.c0 rfl (C.stA (i := 12) (vs := [_, _, _, _, _, _, _]) Try.sizeOf52 rfl rfl rfl rfl rfl rfl) ?_ | refine J.c0 rfl (C.stA (i := 13) (vs := [_, _, _, _, _, _, _]) Try.sizeOf52 rfl rfl rfl rfl rfl rfl) ?_ | refine J.c0 rfl (C.stA (i := 14) (vs := [_, _, _, _, _, _, _]) Try.sizeOf52 rfl rfl rfl rfl rfl rfl) ?_ | refine J.c0 rfl (C.stA (i := 15) (vs := [_, _, _, _, _, _, _]) Try.sizeOf52 rfl rfl rfl rfl rfl rfl) ?_
                      rintro _ _ ⟨rfl, rfl⟩
                      refine J.q rfl rfl (Q.asg rfl) ?_
                      refine J.nil ?_
                      refine J.then_n ?_
                      refine J.cret ?_
                      refine J.retC2 [1] (vs := [_, _, _, _, _, _, _]) rfl rfl rfl Try.isAgg52 Try.sizeOf52 (ReadsN.pt 0 rfl) rfl (B := []) ⟨?_, rfl⟩
                      simp [fieldsM, HM.cells, *] <;> (repeat' apply And.intro) <;> rfl

def emp (s : ByteArray) : Bool := decide (s.data.toList = [])
def OM.r0 (o : OM) (f : HM) (is : Bool) : Bool := is && (f.bucket && nameOK o.bucket.data.toList || !f.bucket && emp o.bucket)
def OM.r1 (o : OM) (f : HM) (r : Bool) : Bool := r && (if f.key then longB o.key.size 1 1024 else if f.list then longB o.key.size 0 1024 else emp o.key)
def OM.r2 (o : OM) (f : HM) (r : Bool) : Bool := r && (if f.list then longB o.after.size 0 1024 && decide (1 ≤ o.n) && decide (o.n ≤ 1000) else if f.n then emp o.after && decide (1 ≤ o.n) && decide (o.n ≤ 10000) else emp o.after && decide (o.n = 0))
def OM.r3 (o : OM) (f : HM) (r : Bool) : Bool := r && (f.upload || decide (o.upload = 0)) && (f.parts && partsOK o.parts || !f.parts && decide (o.parts.length = 0))
def OM.r4 (o : OM) (f : HM) (r : Bool) : Bool := r && !(f.data && decide (16777216 < o.data.length)) && !(!f.data && decide (0 < o.data.length))
/-- Is an op right? As the program asks. -/
def OM.chkB (o : OM) : Bool := o.r4 (fieldsM o.kind).1 (o.r3 (fieldsM o.kind).1 (o.r2 (fieldsM o.kind).1 (o.r1 (fieldsM o.kind).1 (o.r0 (fieldsM o.kind).1 (fieldsM o.kind).2))))

theorem check_spec (G : Assn) (x : OW) (hx : x.ok G) : FSpec Try.prog 7 [.agg x.cells.toArray] [G] (fun v B => v = .int .i64 (if x.o.chkB then 0 else 1) ∧ B = [G]) := by
  have hsm := hx.small
  refine FSpec.of Try.func7 rfl Try.ntmps7 rfl fun W0 F => ?_
  refine J.seq ?_
  refine J.region ?_
  refine J.c rfl rfl (C.box (l := [_, _, _, _, _, _, _, _, _]) rfl rfl) ?_
  rintro _ _ ⟨b1, rfl, rfl⟩
  refine J.norm rfl ?_
  refine J.q rfl rfl (Q.asg rfl) ?_
  refine J.nil ?_
  refine J.then_n ?_
  refine J.seq ?_
  refine J.region ?_
  refine J.q rfl rfl (Q.fa (n := 1) Try.runUnderlying26 rfl rfl Try.sizeOf3 rfl) ?_
  refine J.q rfl rfl (Q.ld Try.isAgg3 rfl (by first | exact Reads.pt 0 rfl rfl | exact Reads.pt 1 rfl rfl | exact Reads.pt 2 rfl rfl | exact Reads.pt 3 rfl rfl | exact Reads.pt 4 rfl rfl | exact Reads.pt 5 rfl rfl | exact Reads.pt 6 rfl rfl | exact Reads.pt 7 rfl rfl | exact Reads.pt 8 rfl rfl | exact Reads.pt 9 rfl rfl | exact Reads.pt 10 rfl rfl | exact Reads.pt 11 rfl rfl | exact Reads.pt 12 rfl rfl | exact Reads.pt 13 rfl rfl)) ?_
  refine J.call Try.call17 (fields_spec x.o.kind) [] rfl rfl rfl rfl ?_
  rintro _ _ ⟨rfl, rfl⟩
  refine J.norm rfl ?_
  obtain ⟨f, hf⟩ : ∃ f, f = (fieldsM x.o.kind).1 := ⟨_, rfl⟩
  obtain ⟨is, his⟩ : ∃ is, is = (fieldsM x.o.kind).2 := ⟨_, rfl⟩
  rw [← hf, ← his]
  refine J.q rfl rfl (Q.mv rfl) ?_
  refine J.q rfl rfl (Q.ext rfl rfl) ?_
  refine J.q rfl rfl (Q.ext rfl rfl) ?_
  refine J.c rfl rfl (C.alloc (l := [_, _, _, _, _, _, _]) Try.zeroValue52 rfl) ?_
  rintro _ _ ⟨b3, rfl, rfl⟩
  refine J.norm rfl ?_
  first | refine J.c0 rfl (C.stA (i := 0) (vs := [_, _, _, _, _, _, _]) Try.sizeOf52 rfl rfl rfl rfl rfl rfl) ?_ | refine J.c0 rfl (C.stA (i := 1) (vs := [_, _, _, _, _, _, _]) Try.sizeOf52 rfl rfl rfl rfl rfl rfl) ?_ | refine J.c0 rfl (C.stA (i := 2) (vs := [_, _, _, _, _, _, _]) Try.sizeOf52 rfl rfl rfl rfl rfl rfl) ?_ | refine J.c0 rfl (C.stA (i := 3) (vs := [_, _, _, _, _, _, _]) Try.sizeOf52 rfl rfl rfl rfl rfl rfl) ?_ | refine J.c0 rfl (C.stA (i := 4) (vs := [_, _, _, _, _, _, _]) Try.sizeOf52 rfl rfl rfl rfl rfl rfl) ?_ | refine J.c0 rfl (C.stA (i := 5) (vs := [_, _, _, _, _, _, _]) Try.sizeOf52 rfl rfl rfl rfl rfl rfl) ?_ | refine J.c0 rfl (C.stA (i := 6) (vs := [_, _, _, _, _, _, _]) Try.sizeOf52 rfl rfl rfl rfl rfl rfl) ?_ | refine J.c0 rfl (C.stA (i := 7) (vs := [_, _, _, _, _, _, _]) Try.sizeOf52 rfl rfl rfl rfl rfl rfl) ?_ | refine J.c0 rfl (C.stA (i := 8) (vs := [_, _, _, _, _, _, _]) Try.sizeOf52 rfl rfl rfl rfl rfl rfl) ?_ | refine J.c0 rfl (C.stA (i := 9) (vs := [_, _, _, _, _, _, _]) Try.sizeOf52 rfl rfl rfl rfl rfl rfl) ?_ | refine J.c0 rfl (C.stA (i := 10) (vs := [_, _, _, _, _, _, _]) Try.sizeOf52 rfl rfl rfl rfl rfl rfl) ?_ | refine J.c0 rfl (C.stA (i := 11) (vs := [_, _, _, _, _, _, _]) Try.sizeOf52 rfl rfl rfl rfl rfl rfl) ?_ | refine J.c0 rfl (C.stA (i := 12) (vs := [_, _, _, _, _, _, _]) Try.sizeOf52 rfl rfl rfl rfl rfl rfl) ?_ | refine J.c0 rfl (C.stA (i := 13) (vs := [_, _, _, _, _, _, _]) Try.sizeOf52 rfl rfl rfl rfl rfl rfl) ?_ | refine J.c0 rfl (C.stA (i := 14) (vs := [_, _, _, _, _, _, _]) Try.sizeOf52 rfl rfl rfl rfl rfl rfl) ?_ | refine J.c0 rfl (C.stA (i := 15) (vs := [_, _, _, _, _, _, _]) Try.sizeOf52 rfl rfl rfl rfl rfl rfl) ?_
  rintro _ _ ⟨rfl, rfl⟩
  refine J.q rfl rfl (Q.asg rfl) ?_
  refine J.nil ?_
  refine J.then_n ?_
  refine J.cut (fun r : Bool => r = x.o.r0 f is) (fun r => [(1, .pointer (some ⟨b1, 0, none⟩)), (3, .pointer (some ⟨b3, 0, none⟩)), (5, .bool r)]) (fun _ => [pt b3 (.cells f.cells.toArray 52 (0, 0)), pt b1 (.cells x.cells.toArray 26 (0, 0)), G, F]) ?_ fun r hr0 => ?_
  ·
    refine J.region ?_
    refine J.q rfl rfl (Q.mv rfl) ?_
    refine J.q rfl rfl (Q.mv rfl) ?_
    refine J.cases 13 rfl (fun hb13 => ?_) (fun hb13 => ?_)
    ·
      first | replace hb13 := X.tt_dec hb13 | replace hb13 := X.tt_not hb13 | replace hb13 := X.ff_dec hb13 | replace hb13 := X.ff_not hb13 | skip
      refine J.q rfl rfl (Q.fa (n := 0) Try.runUnderlying52 rfl rfl Try.sizeOf4 rfl) ?_
      refine J.q rfl rfl (Q.ld Try.isAgg4 rfl (by first | exact Reads.pt 0 rfl rfl | exact Reads.pt 1 rfl rfl | exact Reads.pt 2 rfl rfl | exact Reads.pt 3 rfl rfl | exact Reads.pt 4 rfl rfl | exact Reads.pt 5 rfl rfl | exact Reads.pt 6 rfl rfl | exact Reads.pt 7 rfl rfl | exact Reads.pt 8 rfl rfl | exact Reads.pt 9 rfl rfl | exact Reads.pt 10 rfl rfl | exact Reads.pt 11 rfl rfl | exact Reads.pt 12 rfl rfl | exact Reads.pt 13 rfl rfl)) ?_
      refine J.q rfl rfl (Q.mv rfl) ?_
      refine J.cases 16 rfl (fun hb16 => ?_) (fun hb16 => ?_)
      ·
        first | replace hb16 := X.tt_dec hb16 | replace hb16 := X.tt_not hb16 | replace hb16 := X.ff_dec hb16 | replace hb16 := X.ff_not hb16 | skip
        refine J.q rfl rfl (Q.fa (n := 2) Try.runUnderlying26 rfl rfl Try.sizeOf9 rfl) ?_
        refine J.q rfl rfl (Q.ld Try.isAgg9 rfl (by first | exact Reads.pt 0 rfl rfl | exact Reads.pt 1 rfl rfl | exact Reads.pt 2 rfl rfl | exact Reads.pt 3 rfl rfl | exact Reads.pt 4 rfl rfl | exact Reads.pt 5 rfl rfl | exact Reads.pt 6 rfl rfl | exact Reads.pt 7 rfl rfl | exact Reads.pt 8 rfl rfl | exact Reads.pt 9 rfl rfl | exact Reads.pt 10 rfl rfl | exact Reads.pt 11 rfl rfl | exact Reads.pt 12 rfl rfl | exact Reads.pt 13 rfl rfl)) ?_
        refine J.call Try.call18 (named_spec x.o.bucket (by omega)) [] rfl rfl rfl rfl ?_
        rintro _ _ ⟨rfl, rfl⟩
        refine J.norm rfl ?_
        refine J.q rfl rfl (Q.pick_t rfl rfl) ?_
        refine J.q rfl rfl (Q.mv rfl) ?_
        refine J.cases 21 rfl (fun hb21 => ?_) (fun hb21 => ?_)
        ·
          first | replace hb21 := X.tt_dec hb21 | replace hb21 := X.tt_not hb21 | replace hb21 := X.ff_dec hb21 | replace hb21 := X.ff_not hb21 | skip
          refine J.skip rfl rfl ?_
          refine J.skip rfl rfl ?_
          refine J.skip rfl rfl ?_
          refine J.skip rfl rfl ?_
          refine J.skip rfl rfl ?_
          refine J.skip rfl rfl ?_
          refine J.skip rfl rfl ?_
          refine J.skip rfl rfl ?_
          refine J.q rfl rfl (Q.pick_t rfl rfl) ?_
          refine J.q rfl rfl (Q.pick_t rfl rfl) ?_
          refine J.q rfl rfl (Q.asg rfl) ?_
          refine J.nil ?_
          refine J.meet _ ?_ ⟨rfl, rfl, rfl, trivial⟩ rfl
          clear hf his
          simp_all [OM.r0, emp, longB] <;> omega
        ·
          first | replace hb21 := X.tt_dec hb21 | replace hb21 := X.tt_not hb21 | replace hb21 := X.ff_dec hb21 | replace hb21 := X.ff_not hb21 | skip
          refine J.q rfl rfl (Q.fa (n := 0) Try.runUnderlying52 rfl rfl Try.sizeOf4 rfl) ?_
          refine J.q rfl rfl (Q.ld Try.isAgg4 rfl (by first | exact Reads.pt 0 rfl rfl | exact Reads.pt 1 rfl rfl | exact Reads.pt 2 rfl rfl | exact Reads.pt 3 rfl rfl | exact Reads.pt 4 rfl rfl | exact Reads.pt 5 rfl rfl | exact Reads.pt 6 rfl rfl | exact Reads.pt 7 rfl rfl | exact Reads.pt 8 rfl rfl | exact Reads.pt 9 rfl rfl | exact Reads.pt 10 rfl rfl | exact Reads.pt 11 rfl rfl | exact Reads.pt 12 rfl rfl | exact Reads.pt 13 rfl rfl)) ?_
          refine J.q rfl rfl (Q.not rfl) ?_
          refine J.q rfl rfl (Q.mv rfl) ?_
          refine J.cases 25 rfl (fun hb25 => ?_) (fun hb25 => ?_)
          ·
            first | replace hb25 := X.tt_dec hb25 | replace hb25 := X.tt_not hb25 | replace hb25 := X.ff_dec hb25 | replace hb25 := X.ff_not hb25 | skip
            refine J.q rfl rfl (Q.fa (n := 2) Try.runUnderlying26 rfl rfl Try.sizeOf9 rfl) ?_
            refine J.q rfl rfl (Q.ld Try.isAgg9 rfl (by first | exact Reads.pt 0 rfl rfl | exact Reads.pt 1 rfl rfl | exact Reads.pt 2 rfl rfl | exact Reads.pt 3 rfl rfl | exact Reads.pt 4 rfl rfl | exact Reads.pt 5 rfl rfl | exact Reads.pt 6 rfl rfl | exact Reads.pt 7 rfl rfl | exact Reads.pt 8 rfl rfl | exact Reads.pt 9 rfl rfl | exact Reads.pt 10 rfl rfl | exact Reads.pt 11 rfl rfl | exact Reads.pt 12 rfl rfl | exact Reads.pt 13 rfl rfl)) ?_
            refine J.q rfl rfl (Q.eqls rfl rfl) ?_
            refine J.q rfl rfl (Q.pick_t rfl rfl) ?_
            refine J.q rfl rfl (Q.pick_f rfl rfl) ?_
            refine J.q rfl rfl (Q.pick_t rfl rfl) ?_
            refine J.q rfl rfl (Q.asg rfl) ?_
            refine J.nil ?_
            refine J.meet _ ?_ ⟨rfl, rfl, rfl, trivial⟩ rfl
            clear hf his
            simp_all [OM.r0, emp, longB] <;> omega
          ·
            first | replace hb25 := X.tt_dec hb25 | replace hb25 := X.tt_not hb25 | replace hb25 := X.ff_dec hb25 | replace hb25 := X.ff_not hb25 | skip
            refine J.skip rfl rfl ?_
            refine J.skip rfl rfl ?_
            refine J.skip rfl rfl ?_
            refine J.q rfl rfl (Q.pick_f rfl rfl) ?_
            refine J.q rfl rfl (Q.pick_f rfl rfl) ?_
            refine J.q rfl rfl (Q.pick_t rfl rfl) ?_
            refine J.q rfl rfl (Q.asg rfl) ?_
            refine J.nil ?_
            refine J.meet _ ?_ ⟨rfl, rfl, rfl, trivial⟩ rfl
            clear hf his
            simp_all [OM.r0, emp, longB] <;> omega
      ·
        first | replace hb16 := X.tt_dec hb16 | replace hb16 := X.tt_not hb16 | replace hb16 := X.ff_dec hb16 | replace hb16 := X.ff_not hb16 | skip
        refine J.skip rfl rfl ?_
        refine J.skip rfl rfl ?_
        refine J.skip rfl rfl ?_
        refine J.q rfl rfl (Q.pick_f rfl rfl) ?_
        refine J.q rfl rfl (Q.mv rfl) ?_
        refine J.q rfl rfl (Q.fa (n := 0) Try.runUnderlying52 rfl rfl Try.sizeOf4 rfl) ?_
        refine J.q rfl rfl (Q.ld Try.isAgg4 rfl (by first | exact Reads.pt 0 rfl rfl | exact Reads.pt 1 rfl rfl | exact Reads.pt 2 rfl rfl | exact Reads.pt 3 rfl rfl | exact Reads.pt 4 rfl rfl | exact Reads.pt 5 rfl rfl | exact Reads.pt 6 rfl rfl | exact Reads.pt 7 rfl rfl | exact Reads.pt 8 rfl rfl | exact Reads.pt 9 rfl rfl | exact Reads.pt 10 rfl rfl | exact Reads.pt 11 rfl rfl | exact Reads.pt 12 rfl rfl | exact Reads.pt 13 rfl rfl)) ?_
        refine J.q rfl rfl (Q.not rfl) ?_
        refine J.q rfl rfl (Q.mv rfl) ?_
        refine J.cases 25 rfl (fun hb25 => ?_) (fun hb25 => ?_)
        ·
          first | replace hb25 := X.tt_dec hb25 | replace hb25 := X.tt_not hb25 | replace hb25 := X.ff_dec hb25 | replace hb25 := X.ff_not hb25 | skip
          refine J.q rfl rfl (Q.fa (n := 2) Try.runUnderlying26 rfl rfl Try.sizeOf9 rfl) ?_
          refine J.q rfl rfl (Q.ld Try.isAgg9 rfl (by first | exact Reads.pt 0 rfl rfl | exact Reads.pt 1 rfl rfl | exact Reads.pt 2 rfl rfl | exact Reads.pt 3 rfl rfl | exact Reads.pt 4 rfl rfl | exact Reads.pt 5 rfl rfl | exact Reads.pt 6 rfl rfl | exact Reads.pt 7 rfl rfl | exact Reads.pt 8 rfl rfl | exact Reads.pt 9 rfl rfl | exact Reads.pt 10 rfl rfl | exact Reads.pt 11 rfl rfl | exact Reads.pt 12 rfl rfl | exact Reads.pt 13 rfl rfl)) ?_
          refine J.q rfl rfl (Q.eqls rfl rfl) ?_
          refine J.q rfl rfl (Q.pick_t rfl rfl) ?_
          refine J.q rfl rfl (Q.pick_f rfl rfl) ?_
          refine J.q rfl rfl (Q.pick_t rfl rfl) ?_
          refine J.q rfl rfl (Q.asg rfl) ?_
          refine J.nil ?_
          refine J.meet _ ?_ ⟨rfl, rfl, rfl, trivial⟩ rfl
          clear hf his
          simp_all [OM.r0, emp, longB] <;> omega
        ·
          first | replace hb25 := X.tt_dec hb25 | replace hb25 := X.tt_not hb25 | replace hb25 := X.ff_dec hb25 | replace hb25 := X.ff_not hb25 | skip
          refine J.skip rfl rfl ?_
          refine J.skip rfl rfl ?_
          refine J.skip rfl rfl ?_
          refine J.q rfl rfl (Q.pick_f rfl rfl) ?_
          refine J.q rfl rfl (Q.pick_f rfl rfl) ?_
          refine J.q rfl rfl (Q.pick_t rfl rfl) ?_
          refine J.q rfl rfl (Q.asg rfl) ?_
          refine J.nil ?_
          refine J.meet _ ?_ ⟨rfl, rfl, rfl, trivial⟩ rfl
          clear hf his
          simp_all [OM.r0, emp, longB] <;> omega
    ·
      first | replace hb13 := X.tt_dec hb13 | replace hb13 := X.tt_not hb13 | replace hb13 := X.ff_dec hb13 | replace hb13 := X.ff_not hb13 | skip
      refine J.skip rfl rfl ?_
      refine J.skip rfl rfl ?_
      refine J.skip rfl rfl ?_
      refine J.skip rfl rfl ?_
      refine J.skip rfl rfl ?_
      refine J.skip rfl rfl ?_
      refine J.skip rfl rfl ?_
      refine J.skip rfl rfl ?_
      refine J.skip rfl rfl ?_
      refine J.skip rfl rfl ?_
      refine J.skip rfl rfl ?_
      refine J.skip rfl rfl ?_
      refine J.skip rfl rfl ?_
      refine J.skip rfl rfl ?_
      refine J.skip rfl rfl ?_
      refine J.skip rfl rfl ?_
      refine J.skip rfl rfl ?_
      refine J.q rfl rfl (Q.pick_f rfl rfl) ?_
      refine J.q rfl rfl (Q.asg rfl) ?_
      refine J.nil ?_
      refine J.meet _ ?_ ⟨rfl, rfl, rfl, trivial⟩ rfl
      clear hf his
      simp_all [OM.r0, emp, longB] <;> omega
  ·
    refine J.cut (fun q : Bool => q = x.o.r1 f r) (fun r => [(1, .pointer (some ⟨b1, 0, none⟩)), (3, .pointer (some ⟨b3, 0, none⟩)), (5, .bool r)]) (fun _ => [pt b3 (.cells f.cells.toArray 52 (0, 0)), pt b1 (.cells x.cells.toArray 26 (0, 0)), G, F]) ?_ fun q hr1 => ?_
    ·
      refine J.block ?_
      refine J.seq ?_
      refine J.region ?_
      refine J.q rfl rfl (Q.fa (n := 1) Try.runUnderlying52 rfl rfl Try.sizeOf4 rfl) ?_
      refine J.q rfl rfl (Q.ld Try.isAgg4 rfl (by first | exact Reads.pt 0 rfl rfl | exact Reads.pt 1 rfl rfl | exact Reads.pt 2 rfl rfl | exact Reads.pt 3 rfl rfl | exact Reads.pt 4 rfl rfl | exact Reads.pt 5 rfl rfl | exact Reads.pt 6 rfl rfl | exact Reads.pt 7 rfl rfl | exact Reads.pt 8 rfl rfl | exact Reads.pt 9 rfl rfl | exact Reads.pt 10 rfl rfl | exact Reads.pt 11 rfl rfl | exact Reads.pt 12 rfl rfl | exact Reads.pt 13 rfl rfl)) ?_
      refine J.q rfl rfl (Q.asg rfl) ?_
      refine J.nil ?_
      refine J.then_n ?_
      refine J.cases 38 rfl (fun hc38 => ?_) (fun hc38 => ?_)
      ·
        first | replace hc38 := X.tt_dec hc38 | replace hc38 := X.tt_not hc38 | replace hc38 := X.ff_dec hc38 | replace hc38 := X.ff_not hc38 | skip
        refine J.cond_t rfl ?_
        refine J.region ?_
        refine J.q rfl rfl (Q.mv rfl) ?_
        refine J.q rfl rfl (Q.mv rfl) ?_
        refine J.cases 42 rfl (fun hb42 => ?_) (fun hb42 => ?_)
        ·
          first | replace hb42 := X.tt_dec hb42 | replace hb42 := X.tt_not hb42 | replace hb42 := X.ff_dec hb42 | replace hb42 := X.ff_not hb42 | skip
          refine J.q rfl rfl (Q.fa (n := 3) Try.runUnderlying26 rfl rfl Try.sizeOf9 rfl) ?_
          refine J.q rfl rfl (Q.ld Try.isAgg9 rfl (by first | exact Reads.pt 0 rfl rfl | exact Reads.pt 1 rfl rfl | exact Reads.pt 2 rfl rfl | exact Reads.pt 3 rfl rfl | exact Reads.pt 4 rfl rfl | exact Reads.pt 5 rfl rfl | exact Reads.pt 6 rfl rfl | exact Reads.pt 7 rfl rfl | exact Reads.pt 8 rfl rfl | exact Reads.pt 9 rfl rfl | exact Reads.pt 10 rfl rfl | exact Reads.pt 11 rfl rfl | exact Reads.pt 12 rfl rfl | exact Reads.pt 13 rfl rfl)) ?_
          refine J.call Try.call19 (long_spec x.o.key 1 1024) [] rfl rfl rfl rfl ?_
          rintro _ _ ⟨rfl, rfl⟩
          refine J.norm rfl ?_
          refine J.q rfl rfl (Q.pick_t rfl rfl) ?_
          refine J.q rfl rfl (Q.asg rfl) ?_
          refine J.nil ?_
          refine J.blk_n ?_
          refine J.meet _ ?_ ⟨rfl, rfl, rfl, trivial⟩ rfl
          clear hf his hr0
          simp_all [OM.r1, emp, longB] <;> omega
        ·
          first | replace hb42 := X.tt_dec hb42 | replace hb42 := X.tt_not hb42 | replace hb42 := X.ff_dec hb42 | replace hb42 := X.ff_not hb42 | skip
          refine J.skip rfl rfl ?_
          refine J.skip rfl rfl ?_
          refine J.skip rfl rfl ?_
          refine J.q rfl rfl (Q.pick_f rfl rfl) ?_
          refine J.q rfl rfl (Q.asg rfl) ?_
          refine J.nil ?_
          refine J.blk_n ?_
          refine J.meet _ ?_ ⟨rfl, rfl, rfl, trivial⟩ rfl
          clear hf his hr0
          simp_all [OM.r1, emp, longB] <;> omega
      ·
        first | replace hc38 := X.tt_dec hc38 | replace hc38 := X.tt_not hc38 | replace hc38 := X.ff_dec hc38 | replace hc38 := X.ff_not hc38 | skip
        refine J.cond_f rfl ?_
        refine J.seq ?_
        refine J.region ?_
        refine J.q rfl rfl (Q.fa (n := 2) Try.runUnderlying52 rfl rfl Try.sizeOf4 rfl) ?_
        refine J.q rfl rfl (Q.ld Try.isAgg4 rfl (by first | exact Reads.pt 0 rfl rfl | exact Reads.pt 1 rfl rfl | exact Reads.pt 2 rfl rfl | exact Reads.pt 3 rfl rfl | exact Reads.pt 4 rfl rfl | exact Reads.pt 5 rfl rfl | exact Reads.pt 6 rfl rfl | exact Reads.pt 7 rfl rfl | exact Reads.pt 8 rfl rfl | exact Reads.pt 9 rfl rfl | exact Reads.pt 10 rfl rfl | exact Reads.pt 11 rfl rfl | exact Reads.pt 12 rfl rfl | exact Reads.pt 13 rfl rfl)) ?_
        refine J.q rfl rfl (Q.asg rfl) ?_
        refine J.nil ?_
        refine J.then_n ?_
        refine J.cases 47 rfl (fun hc47 => ?_) (fun hc47 => ?_)
        ·
          first | replace hc47 := X.tt_dec hc47 | replace hc47 := X.tt_not hc47 | replace hc47 := X.ff_dec hc47 | replace hc47 := X.ff_not hc47 | skip
          refine J.cond_t rfl ?_
          refine J.region ?_
          refine J.q rfl rfl (Q.mv rfl) ?_
          refine J.q rfl rfl (Q.mv rfl) ?_
          refine J.cases 51 rfl (fun hb51 => ?_) (fun hb51 => ?_)
          ·
            first | replace hb51 := X.tt_dec hb51 | replace hb51 := X.tt_not hb51 | replace hb51 := X.ff_dec hb51 | replace hb51 := X.ff_not hb51 | skip
            refine J.q rfl rfl (Q.fa (n := 3) Try.runUnderlying26 rfl rfl Try.sizeOf9 rfl) ?_
            refine J.q rfl rfl (Q.ld Try.isAgg9 rfl (by first | exact Reads.pt 0 rfl rfl | exact Reads.pt 1 rfl rfl | exact Reads.pt 2 rfl rfl | exact Reads.pt 3 rfl rfl | exact Reads.pt 4 rfl rfl | exact Reads.pt 5 rfl rfl | exact Reads.pt 6 rfl rfl | exact Reads.pt 7 rfl rfl | exact Reads.pt 8 rfl rfl | exact Reads.pt 9 rfl rfl | exact Reads.pt 10 rfl rfl | exact Reads.pt 11 rfl rfl | exact Reads.pt 12 rfl rfl | exact Reads.pt 13 rfl rfl)) ?_
            refine J.call Try.call19 (long_spec x.o.key 0 1024) [] rfl rfl rfl rfl ?_
            rintro _ _ ⟨rfl, rfl⟩
            refine J.norm rfl ?_
            refine J.q rfl rfl (Q.pick_t rfl rfl) ?_
            refine J.q rfl rfl (Q.asg rfl) ?_
            refine J.nil ?_
            refine J.blk_n ?_
            refine J.meet _ ?_ ⟨rfl, rfl, rfl, trivial⟩ rfl
            clear hf his hr0
            simp_all [OM.r1, emp, longB] <;> omega
          ·
            first | replace hb51 := X.tt_dec hb51 | replace hb51 := X.tt_not hb51 | replace hb51 := X.ff_dec hb51 | replace hb51 := X.ff_not hb51 | skip
            refine J.skip rfl rfl ?_
            refine J.skip rfl rfl ?_
            refine J.skip rfl rfl ?_
            refine J.q rfl rfl (Q.pick_f rfl rfl) ?_
            refine J.q rfl rfl (Q.asg rfl) ?_
            refine J.nil ?_
            refine J.blk_n ?_
            refine J.meet _ ?_ ⟨rfl, rfl, rfl, trivial⟩ rfl
            clear hf his hr0
            simp_all [OM.r1, emp, longB] <;> omega
        ·
          first | replace hc47 := X.tt_dec hc47 | replace hc47 := X.tt_not hc47 | replace hc47 := X.ff_dec hc47 | replace hc47 := X.ff_not hc47 | skip
          refine J.cond_f rfl ?_
          refine J.region ?_
          refine J.q rfl rfl (Q.mv rfl) ?_
          refine J.q rfl rfl (Q.mv rfl) ?_
          refine J.cases 33 rfl (fun hb33 => ?_) (fun hb33 => ?_)
          ·
            first | replace hb33 := X.tt_dec hb33 | replace hb33 := X.tt_not hb33 | replace hb33 := X.ff_dec hb33 | replace hb33 := X.ff_not hb33 | skip
            refine J.q rfl rfl (Q.fa (n := 3) Try.runUnderlying26 rfl rfl Try.sizeOf9 rfl) ?_
            refine J.q rfl rfl (Q.ld Try.isAgg9 rfl (by first | exact Reads.pt 0 rfl rfl | exact Reads.pt 1 rfl rfl | exact Reads.pt 2 rfl rfl | exact Reads.pt 3 rfl rfl | exact Reads.pt 4 rfl rfl | exact Reads.pt 5 rfl rfl | exact Reads.pt 6 rfl rfl | exact Reads.pt 7 rfl rfl | exact Reads.pt 8 rfl rfl | exact Reads.pt 9 rfl rfl | exact Reads.pt 10 rfl rfl | exact Reads.pt 11 rfl rfl | exact Reads.pt 12 rfl rfl | exact Reads.pt 13 rfl rfl)) ?_
            refine J.q rfl rfl (Q.eqls rfl rfl) ?_
            refine J.q rfl rfl (Q.pick_t rfl rfl) ?_
            refine J.q rfl rfl (Q.asg rfl) ?_
            refine J.nil ?_
            refine J.blk_n ?_
            refine J.meet _ ?_ ⟨rfl, rfl, rfl, trivial⟩ rfl
            clear hf his hr0
            simp_all [OM.r1, emp, longB] <;> omega
          ·
            first | replace hb33 := X.tt_dec hb33 | replace hb33 := X.tt_not hb33 | replace hb33 := X.ff_dec hb33 | replace hb33 := X.ff_not hb33 | skip
            refine J.skip rfl rfl ?_
            refine J.skip rfl rfl ?_
            refine J.skip rfl rfl ?_
            refine J.q rfl rfl (Q.pick_f rfl rfl) ?_
            refine J.q rfl rfl (Q.asg rfl) ?_
            refine J.nil ?_
            refine J.blk_n ?_
            refine J.meet _ ?_ ⟨rfl, rfl, rfl, trivial⟩ rfl
            clear hf his hr0
            simp_all [OM.r1, emp, longB] <;> omega
    ·
      refine J.cut (fun p : Bool => p = x.o.r2 f q) (fun r => [(1, .pointer (some ⟨b1, 0, none⟩)), (3, .pointer (some ⟨b3, 0, none⟩)), (5, .bool r)]) (fun _ => [pt b3 (.cells f.cells.toArray 52 (0, 0)), pt b1 (.cells x.cells.toArray 26 (0, 0)), G, F]) ?_ fun p hr2 => ?_
      ·
        refine J.block ?_
        refine J.seq ?_
        refine J.region ?_
        refine J.q rfl rfl (Q.fa (n := 2) Try.runUnderlying52 rfl rfl Try.sizeOf4 rfl) ?_
        refine J.q rfl rfl (Q.ld Try.isAgg4 rfl (by first | exact Reads.pt 0 rfl rfl | exact Reads.pt 1 rfl rfl | exact Reads.pt 2 rfl rfl | exact Reads.pt 3 rfl rfl | exact Reads.pt 4 rfl rfl | exact Reads.pt 5 rfl rfl | exact Reads.pt 6 rfl rfl | exact Reads.pt 7 rfl rfl | exact Reads.pt 8 rfl rfl | exact Reads.pt 9 rfl rfl | exact Reads.pt 10 rfl rfl | exact Reads.pt 11 rfl rfl | exact Reads.pt 12 rfl rfl | exact Reads.pt 13 rfl rfl)) ?_
        refine J.q rfl rfl (Q.asg rfl) ?_
        refine J.nil ?_
        refine J.then_n ?_
        refine J.cases 67 rfl (fun hc67 => ?_) (fun hc67 => ?_)
        ·
          first | replace hc67 := X.tt_dec hc67 | replace hc67 := X.tt_not hc67 | replace hc67 := X.ff_dec hc67 | replace hc67 := X.ff_not hc67 | skip
          refine J.cond_t rfl ?_
          refine J.region ?_
          refine J.q rfl rfl (Q.mv rfl) ?_
          refine J.q rfl rfl (Q.mv rfl) ?_
          refine J.cases 71 rfl (fun hb71 => ?_) (fun hb71 => ?_)
          ·
            first | replace hb71 := X.tt_dec hb71 | replace hb71 := X.tt_not hb71 | replace hb71 := X.ff_dec hb71 | replace hb71 := X.ff_not hb71 | skip
            refine J.q rfl rfl (Q.fa (n := 4) Try.runUnderlying26 rfl rfl Try.sizeOf9 rfl) ?_
            refine J.q rfl rfl (Q.ld Try.isAgg9 rfl (by first | exact Reads.pt 0 rfl rfl | exact Reads.pt 1 rfl rfl | exact Reads.pt 2 rfl rfl | exact Reads.pt 3 rfl rfl | exact Reads.pt 4 rfl rfl | exact Reads.pt 5 rfl rfl | exact Reads.pt 6 rfl rfl | exact Reads.pt 7 rfl rfl | exact Reads.pt 8 rfl rfl | exact Reads.pt 9 rfl rfl | exact Reads.pt 10 rfl rfl | exact Reads.pt 11 rfl rfl | exact Reads.pt 12 rfl rfl | exact Reads.pt 13 rfl rfl)) ?_
            refine J.call Try.call19 (long_spec x.o.after 0 1024) [] rfl rfl rfl rfl ?_
            rintro _ _ ⟨rfl, rfl⟩
            refine J.norm rfl ?_
            refine J.q rfl rfl (Q.pick_t rfl rfl) ?_
            refine J.q rfl rfl (Q.mv rfl) ?_
            refine J.cases 76 rfl (fun hb76 => ?_) (fun hb76 => ?_)
            ·
              first | replace hb76 := X.tt_dec hb76 | replace hb76 := X.tt_not hb76 | replace hb76 := X.ff_dec hb76 | replace hb76 := X.ff_not hb76 | skip
              refine J.q rfl rfl (Q.fa (n := 5) Try.runUnderlying26 rfl rfl Try.sizeOf3 rfl) ?_
              refine J.q rfl rfl (Q.ld Try.isAgg3 rfl (by first | exact Reads.pt 0 rfl rfl | exact Reads.pt 1 rfl rfl | exact Reads.pt 2 rfl rfl | exact Reads.pt 3 rfl rfl | exact Reads.pt 4 rfl rfl | exact Reads.pt 5 rfl rfl | exact Reads.pt 6 rfl rfl | exact Reads.pt 7 rfl rfl | exact Reads.pt 8 rfl rfl | exact Reads.pt 9 rfl rfl | exact Reads.pt 10 rfl rfl | exact Reads.pt 11 rfl rfl | exact Reads.pt 12 rfl rfl | exact Reads.pt 13 rfl rfl)) ?_
              refine J.q rfl rfl (Q.geq rfl rfl) ?_
              refine J.q rfl rfl (Q.pick_t rfl rfl) ?_
              refine J.q rfl rfl (Q.mv rfl) ?_
              refine J.cases 81 rfl (fun hb81 => ?_) (fun hb81 => ?_)
              ·
                first | replace hb81 := X.tt_dec hb81 | replace hb81 := X.tt_not hb81 | replace hb81 := X.ff_dec hb81 | replace hb81 := X.ff_not hb81 | skip
                refine J.q rfl rfl (Q.fa (n := 5) Try.runUnderlying26 rfl rfl Try.sizeOf3 rfl) ?_
                refine J.q rfl rfl (Q.ld Try.isAgg3 rfl (by first | exact Reads.pt 0 rfl rfl | exact Reads.pt 1 rfl rfl | exact Reads.pt 2 rfl rfl | exact Reads.pt 3 rfl rfl | exact Reads.pt 4 rfl rfl | exact Reads.pt 5 rfl rfl | exact Reads.pt 6 rfl rfl | exact Reads.pt 7 rfl rfl | exact Reads.pt 8 rfl rfl | exact Reads.pt 9 rfl rfl | exact Reads.pt 10 rfl rfl | exact Reads.pt 11 rfl rfl | exact Reads.pt 12 rfl rfl | exact Reads.pt 13 rfl rfl)) ?_
                refine J.q rfl rfl (Q.leq rfl rfl) ?_
                refine J.q rfl rfl (Q.pick_t rfl rfl) ?_
                refine J.q rfl rfl (Q.asg rfl) ?_
                refine J.nil ?_
                refine J.blk_n ?_
                refine J.meet _ ?_ ⟨rfl, rfl, rfl, trivial⟩ rfl
                clear hf his hr0 hr1
                simp_all [OM.r2, emp, longB] <;> omega
              ·
                first | replace hb81 := X.tt_dec hb81 | replace hb81 := X.tt_not hb81 | replace hb81 := X.ff_dec hb81 | replace hb81 := X.ff_not hb81 | skip
                refine J.skip rfl rfl ?_
                refine J.skip rfl rfl ?_
                refine J.skip rfl rfl ?_
                refine J.q rfl rfl (Q.pick_f rfl rfl) ?_
                refine J.q rfl rfl (Q.asg rfl) ?_
                refine J.nil ?_
                refine J.blk_n ?_
                refine J.meet _ ?_ ⟨rfl, rfl, rfl, trivial⟩ rfl
                clear hf his hr0 hr1
                simp_all [OM.r2, emp, longB] <;> omega
            ·
              first | replace hb76 := X.tt_dec hb76 | replace hb76 := X.tt_not hb76 | replace hb76 := X.ff_dec hb76 | replace hb76 := X.ff_not hb76 | skip
              refine J.skip rfl rfl ?_
              refine J.skip rfl rfl ?_
              refine J.skip rfl rfl ?_
              refine J.q rfl rfl (Q.pick_f rfl rfl) ?_
              refine J.q rfl rfl (Q.mv rfl) ?_
              refine J.skip rfl rfl ?_
              refine J.skip rfl rfl ?_
              refine J.skip rfl rfl ?_
              refine J.q rfl rfl (Q.pick_f rfl rfl) ?_
              refine J.q rfl rfl (Q.asg rfl) ?_
              refine J.nil ?_
              refine J.blk_n ?_
              refine J.meet _ ?_ ⟨rfl, rfl, rfl, trivial⟩ rfl
              clear hf his hr0 hr1
              simp_all [OM.r2, emp, longB] <;> omega
          ·
            first | replace hb71 := X.tt_dec hb71 | replace hb71 := X.tt_not hb71 | replace hb71 := X.ff_dec hb71 | replace hb71 := X.ff_not hb71 | skip
            refine J.skip rfl rfl ?_
            refine J.skip rfl rfl ?_
            refine J.skip rfl rfl ?_
            refine J.q rfl rfl (Q.pick_f rfl rfl) ?_
            refine J.q rfl rfl (Q.mv rfl) ?_
            refine J.skip rfl rfl ?_
            refine J.skip rfl rfl ?_
            refine J.skip rfl rfl ?_
            refine J.q rfl rfl (Q.pick_f rfl rfl) ?_
            refine J.q rfl rfl (Q.mv rfl) ?_
            refine J.skip rfl rfl ?_
            refine J.skip rfl rfl ?_
            refine J.skip rfl rfl ?_
            refine J.q rfl rfl (Q.pick_f rfl rfl) ?_
            refine J.q rfl rfl (Q.asg rfl) ?_
            refine J.nil ?_
            refine J.blk_n ?_
            refine J.meet _ ?_ ⟨rfl, rfl, rfl, trivial⟩ rfl
            clear hf his hr0 hr1
            simp_all [OM.r2, emp, longB] <;> omega
        ·
          first | replace hc67 := X.tt_dec hc67 | replace hc67 := X.tt_not hc67 | replace hc67 := X.ff_dec hc67 | replace hc67 := X.ff_not hc67 | skip
          refine J.cond_f rfl ?_
          refine J.seq ?_
          refine J.region ?_
          refine J.q rfl rfl (Q.fa (n := 4) Try.runUnderlying52 rfl rfl Try.sizeOf4 rfl) ?_
          refine J.q rfl rfl (Q.ld Try.isAgg4 rfl (by first | exact Reads.pt 0 rfl rfl | exact Reads.pt 1 rfl rfl | exact Reads.pt 2 rfl rfl | exact Reads.pt 3 rfl rfl | exact Reads.pt 4 rfl rfl | exact Reads.pt 5 rfl rfl | exact Reads.pt 6 rfl rfl | exact Reads.pt 7 rfl rfl | exact Reads.pt 8 rfl rfl | exact Reads.pt 9 rfl rfl | exact Reads.pt 10 rfl rfl | exact Reads.pt 11 rfl rfl | exact Reads.pt 12 rfl rfl | exact Reads.pt 13 rfl rfl)) ?_
          refine J.q rfl rfl (Q.asg rfl) ?_
          refine J.nil ?_
          refine J.then_n ?_
          refine J.cases 86 rfl (fun hc86 => ?_) (fun hc86 => ?_)
          ·
            first | replace hc86 := X.tt_dec hc86 | replace hc86 := X.tt_not hc86 | replace hc86 := X.ff_dec hc86 | replace hc86 := X.ff_not hc86 | skip
            refine J.cond_t rfl ?_
            refine J.region ?_
            refine J.q rfl rfl (Q.mv rfl) ?_
            refine J.q rfl rfl (Q.mv rfl) ?_
            refine J.cases 90 rfl (fun hb90 => ?_) (fun hb90 => ?_)
            ·
              first | replace hb90 := X.tt_dec hb90 | replace hb90 := X.tt_not hb90 | replace hb90 := X.ff_dec hb90 | replace hb90 := X.ff_not hb90 | skip
              refine J.q rfl rfl (Q.fa (n := 4) Try.runUnderlying26 rfl rfl Try.sizeOf9 rfl) ?_
              refine J.q rfl rfl (Q.ld Try.isAgg9 rfl (by first | exact Reads.pt 0 rfl rfl | exact Reads.pt 1 rfl rfl | exact Reads.pt 2 rfl rfl | exact Reads.pt 3 rfl rfl | exact Reads.pt 4 rfl rfl | exact Reads.pt 5 rfl rfl | exact Reads.pt 6 rfl rfl | exact Reads.pt 7 rfl rfl | exact Reads.pt 8 rfl rfl | exact Reads.pt 9 rfl rfl | exact Reads.pt 10 rfl rfl | exact Reads.pt 11 rfl rfl | exact Reads.pt 12 rfl rfl | exact Reads.pt 13 rfl rfl)) ?_
              refine J.q rfl rfl (Q.eqls rfl rfl) ?_
              refine J.q rfl rfl (Q.pick_t rfl rfl) ?_
              refine J.q rfl rfl (Q.mv rfl) ?_
              refine J.cases 95 rfl (fun hb95 => ?_) (fun hb95 => ?_)
              ·
                first | replace hb95 := X.tt_dec hb95 | replace hb95 := X.tt_not hb95 | replace hb95 := X.ff_dec hb95 | replace hb95 := X.ff_not hb95 | skip
                refine J.q rfl rfl (Q.fa (n := 5) Try.runUnderlying26 rfl rfl Try.sizeOf3 rfl) ?_
                refine J.q rfl rfl (Q.ld Try.isAgg3 rfl (by first | exact Reads.pt 0 rfl rfl | exact Reads.pt 1 rfl rfl | exact Reads.pt 2 rfl rfl | exact Reads.pt 3 rfl rfl | exact Reads.pt 4 rfl rfl | exact Reads.pt 5 rfl rfl | exact Reads.pt 6 rfl rfl | exact Reads.pt 7 rfl rfl | exact Reads.pt 8 rfl rfl | exact Reads.pt 9 rfl rfl | exact Reads.pt 10 rfl rfl | exact Reads.pt 11 rfl rfl | exact Reads.pt 12 rfl rfl | exact Reads.pt 13 rfl rfl)) ?_
                refine J.q rfl rfl (Q.geq rfl rfl) ?_
                refine J.q rfl rfl (Q.pick_t rfl rfl) ?_
                refine J.q rfl rfl (Q.mv rfl) ?_
                refine J.cases 100 rfl (fun hb100 => ?_) (fun hb100 => ?_)
                ·
                  first | replace hb100 := X.tt_dec hb100 | replace hb100 := X.tt_not hb100 | replace hb100 := X.ff_dec hb100 | replace hb100 := X.ff_not hb100 | skip
                  refine J.q rfl rfl (Q.fa (n := 5) Try.runUnderlying26 rfl rfl Try.sizeOf3 rfl) ?_
                  refine J.q rfl rfl (Q.ld Try.isAgg3 rfl (by first | exact Reads.pt 0 rfl rfl | exact Reads.pt 1 rfl rfl | exact Reads.pt 2 rfl rfl | exact Reads.pt 3 rfl rfl | exact Reads.pt 4 rfl rfl | exact Reads.pt 5 rfl rfl | exact Reads.pt 6 rfl rfl | exact Reads.pt 7 rfl rfl | exact Reads.pt 8 rfl rfl | exact Reads.pt 9 rfl rfl | exact Reads.pt 10 rfl rfl | exact Reads.pt 11 rfl rfl | exact Reads.pt 12 rfl rfl | exact Reads.pt 13 rfl rfl)) ?_
                  refine J.q rfl rfl (Q.leq rfl rfl) ?_
                  refine J.q rfl rfl (Q.pick_t rfl rfl) ?_
                  refine J.q rfl rfl (Q.asg rfl) ?_
                  refine J.nil ?_
                  refine J.blk_n ?_
                  refine J.meet _ ?_ ⟨rfl, rfl, rfl, trivial⟩ rfl
                  clear hf his hr0 hr1
                  simp_all [OM.r2, emp, longB] <;> omega
                ·
                  first | replace hb100 := X.tt_dec hb100 | replace hb100 := X.tt_not hb100 | replace hb100 := X.ff_dec hb100 | replace hb100 := X.ff_not hb100 | skip
                  refine J.skip rfl rfl ?_
                  refine J.skip rfl rfl ?_
                  refine J.skip rfl rfl ?_
                  refine J.q rfl rfl (Q.pick_f rfl rfl) ?_
                  refine J.q rfl rfl (Q.asg rfl) ?_
                  refine J.nil ?_
                  refine J.blk_n ?_
                  refine J.meet _ ?_ ⟨rfl, rfl, rfl, trivial⟩ rfl
                  clear hf his hr0 hr1
                  simp_all [OM.r2, emp, longB] <;> omega
              ·
                first | replace hb95 := X.tt_dec hb95 | replace hb95 := X.tt_not hb95 | replace hb95 := X.ff_dec hb95 | replace hb95 := X.ff_not hb95 | skip
                refine J.skip rfl rfl ?_
                refine J.skip rfl rfl ?_
                refine J.skip rfl rfl ?_
                refine J.q rfl rfl (Q.pick_f rfl rfl) ?_
                refine J.q rfl rfl (Q.mv rfl) ?_
                refine J.skip rfl rfl ?_
                refine J.skip rfl rfl ?_
                refine J.skip rfl rfl ?_
                refine J.q rfl rfl (Q.pick_f rfl rfl) ?_
                refine J.q rfl rfl (Q.asg rfl) ?_
                refine J.nil ?_
                refine J.blk_n ?_
                refine J.meet _ ?_ ⟨rfl, rfl, rfl, trivial⟩ rfl
                clear hf his hr0 hr1
                simp_all [OM.r2, emp, longB] <;> omega
            ·
              first | replace hb90 := X.tt_dec hb90 | replace hb90 := X.tt_not hb90 | replace hb90 := X.ff_dec hb90 | replace hb90 := X.ff_not hb90 | skip
              refine J.skip rfl rfl ?_
              refine J.skip rfl rfl ?_
              refine J.skip rfl rfl ?_
              refine J.q rfl rfl (Q.pick_f rfl rfl) ?_
              refine J.q rfl rfl (Q.mv rfl) ?_
              refine J.skip rfl rfl ?_
              refine J.skip rfl rfl ?_
              refine J.skip rfl rfl ?_
              refine J.q rfl rfl (Q.pick_f rfl rfl) ?_
              refine J.q rfl rfl (Q.mv rfl) ?_
              refine J.skip rfl rfl ?_
              refine J.skip rfl rfl ?_
              refine J.skip rfl rfl ?_
              refine J.q rfl rfl (Q.pick_f rfl rfl) ?_
              refine J.q rfl rfl (Q.asg rfl) ?_
              refine J.nil ?_
              refine J.blk_n ?_
              refine J.meet _ ?_ ⟨rfl, rfl, rfl, trivial⟩ rfl
              clear hf his hr0 hr1
              simp_all [OM.r2, emp, longB] <;> omega
          ·
            first | replace hc86 := X.tt_dec hc86 | replace hc86 := X.tt_not hc86 | replace hc86 := X.ff_dec hc86 | replace hc86 := X.ff_not hc86 | skip
            refine J.cond_f rfl ?_
            refine J.region ?_
            refine J.q rfl rfl (Q.mv rfl) ?_
            refine J.q rfl rfl (Q.mv rfl) ?_
            refine J.cases 57 rfl (fun hb57 => ?_) (fun hb57 => ?_)
            ·
              first | replace hb57 := X.tt_dec hb57 | replace hb57 := X.tt_not hb57 | replace hb57 := X.ff_dec hb57 | replace hb57 := X.ff_not hb57 | skip
              refine J.q rfl rfl (Q.fa (n := 4) Try.runUnderlying26 rfl rfl Try.sizeOf9 rfl) ?_
              refine J.q rfl rfl (Q.ld Try.isAgg9 rfl (by first | exact Reads.pt 0 rfl rfl | exact Reads.pt 1 rfl rfl | exact Reads.pt 2 rfl rfl | exact Reads.pt 3 rfl rfl | exact Reads.pt 4 rfl rfl | exact Reads.pt 5 rfl rfl | exact Reads.pt 6 rfl rfl | exact Reads.pt 7 rfl rfl | exact Reads.pt 8 rfl rfl | exact Reads.pt 9 rfl rfl | exact Reads.pt 10 rfl rfl | exact Reads.pt 11 rfl rfl | exact Reads.pt 12 rfl rfl | exact Reads.pt 13 rfl rfl)) ?_
              refine J.q rfl rfl (Q.eqls rfl rfl) ?_
              refine J.q rfl rfl (Q.pick_t rfl rfl) ?_
              refine J.q rfl rfl (Q.mv rfl) ?_
              refine J.cases 62 rfl (fun hb62 => ?_) (fun hb62 => ?_)
              ·
                first | replace hb62 := X.tt_dec hb62 | replace hb62 := X.tt_not hb62 | replace hb62 := X.ff_dec hb62 | replace hb62 := X.ff_not hb62 | skip
                refine J.q rfl rfl (Q.fa (n := 5) Try.runUnderlying26 rfl rfl Try.sizeOf3 rfl) ?_
                refine J.q rfl rfl (Q.ld Try.isAgg3 rfl (by first | exact Reads.pt 0 rfl rfl | exact Reads.pt 1 rfl rfl | exact Reads.pt 2 rfl rfl | exact Reads.pt 3 rfl rfl | exact Reads.pt 4 rfl rfl | exact Reads.pt 5 rfl rfl | exact Reads.pt 6 rfl rfl | exact Reads.pt 7 rfl rfl | exact Reads.pt 8 rfl rfl | exact Reads.pt 9 rfl rfl | exact Reads.pt 10 rfl rfl | exact Reads.pt 11 rfl rfl | exact Reads.pt 12 rfl rfl | exact Reads.pt 13 rfl rfl)) ?_
                refine J.q rfl rfl (Q.eql rfl rfl) ?_
                refine J.q rfl rfl (Q.pick_t rfl rfl) ?_
                refine J.q rfl rfl (Q.asg rfl) ?_
                refine J.nil ?_
                refine J.blk_n ?_
                refine J.meet _ ?_ ⟨rfl, rfl, rfl, trivial⟩ rfl
                clear hf his hr0 hr1
                simp_all [OM.r2, emp, longB] <;> omega
              ·
                first | replace hb62 := X.tt_dec hb62 | replace hb62 := X.tt_not hb62 | replace hb62 := X.ff_dec hb62 | replace hb62 := X.ff_not hb62 | skip
                refine J.skip rfl rfl ?_
                refine J.skip rfl rfl ?_
                refine J.skip rfl rfl ?_
                refine J.q rfl rfl (Q.pick_f rfl rfl) ?_
                refine J.q rfl rfl (Q.asg rfl) ?_
                refine J.nil ?_
                refine J.blk_n ?_
                refine J.meet _ ?_ ⟨rfl, rfl, rfl, trivial⟩ rfl
                clear hf his hr0 hr1
                simp_all [OM.r2, emp, longB] <;> omega
            ·
              first | replace hb57 := X.tt_dec hb57 | replace hb57 := X.tt_not hb57 | replace hb57 := X.ff_dec hb57 | replace hb57 := X.ff_not hb57 | skip
              refine J.skip rfl rfl ?_
              refine J.skip rfl rfl ?_
              refine J.skip rfl rfl ?_
              refine J.q rfl rfl (Q.pick_f rfl rfl) ?_
              refine J.q rfl rfl (Q.mv rfl) ?_
              refine J.skip rfl rfl ?_
              refine J.skip rfl rfl ?_
              refine J.skip rfl rfl ?_
              refine J.q rfl rfl (Q.pick_f rfl rfl) ?_
              refine J.q rfl rfl (Q.asg rfl) ?_
              refine J.nil ?_
              refine J.blk_n ?_
              refine J.meet _ ?_ ⟨rfl, rfl, rfl, trivial⟩ rfl
              clear hf his hr0 hr1
              simp_all [OM.r2, emp, longB] <;> omega
      ·
        refine J.cut (fun s : Bool => s = x.o.r3 f p) (fun r => [(1, .pointer (some ⟨b1, 0, none⟩)), (3, .pointer (some ⟨b3, 0, none⟩)), (5, .bool r)]) (fun _ => [pt b3 (.cells f.cells.toArray 52 (0, 0)), pt b1 (.cells x.cells.toArray 26 (0, 0)), G, F]) ?_ fun s hr3 => ?_
        ·
          refine J.region ?_
          refine J.q rfl rfl (Q.mv rfl) ?_
          refine J.q rfl rfl (Q.mv rfl) ?_
          refine J.cases 106 rfl (fun hb106 => ?_) (fun hb106 => ?_)
          ·
            first | replace hb106 := X.tt_dec hb106 | replace hb106 := X.tt_not hb106 | replace hb106 := X.ff_dec hb106 | replace hb106 := X.ff_not hb106 | skip
            refine J.q rfl rfl (Q.fa (n := 3) Try.runUnderlying52 rfl rfl Try.sizeOf4 rfl) ?_
            refine J.q rfl rfl (Q.ld Try.isAgg4 rfl (by first | exact Reads.pt 0 rfl rfl | exact Reads.pt 1 rfl rfl | exact Reads.pt 2 rfl rfl | exact Reads.pt 3 rfl rfl | exact Reads.pt 4 rfl rfl | exact Reads.pt 5 rfl rfl | exact Reads.pt 6 rfl rfl | exact Reads.pt 7 rfl rfl | exact Reads.pt 8 rfl rfl | exact Reads.pt 9 rfl rfl | exact Reads.pt 10 rfl rfl | exact Reads.pt 11 rfl rfl | exact Reads.pt 12 rfl rfl | exact Reads.pt 13 rfl rfl)) ?_
            refine J.q rfl rfl (Q.mv rfl) ?_
            refine J.cases 109 rfl (fun hb109 => ?_) (fun hb109 => ?_)
            ·
              first | replace hb109 := X.tt_dec hb109 | replace hb109 := X.tt_not hb109 | replace hb109 := X.ff_dec hb109 | replace hb109 := X.ff_not hb109 | skip
              refine J.skip rfl rfl ?_
              refine J.skip rfl rfl ?_
              refine J.skip rfl rfl ?_
              refine J.q rfl rfl (Q.pick_t rfl rfl) ?_
              refine J.q rfl rfl (Q.pick_t rfl rfl) ?_
              refine J.q rfl rfl (Q.mv rfl) ?_
              refine J.q rfl rfl (Q.fa (n := 5) Try.runUnderlying52 rfl rfl Try.sizeOf4 rfl) ?_
              refine J.q rfl rfl (Q.ld Try.isAgg4 rfl (by first | exact Reads.pt 0 rfl rfl | exact Reads.pt 1 rfl rfl | exact Reads.pt 2 rfl rfl | exact Reads.pt 3 rfl rfl | exact Reads.pt 4 rfl rfl | exact Reads.pt 5 rfl rfl | exact Reads.pt 6 rfl rfl | exact Reads.pt 7 rfl rfl | exact Reads.pt 8 rfl rfl | exact Reads.pt 9 rfl rfl | exact Reads.pt 10 rfl rfl | exact Reads.pt 11 rfl rfl | exact Reads.pt 12 rfl rfl | exact Reads.pt 13 rfl rfl)) ?_
              refine J.q rfl rfl (Q.mv rfl) ?_
              refine J.cases 118 rfl (fun hb118 => ?_) (fun hb118 => ?_)
              ·
                first | replace hb118 := X.tt_dec hb118 | replace hb118 := X.tt_not hb118 | replace hb118 := X.ff_dec hb118 | replace hb118 := X.ff_not hb118 | skip
                refine J.q rfl rfl (Q.fa (n := 7) Try.runUnderlying26 rfl rfl Try.sizeOf23 rfl) ?_
                refine J.q rfl rfl (Q.ld Try.isAgg23 rfl (by first | exact Reads.pt 0 rfl rfl | exact Reads.pt 1 rfl rfl | exact Reads.pt 2 rfl rfl | exact Reads.pt 3 rfl rfl | exact Reads.pt 4 rfl rfl | exact Reads.pt 5 rfl rfl | exact Reads.pt 6 rfl rfl | exact Reads.pt 7 rfl rfl | exact Reads.pt 8 rfl rfl | exact Reads.pt 9 rfl rfl | exact Reads.pt 10 rfl rfl | exact Reads.pt 11 rfl rfl | exact Reads.pt 12 rfl rfl | exact Reads.pt 13 rfl rfl)) ?_
                refine J.call Try.call20 (rising_spec G x.pp x.o.parts.length x.pc x.o.parts hx.parts (by omega)) [2] rfl rfl rfl rfl ?_
                rintro _ _ ⟨rfl, rfl⟩
                refine J.norm rfl ?_
                refine J.q rfl rfl (Q.pick_t rfl rfl) ?_
                refine J.q rfl rfl (Q.mv rfl) ?_
                refine J.cases 123 rfl (fun hb123 => ?_) (fun hb123 => ?_)
                ·
                  first | replace hb123 := X.tt_dec hb123 | replace hb123 := X.tt_not hb123 | replace hb123 := X.ff_dec hb123 | replace hb123 := X.ff_not hb123 | skip
                  refine J.skip rfl rfl ?_
                  refine J.skip rfl rfl ?_
                  refine J.skip rfl rfl ?_
                  refine J.skip rfl rfl ?_
                  refine J.skip rfl rfl ?_
                  refine J.skip rfl rfl ?_
                  refine J.skip rfl rfl ?_
                  refine J.skip rfl rfl ?_
                  refine J.skip rfl rfl ?_
                  refine J.q rfl rfl (Q.pick_t rfl rfl) ?_
                  refine J.q rfl rfl (Q.pick_t rfl rfl) ?_
                  refine J.q rfl rfl (Q.asg rfl) ?_
                  refine J.nil ?_
                  first
                    | refine J.meet _ ?_ ⟨rfl, rfl, rfl, trivial⟩ rfl
                    | (refine J.keep [1, 2, 0, 3] rfl ?_
                       refine J.meet _ ?_ ⟨rfl, rfl, rfl, trivial⟩ rfl)
                  clear hf his hr0 hr1 hr2
                  simp_all [OM.r3, emp, longB] <;> omega
                ·
                  first | replace hb123 := X.tt_dec hb123 | replace hb123 := X.tt_not hb123 | replace hb123 := X.ff_dec hb123 | replace hb123 := X.ff_not hb123 | skip
                  refine J.q rfl rfl (Q.fa (n := 5) Try.runUnderlying52 rfl rfl Try.sizeOf4 rfl) ?_
                  refine J.q rfl rfl (Q.ld Try.isAgg4 rfl (by first | exact Reads.pt 0 rfl rfl | exact Reads.pt 1 rfl rfl | exact Reads.pt 2 rfl rfl | exact Reads.pt 3 rfl rfl | exact Reads.pt 4 rfl rfl | exact Reads.pt 5 rfl rfl | exact Reads.pt 6 rfl rfl | exact Reads.pt 7 rfl rfl | exact Reads.pt 8 rfl rfl | exact Reads.pt 9 rfl rfl | exact Reads.pt 10 rfl rfl | exact Reads.pt 11 rfl rfl | exact Reads.pt 12 rfl rfl | exact Reads.pt 13 rfl rfl)) ?_
                  refine J.q rfl rfl (Q.not rfl) ?_
                  refine J.q rfl rfl (Q.mv rfl) ?_
                  refine J.cases 127 rfl (fun hb127 => ?_) (fun hb127 => ?_)
                  ·
                    first | replace hb127 := X.tt_dec hb127 | replace hb127 := X.tt_not hb127 | replace hb127 := X.ff_dec hb127 | replace hb127 := X.ff_not hb127 | skip
                    refine J.q rfl rfl (Q.fa (n := 7) Try.runUnderlying26 rfl rfl Try.sizeOf23 rfl) ?_
                    refine J.q rfl rfl (Q.ld Try.isAgg23 rfl (by first | exact Reads.pt 0 rfl rfl | exact Reads.pt 1 rfl rfl | exact Reads.pt 2 rfl rfl | exact Reads.pt 3 rfl rfl | exact Reads.pt 4 rfl rfl | exact Reads.pt 5 rfl rfl | exact Reads.pt 6 rfl rfl | exact Reads.pt 7 rfl rfl | exact Reads.pt 8 rfl rfl | exact Reads.pt 9 rfl rfl | exact Reads.pt 10 rfl rfl | exact Reads.pt 11 rfl rfl | exact Reads.pt 12 rfl rfl | exact Reads.pt 13 rfl rfl)) ?_
                    refine J.q rfl rfl (Q.lenSl Try.runUnderlying23 rfl) ?_
                    refine J.q rfl rfl (Q.eql rfl rfl) ?_
                    refine J.q rfl rfl (Q.pick_t rfl rfl) ?_
                    refine J.q rfl rfl (Q.pick_f rfl rfl) ?_
                    refine J.q rfl rfl (Q.pick_t rfl rfl) ?_
                    refine J.q rfl rfl (Q.asg rfl) ?_
                    refine J.nil ?_
                    first
                      | refine J.meet _ ?_ ⟨rfl, rfl, rfl, trivial⟩ rfl
                      | (refine J.keep [1, 2, 0, 3] rfl ?_
                         refine J.meet _ ?_ ⟨rfl, rfl, rfl, trivial⟩ rfl)
                    clear hf his hr0 hr1 hr2
                    simp_all [OM.r3, emp, longB] <;> omega
                  ·
                    first | replace hb127 := X.tt_dec hb127 | replace hb127 := X.tt_not hb127 | replace hb127 := X.ff_dec hb127 | replace hb127 := X.ff_not hb127 | skip
                    refine J.skip rfl rfl ?_
                    refine J.skip rfl rfl ?_
                    refine J.skip rfl rfl ?_
                    refine J.skip rfl rfl ?_
                    refine J.q rfl rfl (Q.pick_f rfl rfl) ?_
                    refine J.q rfl rfl (Q.pick_f rfl rfl) ?_
                    refine J.q rfl rfl (Q.pick_t rfl rfl) ?_
                    refine J.q rfl rfl (Q.asg rfl) ?_
                    refine J.nil ?_
                    first
                      | refine J.meet _ ?_ ⟨rfl, rfl, rfl, trivial⟩ rfl
                      | (refine J.keep [1, 2, 0, 3] rfl ?_
                         refine J.meet _ ?_ ⟨rfl, rfl, rfl, trivial⟩ rfl)
                    clear hf his hr0 hr1 hr2
                    simp_all [OM.r3, emp, longB] <;> omega
              ·
                first | replace hb118 := X.tt_dec hb118 | replace hb118 := X.tt_not hb118 | replace hb118 := X.ff_dec hb118 | replace hb118 := X.ff_not hb118 | skip
                refine J.skip rfl rfl ?_
                refine J.skip rfl rfl ?_
                refine J.skip rfl rfl ?_
                refine J.q rfl rfl (Q.pick_f rfl rfl) ?_
                refine J.q rfl rfl (Q.mv rfl) ?_
                refine J.q rfl rfl (Q.fa (n := 5) Try.runUnderlying52 rfl rfl Try.sizeOf4 rfl) ?_
                refine J.q rfl rfl (Q.ld Try.isAgg4 rfl (by first | exact Reads.pt 0 rfl rfl | exact Reads.pt 1 rfl rfl | exact Reads.pt 2 rfl rfl | exact Reads.pt 3 rfl rfl | exact Reads.pt 4 rfl rfl | exact Reads.pt 5 rfl rfl | exact Reads.pt 6 rfl rfl | exact Reads.pt 7 rfl rfl | exact Reads.pt 8 rfl rfl | exact Reads.pt 9 rfl rfl | exact Reads.pt 10 rfl rfl | exact Reads.pt 11 rfl rfl | exact Reads.pt 12 rfl rfl | exact Reads.pt 13 rfl rfl)) ?_
                refine J.q rfl rfl (Q.not rfl) ?_
                refine J.q rfl rfl (Q.mv rfl) ?_
                refine J.cases 127 rfl (fun hb127 => ?_) (fun hb127 => ?_)
                ·
                  first | replace hb127 := X.tt_dec hb127 | replace hb127 := X.tt_not hb127 | replace hb127 := X.ff_dec hb127 | replace hb127 := X.ff_not hb127 | skip
                  refine J.q rfl rfl (Q.fa (n := 7) Try.runUnderlying26 rfl rfl Try.sizeOf23 rfl) ?_
                  refine J.q rfl rfl (Q.ld Try.isAgg23 rfl (by first | exact Reads.pt 0 rfl rfl | exact Reads.pt 1 rfl rfl | exact Reads.pt 2 rfl rfl | exact Reads.pt 3 rfl rfl | exact Reads.pt 4 rfl rfl | exact Reads.pt 5 rfl rfl | exact Reads.pt 6 rfl rfl | exact Reads.pt 7 rfl rfl | exact Reads.pt 8 rfl rfl | exact Reads.pt 9 rfl rfl | exact Reads.pt 10 rfl rfl | exact Reads.pt 11 rfl rfl | exact Reads.pt 12 rfl rfl | exact Reads.pt 13 rfl rfl)) ?_
                  refine J.q rfl rfl (Q.lenSl Try.runUnderlying23 rfl) ?_
                  refine J.q rfl rfl (Q.eql rfl rfl) ?_
                  refine J.q rfl rfl (Q.pick_t rfl rfl) ?_
                  refine J.q rfl rfl (Q.pick_f rfl rfl) ?_
                  refine J.q rfl rfl (Q.pick_t rfl rfl) ?_
                  refine J.q rfl rfl (Q.asg rfl) ?_
                  refine J.nil ?_
                  first
                    | refine J.meet _ ?_ ⟨rfl, rfl, rfl, trivial⟩ rfl
                    | (refine J.keep [1, 2, 0, 3] rfl ?_
                       refine J.meet _ ?_ ⟨rfl, rfl, rfl, trivial⟩ rfl)
                  clear hf his hr0 hr1 hr2
                  simp_all [OM.r3, emp, longB] <;> omega
                ·
                  first | replace hb127 := X.tt_dec hb127 | replace hb127 := X.tt_not hb127 | replace hb127 := X.ff_dec hb127 | replace hb127 := X.ff_not hb127 | skip
                  refine J.skip rfl rfl ?_
                  refine J.skip rfl rfl ?_
                  refine J.skip rfl rfl ?_
                  refine J.skip rfl rfl ?_
                  refine J.q rfl rfl (Q.pick_f rfl rfl) ?_
                  refine J.q rfl rfl (Q.pick_f rfl rfl) ?_
                  refine J.q rfl rfl (Q.pick_t rfl rfl) ?_
                  refine J.q rfl rfl (Q.asg rfl) ?_
                  refine J.nil ?_
                  first
                    | refine J.meet _ ?_ ⟨rfl, rfl, rfl, trivial⟩ rfl
                    | (refine J.keep [1, 2, 0, 3] rfl ?_
                       refine J.meet _ ?_ ⟨rfl, rfl, rfl, trivial⟩ rfl)
                  clear hf his hr0 hr1 hr2
                  simp_all [OM.r3, emp, longB] <;> omega
            ·
              first | replace hb109 := X.tt_dec hb109 | replace hb109 := X.tt_not hb109 | replace hb109 := X.ff_dec hb109 | replace hb109 := X.ff_not hb109 | skip
              refine J.q rfl rfl (Q.fa (n := 6) Try.runUnderlying26 rfl rfl Try.sizeOf22 rfl) ?_
              refine J.q rfl rfl (Q.ld Try.isAgg22 rfl (by first | exact Reads.pt 0 rfl rfl | exact Reads.pt 1 rfl rfl | exact Reads.pt 2 rfl rfl | exact Reads.pt 3 rfl rfl | exact Reads.pt 4 rfl rfl | exact Reads.pt 5 rfl rfl | exact Reads.pt 6 rfl rfl | exact Reads.pt 7 rfl rfl | exact Reads.pt 8 rfl rfl | exact Reads.pt 9 rfl rfl | exact Reads.pt 10 rfl rfl | exact Reads.pt 11 rfl rfl | exact Reads.pt 12 rfl rfl | exact Reads.pt 13 rfl rfl)) ?_
              refine J.q rfl rfl (Q.eql rfl rfl) ?_
              refine J.q rfl rfl (Q.pick_f rfl rfl) ?_
              refine J.q rfl rfl (Q.pick_t rfl rfl) ?_
              refine J.q rfl rfl (Q.mv rfl) ?_
              refine J.cases 115 rfl (fun hb115 => ?_) (fun hb115 => ?_)
              ·
                first | replace hb115 := X.tt_dec hb115 | replace hb115 := X.tt_not hb115 | replace hb115 := X.ff_dec hb115 | replace hb115 := X.ff_not hb115 | skip
                refine J.q rfl rfl (Q.fa (n := 5) Try.runUnderlying52 rfl rfl Try.sizeOf4 rfl) ?_
                refine J.q rfl rfl (Q.ld Try.isAgg4 rfl (by first | exact Reads.pt 0 rfl rfl | exact Reads.pt 1 rfl rfl | exact Reads.pt 2 rfl rfl | exact Reads.pt 3 rfl rfl | exact Reads.pt 4 rfl rfl | exact Reads.pt 5 rfl rfl | exact Reads.pt 6 rfl rfl | exact Reads.pt 7 rfl rfl | exact Reads.pt 8 rfl rfl | exact Reads.pt 9 rfl rfl | exact Reads.pt 10 rfl rfl | exact Reads.pt 11 rfl rfl | exact Reads.pt 12 rfl rfl | exact Reads.pt 13 rfl rfl)) ?_
                refine J.q rfl rfl (Q.mv rfl) ?_
                refine J.cases 118 rfl (fun hb118 => ?_) (fun hb118 => ?_)
                ·
                  first | replace hb118 := X.tt_dec hb118 | replace hb118 := X.tt_not hb118 | replace hb118 := X.ff_dec hb118 | replace hb118 := X.ff_not hb118 | skip
                  refine J.q rfl rfl (Q.fa (n := 7) Try.runUnderlying26 rfl rfl Try.sizeOf23 rfl) ?_
                  refine J.q rfl rfl (Q.ld Try.isAgg23 rfl (by first | exact Reads.pt 0 rfl rfl | exact Reads.pt 1 rfl rfl | exact Reads.pt 2 rfl rfl | exact Reads.pt 3 rfl rfl | exact Reads.pt 4 rfl rfl | exact Reads.pt 5 rfl rfl | exact Reads.pt 6 rfl rfl | exact Reads.pt 7 rfl rfl | exact Reads.pt 8 rfl rfl | exact Reads.pt 9 rfl rfl | exact Reads.pt 10 rfl rfl | exact Reads.pt 11 rfl rfl | exact Reads.pt 12 rfl rfl | exact Reads.pt 13 rfl rfl)) ?_
                  refine J.call Try.call20 (rising_spec G x.pp x.o.parts.length x.pc x.o.parts hx.parts (by omega)) [2] rfl rfl rfl rfl ?_
                  rintro _ _ ⟨rfl, rfl⟩
                  refine J.norm rfl ?_
                  refine J.q rfl rfl (Q.pick_t rfl rfl) ?_
                  refine J.q rfl rfl (Q.mv rfl) ?_
                  refine J.cases 123 rfl (fun hb123 => ?_) (fun hb123 => ?_)
                  ·
                    first | replace hb123 := X.tt_dec hb123 | replace hb123 := X.tt_not hb123 | replace hb123 := X.ff_dec hb123 | replace hb123 := X.ff_not hb123 | skip
                    refine J.skip rfl rfl ?_
                    refine J.skip rfl rfl ?_
                    refine J.skip rfl rfl ?_
                    refine J.skip rfl rfl ?_
                    refine J.skip rfl rfl ?_
                    refine J.skip rfl rfl ?_
                    refine J.skip rfl rfl ?_
                    refine J.skip rfl rfl ?_
                    refine J.skip rfl rfl ?_
                    refine J.q rfl rfl (Q.pick_t rfl rfl) ?_
                    refine J.q rfl rfl (Q.pick_t rfl rfl) ?_
                    refine J.q rfl rfl (Q.asg rfl) ?_
                    refine J.nil ?_
                    first
                      | refine J.meet _ ?_ ⟨rfl, rfl, rfl, trivial⟩ rfl
                      | (refine J.keep [1, 2, 0, 3] rfl ?_
                         refine J.meet _ ?_ ⟨rfl, rfl, rfl, trivial⟩ rfl)
                    clear hf his hr0 hr1 hr2
                    simp_all [OM.r3, emp, longB] <;> omega
                  ·
                    first | replace hb123 := X.tt_dec hb123 | replace hb123 := X.tt_not hb123 | replace hb123 := X.ff_dec hb123 | replace hb123 := X.ff_not hb123 | skip
                    refine J.q rfl rfl (Q.fa (n := 5) Try.runUnderlying52 rfl rfl Try.sizeOf4 rfl) ?_
                    refine J.q rfl rfl (Q.ld Try.isAgg4 rfl (by first | exact Reads.pt 0 rfl rfl | exact Reads.pt 1 rfl rfl | exact Reads.pt 2 rfl rfl | exact Reads.pt 3 rfl rfl | exact Reads.pt 4 rfl rfl | exact Reads.pt 5 rfl rfl | exact Reads.pt 6 rfl rfl | exact Reads.pt 7 rfl rfl | exact Reads.pt 8 rfl rfl | exact Reads.pt 9 rfl rfl | exact Reads.pt 10 rfl rfl | exact Reads.pt 11 rfl rfl | exact Reads.pt 12 rfl rfl | exact Reads.pt 13 rfl rfl)) ?_
                    refine J.q rfl rfl (Q.not rfl) ?_
                    refine J.q rfl rfl (Q.mv rfl) ?_
                    refine J.cases 127 rfl (fun hb127 => ?_) (fun hb127 => ?_)
                    ·
                      first | replace hb127 := X.tt_dec hb127 | replace hb127 := X.tt_not hb127 | replace hb127 := X.ff_dec hb127 | replace hb127 := X.ff_not hb127 | skip
                      refine J.q rfl rfl (Q.fa (n := 7) Try.runUnderlying26 rfl rfl Try.sizeOf23 rfl) ?_
                      refine J.q rfl rfl (Q.ld Try.isAgg23 rfl (by first | exact Reads.pt 0 rfl rfl | exact Reads.pt 1 rfl rfl | exact Reads.pt 2 rfl rfl | exact Reads.pt 3 rfl rfl | exact Reads.pt 4 rfl rfl | exact Reads.pt 5 rfl rfl | exact Reads.pt 6 rfl rfl | exact Reads.pt 7 rfl rfl | exact Reads.pt 8 rfl rfl | exact Reads.pt 9 rfl rfl | exact Reads.pt 10 rfl rfl | exact Reads.pt 11 rfl rfl | exact Reads.pt 12 rfl rfl | exact Reads.pt 13 rfl rfl)) ?_
                      refine J.q rfl rfl (Q.lenSl Try.runUnderlying23 rfl) ?_
                      refine J.q rfl rfl (Q.eql rfl rfl) ?_
                      refine J.q rfl rfl (Q.pick_t rfl rfl) ?_
                      refine J.q rfl rfl (Q.pick_f rfl rfl) ?_
                      refine J.q rfl rfl (Q.pick_t rfl rfl) ?_
                      refine J.q rfl rfl (Q.asg rfl) ?_
                      refine J.nil ?_
                      first
                        | refine J.meet _ ?_ ⟨rfl, rfl, rfl, trivial⟩ rfl
                        | (refine J.keep [1, 2, 0, 3] rfl ?_
                           refine J.meet _ ?_ ⟨rfl, rfl, rfl, trivial⟩ rfl)
                      clear hf his hr0 hr1 hr2
                      simp_all [OM.r3, emp, longB] <;> omega
                    ·
                      first | replace hb127 := X.tt_dec hb127 | replace hb127 := X.tt_not hb127 | replace hb127 := X.ff_dec hb127 | replace hb127 := X.ff_not hb127 | skip
                      refine J.skip rfl rfl ?_
                      refine J.skip rfl rfl ?_
                      refine J.skip rfl rfl ?_
                      refine J.skip rfl rfl ?_
                      refine J.q rfl rfl (Q.pick_f rfl rfl) ?_
                      refine J.q rfl rfl (Q.pick_f rfl rfl) ?_
                      refine J.q rfl rfl (Q.pick_t rfl rfl) ?_
                      refine J.q rfl rfl (Q.asg rfl) ?_
                      refine J.nil ?_
                      first
                        | refine J.meet _ ?_ ⟨rfl, rfl, rfl, trivial⟩ rfl
                        | (refine J.keep [1, 2, 0, 3] rfl ?_
                           refine J.meet _ ?_ ⟨rfl, rfl, rfl, trivial⟩ rfl)
                      clear hf his hr0 hr1 hr2
                      simp_all [OM.r3, emp, longB] <;> omega
                ·
                  first | replace hb118 := X.tt_dec hb118 | replace hb118 := X.tt_not hb118 | replace hb118 := X.ff_dec hb118 | replace hb118 := X.ff_not hb118 | skip
                  refine J.skip rfl rfl ?_
                  refine J.skip rfl rfl ?_
                  refine J.skip rfl rfl ?_
                  refine J.q rfl rfl (Q.pick_f rfl rfl) ?_
                  refine J.q rfl rfl (Q.mv rfl) ?_
                  refine J.q rfl rfl (Q.fa (n := 5) Try.runUnderlying52 rfl rfl Try.sizeOf4 rfl) ?_
                  refine J.q rfl rfl (Q.ld Try.isAgg4 rfl (by first | exact Reads.pt 0 rfl rfl | exact Reads.pt 1 rfl rfl | exact Reads.pt 2 rfl rfl | exact Reads.pt 3 rfl rfl | exact Reads.pt 4 rfl rfl | exact Reads.pt 5 rfl rfl | exact Reads.pt 6 rfl rfl | exact Reads.pt 7 rfl rfl | exact Reads.pt 8 rfl rfl | exact Reads.pt 9 rfl rfl | exact Reads.pt 10 rfl rfl | exact Reads.pt 11 rfl rfl | exact Reads.pt 12 rfl rfl | exact Reads.pt 13 rfl rfl)) ?_
                  refine J.q rfl rfl (Q.not rfl) ?_
                  refine J.q rfl rfl (Q.mv rfl) ?_
                  refine J.cases 127 rfl (fun hb127 => ?_) (fun hb127 => ?_)
                  ·
                    first | replace hb127 := X.tt_dec hb127 | replace hb127 := X.tt_not hb127 | replace hb127 := X.ff_dec hb127 | replace hb127 := X.ff_not hb127 | skip
                    refine J.q rfl rfl (Q.fa (n := 7) Try.runUnderlying26 rfl rfl Try.sizeOf23 rfl) ?_
                    refine J.q rfl rfl (Q.ld Try.isAgg23 rfl (by first | exact Reads.pt 0 rfl rfl | exact Reads.pt 1 rfl rfl | exact Reads.pt 2 rfl rfl | exact Reads.pt 3 rfl rfl | exact Reads.pt 4 rfl rfl | exact Reads.pt 5 rfl rfl | exact Reads.pt 6 rfl rfl | exact Reads.pt 7 rfl rfl | exact Reads.pt 8 rfl rfl | exact Reads.pt 9 rfl rfl | exact Reads.pt 10 rfl rfl | exact Reads.pt 11 rfl rfl | exact Reads.pt 12 rfl rfl | exact Reads.pt 13 rfl rfl)) ?_
                    refine J.q rfl rfl (Q.lenSl Try.runUnderlying23 rfl) ?_
                    refine J.q rfl rfl (Q.eql rfl rfl) ?_
                    refine J.q rfl rfl (Q.pick_t rfl rfl) ?_
                    refine J.q rfl rfl (Q.pick_f rfl rfl) ?_
                    refine J.q rfl rfl (Q.pick_t rfl rfl) ?_
                    refine J.q rfl rfl (Q.asg rfl) ?_
                    refine J.nil ?_
                    first
                      | refine J.meet _ ?_ ⟨rfl, rfl, rfl, trivial⟩ rfl
                      | (refine J.keep [1, 2, 0, 3] rfl ?_
                         refine J.meet _ ?_ ⟨rfl, rfl, rfl, trivial⟩ rfl)
                    clear hf his hr0 hr1 hr2
                    simp_all [OM.r3, emp, longB] <;> omega
                  ·
                    first | replace hb127 := X.tt_dec hb127 | replace hb127 := X.tt_not hb127 | replace hb127 := X.ff_dec hb127 | replace hb127 := X.ff_not hb127 | skip
                    refine J.skip rfl rfl ?_
                    refine J.skip rfl rfl ?_
                    refine J.skip rfl rfl ?_
                    refine J.skip rfl rfl ?_
                    refine J.q rfl rfl (Q.pick_f rfl rfl) ?_
                    refine J.q rfl rfl (Q.pick_f rfl rfl) ?_
                    refine J.q rfl rfl (Q.pick_t rfl rfl) ?_
                    refine J.q rfl rfl (Q.asg rfl) ?_
                    refine J.nil ?_
                    first
                      | refine J.meet _ ?_ ⟨rfl, rfl, rfl, trivial⟩ rfl
                      | (refine J.keep [1, 2, 0, 3] rfl ?_
                         refine J.meet _ ?_ ⟨rfl, rfl, rfl, trivial⟩ rfl)
                    clear hf his hr0 hr1 hr2
                    simp_all [OM.r3, emp, longB] <;> omega
              ·
                first | replace hb115 := X.tt_dec hb115 | replace hb115 := X.tt_not hb115 | replace hb115 := X.ff_dec hb115 | replace hb115 := X.ff_not hb115 | skip
                refine J.skip rfl rfl ?_
                refine J.skip rfl rfl ?_
                refine J.skip rfl rfl ?_
                refine J.skip rfl rfl ?_
                refine J.skip rfl rfl ?_
                refine J.skip rfl rfl ?_
                refine J.skip rfl rfl ?_
                refine J.skip rfl rfl ?_
                refine J.skip rfl rfl ?_
                refine J.skip rfl rfl ?_
                refine J.skip rfl rfl ?_
                refine J.skip rfl rfl ?_
                refine J.skip rfl rfl ?_
                refine J.skip rfl rfl ?_
                refine J.skip rfl rfl ?_
                refine J.skip rfl rfl ?_
                refine J.skip rfl rfl ?_
                refine J.skip rfl rfl ?_
                refine J.q rfl rfl (Q.pick_f rfl rfl) ?_
                refine J.q rfl rfl (Q.asg rfl) ?_
                refine J.nil ?_
                first
                  | refine J.meet _ ?_ ⟨rfl, rfl, rfl, trivial⟩ rfl
                  | (refine J.keep [1, 2, 0, 3] rfl ?_
                     refine J.meet _ ?_ ⟨rfl, rfl, rfl, trivial⟩ rfl)
                clear hf his hr0 hr1 hr2
                simp_all [OM.r3, emp, longB] <;> omega
          ·
            first | replace hb106 := X.tt_dec hb106 | replace hb106 := X.tt_not hb106 | replace hb106 := X.ff_dec hb106 | replace hb106 := X.ff_not hb106 | skip
            refine J.skip rfl rfl ?_
            refine J.skip rfl rfl ?_
            refine J.skip rfl rfl ?_
            refine J.skip rfl rfl ?_
            refine J.skip rfl rfl ?_
            refine J.skip rfl rfl ?_
            refine J.skip rfl rfl ?_
            refine J.q rfl rfl (Q.pick_f rfl rfl) ?_
            refine J.q rfl rfl (Q.mv rfl) ?_
            refine J.skip rfl rfl ?_
            refine J.skip rfl rfl ?_
            refine J.skip rfl rfl ?_
            refine J.skip rfl rfl ?_
            refine J.skip rfl rfl ?_
            refine J.skip rfl rfl ?_
            refine J.skip rfl rfl ?_
            refine J.skip rfl rfl ?_
            refine J.skip rfl rfl ?_
            refine J.skip rfl rfl ?_
            refine J.skip rfl rfl ?_
            refine J.skip rfl rfl ?_
            refine J.skip rfl rfl ?_
            refine J.skip rfl rfl ?_
            refine J.skip rfl rfl ?_
            refine J.skip rfl rfl ?_
            refine J.skip rfl rfl ?_
            refine J.skip rfl rfl ?_
            refine J.q rfl rfl (Q.pick_f rfl rfl) ?_
            refine J.q rfl rfl (Q.asg rfl) ?_
            refine J.nil ?_
            first
              | refine J.meet _ ?_ ⟨rfl, rfl, rfl, trivial⟩ rfl
              | (refine J.keep [1, 2, 0, 3] rfl ?_
                 refine J.meet _ ?_ ⟨rfl, rfl, rfl, trivial⟩ rfl)
            clear hf his hr0 hr1 hr2
            simp_all [OM.r3, emp, longB] <;> omega
        ·
          refine J.seq ?_
          refine J.seq ?_
          refine J.region ?_
          refine J.q rfl rfl (Q.mv rfl) ?_
          refine J.q rfl rfl (Q.not rfl) ?_
          refine J.q rfl rfl (Q.mv rfl) ?_
          refine J.cases 137 rfl (fun hb137 => ?_) (fun hb137 => ?_)
          ·
            first | replace hb137 := X.tt_dec hb137 | replace hb137 := X.tt_not hb137 | replace hb137 := X.ff_dec hb137 | replace hb137 := X.ff_not hb137 | skip
            refine J.skip rfl rfl ?_
            refine J.skip rfl rfl ?_
            refine J.skip rfl rfl ?_
            refine J.skip rfl rfl ?_
            refine J.skip rfl rfl ?_
            refine J.skip rfl rfl ?_
            refine J.skip rfl rfl ?_
            refine J.skip rfl rfl ?_
            refine J.q rfl rfl (Q.pick_t rfl rfl) ?_
            refine J.q rfl rfl (Q.mv rfl) ?_
            refine J.skip rfl rfl ?_
            refine J.skip rfl rfl ?_
            refine J.skip rfl rfl ?_
            refine J.skip rfl rfl ?_
            refine J.skip rfl rfl ?_
            refine J.skip rfl rfl ?_
            refine J.skip rfl rfl ?_
            refine J.skip rfl rfl ?_
            refine J.skip rfl rfl ?_
            refine J.q rfl rfl (Q.pick_t rfl rfl) ?_
            refine J.nil ?_
            refine J.then_n ?_
            refine J.cond_t rfl ?_
            refine J.seq ?_
            refine J.region ?_
            refine J.q rfl rfl (Q.asg rfl) ?_
            refine J.nil ?_
            refine J.then_n ?_
            refine J.cret ?_
            refine J.then_r ?_
            refine J.keep [2, 3] rfl ?_
            refine J.ret1 (B := [G]) rfl rfl ⟨?_, rfl⟩ rfl
            have hck : x.o.chkB = x.o.r4 f s := by unfold OM.chkB; rw [← hf, ← his, ← hr0, ← hr1, ← hr2, ← hr3]
            rw [hck]
            clear hf his hr0 hr1 hr2 hr3 hck
            simp_all [OM.r4, emp, longB] <;> omega
          ·
            first | replace hb137 := X.tt_dec hb137 | replace hb137 := X.tt_not hb137 | replace hb137 := X.ff_dec hb137 | replace hb137 := X.ff_not hb137 | skip
            refine J.q rfl rfl (Q.fa (n := 6) Try.runUnderlying52 rfl rfl Try.sizeOf4 rfl) ?_
            refine J.q rfl rfl (Q.ld Try.isAgg4 rfl (by first | exact Reads.pt 0 rfl rfl | exact Reads.pt 1 rfl rfl | exact Reads.pt 2 rfl rfl | exact Reads.pt 3 rfl rfl | exact Reads.pt 4 rfl rfl | exact Reads.pt 5 rfl rfl | exact Reads.pt 6 rfl rfl | exact Reads.pt 7 rfl rfl | exact Reads.pt 8 rfl rfl | exact Reads.pt 9 rfl rfl | exact Reads.pt 10 rfl rfl | exact Reads.pt 11 rfl rfl | exact Reads.pt 12 rfl rfl | exact Reads.pt 13 rfl rfl)) ?_
            refine J.q rfl rfl (Q.mv rfl) ?_
            refine J.cases 140 rfl (fun hb140 => ?_) (fun hb140 => ?_)
            ·
              first | replace hb140 := X.tt_dec hb140 | replace hb140 := X.tt_not hb140 | replace hb140 := X.ff_dec hb140 | replace hb140 := X.ff_not hb140 | skip
              refine J.q rfl rfl (Q.fa (n := 8) Try.runUnderlying26 rfl rfl Try.sizeOf24 rfl) ?_
              refine J.q rfl rfl (Q.ld Try.isAgg24 rfl (by first | exact Reads.pt 0 rfl rfl | exact Reads.pt 1 rfl rfl | exact Reads.pt 2 rfl rfl | exact Reads.pt 3 rfl rfl | exact Reads.pt 4 rfl rfl | exact Reads.pt 5 rfl rfl | exact Reads.pt 6 rfl rfl | exact Reads.pt 7 rfl rfl | exact Reads.pt 8 rfl rfl | exact Reads.pt 9 rfl rfl | exact Reads.pt 10 rfl rfl | exact Reads.pt 11 rfl rfl | exact Reads.pt 12 rfl rfl | exact Reads.pt 13 rfl rfl)) ?_
              refine J.q rfl rfl (Q.lenSl Try.runUnderlying24 rfl) ?_
              refine J.q rfl rfl (Q.gtr rfl rfl) ?_
              refine J.q rfl rfl (Q.pick_t rfl rfl) ?_
              refine J.q rfl rfl (Q.pick_f rfl rfl) ?_
              refine J.q rfl rfl (Q.mv rfl) ?_
              refine J.cases 147 rfl (fun hb147 => ?_) (fun hb147 => ?_)
              ·
                first | replace hb147 := X.tt_dec hb147 | replace hb147 := X.tt_not hb147 | replace hb147 := X.ff_dec hb147 | replace hb147 := X.ff_not hb147 | skip
                refine J.skip rfl rfl ?_
                refine J.skip rfl rfl ?_
                refine J.skip rfl rfl ?_
                refine J.skip rfl rfl ?_
                refine J.skip rfl rfl ?_
                refine J.skip rfl rfl ?_
                refine J.skip rfl rfl ?_
                refine J.skip rfl rfl ?_
                refine J.skip rfl rfl ?_
                refine J.q rfl rfl (Q.pick_t rfl rfl) ?_
                refine J.nil ?_
                refine J.then_n ?_
                refine J.cond_t rfl ?_
                refine J.seq ?_
                refine J.region ?_
                refine J.q rfl rfl (Q.asg rfl) ?_
                refine J.nil ?_
                refine J.then_n ?_
                refine J.cret ?_
                refine J.then_r ?_
                refine J.keep [2, 3] rfl ?_
                refine J.ret1 (B := [G]) rfl rfl ⟨?_, rfl⟩ rfl
                have hck : x.o.chkB = x.o.r4 f s := by unfold OM.chkB; rw [← hf, ← his, ← hr0, ← hr1, ← hr2, ← hr3]
                rw [hck]
                clear hf his hr0 hr1 hr2 hr3 hck
                simp_all [OM.r4, emp, longB] <;> omega
              ·
                first | replace hb147 := X.tt_dec hb147 | replace hb147 := X.tt_not hb147 | replace hb147 := X.ff_dec hb147 | replace hb147 := X.ff_not hb147 | skip
                refine J.q rfl rfl (Q.fa (n := 6) Try.runUnderlying52 rfl rfl Try.sizeOf4 rfl) ?_
                refine J.q rfl rfl (Q.ld Try.isAgg4 rfl (by first | exact Reads.pt 0 rfl rfl | exact Reads.pt 1 rfl rfl | exact Reads.pt 2 rfl rfl | exact Reads.pt 3 rfl rfl | exact Reads.pt 4 rfl rfl | exact Reads.pt 5 rfl rfl | exact Reads.pt 6 rfl rfl | exact Reads.pt 7 rfl rfl | exact Reads.pt 8 rfl rfl | exact Reads.pt 9 rfl rfl | exact Reads.pt 10 rfl rfl | exact Reads.pt 11 rfl rfl | exact Reads.pt 12 rfl rfl | exact Reads.pt 13 rfl rfl)) ?_
                refine J.q rfl rfl (Q.not rfl) ?_
                refine J.q rfl rfl (Q.mv rfl) ?_
                refine J.cases 151 rfl (fun hb151 => ?_) (fun hb151 => ?_)
                ·
                  first | replace hb151 := X.tt_dec hb151 | replace hb151 := X.tt_not hb151 | replace hb151 := X.ff_dec hb151 | replace hb151 := X.ff_not hb151 | skip
                  refine J.q rfl rfl (Q.fa (n := 8) Try.runUnderlying26 rfl rfl Try.sizeOf24 rfl) ?_
                  refine J.q rfl rfl (Q.ld Try.isAgg24 rfl (by first | exact Reads.pt 0 rfl rfl | exact Reads.pt 1 rfl rfl | exact Reads.pt 2 rfl rfl | exact Reads.pt 3 rfl rfl | exact Reads.pt 4 rfl rfl | exact Reads.pt 5 rfl rfl | exact Reads.pt 6 rfl rfl | exact Reads.pt 7 rfl rfl | exact Reads.pt 8 rfl rfl | exact Reads.pt 9 rfl rfl | exact Reads.pt 10 rfl rfl | exact Reads.pt 11 rfl rfl | exact Reads.pt 12 rfl rfl | exact Reads.pt 13 rfl rfl)) ?_
                  refine J.q rfl rfl (Q.lenSl Try.runUnderlying24 rfl) ?_
                  refine J.q rfl rfl (Q.gtr rfl rfl) ?_
                  refine J.q rfl rfl (Q.pick_t rfl rfl) ?_
                  refine J.q rfl rfl (Q.pick_f rfl rfl) ?_
                  refine J.nil ?_
                  refine J.then_n ?_
                  refine J.cases 157 rfl (fun hc157 => ?_) (fun hc157 => ?_)
                  ·
                    first | replace hc157 := X.tt_dec hc157 | replace hc157 := X.tt_not hc157 | replace hc157 := X.ff_dec hc157 | replace hc157 := X.ff_not hc157 | skip
                    refine J.cond_t rfl ?_
                    refine J.seq ?_
                    refine J.region ?_
                    refine J.q rfl rfl (Q.asg rfl) ?_
                    refine J.nil ?_
                    refine J.then_n ?_
                    refine J.cret ?_
                    refine J.then_r ?_
                    refine J.keep [2, 3] rfl ?_
                    refine J.ret1 (B := [G]) rfl rfl ⟨?_, rfl⟩ rfl
                    have hck : x.o.chkB = x.o.r4 f s := by unfold OM.chkB; rw [← hf, ← his, ← hr0, ← hr1, ← hr2, ← hr3]
                    rw [hck]
                    clear hf his hr0 hr1 hr2 hr3 hck
                    simp_all [OM.r4, emp, longB] <;> omega
                  ·
                    first | replace hc157 := X.tt_dec hc157 | replace hc157 := X.tt_not hc157 | replace hc157 := X.ff_dec hc157 | replace hc157 := X.ff_not hc157 | skip
                    refine J.cond_f rfl ?_
                    refine J.cskip ?_
                    refine J.then_n ?_
                    refine J.seq ?_
                    refine J.region ?_
                    refine J.q rfl rfl (Q.asg rfl) ?_
                    refine J.nil ?_
                    refine J.then_n ?_
                    refine J.cret ?_
                    refine J.keep [2, 3] rfl ?_
                    refine J.ret1 (B := [G]) rfl rfl ⟨?_, rfl⟩ rfl
                    have hck : x.o.chkB = x.o.r4 f s := by unfold OM.chkB; rw [← hf, ← his, ← hr0, ← hr1, ← hr2, ← hr3]
                    rw [hck]
                    clear hf his hr0 hr1 hr2 hr3 hck
                    simp_all [OM.r4, emp, longB] <;> omega
                ·
                  first | replace hb151 := X.tt_dec hb151 | replace hb151 := X.tt_not hb151 | replace hb151 := X.ff_dec hb151 | replace hb151 := X.ff_not hb151 | skip
                  refine J.skip rfl rfl ?_
                  refine J.skip rfl rfl ?_
                  refine J.skip rfl rfl ?_
                  refine J.skip rfl rfl ?_
                  refine J.q rfl rfl (Q.pick_f rfl rfl) ?_
                  refine J.q rfl rfl (Q.pick_f rfl rfl) ?_
                  refine J.nil ?_
                  refine J.then_n ?_
                  refine J.cond_f rfl ?_
                  refine J.cskip ?_
                  refine J.then_n ?_
                  refine J.seq ?_
                  refine J.region ?_
                  refine J.q rfl rfl (Q.asg rfl) ?_
                  refine J.nil ?_
                  refine J.then_n ?_
                  refine J.cret ?_
                  refine J.keep [2, 3] rfl ?_
                  refine J.ret1 (B := [G]) rfl rfl ⟨?_, rfl⟩ rfl
                  have hck : x.o.chkB = x.o.r4 f s := by unfold OM.chkB; rw [← hf, ← his, ← hr0, ← hr1, ← hr2, ← hr3]
                  rw [hck]
                  clear hf his hr0 hr1 hr2 hr3 hck
                  simp_all [OM.r4, emp, longB] <;> omega
            ·
              first | replace hb140 := X.tt_dec hb140 | replace hb140 := X.tt_not hb140 | replace hb140 := X.ff_dec hb140 | replace hb140 := X.ff_not hb140 | skip
              refine J.skip rfl rfl ?_
              refine J.skip rfl rfl ?_
              refine J.skip rfl rfl ?_
              refine J.skip rfl rfl ?_
              refine J.q rfl rfl (Q.pick_f rfl rfl) ?_
              refine J.q rfl rfl (Q.pick_f rfl rfl) ?_
              refine J.q rfl rfl (Q.mv rfl) ?_
              refine J.q rfl rfl (Q.fa (n := 6) Try.runUnderlying52 rfl rfl Try.sizeOf4 rfl) ?_
              refine J.q rfl rfl (Q.ld Try.isAgg4 rfl (by first | exact Reads.pt 0 rfl rfl | exact Reads.pt 1 rfl rfl | exact Reads.pt 2 rfl rfl | exact Reads.pt 3 rfl rfl | exact Reads.pt 4 rfl rfl | exact Reads.pt 5 rfl rfl | exact Reads.pt 6 rfl rfl | exact Reads.pt 7 rfl rfl | exact Reads.pt 8 rfl rfl | exact Reads.pt 9 rfl rfl | exact Reads.pt 10 rfl rfl | exact Reads.pt 11 rfl rfl | exact Reads.pt 12 rfl rfl | exact Reads.pt 13 rfl rfl)) ?_
              refine J.q rfl rfl (Q.not rfl) ?_
              refine J.q rfl rfl (Q.mv rfl) ?_
              refine J.cases 151 rfl (fun hb151 => ?_) (fun hb151 => ?_)
              ·
                first | replace hb151 := X.tt_dec hb151 | replace hb151 := X.tt_not hb151 | replace hb151 := X.ff_dec hb151 | replace hb151 := X.ff_not hb151 | skip
                refine J.q rfl rfl (Q.fa (n := 8) Try.runUnderlying26 rfl rfl Try.sizeOf24 rfl) ?_
                refine J.q rfl rfl (Q.ld Try.isAgg24 rfl (by first | exact Reads.pt 0 rfl rfl | exact Reads.pt 1 rfl rfl | exact Reads.pt 2 rfl rfl | exact Reads.pt 3 rfl rfl | exact Reads.pt 4 rfl rfl | exact Reads.pt 5 rfl rfl | exact Reads.pt 6 rfl rfl | exact Reads.pt 7 rfl rfl | exact Reads.pt 8 rfl rfl | exact Reads.pt 9 rfl rfl | exact Reads.pt 10 rfl rfl | exact Reads.pt 11 rfl rfl | exact Reads.pt 12 rfl rfl | exact Reads.pt 13 rfl rfl)) ?_
                refine J.q rfl rfl (Q.lenSl Try.runUnderlying24 rfl) ?_
                refine J.q rfl rfl (Q.gtr rfl rfl) ?_
                refine J.q rfl rfl (Q.pick_t rfl rfl) ?_
                refine J.q rfl rfl (Q.pick_f rfl rfl) ?_
                refine J.nil ?_
                refine J.then_n ?_
                refine J.cases 157 rfl (fun hc157 => ?_) (fun hc157 => ?_)
                ·
                  first | replace hc157 := X.tt_dec hc157 | replace hc157 := X.tt_not hc157 | replace hc157 := X.ff_dec hc157 | replace hc157 := X.ff_not hc157 | skip
                  refine J.cond_t rfl ?_
                  refine J.seq ?_
                  refine J.region ?_
                  refine J.q rfl rfl (Q.asg rfl) ?_
                  refine J.nil ?_
                  refine J.then_n ?_
                  refine J.cret ?_
                  refine J.then_r ?_
                  refine J.keep [2, 3] rfl ?_
                  refine J.ret1 (B := [G]) rfl rfl ⟨?_, rfl⟩ rfl
                  have hck : x.o.chkB = x.o.r4 f s := by unfold OM.chkB; rw [← hf, ← his, ← hr0, ← hr1, ← hr2, ← hr3]
                  rw [hck]
                  clear hf his hr0 hr1 hr2 hr3 hck
                  simp_all [OM.r4, emp, longB] <;> omega
                ·
                  first | replace hc157 := X.tt_dec hc157 | replace hc157 := X.tt_not hc157 | replace hc157 := X.ff_dec hc157 | replace hc157 := X.ff_not hc157 | skip
                  refine J.cond_f rfl ?_
                  refine J.cskip ?_
                  refine J.then_n ?_
                  refine J.seq ?_
                  refine J.region ?_
                  refine J.q rfl rfl (Q.asg rfl) ?_
                  refine J.nil ?_
                  refine J.then_n ?_
                  refine J.cret ?_
                  refine J.keep [2, 3] rfl ?_
                  refine J.ret1 (B := [G]) rfl rfl ⟨?_, rfl⟩ rfl
                  have hck : x.o.chkB = x.o.r4 f s := by unfold OM.chkB; rw [← hf, ← his, ← hr0, ← hr1, ← hr2, ← hr3]
                  rw [hck]
                  clear hf his hr0 hr1 hr2 hr3 hck
                  simp_all [OM.r4, emp, longB] <;> omega
              ·
                first | replace hb151 := X.tt_dec hb151 | replace hb151 := X.tt_not hb151 | replace hb151 := X.ff_dec hb151 | replace hb151 := X.ff_not hb151 | skip
                refine J.skip rfl rfl ?_
                refine J.skip rfl rfl ?_
                refine J.skip rfl rfl ?_
                refine J.skip rfl rfl ?_
                refine J.q rfl rfl (Q.pick_f rfl rfl) ?_
                refine J.q rfl rfl (Q.pick_f rfl rfl) ?_
                refine J.nil ?_
                refine J.then_n ?_
                refine J.cond_f rfl ?_
                refine J.cskip ?_
                refine J.then_n ?_
                refine J.seq ?_
                refine J.region ?_
                refine J.q rfl rfl (Q.asg rfl) ?_
                refine J.nil ?_
                refine J.then_n ?_
                refine J.cret ?_
                refine J.keep [2, 3] rfl ?_
                refine J.ret1 (B := [G]) rfl rfl ⟨?_, rfl⟩ rfl
                have hck : x.o.chkB = x.o.r4 f s := by unfold OM.chkB; rw [← hf, ← his, ← hr0, ← hr1, ← hr2, ← hr3]
                rw [hck]
                clear hf his hr0 hr1 hr2 hr3 hck
                simp_all [OM.r4, emp, longB] <;> omega
end Go.Proofs.Ytdancegklkifaaa
