/-
  Results; copies of slices; slices that are the same.
-/
import Derived.Test.YtdancegklkifaaaBktC
namespace Go.Proofs.Ytdancegklkifaaa
set_option linter.unusedSectionVars false
set_option linter.unusedSimpArgs false
set_option linter.unusedVariables false
open Go.X

structure RM where
  status : Int
  upload : Nat
  keys : List ByteArray
  more : Bool
  data : List UInt8

structure RW where
  r : RM
  kp : Option Addr
  kc : Nat
  dp : Option Addr
  dc : Nat

def RW.cells (x : RW) : List Value := [.int .i64 x.r.status, .int .u64 x.r.upload, .slice x.kp x.r.keys.length x.kc, .bool x.r.more, .slice x.dp x.r.data.length x.dc]
def RW.asns (x : RW) : List Assn := [own 9 1 (.slice x.kp x.r.keys.length x.kc) (x.r.keys.map Value.string), own 5 1 (.slice x.dp x.r.data.length x.dc) (bytesV x.r.data)]
def RW.asn (x : RW) : Assn := star x.asns

/-- What is known of a result that is read. -/
structure RW.ok (G : Assn) (x : RW) : Prop where
  keys : SlR [G] 1 (.slice x.kp x.r.keys.length x.kc) (x.r.keys.map Value.string)
  data : SlR [G] 1 (.slice x.dp x.r.data.length x.dc) (bytesV x.r.data)
  small : x.r.keys.length ≤ 1099511627776 ∧ x.r.data.length ≤ 1099511627776

def st (n : Int) : RM := ⟨n, 0, [], false, []⟩

theorem strs_one (ss : List ByteArray) : ∀ v, v ∈ ss.map Value.string → oneC v = true := by
  intro v hv
  obtain ⟨s, _, rfl⟩ := List.mem_map.1 hv
  rfl

/-- A copy of bytes. -/
theorem clone_spec (G : Assn) (sp : Option Addr) (sc : Nat) (bs : List UInt8) (hs : SlR [G] 1 (.slice sp bs.length sc) (bytesV bs)) (hn : bs.length ≤ 140737488355328) :
    FSpec Try.prog 32 [.slice sp bs.length sc] [G] (fun v B => ∃ sp' sc', v = .slice sp' bs.length sc' ∧ B = [own 5 1 (.slice sp' bs.length sc') (bytesV bs), G]) := by
  refine FSpec.of Try.func32 rfl Try.ntmps32 rfl fun W0 F => ?_
  refine J.seq ?_
  refine J.region ?_
  refine J.q rfl rfl (Q.asg rfl) ?_
  refine J.nil ?_
  refine J.then_n ?_
  refine J.seq ?_
  refine J.seq ?_
  refine J.region ?_
  refine J.q rfl rfl (Q.mv rfl) ?_
  refine J.q rfl rfl (Q.eqlsl Try.runUnderlying24 rfl rfl) ?_
  refine J.nil ?_
  refine J.then_n ?_
  refine J.cases 4 rfl (fun hc4 => ?_) (fun hc4 => ?_)
  ·
    first | replace hc4 := X.tt_dec hc4 | replace hc4 := X.tt_not hc4 | replace hc4 := X.ff_dec hc4 | replace hc4 := X.ff_not hc4 | skip
    refine J.cond_t rfl ?_
    refine J.seq ?_
    refine J.region ?_
    refine J.q rfl rfl (Q.asg rfl) ?_
    refine J.nil ?_
    refine J.then_n ?_
    refine J.cret ?_
    refine J.then_r ?_
    have hb : bs = [] := by
      cases sp with
      | none =>
        rcases hs with ⟨_, c, e, hx⟩ | ⟨b, off, len, cap, e, _⟩
        · simpa [bytesV] using hx
        · cases e
      | some a => simp at hc4
    subst hb
    refine J.give (own.nil 5 1 _) ?_
    refine J.ret1 (B := [own 5 1 (.slice none 0 0) [], G]) rfl rfl ⟨none, 0, rfl, rfl⟩ rfl
  ·
    first | replace hc4 := X.tt_dec hc4 | replace hc4 := X.tt_not hc4 | replace hc4 := X.ff_dec hc4 | replace hc4 := X.ff_not hc4 | skip
    refine J.cond_f rfl ?_
    refine J.cskip ?_
    refine J.then_n ?_
    refine J.seq ?_
    refine J.region ?_
    refine J.c rfl rfl (C.bslG (l := []) Try.runUnderlying24 Try.sizeOf5 Try.zeroValue5 (by decide) rfl rfl rfl rfl rfl) ?_
    rintro _ _ ⟨b5, rfl, rfl⟩
    refine J.norm rfl ?_
    refine J.conv (Y := own 5 1 (.slice (some ⟨b5, 0, none⟩) 0 0) []) 0 rfl (own.of_pt rfl (Nat.le_refl _) (by simp) (by simp) (by simp)) ?_
    refine J.q rfl rfl (Q.mv rfl) ?_
    refine J.c rfl rfl (C.app (i := 0) Try.runUnderlying24 Try.runUnderlying24 Try.typeInfo5 Try.sizeOf5 Try.zeroValue5 rfl rfl rfl (hs.within (i := 1) rfl) (bytesV_one bs) (by rw [show Try.t5.bytes = 1 from rfl]; omega) (by decide)) ?_
    rintro _ _ ⟨p7, c7, rfl, rfl⟩
    refine J.norm rfl ?_
    refine J.q rfl rfl (Q.asg rfl) ?_
    refine J.nil ?_
    refine J.then_n ?_
    refine J.cret ?_
    refine J.ret1 (B := [own 5 1 (.slice p7 (0 + bs.length) c7) ([] ++ bytesV bs), G]) rfl rfl ⟨p7, c7, by rw [Nat.zero_add], by rw [Nat.zero_add, List.nil_append]⟩ rfl

/-- A copy of texts. -/
theorem cloneS_spec (G : Assn) (sp : Option Addr) (sc : Nat) (ss : List ByteArray) (hs : SlR [G] 1 (.slice sp ss.length sc) (ss.map Value.string)) (hn : ss.length ≤ 1099511627776) :
    FSpec Try.prog 31 [.slice sp ss.length sc] [G] (fun v B => ∃ sp' sc', v = .slice sp' ss.length sc' ∧ B = [own 9 1 (.slice sp' ss.length sc') (ss.map Value.string), G]) := by
  refine FSpec.of Try.func31 rfl Try.ntmps31 rfl fun W0 F => ?_
  refine J.seq ?_
  refine J.region ?_
  refine J.q rfl rfl (Q.asg rfl) ?_
  refine J.nil ?_
  refine J.then_n ?_
  refine J.seq ?_
  refine J.seq ?_
  refine J.region ?_
  refine J.q rfl rfl (Q.mv rfl) ?_
  refine J.q rfl rfl (Q.eqlsl Try.runUnderlying39 rfl rfl) ?_
  refine J.nil ?_
  refine J.then_n ?_
  refine J.cases 4 rfl (fun hc4 => ?_) (fun hc4 => ?_)
  ·
    first | replace hc4 := X.tt_dec hc4 | replace hc4 := X.tt_not hc4 | replace hc4 := X.ff_dec hc4 | replace hc4 := X.ff_not hc4 | skip
    refine J.cond_t rfl ?_
    refine J.seq ?_
    refine J.region ?_
    refine J.q rfl rfl (Q.asg rfl) ?_
    refine J.nil ?_
    refine J.then_n ?_
    refine J.cret ?_
    refine J.then_r ?_
    have hb : ss = [] := by
      cases sp with
      | none =>
        rcases hs with ⟨_, c, e, hx⟩ | ⟨b, off, len, cap, e, _⟩
        · simpa using hx
        · cases e
      | some a => simp at hc4
    subst hb
    refine J.give (own.nil 9 1 _) ?_
    refine J.ret1 (B := [own 9 1 (.slice none 0 0) [], G]) rfl rfl ⟨none, 0, rfl, rfl⟩ rfl
  ·
    first | replace hc4 := X.tt_dec hc4 | replace hc4 := X.tt_not hc4 | replace hc4 := X.ff_dec hc4 | replace hc4 := X.ff_not hc4 | skip
    refine J.cond_f rfl ?_
    refine J.cskip ?_
    refine J.then_n ?_
    refine J.seq ?_
    refine J.region ?_
    refine J.c rfl rfl (C.bslG (l := []) Try.runUnderlying39 Try.sizeOf9 Try.zeroValue9 (by decide) rfl rfl rfl rfl rfl) ?_
    rintro _ _ ⟨b5, rfl, rfl⟩
    refine J.norm rfl ?_
    refine J.conv (Y := own 9 1 (.slice (some ⟨b5, 0, none⟩) 0 0) []) 0 rfl (own.of_pt rfl (Nat.le_refl _) (by simp) (by simp) (by simp)) ?_
    refine J.q rfl rfl (Q.mv rfl) ?_
    refine J.c rfl rfl (C.app (i := 0) Try.runUnderlying39 Try.runUnderlying39 Try.typeInfo9 Try.sizeOf9 Try.zeroValue9 rfl rfl rfl (hs.within (i := 1) rfl) (strs_one ss) (by rw [show Try.t9.bytes = 16 from rfl]; omega) (by decide)) ?_
    rintro _ _ ⟨p7, c7, rfl, rfl⟩
    refine J.norm rfl ?_
    refine J.q rfl rfl (Q.asg rfl) ?_
    refine J.nil ?_
    refine J.then_n ?_
    refine J.cret ?_
    refine J.ret1 (B := [own 9 1 (.slice p7 (0 + ss.length) c7) ([] ++ (ss.map Value.string)), G]) rfl rfl ⟨p7, c7, by rw [Nat.zero_add], by rw [Nat.zero_add, List.nil_append]⟩ rfl

theorem empty_asn : star [own 9 1 (.slice none 0 0) ([] : List Value), own 5 1 (.slice none 0 0) ([] : List Value)] (fun _ => none) :=
  ⟨fun _ => none, fun _ => none, own.nil _ _ _, ⟨fun _ => none, fun _ => none, own.nil _ _ _, trivial, fun _ => .inl rfl, Sub.refl _, Sub.refl _⟩, fun _ => .inl rfl, Sub.refl _, Sub.refl _⟩

theorem status_spec (n : Int) : FSpec Try.prog 24 [.int .i64 n] [] (fun v B => ∃ x : RW, v = .agg x.cells.toArray ∧ x.r = st n ∧ B = [x.asn]) := by
  refine FSpec.of Try.func24 rfl Try.ntmps24 rfl fun W0 F => ?_
  refine J.seq ?_
  refine J.region ?_
  refine J.c rfl rfl (C.alloc (l := [_, _, _, _, _]) Try.zeroValue41 rfl) ?_
  rintro _ _ ⟨b2, rfl, rfl⟩
  refine J.norm rfl ?_
  refine J.nil ?_
  refine J.then_n ?_
  refine J.seq ?_
  refine J.region ?_
  refine J.q rfl rfl (Q.mv rfl) ?_
  refine J.q rfl rfl (Q.bld (l := [_, _, _, _, _]) Try.runUnderlying41 Try.zeroValue41 Try.places41 rfl rfl) ?_
  first | refine J.c0 rfl (C.stA (i := 0) (vs := [_, _, _, _, _]) Try.sizeOf41 rfl rfl rfl rfl rfl rfl) ?_ | refine J.c0 rfl (C.stA (i := 1) (vs := [_, _, _, _, _]) Try.sizeOf41 rfl rfl rfl rfl rfl rfl) ?_ | refine J.c0 rfl (C.stA (i := 2) (vs := [_, _, _, _, _]) Try.sizeOf41 rfl rfl rfl rfl rfl rfl) ?_ | refine J.c0 rfl (C.stA (i := 3) (vs := [_, _, _, _, _]) Try.sizeOf41 rfl rfl rfl rfl rfl rfl) ?_ | refine J.c0 rfl (C.stA (i := 4) (vs := [_, _, _, _, _]) Try.sizeOf41 rfl rfl rfl rfl rfl rfl) ?_ | refine J.c0 rfl (C.stA (i := 5) (vs := [_, _, _, _, _]) Try.sizeOf41 rfl rfl rfl rfl rfl rfl) ?_ | refine J.c0 rfl (C.stA (i := 6) (vs := [_, _, _, _, _]) Try.sizeOf41 rfl rfl rfl rfl rfl rfl) ?_ | refine J.c0 rfl (C.stA (i := 7) (vs := [_, _, _, _, _]) Try.sizeOf41 rfl rfl rfl rfl rfl rfl) ?_ | refine J.c0 rfl (C.stA (i := 8) (vs := [_, _, _, _, _]) Try.sizeOf41 rfl rfl rfl rfl rfl rfl) ?_ | refine J.c0 rfl (C.stA (i := 9) (vs := [_, _, _, _, _]) Try.sizeOf41 rfl rfl rfl rfl rfl rfl) ?_ | refine J.c0 rfl (C.stA (i := 10) (vs := [_, _, _, _, _]) Try.sizeOf41 rfl rfl rfl rfl rfl rfl) ?_ | refine J.c0 rfl (C.stA (i := 11) (vs := [_, _, _, _, _]) Try.sizeOf41 rfl rfl rfl rfl rfl rfl) ?_ | refine J.c0 rfl (C.stA (i := 12) (vs := [_, _, _, _, _]) Try.sizeOf41 rfl rfl rfl rfl rfl rfl) ?_ | refine J.c0 rfl (C.stA (i := 13) (vs := [_, _, _, _, _]) Try.sizeOf41 rfl rfl rfl rfl rfl rfl) ?_ | refine J.c0 rfl (C.stA (i := 14) (vs := [_, _, _, _, _]) Try.sizeOf41 rfl rfl rfl rfl rfl rfl) ?_ | refine J.c0 rfl (C.stA (i := 15) (vs := [_, _, _, _, _]) Try.sizeOf41 rfl rfl rfl rfl rfl rfl) ?_
  rintro _ _ ⟨rfl, rfl⟩
  refine J.nil ?_
  refine J.then_n ?_
  refine J.cret ?_
  refine J.give empty_asn ?_
  refine J.retC [0, 2] (vs := [_, _, _, _, _]) rfl rfl Try.isAgg41 Try.sizeOf41 (ReadsN.pt 1 rfl) rfl (B := [_]) ⟨⟨st n, none, 0, none, 0⟩, rfl, rfl, rfl⟩

theorem apart_spec (G : Assn) (x : RW) (hx : x.ok G) : FSpec Try.prog 25 [.agg x.cells.toArray] [G] (fun v B => ∃ y : RW, v = .agg y.cells.toArray ∧ y.r = x.r ∧ B = [y.asn, G]) := by
  have hsm := hx.small
  refine FSpec.of Try.func25 rfl Try.ntmps25 rfl fun W0 F => ?_
  refine J.seq ?_
  refine J.region ?_
  refine J.c rfl rfl (C.box (l := [_, _, _, _, _]) rfl rfl) ?_
  rintro _ _ ⟨b1, rfl, rfl⟩
  refine J.norm rfl ?_
  refine J.c rfl rfl (C.alloc (l := [_, _, _, _, _]) Try.zeroValue41 rfl) ?_
  rintro _ _ ⟨b2, rfl, rfl⟩
  refine J.norm rfl ?_
  refine J.nil ?_
  refine J.then_n ?_
  refine J.seq ?_
  refine J.keep [1, 0, 2, 3] rfl ?_
  refine J.drawE [2, 5, 7, 9] 1 Try.mixed (by kernel_rfl) rfl rfl fun hR => ?_
  refine RG.q 0 hR rfl rfl rfl rfl rfl rfl (Q.fa (n := 2) Try.runUnderlying41 rfl rfl Try.sizeOf39 rfl) ?_
  refine RG.q 1 hR rfl rfl rfl rfl rfl rfl (Q.ld Try.isAgg39 rfl (by first | exact Reads.pt 0 rfl rfl | exact Reads.pt 1 rfl rfl | exact Reads.pt 2 rfl rfl | exact Reads.pt 3 rfl rfl | exact Reads.pt 4 rfl rfl | exact Reads.pt 5 rfl rfl | exact Reads.pt 6 rfl rfl | exact Reads.pt 7 rfl rfl | exact Reads.pt 8 rfl rfl | exact Reads.pt 9 rfl rfl | exact Reads.pt 10 rfl rfl | exact Reads.pt 11 rfl rfl | exact Reads.pt 12 rfl rfl | exact Reads.pt 13 rfl rfl)) ?_
  refine RG.q 3 hR rfl rfl rfl rfl rfl rfl (Q.fa (n := 4) Try.runUnderlying41 rfl rfl Try.sizeOf24 rfl) ?_
  refine RG.q 4 hR rfl rfl rfl rfl rfl rfl (Q.ld Try.isAgg24 rfl (by first | exact Reads.pt 0 rfl rfl | exact Reads.pt 1 rfl rfl | exact Reads.pt 2 rfl rfl | exact Reads.pt 3 rfl rfl | exact Reads.pt 4 rfl rfl | exact Reads.pt 5 rfl rfl | exact Reads.pt 6 rfl rfl | exact Reads.pt 7 rfl rfl | exact Reads.pt 8 rfl rfl | exact Reads.pt 9 rfl rfl | exact Reads.pt 10 rfl rfl | exact Reads.pt 11 rfl rfl | exact Reads.pt 12 rfl rfl | exact Reads.pt 13 rfl rfl)) ?_
  refine RG.callk 2 hR rfl rfl rfl rfl rfl Try.call31 (cloneS_spec G x.kp x.kc x.r.keys hx.keys (by omega)) [2] rfl rfl ?_
  rintro _ _ ⟨p5, c5, rfl, rfl⟩
  refine ⟨_, X.pick_perm (is := [2]) rfl, ?_⟩
  refine RG.q 6 hR rfl rfl rfl rfl rfl rfl (Q.fa (n := 2) Try.runUnderlying41 rfl rfl Try.sizeOf39 rfl) ?_
  refine RG.callk 5 hR rfl rfl rfl rfl rfl Try.call32 (clone_spec G x.dp x.dc x.r.data hx.data (by omega)) [2] rfl rfl ?_
  rintro _ _ ⟨p8, c8, rfl, rfl⟩
  refine ⟨_, X.pick_perm (is := [2]) rfl, ?_⟩
  first | refine RG.st 7 (j := 0) hR rfl rfl rfl rfl rfl Try.sizeOf39 rfl rfl rfl rfl rfl rfl rfl ?_ | refine RG.st 7 (j := 1) hR rfl rfl rfl rfl rfl Try.sizeOf39 rfl rfl rfl rfl rfl rfl rfl ?_ | refine RG.st 7 (j := 2) hR rfl rfl rfl rfl rfl Try.sizeOf39 rfl rfl rfl rfl rfl rfl rfl ?_ | refine RG.st 7 (j := 3) hR rfl rfl rfl rfl rfl Try.sizeOf39 rfl rfl rfl rfl rfl rfl rfl ?_ | refine RG.st 7 (j := 4) hR rfl rfl rfl rfl rfl Try.sizeOf39 rfl rfl rfl rfl rfl rfl rfl ?_ | refine RG.st 7 (j := 5) hR rfl rfl rfl rfl rfl Try.sizeOf39 rfl rfl rfl rfl rfl rfl rfl ?_ | refine RG.st 7 (j := 6) hR rfl rfl rfl rfl rfl Try.sizeOf39 rfl rfl rfl rfl rfl rfl rfl ?_ | refine RG.st 7 (j := 7) hR rfl rfl rfl rfl rfl Try.sizeOf39 rfl rfl rfl rfl rfl rfl rfl ?_ | refine RG.st 7 (j := 8) hR rfl rfl rfl rfl rfl Try.sizeOf39 rfl rfl rfl rfl rfl rfl rfl ?_ | refine RG.st 7 (j := 9) hR rfl rfl rfl rfl rfl Try.sizeOf39 rfl rfl rfl rfl rfl rfl rfl ?_ | refine RG.st 7 (j := 10) hR rfl rfl rfl rfl rfl Try.sizeOf39 rfl rfl rfl rfl rfl rfl rfl ?_ | refine RG.st 7 (j := 11) hR rfl rfl rfl rfl rfl Try.sizeOf39 rfl rfl rfl rfl rfl rfl rfl ?_ | refine RG.st 7 (j := 12) hR rfl rfl rfl rfl rfl Try.sizeOf39 rfl rfl rfl rfl rfl rfl rfl ?_ | refine RG.st 7 (j := 13) hR rfl rfl rfl rfl rfl Try.sizeOf39 rfl rfl rfl rfl rfl rfl rfl ?_ | refine RG.st 7 (j := 14) hR rfl rfl rfl rfl rfl Try.sizeOf39 rfl rfl rfl rfl rfl rfl rfl ?_ | refine RG.st 7 (j := 15) hR rfl rfl rfl rfl rfl Try.sizeOf39 rfl rfl rfl rfl rfl rfl rfl ?_
  refine RG.q 8 hR rfl rfl rfl rfl rfl rfl (Q.fa (n := 4) Try.runUnderlying41 rfl rfl Try.sizeOf24 rfl) ?_
  first | refine RG.st 9 (j := 0) hR rfl rfl rfl rfl rfl Try.sizeOf24 rfl rfl rfl rfl rfl rfl rfl ?_ | refine RG.st 9 (j := 1) hR rfl rfl rfl rfl rfl Try.sizeOf24 rfl rfl rfl rfl rfl rfl rfl ?_ | refine RG.st 9 (j := 2) hR rfl rfl rfl rfl rfl Try.sizeOf24 rfl rfl rfl rfl rfl rfl rfl ?_ | refine RG.st 9 (j := 3) hR rfl rfl rfl rfl rfl Try.sizeOf24 rfl rfl rfl rfl rfl rfl rfl ?_ | refine RG.st 9 (j := 4) hR rfl rfl rfl rfl rfl Try.sizeOf24 rfl rfl rfl rfl rfl rfl rfl ?_ | refine RG.st 9 (j := 5) hR rfl rfl rfl rfl rfl Try.sizeOf24 rfl rfl rfl rfl rfl rfl rfl ?_ | refine RG.st 9 (j := 6) hR rfl rfl rfl rfl rfl Try.sizeOf24 rfl rfl rfl rfl rfl rfl rfl ?_ | refine RG.st 9 (j := 7) hR rfl rfl rfl rfl rfl Try.sizeOf24 rfl rfl rfl rfl rfl rfl rfl ?_ | refine RG.st 9 (j := 8) hR rfl rfl rfl rfl rfl Try.sizeOf24 rfl rfl rfl rfl rfl rfl rfl ?_ | refine RG.st 9 (j := 9) hR rfl rfl rfl rfl rfl Try.sizeOf24 rfl rfl rfl rfl rfl rfl rfl ?_ | refine RG.st 9 (j := 10) hR rfl rfl rfl rfl rfl Try.sizeOf24 rfl rfl rfl rfl rfl rfl rfl ?_ | refine RG.st 9 (j := 11) hR rfl rfl rfl rfl rfl Try.sizeOf24 rfl rfl rfl rfl rfl rfl rfl ?_ | refine RG.st 9 (j := 12) hR rfl rfl rfl rfl rfl Try.sizeOf24 rfl rfl rfl rfl rfl rfl rfl ?_ | refine RG.st 9 (j := 13) hR rfl rfl rfl rfl rfl Try.sizeOf24 rfl rfl rfl rfl rfl rfl rfl ?_ | refine RG.st 9 (j := 14) hR rfl rfl rfl rfl rfl Try.sizeOf24 rfl rfl rfl rfl rfl rfl rfl ?_ | refine RG.st 9 (j := 15) hR rfl rfl rfl rfl rfl Try.sizeOf24 rfl rfl rfl rfl rfl rfl rfl ?_
  refine RG.fin hR rfl ?_
  refine J.norm rfl ?_
  refine J.then_n ?_
  refine J.seq ?_
  refine J.region ?_
  refine J.q rfl rfl (Q.ldN (vs := [_, _, _, _, _]) Try.isAgg41 Try.sizeOf41 rfl (by first | exact ReadsN.pt 0 rfl | exact ReadsN.pt 1 rfl | exact ReadsN.pt 2 rfl | exact ReadsN.pt 3 rfl | exact ReadsN.pt 4 rfl | exact ReadsN.pt 5 rfl | exact ReadsN.pt 6 rfl | exact ReadsN.pt 7 rfl | exact ReadsN.pt 8 rfl | exact ReadsN.pt 9 rfl | exact ReadsN.pt 10 rfl | exact ReadsN.pt 11 rfl | exact ReadsN.pt 12 rfl | exact ReadsN.pt 13 rfl)) ?_
  first | refine J.c0 rfl (C.stA (i := 0) (vs := [_, _, _, _, _]) Try.sizeOf41 rfl rfl rfl rfl rfl rfl) ?_ | refine J.c0 rfl (C.stA (i := 1) (vs := [_, _, _, _, _]) Try.sizeOf41 rfl rfl rfl rfl rfl rfl) ?_ | refine J.c0 rfl (C.stA (i := 2) (vs := [_, _, _, _, _]) Try.sizeOf41 rfl rfl rfl rfl rfl rfl) ?_ | refine J.c0 rfl (C.stA (i := 3) (vs := [_, _, _, _, _]) Try.sizeOf41 rfl rfl rfl rfl rfl rfl) ?_ | refine J.c0 rfl (C.stA (i := 4) (vs := [_, _, _, _, _]) Try.sizeOf41 rfl rfl rfl rfl rfl rfl) ?_ | refine J.c0 rfl (C.stA (i := 5) (vs := [_, _, _, _, _]) Try.sizeOf41 rfl rfl rfl rfl rfl rfl) ?_ | refine J.c0 rfl (C.stA (i := 6) (vs := [_, _, _, _, _]) Try.sizeOf41 rfl rfl rfl rfl rfl rfl) ?_ | refine J.c0 rfl (C.stA (i := 7) (vs := [_, _, _, _, _]) Try.sizeOf41 rfl rfl rfl rfl rfl rfl) ?_ | refine J.c0 rfl (C.stA (i := 8) (vs := [_, _, _, _, _]) Try.sizeOf41 rfl rfl rfl rfl rfl rfl) ?_ | refine J.c0 rfl (C.stA (i := 9) (vs := [_, _, _, _, _]) Try.sizeOf41 rfl rfl rfl rfl rfl rfl) ?_ | refine J.c0 rfl (C.stA (i := 10) (vs := [_, _, _, _, _]) Try.sizeOf41 rfl rfl rfl rfl rfl rfl) ?_ | refine J.c0 rfl (C.stA (i := 11) (vs := [_, _, _, _, _]) Try.sizeOf41 rfl rfl rfl rfl rfl rfl) ?_ | refine J.c0 rfl (C.stA (i := 12) (vs := [_, _, _, _, _]) Try.sizeOf41 rfl rfl rfl rfl rfl rfl) ?_ | refine J.c0 rfl (C.stA (i := 13) (vs := [_, _, _, _, _]) Try.sizeOf41 rfl rfl rfl rfl rfl rfl) ?_ | refine J.c0 rfl (C.stA (i := 14) (vs := [_, _, _, _, _]) Try.sizeOf41 rfl rfl rfl rfl rfl rfl) ?_ | refine J.c0 rfl (C.stA (i := 15) (vs := [_, _, _, _, _]) Try.sizeOf41 rfl rfl rfl rfl rfl rfl) ?_
  rintro _ _ ⟨rfl, rfl⟩
  refine J.nil ?_
  refine J.then_n ?_
  refine J.cret ?_
  refine J.pack [3, 1] rfl ?_
  refine J.retC [0, 2, 4] (vs := [_, _, _, _, _]) rfl rfl Try.isAgg41 Try.sizeOf41 (ReadsN.pt 3 rfl) rfl (B := [_, G]) ⟨⟨x.r, p5, c5, p8, c8⟩, rfl, rfl, rfl⟩

/-! ### The same -/
theorem take_same {α : Type} {l m : List α} {k : Nat} {a : α} (h : l.take k = m.take k) (h1 : l[k]? = some a) (h2 : m[k]? = some a) : l.take (k + 1) = m.take (k + 1) := by
  obtain ⟨a1, b1⟩ := List.getElem?_eq_some_iff.1 h1
  obtain ⟨a2, b2⟩ := List.getElem?_eq_some_iff.1 h2
  rw [List.take_succ_eq_append_getElem a1, List.take_succ_eq_append_getElem a2, h, b1, b2]

theorem equalB_spec (G : Assn) (p q : Option Addr) (c d : Nat) (bs cs : List UInt8) (hb : SlR [G] 1 (.slice p bs.length c) (bytesV bs)) (hc : SlR [G] 1 (.slice q cs.length d) (bytesV cs)) (hn : bs.length ≤ 1099511627776) (hm : cs.length ≤ 1099511627776) :
    FSpec Try.prog 28 [.slice p bs.length c, .slice q cs.length d] [G] (fun v B => v = .bool (decide (bs = cs)) ∧ B = [G]) := by
  refine FSpec.of Try.func28 rfl Try.ntmps28 rfl fun W0 F => ?_
  refine J.seq ?_
  refine J.region ?_
  refine J.q rfl rfl (Q.asg rfl) ?_
  refine J.nil ?_
  refine J.then_n ?_
  refine J.seq ?_
  refine J.seq ?_
  refine J.region ?_
  refine J.q rfl rfl (Q.mv rfl) ?_
  refine J.q rfl rfl (Q.lenSl Try.runUnderlying24 rfl) ?_
  refine J.q rfl rfl (Q.mv rfl) ?_
  refine J.q rfl rfl (Q.lenSl Try.runUnderlying24 rfl) ?_
  refine J.q rfl rfl (Q.neq rfl rfl) ?_
  refine J.nil ?_
  refine J.then_n ?_
  refine J.cases 10 rfl (fun hc10 => ?_) (fun hc10 => ?_)
  ·
    first | replace hc10 := X.tt_dec hc10 | replace hc10 := X.tt_not hc10 | replace hc10 := X.ff_dec hc10 | replace hc10 := X.ff_not hc10 | skip
    refine J.cond_t rfl ?_
    refine J.seq ?_
    refine J.region ?_
    refine J.q rfl rfl (Q.asg rfl) ?_
    refine J.nil ?_
    refine J.then_n ?_
    refine J.cret ?_
    refine J.then_r ?_
    refine J.ret1 (B := [G]) rfl rfl ⟨?_, rfl⟩ rfl
    have : bs ≠ cs := by rintro rfl; omega
    simp [this]
  ·
    first | replace hc10 := X.tt_dec hc10 | replace hc10 := X.tt_not hc10 | replace hc10 := X.ff_dec hc10 | replace hc10 := X.ff_not hc10 | skip
    refine J.cond_f rfl ?_
    refine J.cskip ?_
    refine J.then_n ?_
    refine J.seq ?_
    refine J.seq ?_
    refine J.region ?_
    refine J.q rfl rfl (Q.mv rfl) ?_
    refine J.q rfl rfl (Q.lenSl Try.runUnderlying24 rfl) ?_
    refine J.q rfl rfl (Q.mv rfl) ?_
    refine J.nil ?_
    refine J.then_n ?_
    refine J.block ?_
    have hlen : bs.length = cs.length := by omega
    refine J.loop (fun k : Nat => k ≤ bs.length ∧ bs.take k = cs.take k) (fun k => bs.length - k) (fun k => [(0, .slice p bs.length c), (1, .slice q cs.length d), (12, .int .i64 bs.length), (13, .int .i64 k)]) (fun _ => [G, F]) 0 ⟨by omega, rfl⟩ ⟨rfl, rfl, rfl, rfl, trivial⟩ rfl fun k hk => ?_
    obtain ⟨hk, hall⟩ := hk
    refine J.seq ?_
    refine J.region ?_
    refine J.q rfl rfl (Q.lss rfl rfl) ?_
    refine J.nil ?_
    refine J.then_n ?_
    refine J.seq ?_
    refine J.cases 14 rfl (fun hc14 => ?_) (fun hc14 => ?_)
    ·
      first | replace hc14 := X.tt_dec hc14 | replace hc14 := X.tt_not hc14 | replace hc14 := X.ff_dec hc14 | replace hc14 := X.ff_not hc14 | skip
      refine J.cond_t rfl ?_
      refine J.cskip ?_
      refine J.then_n ?_
      refine J.seq ?_
      refine J.block ?_
      refine J.seq ?_
      refine J.region ?_
      refine J.q rfl rfl (Q.mv rfl) ?_
      refine J.q rfl rfl (Q.asg rfl) ?_
      refine J.nil ?_
      refine J.then_n ?_
      refine J.seq ?_
      obtain ⟨b1, o1, rfl, hr1⟩ := hb.some_ (by omega)
      obtain ⟨b2, o2, rfl, hr2⟩ := hc.some_ (by omega)
      obtain ⟨u, hu⟩ : ∃ u, bs[k]? = some u := ⟨_, List.getElem?_eq_getElem (by omega)⟩
      obtain ⟨t, ht⟩ : ∃ t, cs[k]? = some t := ⟨_, List.getElem?_eq_getElem (by omega)⟩
      refine J.draw [] Try.mixed (by kernel_rfl) fun hR => ?_
      refine RG.q 0 hR rfl rfl rfl rfl rfl rfl (Q.mv rfl) ?_
      refine RG.q 1 hR rfl rfl rfl rfl rfl rfl (Q.mv rfl) ?_
      refine RG.q 2 hR rfl rfl rfl rfl rfl rfl (Q.ia Try.runUnderlying24 Try.sizeOf5 rfl rfl (by omega) (by omega)) ?_
      refine RG.q 3 hR rfl rfl rfl rfl rfl rfl (Q.ld Try.isAgg5 rfl (((hr1 k (byteV u) (by simp [bytesV, hu])).within (i := 0) rfl).cast (by simp))) ?_
      refine RG.q 4 hR rfl rfl rfl rfl rfl rfl (Q.mv rfl) ?_
      refine RG.q 5 hR rfl rfl rfl rfl rfl rfl (Q.mv rfl) ?_
      refine RG.q 6 hR rfl rfl rfl rfl rfl rfl (Q.ia Try.runUnderlying24 Try.sizeOf5 rfl rfl (by omega) (by omega)) ?_
      refine RG.q 7 hR rfl rfl rfl rfl rfl rfl (Q.ld Try.isAgg5 rfl (((hr2 k (byteV t) (by simp [bytesV, ht])).within (i := 0) rfl).cast (by simp))) ?_
      refine RG.q 8 hR rfl rfl rfl rfl rfl rfl (Q.neq rfl rfl) ?_
      refine RG.fin hR rfl ?_
      refine J.norm rfl ?_
      refine J.then_n ?_
      refine J.cases 24 rfl (fun hc24 => ?_) (fun hc24 => ?_)
      ·
        first | replace hc24 := X.tt_dec hc24 | replace hc24 := X.tt_not hc24 | replace hc24 := X.ff_dec hc24 | replace hc24 := X.ff_not hc24 | skip
        refine J.cond_t rfl ?_
        refine J.seq ?_
        refine J.region ?_
        refine J.q rfl rfl (Q.asg rfl) ?_
        refine J.nil ?_
        refine J.then_n ?_
        refine J.cret ?_
        refine J.blk_r ?_
        refine J.then_r ?_
        refine J.lp_r ?_
        refine J.blk_r ?_
        refine J.then_r ?_
        refine J.ret1 (B := [G]) rfl rfl ⟨?_, rfl⟩ rfl
        have hne : bs ≠ cs := by
          rintro rfl
          rw [hu] at ht
          cases ht
          exact hc24 rfl
        simp [hne]
      ·
        first | replace hc24 := X.tt_dec hc24 | replace hc24 := X.tt_not hc24 | replace hc24 := X.ff_dec hc24 | replace hc24 := X.ff_not hc24 | skip
        refine J.cond_f rfl ?_
        refine J.cskip ?_
        refine J.blk_n ?_
        refine J.then_n ?_
        refine J.region ?_
        refine J.q rfl rfl (Q.add64 rfl rfl (by omega)) ?_
        refine J.q rfl rfl (Q.mv rfl) ?_
        refine J.nil ?_
        have hut : u = t := by
          have : (u.toNat : Int) = t.toNat := hc24
          exact UInt8.toNat_inj.1 (by omega)
        subst hut
        refine J.again (k + 1) ⟨by omega, take_same hall hu ht⟩ (by omega) ⟨rfl, rfl, rfl, rfl, trivial⟩ rfl
    ·
      first | replace hc14 := X.tt_dec hc14 | replace hc14 := X.tt_not hc14 | replace hc14 := X.ff_dec hc14 | replace hc14 := X.ff_not hc14 | skip
      refine J.cond_f rfl ?_
      refine J.exit ?_
      refine J.then_x ?_
      refine J.lp_x ?_
      refine J.blk_x ?_
      refine J.then_n ?_
      refine J.seq ?_
      refine J.region ?_
      refine J.q rfl rfl (Q.asg rfl) ?_
      refine J.nil ?_
      refine J.then_n ?_
      refine J.cret ?_
      refine J.ret1 (B := [G]) rfl rfl ⟨?_, rfl⟩ rfl
      have hkn : k = bs.length := by omega
      have : bs = cs := by rw [hkn, List.take_length, hlen, List.take_length] at hall; exact hall
      simp [this]

theorem equalS_spec (G : Assn) (p q : Option Addr) (c d : Nat) (bs cs : List ByteArray) (hb : SlR [G] 1 (.slice p bs.length c) (bs.map Value.string)) (hc : SlR [G] 1 (.slice q cs.length d) (cs.map Value.string)) (hn : bs.length ≤ 1099511627776) (hm : cs.length ≤ 1099511627776) :
    FSpec Try.prog 27 [.slice p bs.length c, .slice q cs.length d] [G] (fun v B => v = .bool (decide (bs = cs)) ∧ B = [G]) := by
  refine FSpec.of Try.func27 rfl Try.ntmps27 rfl fun W0 F => ?_
  refine J.seq ?_
  refine J.region ?_
  refine J.q rfl rfl (Q.asg rfl) ?_
  refine J.nil ?_
  refine J.then_n ?_
  refine J.seq ?_
  refine J.seq ?_
  refine J.region ?_
  refine J.q rfl rfl (Q.mv rfl) ?_
  refine J.q rfl rfl (Q.lenSl Try.runUnderlying39 rfl) ?_
  refine J.q rfl rfl (Q.mv rfl) ?_
  refine J.q rfl rfl (Q.lenSl Try.runUnderlying39 rfl) ?_
  refine J.q rfl rfl (Q.neq rfl rfl) ?_
  refine J.nil ?_
  refine J.then_n ?_
  refine J.cases 10 rfl (fun hc10 => ?_) (fun hc10 => ?_)
  ·
    first | replace hc10 := X.tt_dec hc10 | replace hc10 := X.tt_not hc10 | replace hc10 := X.ff_dec hc10 | replace hc10 := X.ff_not hc10 | skip
    refine J.cond_t rfl ?_
    refine J.seq ?_
    refine J.region ?_
    refine J.q rfl rfl (Q.asg rfl) ?_
    refine J.nil ?_
    refine J.then_n ?_
    refine J.cret ?_
    refine J.then_r ?_
    refine J.ret1 (B := [G]) rfl rfl ⟨?_, rfl⟩ rfl
    have : bs ≠ cs := by rintro rfl; omega
    simp [this]
  ·
    first | replace hc10 := X.tt_dec hc10 | replace hc10 := X.tt_not hc10 | replace hc10 := X.ff_dec hc10 | replace hc10 := X.ff_not hc10 | skip
    refine J.cond_f rfl ?_
    refine J.cskip ?_
    refine J.then_n ?_
    refine J.seq ?_
    refine J.seq ?_
    refine J.region ?_
    refine J.q rfl rfl (Q.mv rfl) ?_
    refine J.q rfl rfl (Q.lenSl Try.runUnderlying39 rfl) ?_
    refine J.q rfl rfl (Q.mv rfl) ?_
    refine J.nil ?_
    refine J.then_n ?_
    refine J.block ?_
    have hlen : bs.length = cs.length := by omega
    refine J.loop (fun k : Nat => k ≤ bs.length ∧ bs.take k = cs.take k) (fun k => bs.length - k) (fun k => [(0, .slice p bs.length c), (1, .slice q cs.length d), (12, .int .i64 bs.length), (13, .int .i64 k)]) (fun _ => [G, F]) 0 ⟨by omega, rfl⟩ ⟨rfl, rfl, rfl, rfl, trivial⟩ rfl fun k hk => ?_
    obtain ⟨hk, hall⟩ := hk
    refine J.seq ?_
    refine J.region ?_
    refine J.q rfl rfl (Q.lss rfl rfl) ?_
    refine J.nil ?_
    refine J.then_n ?_
    refine J.seq ?_
    refine J.cases 14 rfl (fun hc14 => ?_) (fun hc14 => ?_)
    ·
      first | replace hc14 := X.tt_dec hc14 | replace hc14 := X.tt_not hc14 | replace hc14 := X.ff_dec hc14 | replace hc14 := X.ff_not hc14 | skip
      refine J.cond_t rfl ?_
      refine J.cskip ?_
      refine J.then_n ?_
      refine J.seq ?_
      refine J.block ?_
      refine J.seq ?_
      refine J.region ?_
      refine J.q rfl rfl (Q.mv rfl) ?_
      refine J.q rfl rfl (Q.asg rfl) ?_
      refine J.nil ?_
      refine J.then_n ?_
      refine J.seq ?_
      obtain ⟨b1, o1, rfl, hr1⟩ := hb.some_ (by omega)
      obtain ⟨b2, o2, rfl, hr2⟩ := hc.some_ (by omega)
      obtain ⟨u, hu⟩ : ∃ u, bs[k]? = some u := ⟨_, List.getElem?_eq_getElem (by omega)⟩
      obtain ⟨t, ht⟩ : ∃ t, cs[k]? = some t := ⟨_, List.getElem?_eq_getElem (by omega)⟩
      refine J.draw [] Try.mixed (by kernel_rfl) fun hR => ?_
      refine RG.q 0 hR rfl rfl rfl rfl rfl rfl (Q.mv rfl) ?_
      refine RG.q 1 hR rfl rfl rfl rfl rfl rfl (Q.mv rfl) ?_
      refine RG.q 2 hR rfl rfl rfl rfl rfl rfl (Q.ia Try.runUnderlying39 Try.sizeOf9 rfl rfl (by omega) (by omega)) ?_
      refine RG.q 3 hR rfl rfl rfl rfl rfl rfl (Q.ld Try.isAgg9 rfl (((hr1 k (.string u) (by simp [hu])).within (i := 0) rfl).cast (by simp))) ?_
      refine RG.q 4 hR rfl rfl rfl rfl rfl rfl (Q.mv rfl) ?_
      refine RG.q 5 hR rfl rfl rfl rfl rfl rfl (Q.mv rfl) ?_
      refine RG.q 6 hR rfl rfl rfl rfl rfl rfl (Q.ia Try.runUnderlying39 Try.sizeOf9 rfl rfl (by omega) (by omega)) ?_
      refine RG.q 7 hR rfl rfl rfl rfl rfl rfl (Q.ld Try.isAgg9 rfl (((hr2 k (.string t) (by simp [ht])).within (i := 0) rfl).cast (by simp))) ?_
      refine RG.q 8 hR rfl rfl rfl rfl rfl rfl (Q.neqs rfl rfl) ?_
      refine RG.fin hR rfl ?_
      refine J.norm rfl ?_
      refine J.then_n ?_
      refine J.cases 24 rfl (fun hc24 => ?_) (fun hc24 => ?_)
      ·
        first | replace hc24 := X.tt_dec hc24 | replace hc24 := X.tt_not hc24 | replace hc24 := X.ff_dec hc24 | replace hc24 := X.ff_not hc24 | skip
        refine J.cond_t rfl ?_
        refine J.seq ?_
        refine J.region ?_
        refine J.q rfl rfl (Q.asg rfl) ?_
        refine J.nil ?_
        refine J.then_n ?_
        refine J.cret ?_
        refine J.blk_r ?_
        refine J.then_r ?_
        refine J.lp_r ?_
        refine J.blk_r ?_
        refine J.then_r ?_
        refine J.ret1 (B := [G]) rfl rfl ⟨?_, rfl⟩ rfl
        have hne : bs ≠ cs := by
          rintro rfl
          rw [hu] at ht
          cases ht
          exact hc24 rfl
        simp [hne]
      ·
        first | replace hc24 := X.tt_dec hc24 | replace hc24 := X.tt_not hc24 | replace hc24 := X.ff_dec hc24 | replace hc24 := X.ff_not hc24 | skip
        refine J.cond_f rfl ?_
        refine J.cskip ?_
        refine J.blk_n ?_
        refine J.then_n ?_
        refine J.region ?_
        refine J.q rfl rfl (Q.add64 rfl rfl (by omega)) ?_
        refine J.q rfl rfl (Q.mv rfl) ?_
        refine J.nil ?_
        have hut : u = t := by
          have : u.data.toList = t.data.toList := hc24
          cases u; cases t; simp at this; rw [this]
        subst hut
        refine J.again (k + 1) ⟨by omega, take_same hall hu ht⟩ (by omega) ⟨rfl, rfl, rfl, rfl, trivial⟩ rfl
    ·
      first | replace hc14 := X.tt_dec hc14 | replace hc14 := X.tt_not hc14 | replace hc14 := X.ff_dec hc14 | replace hc14 := X.ff_not hc14 | skip
      refine J.cond_f rfl ?_
      refine J.exit ?_
      refine J.then_x ?_
      refine J.lp_x ?_
      refine J.blk_x ?_
      refine J.then_n ?_
      refine J.seq ?_
      refine J.region ?_
      refine J.q rfl rfl (Q.asg rfl) ?_
      refine J.nil ?_
      refine J.then_n ?_
      refine J.cret ?_
      refine J.ret1 (B := [G]) rfl rfl ⟨?_, rfl⟩ rfl
      have hkn : k = bs.length := by omega
      have : bs = cs := by rw [hkn, List.take_length, hlen, List.take_length] at hall; exact hall
      simp [this]

def sameM (a b : RM) : Bool := decide (a.status = b.status) && decide (a.upload = b.upload) && (a.more == b.more) && decide (a.keys = b.keys) && decide (a.data = b.data)
theorem sameM_iff (a b : RM) : sameM a b = true ↔ a = b := by
  cases a; cases b
  simp only [sameM, Bool.and_eq_true, decide_eq_true_eq, beq_iff_eq, RM.mk.injEq]
  exact ⟨fun ⟨⟨⟨⟨h1, h2⟩, h3⟩, h4⟩, h5⟩ => ⟨h1, h2, h4, h3, h5⟩, fun ⟨h1, h2, h4, h3, h5⟩ => ⟨⟨⟨⟨h1, h2⟩, h3⟩, h4⟩, h5⟩⟩

theorem same_spec (G : Assn) (x y : RW) (hx : x.ok G) (hy : y.ok G) : FSpec Try.prog 15 [.agg x.cells.toArray, .agg y.cells.toArray] [G] (fun v B => v = .bool (sameM x.r y.r) ∧ B = [G]) := by
  have hsm := hx.small
  have hsn := hy.small
  refine FSpec.of Try.func15 rfl Try.ntmps15 rfl fun W0 F => ?_
  refine J.seq ?_
  refine J.region ?_
  refine J.c rfl rfl (C.box (l := [_, _, _, _, _]) rfl rfl) ?_
  rintro _ _ ⟨b2, rfl, rfl⟩
  refine J.norm rfl ?_
  refine J.c rfl rfl (C.box (l := [_, _, _, _, _]) rfl rfl) ?_
  rintro _ _ ⟨b3, rfl, rfl⟩
  refine J.norm rfl ?_
  refine J.q rfl rfl (Q.asg rfl) ?_
  refine J.nil ?_
  refine J.then_n ?_
  refine J.seq ?_
  refine J.region ?_
  refine J.q rfl rfl (Q.fa (n := 0) Try.runUnderlying41 rfl rfl Try.sizeOf3 rfl) ?_
  refine J.q rfl rfl (Q.ld Try.isAgg3 rfl (by first | exact Reads.pt 0 rfl rfl | exact Reads.pt 1 rfl rfl | exact Reads.pt 2 rfl rfl | exact Reads.pt 3 rfl rfl | exact Reads.pt 4 rfl rfl | exact Reads.pt 5 rfl rfl | exact Reads.pt 6 rfl rfl | exact Reads.pt 7 rfl rfl | exact Reads.pt 8 rfl rfl | exact Reads.pt 9 rfl rfl | exact Reads.pt 10 rfl rfl | exact Reads.pt 11 rfl rfl | exact Reads.pt 12 rfl rfl | exact Reads.pt 13 rfl rfl)) ?_
  refine J.q rfl rfl (Q.fa (n := 0) Try.runUnderlying41 rfl rfl Try.sizeOf3 rfl) ?_
  refine J.q rfl rfl (Q.ld Try.isAgg3 rfl (by first | exact Reads.pt 0 rfl rfl | exact Reads.pt 1 rfl rfl | exact Reads.pt 2 rfl rfl | exact Reads.pt 3 rfl rfl | exact Reads.pt 4 rfl rfl | exact Reads.pt 5 rfl rfl | exact Reads.pt 6 rfl rfl | exact Reads.pt 7 rfl rfl | exact Reads.pt 8 rfl rfl | exact Reads.pt 9 rfl rfl | exact Reads.pt 10 rfl rfl | exact Reads.pt 11 rfl rfl | exact Reads.pt 12 rfl rfl | exact Reads.pt 13 rfl rfl)) ?_
  refine J.q rfl rfl (Q.eql rfl rfl) ?_
  refine J.q rfl rfl (Q.mv rfl) ?_
  refine J.cases 10 rfl (fun hb10 => ?_) (fun hb10 => ?_)
  ·
    first | replace hb10 := X.tt_dec hb10 | replace hb10 := X.tt_not hb10 | replace hb10 := X.ff_dec hb10 | replace hb10 := X.ff_not hb10 | skip
    refine J.q rfl rfl (Q.fa (n := 1) Try.runUnderlying41 rfl rfl Try.sizeOf22 rfl) ?_
    refine J.q rfl rfl (Q.ld Try.isAgg22 rfl (by first | exact Reads.pt 0 rfl rfl | exact Reads.pt 1 rfl rfl | exact Reads.pt 2 rfl rfl | exact Reads.pt 3 rfl rfl | exact Reads.pt 4 rfl rfl | exact Reads.pt 5 rfl rfl | exact Reads.pt 6 rfl rfl | exact Reads.pt 7 rfl rfl | exact Reads.pt 8 rfl rfl | exact Reads.pt 9 rfl rfl | exact Reads.pt 10 rfl rfl | exact Reads.pt 11 rfl rfl | exact Reads.pt 12 rfl rfl | exact Reads.pt 13 rfl rfl)) ?_
    refine J.q rfl rfl (Q.fa (n := 1) Try.runUnderlying41 rfl rfl Try.sizeOf22 rfl) ?_
    refine J.q rfl rfl (Q.ld Try.isAgg22 rfl (by first | exact Reads.pt 0 rfl rfl | exact Reads.pt 1 rfl rfl | exact Reads.pt 2 rfl rfl | exact Reads.pt 3 rfl rfl | exact Reads.pt 4 rfl rfl | exact Reads.pt 5 rfl rfl | exact Reads.pt 6 rfl rfl | exact Reads.pt 7 rfl rfl | exact Reads.pt 8 rfl rfl | exact Reads.pt 9 rfl rfl | exact Reads.pt 10 rfl rfl | exact Reads.pt 11 rfl rfl | exact Reads.pt 12 rfl rfl | exact Reads.pt 13 rfl rfl)) ?_
    refine J.q rfl rfl (Q.eql rfl rfl) ?_
    refine J.q rfl rfl (Q.pick_t rfl rfl) ?_
    refine J.q rfl rfl (Q.mv rfl) ?_
    refine J.cases 17 rfl (fun hb17 => ?_) (fun hb17 => ?_)
    ·
      first | replace hb17 := X.tt_dec hb17 | replace hb17 := X.tt_not hb17 | replace hb17 := X.ff_dec hb17 | replace hb17 := X.ff_not hb17 | skip
      refine J.q rfl rfl (Q.fa (n := 3) Try.runUnderlying41 rfl rfl Try.sizeOf4 rfl) ?_
      refine J.q rfl rfl (Q.ld Try.isAgg4 rfl (by first | exact Reads.pt 0 rfl rfl | exact Reads.pt 1 rfl rfl | exact Reads.pt 2 rfl rfl | exact Reads.pt 3 rfl rfl | exact Reads.pt 4 rfl rfl | exact Reads.pt 5 rfl rfl | exact Reads.pt 6 rfl rfl | exact Reads.pt 7 rfl rfl | exact Reads.pt 8 rfl rfl | exact Reads.pt 9 rfl rfl | exact Reads.pt 10 rfl rfl | exact Reads.pt 11 rfl rfl | exact Reads.pt 12 rfl rfl | exact Reads.pt 13 rfl rfl)) ?_
      refine J.q rfl rfl (Q.fa (n := 3) Try.runUnderlying41 rfl rfl Try.sizeOf4 rfl) ?_
      refine J.q rfl rfl (Q.ld Try.isAgg4 rfl (by first | exact Reads.pt 0 rfl rfl | exact Reads.pt 1 rfl rfl | exact Reads.pt 2 rfl rfl | exact Reads.pt 3 rfl rfl | exact Reads.pt 4 rfl rfl | exact Reads.pt 5 rfl rfl | exact Reads.pt 6 rfl rfl | exact Reads.pt 7 rfl rfl | exact Reads.pt 8 rfl rfl | exact Reads.pt 9 rfl rfl | exact Reads.pt 10 rfl rfl | exact Reads.pt 11 rfl rfl | exact Reads.pt 12 rfl rfl | exact Reads.pt 13 rfl rfl)) ?_
      refine J.q rfl rfl (Q.eqlb Try.runUnderlying4 rfl rfl) ?_
      refine J.q rfl rfl (Q.pick_t rfl rfl) ?_
      refine J.q rfl rfl (Q.mv rfl) ?_
      refine J.cases 24 rfl (fun hb24 => ?_) (fun hb24 => ?_)
      ·
        first | replace hb24 := X.tt_dec hb24 | replace hb24 := X.tt_not hb24 | replace hb24 := X.ff_dec hb24 | replace hb24 := X.ff_not hb24 | skip
        refine J.q rfl rfl (Q.fa (n := 2) Try.runUnderlying41 rfl rfl Try.sizeOf39 rfl) ?_
        refine J.q rfl rfl (Q.ld Try.isAgg39 rfl (by first | exact Reads.pt 0 rfl rfl | exact Reads.pt 1 rfl rfl | exact Reads.pt 2 rfl rfl | exact Reads.pt 3 rfl rfl | exact Reads.pt 4 rfl rfl | exact Reads.pt 5 rfl rfl | exact Reads.pt 6 rfl rfl | exact Reads.pt 7 rfl rfl | exact Reads.pt 8 rfl rfl | exact Reads.pt 9 rfl rfl | exact Reads.pt 10 rfl rfl | exact Reads.pt 11 rfl rfl | exact Reads.pt 12 rfl rfl | exact Reads.pt 13 rfl rfl)) ?_
        refine J.q rfl rfl (Q.fa (n := 2) Try.runUnderlying41 rfl rfl Try.sizeOf39 rfl) ?_
        refine J.q rfl rfl (Q.ld Try.isAgg39 rfl (by first | exact Reads.pt 0 rfl rfl | exact Reads.pt 1 rfl rfl | exact Reads.pt 2 rfl rfl | exact Reads.pt 3 rfl rfl | exact Reads.pt 4 rfl rfl | exact Reads.pt 5 rfl rfl | exact Reads.pt 6 rfl rfl | exact Reads.pt 7 rfl rfl | exact Reads.pt 8 rfl rfl | exact Reads.pt 9 rfl rfl | exact Reads.pt 10 rfl rfl | exact Reads.pt 11 rfl rfl | exact Reads.pt 12 rfl rfl | exact Reads.pt 13 rfl rfl)) ?_
        refine J.call Try.call27 (equalS_spec G x.kp y.kp x.kc y.kc x.r.keys y.r.keys hx.keys hy.keys (by omega) (by omega)) [2] rfl rfl rfl rfl ?_
        rintro _ _ ⟨rfl, rfl⟩
        refine J.norm rfl ?_
        refine J.q rfl rfl (Q.pick_t rfl rfl) ?_
        refine J.q rfl rfl (Q.mv rfl) ?_
        refine J.cases 31 rfl (fun hb31 => ?_) (fun hb31 => ?_)
        ·
          first | replace hb31 := X.tt_dec hb31 | replace hb31 := X.tt_not hb31 | replace hb31 := X.ff_dec hb31 | replace hb31 := X.ff_not hb31 | skip
          refine J.q rfl rfl (Q.fa (n := 4) Try.runUnderlying41 rfl rfl Try.sizeOf24 rfl) ?_
          refine J.q rfl rfl (Q.ld Try.isAgg24 rfl (by first | exact Reads.pt 0 rfl rfl | exact Reads.pt 1 rfl rfl | exact Reads.pt 2 rfl rfl | exact Reads.pt 3 rfl rfl | exact Reads.pt 4 rfl rfl | exact Reads.pt 5 rfl rfl | exact Reads.pt 6 rfl rfl | exact Reads.pt 7 rfl rfl | exact Reads.pt 8 rfl rfl | exact Reads.pt 9 rfl rfl | exact Reads.pt 10 rfl rfl | exact Reads.pt 11 rfl rfl | exact Reads.pt 12 rfl rfl | exact Reads.pt 13 rfl rfl)) ?_
          refine J.q rfl rfl (Q.fa (n := 4) Try.runUnderlying41 rfl rfl Try.sizeOf24 rfl) ?_
          refine J.q rfl rfl (Q.ld Try.isAgg24 rfl (by first | exact Reads.pt 0 rfl rfl | exact Reads.pt 1 rfl rfl | exact Reads.pt 2 rfl rfl | exact Reads.pt 3 rfl rfl | exact Reads.pt 4 rfl rfl | exact Reads.pt 5 rfl rfl | exact Reads.pt 6 rfl rfl | exact Reads.pt 7 rfl rfl | exact Reads.pt 8 rfl rfl | exact Reads.pt 9 rfl rfl | exact Reads.pt 10 rfl rfl | exact Reads.pt 11 rfl rfl | exact Reads.pt 12 rfl rfl | exact Reads.pt 13 rfl rfl)) ?_
          refine J.call Try.call28 (equalB_spec G x.dp y.dp x.dc y.dc x.r.data y.r.data hx.data hy.data (by omega) (by omega)) [0] rfl rfl rfl rfl ?_
          rintro _ _ ⟨rfl, rfl⟩
          refine J.norm rfl ?_
          refine J.q rfl rfl (Q.pick_t rfl rfl) ?_
          refine J.q rfl rfl (Q.asg rfl) ?_
          refine J.nil ?_
          refine J.then_n ?_
          refine J.cret ?_
          first | refine J.keep [0, 3] rfl ?_; refine J.ret1 (B := [G]) rfl rfl ⟨?_, rfl⟩ rfl | refine J.keep [2, 3] rfl ?_; refine J.ret1 (B := [G]) rfl rfl ⟨?_, rfl⟩ rfl
          simp_all [sameM] <;> omega
        ·
          first | replace hb31 := X.tt_dec hb31 | replace hb31 := X.tt_not hb31 | replace hb31 := X.ff_dec hb31 | replace hb31 := X.ff_not hb31 | skip
          refine J.skip rfl rfl ?_
          refine J.skip rfl rfl ?_
          refine J.skip rfl rfl ?_
          refine J.skip rfl rfl ?_
          refine J.skip rfl rfl ?_
          refine J.q rfl rfl (Q.pick_f rfl rfl) ?_
          refine J.q rfl rfl (Q.asg rfl) ?_
          refine J.nil ?_
          refine J.then_n ?_
          refine J.cret ?_
          first | refine J.keep [0, 3] rfl ?_; refine J.ret1 (B := [G]) rfl rfl ⟨?_, rfl⟩ rfl | refine J.keep [2, 3] rfl ?_; refine J.ret1 (B := [G]) rfl rfl ⟨?_, rfl⟩ rfl
          simp_all [sameM] <;> omega
      ·
        first | replace hb24 := X.tt_dec hb24 | replace hb24 := X.tt_not hb24 | replace hb24 := X.ff_dec hb24 | replace hb24 := X.ff_not hb24 | skip
        refine J.skip rfl rfl ?_
        refine J.skip rfl rfl ?_
        refine J.skip rfl rfl ?_
        refine J.skip rfl rfl ?_
        refine J.skip rfl rfl ?_
        refine J.q rfl rfl (Q.pick_f rfl rfl) ?_
        refine J.q rfl rfl (Q.mv rfl) ?_
        refine J.skip rfl rfl ?_
        refine J.skip rfl rfl ?_
        refine J.skip rfl rfl ?_
        refine J.skip rfl rfl ?_
        refine J.skip rfl rfl ?_
        refine J.q rfl rfl (Q.pick_f rfl rfl) ?_
        refine J.q rfl rfl (Q.asg rfl) ?_
        refine J.nil ?_
        refine J.then_n ?_
        refine J.cret ?_
        first | refine J.keep [0, 3] rfl ?_; refine J.ret1 (B := [G]) rfl rfl ⟨?_, rfl⟩ rfl | refine J.keep [2, 3] rfl ?_; refine J.ret1 (B := [G]) rfl rfl ⟨?_, rfl⟩ rfl
        simp_all [sameM] <;> omega
    ·
      first | replace hb17 := X.tt_dec hb17 | replace hb17 := X.tt_not hb17 | replace hb17 := X.ff_dec hb17 | replace hb17 := X.ff_not hb17 | skip
      refine J.skip rfl rfl ?_
      refine J.skip rfl rfl ?_
      refine J.skip rfl rfl ?_
      refine J.skip rfl rfl ?_
      refine J.skip rfl rfl ?_
      refine J.q rfl rfl (Q.pick_f rfl rfl) ?_
      refine J.q rfl rfl (Q.mv rfl) ?_
      refine J.skip rfl rfl ?_
      refine J.skip rfl rfl ?_
      refine J.skip rfl rfl ?_
      refine J.skip rfl rfl ?_
      refine J.skip rfl rfl ?_
      refine J.q rfl rfl (Q.pick_f rfl rfl) ?_
      refine J.q rfl rfl (Q.mv rfl) ?_
      refine J.skip rfl rfl ?_
      refine J.skip rfl rfl ?_
      refine J.skip rfl rfl ?_
      refine J.skip rfl rfl ?_
      refine J.skip rfl rfl ?_
      refine J.q rfl rfl (Q.pick_f rfl rfl) ?_
      refine J.q rfl rfl (Q.asg rfl) ?_
      refine J.nil ?_
      refine J.then_n ?_
      refine J.cret ?_
      first | refine J.keep [0, 3] rfl ?_; refine J.ret1 (B := [G]) rfl rfl ⟨?_, rfl⟩ rfl | refine J.keep [2, 3] rfl ?_; refine J.ret1 (B := [G]) rfl rfl ⟨?_, rfl⟩ rfl
      simp_all [sameM] <;> omega
  ·
    first | replace hb10 := X.tt_dec hb10 | replace hb10 := X.tt_not hb10 | replace hb10 := X.ff_dec hb10 | replace hb10 := X.ff_not hb10 | skip
    refine J.skip rfl rfl ?_
    refine J.skip rfl rfl ?_
    refine J.skip rfl rfl ?_
    refine J.skip rfl rfl ?_
    refine J.skip rfl rfl ?_
    refine J.q rfl rfl (Q.pick_f rfl rfl) ?_
    refine J.q rfl rfl (Q.mv rfl) ?_
    refine J.skip rfl rfl ?_
    refine J.skip rfl rfl ?_
    refine J.skip rfl rfl ?_
    refine J.skip rfl rfl ?_
    refine J.skip rfl rfl ?_
    refine J.q rfl rfl (Q.pick_f rfl rfl) ?_
    refine J.q rfl rfl (Q.mv rfl) ?_
    refine J.skip rfl rfl ?_
    refine J.skip rfl rfl ?_
    refine J.skip rfl rfl ?_
    refine J.skip rfl rfl ?_
    refine J.skip rfl rfl ?_
    refine J.q rfl rfl (Q.pick_f rfl rfl) ?_
    refine J.q rfl rfl (Q.mv rfl) ?_
    refine J.skip rfl rfl ?_
    refine J.skip rfl rfl ?_
    refine J.skip rfl rfl ?_
    refine J.skip rfl rfl ?_
    refine J.skip rfl rfl ?_
    refine J.q rfl rfl (Q.pick_f rfl rfl) ?_
    refine J.q rfl rfl (Q.asg rfl) ?_
    refine J.nil ?_
    refine J.then_n ?_
    refine J.cret ?_
    first | refine J.keep [0, 3] rfl ?_; refine J.ret1 (B := [G]) rfl rfl ⟨?_, rfl⟩ rfl | refine J.keep [2, 3] rfl ?_; refine J.ret1 (B := [G]) rfl rfl ⟨?_, rfl⟩ rfl
    simp_all [sameM] <;> omega
end Go.Proofs.Ytdancegklkifaaa
