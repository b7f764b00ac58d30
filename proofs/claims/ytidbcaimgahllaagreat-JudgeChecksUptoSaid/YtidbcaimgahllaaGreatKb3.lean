/-
  What the proof of the last of these texts leans on: part 3 of 7.
-/
import Derived.Test.YtidbcaimgahllaaGreatRows
import Derived.Laws.StructEq
import Derived.KernelRfl
import Derived.Shelf.SortM.Plain
import Derived.Shelf.SortM.SortNone
import Derived.Ground.SlgmProg
import Derived.Test.YtidbcaimgahllaaGreatKb2
set_option linter.unusedSectionVars false
set_option linter.unusedVariables false
set_option linter.unusedSimpArgs false
namespace Go.Proofs.YtidbcaimgahllaaGreat
open Go.Proofs.Tryz
open Go.X

structure RM where
  status : Int
  upload : Nat
  keys : List ByteArray
  more : Bool
  data : List UInt8

structure RW where
  r : RM
  kp : Option Addr
  kc : Nat
  dp : Option Addr
  dc : Nat

abbrev RW.cells (x : RW) : List Value := [.int .i64 x.r.status, .int .u64 x.r.upload, .slice x.kp x.r.keys.length x.kc, .bool x.r.more, .slice x.dp x.r.data.length x.dc]
def RW.asns (x : RW) : List Assn := [own 9 1 (.slice x.kp x.r.keys.length x.kc) (x.r.keys.map Value.string), own 5 1 (.slice x.dp x.r.data.length x.dc) (bytesV x.r.data)]
def RW.asn (x : RW) : Assn := star x.asns

structure RW.ok (G : Assn) (x : RW) : Prop where
  keys : SlR [G] 1 (.slice x.kp x.r.keys.length x.kc) (x.r.keys.map Value.string)
  data : SlR [G] 1 (.slice x.dp x.r.data.length x.dc) (bytesV x.r.data)
  small : x.r.keys.length ≤ 1099511627776 ∧ x.r.data.length ≤ 1099511627776

def st (n : Int) : RM := ⟨n, 0, [], false, []⟩

theorem strs_one (ss : List ByteArray) : ∀ v, v ∈ ss.map Value.string → oneC v = true := by
  intro v hv
  obtain ⟨s, _, rfl⟩ := List.mem_map.1 hv
  rfl

theorem clone_spec (G : Assn) (sp : Option Addr) (sc : Nat) (bs : List UInt8) (hs : SlR [G] 1 (.slice sp bs.length sc) (bytesV bs)) (hn : bs.length ≤ 140737488355328) :
    FSpec Tryz.prog 82 [.slice sp bs.length sc] [G] (fun v B => ∃ sp' sc', v = .slice sp' bs.length sc' ∧ B = [own 5 1 (.slice sp' bs.length sc') (bytesV bs), G]) := by
  refine FSpec.of func82 rfl ntmps82 rfl fun W0 F => ?_
  refine J.seq <| J.region <| J.p rfl (Q.asg rfl) <| J.nil <| J.then_n <| J.seq <| J.seq <| J.region <| J.m rfl <| J.p rfl (Q.eqlsl runUnderlying42 rfl rfl) <| J.nil <| J.then_n ?_
  refine J.kases 4 rfl (fun hc4 => ?_) (fun hc4 => ?_)
  ·
   refine J.cond_t rfl <| J.seq <| J.region <| J.p rfl (Q.asg rfl) <| J.nil <| J.then_n <| J.cret <| J.then_r ?_
   have hb : bs = [] := by
     cases sp with
     | none =>
       rcases hs with ⟨_, c, e, hx⟩ | ⟨b, off, len, cap, e, _⟩
       · simpa [bytesV] using hx
       · cases e
     | some a => simp at hc4
   subst hb
   refine J.give (own.nil 5 1 _) ?_
   refine J.ret1 (B := [own 5 1 (.slice none 0 0) [], G]) rfl rfl ⟨none, 0, rfl, rfl⟩ rfl
  refine J.cond_f rfl <| J.cskip <| J.then_n <| J.seq <| J.region ?_
  refine J.c rfl rfl (C.bslG (l := []) runUnderlying42 sizeOf5 zeroValue5 (by decide) rfl rfl rfl rfl rfl) ?_
  rintro _ _ ⟨b5, rfl, rfl⟩
  refine J.norm rfl ?_
  refine J.conv (Y := own 5 1 (.slice (some ⟨b5, 0, none⟩) 0 0) []) 0 rfl (own.of_pt rfl (Nat.le_refl _) (by simp) (by simp) (by simp)) ?_
  refine J.m rfl ?_
  refine J.c rfl rfl (C.app (i := 0) runUnderlying42 runUnderlying42 typeInfo5 sizeOf5 zeroValue5 rfl rfl rfl (hs.within (i := 1) rfl) (bytesV_one bs) (by rw [show Tryz.t5.bytes = 1 from rfl]; omega) (by decide)) ?_
  rintro _ _ ⟨p7, c7, rfl, rfl⟩
  refine J.norm rfl <| J.p rfl (Q.asg rfl) <| J.nil <| J.then_n <| J.cret ?_
  refine J.ret1 (B := [own 5 1 (.slice p7 (0 + bs.length) c7) ([] ++ bytesV bs), G]) rfl rfl ⟨p7, c7, by rw [Nat.zero_add], by rw [Nat.zero_add, List.nil_append]⟩ rfl

theorem cloneS_spec (G : Assn) (sp : Option Addr) (sc : Nat) (ss : List ByteArray) (hs : SlR [G] 1 (.slice sp ss.length sc) (ss.map Value.string)) (hn : ss.length ≤ 1099511627776) :
    FSpec Tryz.prog 83 [.slice sp ss.length sc] [G] (fun v B => ∃ sp' sc', v = .slice sp' ss.length sc' ∧ B = [own 9 1 (.slice sp' ss.length sc') (ss.map Value.string), G]) := by
  refine FSpec.of func83 rfl ntmps83 rfl fun W0 F => ?_
  refine J.seq <| J.region <| J.p rfl (Q.asg rfl) <| J.nil <| J.then_n <| J.seq <| J.seq <| J.region <| J.m rfl <| J.p rfl (Q.eqlsl runUnderlying41 rfl rfl) <| J.nil <| J.then_n ?_
  refine J.kases 4 rfl (fun hc4 => ?_) (fun hc4 => ?_)
  ·
   refine J.cond_t rfl <| J.seq <| J.region <| J.p rfl (Q.asg rfl) <| J.nil <| J.then_n <| J.cret <| J.then_r ?_
   have hb : ss = [] := by
     cases sp with
     | none =>
       rcases hs with ⟨_, c, e, hx⟩ | ⟨b, off, len, cap, e, _⟩
       · simpa using hx
       · cases e
     | some a => simp at hc4
   subst hb
   refine J.give (own.nil 9 1 _) ?_
   refine J.ret1 (B := [own 9 1 (.slice none 0 0) [], G]) rfl rfl ⟨none, 0, rfl, rfl⟩ rfl
  refine J.cond_f rfl <| J.cskip <| J.then_n <| J.seq <| J.region ?_
  refine J.c rfl rfl (C.bslG (l := []) runUnderlying41 sizeOf9 zeroValue9 (by decide) rfl rfl rfl rfl rfl) ?_
  rintro _ _ ⟨b5, rfl, rfl⟩
  refine J.norm rfl ?_
  refine J.conv (Y := own 9 1 (.slice (some ⟨b5, 0, none⟩) 0 0) []) 0 rfl (own.of_pt rfl (Nat.le_refl _) (by simp) (by simp) (by simp)) ?_
  refine J.m rfl ?_
  refine J.c rfl rfl (C.app (i := 0) runUnderlying41 runUnderlying41 typeInfo9 sizeOf9 zeroValue9 rfl rfl rfl (hs.within (i := 1) rfl) (strs_one ss) (by rw [show Tryz.t9.bytes = 16 from rfl]; omega) (by decide)) ?_
  rintro _ _ ⟨p7, c7, rfl, rfl⟩
  refine J.norm rfl <| J.p rfl (Q.asg rfl) <| J.nil <| J.then_n <| J.cret ?_
  refine J.ret1 (B := [own 9 1 (.slice p7 (0 + ss.length) c7) ([] ++ (ss.map Value.string)), G]) rfl rfl ⟨p7, c7, by rw [Nat.zero_add], by rw [Nat.zero_add, List.nil_append]⟩ rfl

theorem empty_asn : star [own 9 1 (.slice none 0 0) ([] : List Value), own 5 1 (.slice none 0 0) ([] : List Value)] (fun _ => none) :=
  ⟨fun _ => none, fun _ => none, own.nil _ _ _, ⟨fun _ => none, fun _ => none, own.nil _ _ _, trivial, fun _ => .inl rfl, Sub.refl _, Sub.refl _⟩, fun _ => .inl rfl, Sub.refl _, Sub.refl _⟩

theorem status_spec (n : Int) : FSpec Tryz.prog 73 [.int .i64 n] [] (fun v B => ∃ x : RW, v = .agg x.cells.toArray ∧ x.r = st n ∧ B = [x.asn]) := by
  refine FSpec.of func73 rfl ntmps73 rfl fun W0 F => ?_
  refine J.seq <| J.region ?_
  refine J.c rfl rfl (C.alloc (l := [_, _, _, _, _]) zeroValue44 rfl) ?_
  rintro _ _ ⟨b2, rfl, rfl⟩
  refine J.norm rfl <| J.nil <| J.then_n <| J.seq <| J.region <| J.m rfl <| J.p rfl (Q.bld (l := [_, _, _, _, _]) runUnderlying44 zeroValue44 places44 rfl rfl) ?_
  refine J.stAJ (vs := [_, _, _, _, _]) rfl sizeOf44 rfl rfl ?_
  refine J.nil <| J.then_n <| J.cret ?_
  refine J.give empty_asn ?_
  refine J.retC [0, 2] (vs := [_, _, _, _, _]) rfl rfl isAgg44 sizeOf44 (ReadsN.pt 1 rfl) rfl (B := [_]) ⟨⟨st n, none, 0, none, 0⟩, rfl, rfl, rfl⟩

theorem apart_spec (G : Assn) (x : RW) (hx : x.ok G) : FSpec Tryz.prog 75 [.agg x.cells.toArray] [G] (fun v B => ∃ y : RW, v = .agg y.cells.toArray ∧ y.r = x.r ∧ B = [y.asn, G]) := by
  have hsm := hx.small
  refine FSpec.of func75 rfl ntmps75 rfl fun W0 F => ?_
  refine J.seq <| J.region ?_
  refine J.c rfl rfl (C.box (l := [_, _, _, _, _]) rfl rfl) ?_
  rintro _ _ ⟨b1, rfl, rfl⟩
  refine J.norm rfl ?_
  refine J.c rfl rfl (C.alloc (l := [_, _, _, _, _]) zeroValue44 rfl) ?_
  rintro _ _ ⟨b2, rfl, rfl⟩
  refine J.norm rfl <| J.nil <| J.then_n <| J.seq ?_
  refine J.keep [1, 0, 2, 3] rfl ?_
  refine J.drawE [2, 5, 7, 9] 1 Tryz.mixed (by kernel_rfl) rfl rfl fun hR => ?_
  refine RG.p 0 hR rfl (Q.fa (n := 2) runUnderlying44 rfl rfl sizeOf41 rfl) ?_
  refine RG.p 1 hR rfl (Q.ldI isAgg41 rfl) ?_
  refine RG.p 3 hR rfl (Q.fa (n := 4) runUnderlying44 rfl rfl sizeOf42 rfl) ?_
  refine RG.p 4 hR rfl (Q.ldI isAgg42 rfl) ?_
  refine RG.callk 2 hR rfl rfl rfl rfl rfl call83 (cloneS_spec G x.kp x.kc x.r.keys hx.keys (by omega)) [2] rfl rfl ?_
  rintro _ _ ⟨p5, c5, rfl, rfl⟩
  refine ⟨_, X.pick_perm (is := [2]) rfl, ?_⟩
  refine RG.p 6 hR rfl (Q.fa (n := 2) runUnderlying44 rfl rfl sizeOf41 rfl) ?_
  refine RG.callk 5 hR rfl rfl rfl rfl rfl call82 (clone_spec G x.dp x.dc x.r.data hx.data (by omega)) [2] rfl rfl ?_
  rintro _ _ ⟨p8, c8, rfl, rfl⟩
  refine ⟨_, X.pick_perm (is := [2]) rfl, ?_⟩
  refine RG.stI 7 hR rfl rfl rfl rfl rfl sizeOf41 rfl rfl rfl (by exact rfl) (by exact rfl) (by exact rfl) ?_
  refine RG.p 8 hR rfl (Q.fa (n := 4) runUnderlying44 rfl rfl sizeOf42 rfl) ?_
  refine RG.stI 9 hR rfl rfl rfl rfl rfl sizeOf42 rfl rfl rfl (by exact rfl) (by exact rfl) (by exact rfl) ?_
  refine RG.fin hR rfl ?_
  refine J.norm rfl <| J.then_n <| J.seq <| J.region ?_
  refine J.p rfl (Q.ldN (vs := [_, _, _, _, _]) isAgg44 sizeOf44 rfl rnI) ?_
  refine J.stAJ (vs := [_, _, _, _, _]) rfl sizeOf44 rfl rfl ?_
  refine J.nil <| J.then_n <| J.cret ?_
  refine J.pack [3, 1] rfl ?_
  refine J.retC [0, 2, 4] (vs := [_, _, _, _, _]) rfl rfl isAgg44 sizeOf44 (ReadsN.pt 3 rfl) rfl (B := [_, G]) ⟨⟨x.r, p5, c5, p8, c8⟩, rfl, rfl, rfl⟩

theorem take_same {α : Type} {l m : List α} {k : Nat} {a : α} (h : l.take k = m.take k) (h1 : l[k]? = some a) (h2 : m[k]? = some a) : l.take (k + 1) = m.take (k + 1) := by
  obtain ⟨a1, b1⟩ := List.getElem?_eq_some_iff.1 h1
  obtain ⟨a2, b2⟩ := List.getElem?_eq_some_iff.1 h2
  rw [List.take_succ_eq_append_getElem a1, List.take_succ_eq_append_getElem a2, h, b1, b2]

theorem equalB_spec (G : Assn) (p q : Option Addr) (c d : Nat) (bs cs : List UInt8) (hb : SlR [G] 1 (.slice p bs.length c) (bytesV bs)) (hc : SlR [G] 1 (.slice q cs.length d) (bytesV cs)) (hn : bs.length ≤ 1099511627776) (hm : cs.length ≤ 1099511627776) :
    FSpec Tryz.prog 78 [.slice p bs.length c, .slice q cs.length d] [G] (fun v B => v = .bool (decide (bs = cs)) ∧ B = [G]) := by
  refine FSpec.of func78 rfl ntmps78 rfl fun W0 F => ?_
  refine J.seq <| J.region <| J.p rfl (Q.asg rfl) <| J.nil <| J.then_n <| J.seq <| J.seq <| J.region <| J.m rfl <| J.p rfl (Q.lenSl runUnderlying42 rfl) <| J.m rfl <| J.p rfl (Q.lenSl runUnderlying42 rfl) <| J.p rfl (Q.neq rfl rfl) <| J.nil <| J.then_n ?_
  refine J.kases 10 rfl (fun hc10 => ?_) (fun hc10 => ?_)
  ·
   refine J.cond_t rfl <| J.seq <| J.region <| J.p rfl (Q.asg rfl) <| J.nil <| J.then_n <| J.cret <| J.then_r ?_
   refine J.ret1 (B := [G]) rfl rfl ⟨?_, rfl⟩ rfl
   have : bs ≠ cs := by rintro rfl; omega
   simp [this]
  refine J.cond_f rfl <| J.cskip <| J.then_n <| J.seq <| J.seq <| J.region <| J.m rfl <| J.p rfl (Q.lenSl runUnderlying42 rfl) <| J.m rfl <| J.nil <| J.then_n <| J.block ?_
  have hlen : bs.length = cs.length := by omega
  refine J.loop (fun k : Nat => k ≤ bs.length ∧ bs.take k = cs.take k) (fun k => bs.length - k) (fun k => [(0, .slice p bs.length c), (1, .slice q cs.length d), (12, .int .i64 bs.length), (13, .int .i64 k)]) (fun _ => [G, F]) 0 ⟨by omega, rfl⟩ ⟨rfl, rfl, rfl, rfl, trivial⟩ rfl fun k hk => ?_
  obtain ⟨hk, hall⟩ := hk
  refine J.seq <| J.region <| J.p rfl (Q.lss rfl rfl) <| J.nil <| J.then_n <| J.seq ?_
  refine J.kases 14 rfl (fun hc14 => ?_) (fun hc14 => ?_)
  ·
   refine J.cond_t rfl <| J.cskip <| J.then_n <| J.seq <| J.block <| J.seq <| J.region <| J.m rfl <| J.p rfl (Q.asg rfl) <| J.nil <| J.then_n <| J.seq ?_
   obtain ⟨b1, o1, rfl, hr1⟩ := hb.some_ (by omega)
   obtain ⟨b2, o2, rfl, hr2⟩ := hc.some_ (by omega)
   obtain ⟨u, hu⟩ : ∃ u, bs[k]? = some u := ⟨_, List.getElem?_eq_getElem (by omega)⟩
   obtain ⟨t, ht⟩ : ∃ t, cs[k]? = some t := ⟨_, List.getElem?_eq_getElem (by omega)⟩
   refine J.draw [] Tryz.mixed (by kernel_rfl) fun hR => ?_
   refine RG.p 0 hR rfl (Q.mv rfl) <| RG.p 1 hR rfl (Q.mv rfl) <| RG.p 2 hR rfl (Q.ia runUnderlying42 sizeOf5 rfl rfl (by omega) (by omega)) ?_
   refine RG.p 3 hR rfl (Q.ld isAgg5 rfl (((hr1 k (byteV u) (by simp [bytesV, hu])).within (i := 0) rfl).cast (by simp))) ?_
   refine RG.p 4 hR rfl (Q.mv rfl) <| RG.p 5 hR rfl (Q.mv rfl) <| RG.p 6 hR rfl (Q.ia runUnderlying42 sizeOf5 rfl rfl (by omega) (by omega)) ?_
   refine RG.p 7 hR rfl (Q.ld isAgg5 rfl (((hr2 k (byteV t) (by simp [bytesV, ht])).within (i := 0) rfl).cast (by simp))) ?_
   refine RG.p 8 hR rfl (Q.neq rfl rfl) ?_
   refine RG.fin hR rfl ?_
   refine J.norm rfl <| J.then_n ?_
   refine J.kases 24 rfl (fun hc24 => ?_) (fun hc24 => ?_)
   ·
    refine J.cond_t rfl <| J.seq <| J.region <| J.p rfl (Q.asg rfl) <| J.nil <| J.then_n <| J.cret <| J.blk_r <| J.then_r <| J.lp_r <| J.blk_r <| J.then_r ?_
    refine J.ret1 (B := [G]) rfl rfl ⟨?_, rfl⟩ rfl
    have hne : bs ≠ cs := by
      rintro rfl
      rw [hu] at ht
      cases ht
      exact hc24 rfl
    simp [hne]
   refine J.cond_f rfl <| J.cskip <| J.blk_n <| J.then_n <| J.region <| J.p rfl (Q.add64 rfl rfl (by omega)) <| J.m rfl <| J.nil ?_
   have hut : u = t := by
     have : (u.toNat : Int) = t.toNat := hc24
     exact UInt8.toNat_inj.1 (by omega)
   subst hut
   refine J.again (k + 1) ⟨by omega, take_same hall hu ht⟩ (by omega) ⟨rfl, rfl, rfl, rfl, trivial⟩ rfl
  refine J.cond_f rfl <| J.exit <| J.then_x <| J.lp_x <| J.blk_x <| J.then_n <| J.seq <| J.region <| J.p rfl (Q.asg rfl) <| J.nil <| J.then_n <| J.cret ?_
  refine J.ret1 (B := [G]) rfl rfl ⟨?_, rfl⟩ rfl
  have hkn : k = bs.length := by omega
  have : bs = cs := by rw [hkn, List.take_length, hlen, List.take_length] at hall; exact hall
  simp [this]

theorem equalS_spec (G : Assn) (p q : Option Addr) (c d : Nat) (bs cs : List ByteArray) (hb : SlR [G] 1 (.slice p bs.length c) (bs.map Value.string)) (hc : SlR [G] 1 (.slice q cs.length d) (cs.map Value.string)) (hn : bs.length ≤ 1099511627776) (hm : cs.length ≤ 1099511627776) :
    FSpec Tryz.prog 77 [.slice p bs.length c, .slice q cs.length d] [G] (fun v B => v = .bool (decide (bs = cs)) ∧ B = [G]) := by
  refine FSpec.of func77 rfl ntmps77 rfl fun W0 F => ?_
  refine J.seq <| J.region <| J.p rfl (Q.asg rfl) <| J.nil <| J.then_n <| J.seq <| J.seq <| J.region <| J.m rfl <| J.p rfl (Q.lenSl runUnderlying41 rfl) <| J.m rfl <| J.p rfl (Q.lenSl runUnderlying41 rfl) <| J.p rfl (Q.neq rfl rfl) <| J.nil <| J.then_n ?_
  refine J.kases 10 rfl (fun hc10 => ?_) (fun hc10 => ?_)
  ·
   refine J.cond_t rfl <| J.seq <| J.region <| J.p rfl (Q.asg rfl) <| J.nil <| J.then_n <| J.cret <| J.then_r ?_
   refine J.ret1 (B := [G]) rfl rfl ⟨?_, rfl⟩ rfl
   have : bs ≠ cs := by rintro rfl; omega
   simp [this]
  refine J.cond_f rfl <| J.cskip <| J.then_n <| J.seq <| J.seq <| J.region <| J.m rfl <| J.p rfl (Q.lenSl runUnderlying41 rfl) <| J.m rfl <| J.nil <| J.then_n <| J.block ?_
  have hlen : bs.length = cs.length := by omega
  refine J.loop (fun k : Nat => k ≤ bs.length ∧ bs.take k = cs.take k) (fun k => bs.length - k) (fun k => [(0, .slice p bs.length c), (1, .slice q cs.length d), (12, .int .i64 bs.length), (13, .int .i64 k)]) (fun _ => [G, F]) 0 ⟨by omega, rfl⟩ ⟨rfl, rfl, rfl, rfl, trivial⟩ rfl fun k hk => ?_
  obtain ⟨hk, hall⟩ := hk
  refine J.seq <| J.region <| J.p rfl (Q.lss rfl rfl) <| J.nil <| J.then_n <| J.seq ?_
  refine J.kases 14 rfl (fun hc14 => ?_) (fun hc14 => ?_)
  ·
   refine J.cond_t rfl <| J.cskip <| J.then_n <| J.seq <| J.block <| J.seq <| J.region <| J.m rfl <| J.p rfl (Q.asg rfl) <| J.nil <| J.then_n <| J.seq ?_
   obtain ⟨b1, o1, rfl, hr1⟩ := hb.some_ (by omega)
   obtain ⟨b2, o2, rfl, hr2⟩ := hc.some_ (by omega)
   obtain ⟨u, hu⟩ : ∃ u, bs[k]? = some u := ⟨_, List.getElem?_eq_getElem (by omega)⟩
   obtain ⟨t, ht⟩ : ∃ t, cs[k]? = some t := ⟨_, List.getElem?_eq_getElem (by omega)⟩
   refine J.draw [] Tryz.mixed (by kernel_rfl) fun hR => ?_
   refine RG.p 0 hR rfl (Q.mv rfl) <| RG.p 1 hR rfl (Q.mv rfl) <| RG.p 2 hR rfl (Q.ia runUnderlying41 sizeOf9 rfl rfl (by omega) (by omega)) ?_
   refine RG.p 3 hR rfl (Q.ld isAgg9 rfl (((hr1 k (.string u) (by simp [hu])).within (i := 0) rfl).cast (by simp))) ?_
   refine RG.p 4 hR rfl (Q.mv rfl) <| RG.p 5 hR rfl (Q.mv rfl) <| RG.p 6 hR rfl (Q.ia runUnderlying41 sizeOf9 rfl rfl (by omega) (by omega)) ?_
   refine RG.p 7 hR rfl (Q.ld isAgg9 rfl (((hr2 k (.string t) (by simp [ht])).within (i := 0) rfl).cast (by simp))) ?_
   refine RG.p 8 hR rfl (Q.neqs rfl rfl) ?_
   refine RG.fin hR rfl ?_
   refine J.norm rfl <| J.then_n ?_
   refine J.kases 24 rfl (fun hc24 => ?_) (fun hc24 => ?_)
   ·
    refine J.cond_t rfl <| J.seq <| J.region <| J.p rfl (Q.asg rfl) <| J.nil <| J.then_n <| J.cret <| J.blk_r <| J.then_r <| J.lp_r <| J.blk_r <| J.then_r ?_
    refine J.ret1 (B := [G]) rfl rfl ⟨?_, rfl⟩ rfl
    have hne : bs ≠ cs := by
      rintro rfl
      rw [hu] at ht
      cases ht
      exact hc24 rfl
    simp [hne]
   refine J.cond_f rfl <| J.cskip <| J.blk_n <| J.then_n <| J.region <| J.p rfl (Q.add64 rfl rfl (by omega)) <| J.m rfl <| J.nil ?_
   have hut : u = t := by
     have : u.data.toList = t.data.toList := hc24
     cases u; cases t; simp at this; rw [this]
   subst hut
   refine J.again (k + 1) ⟨by omega, take_same hall hu ht⟩ (by omega) ⟨rfl, rfl, rfl, rfl, trivial⟩ rfl
  refine J.cond_f rfl <| J.exit <| J.then_x <| J.lp_x <| J.blk_x <| J.then_n <| J.seq <| J.region <| J.p rfl (Q.asg rfl) <| J.nil <| J.then_n <| J.cret ?_
  refine J.ret1 (B := [G]) rfl rfl ⟨?_, rfl⟩ rfl
  have hkn : k = bs.length := by omega
  have : bs = cs := by rw [hkn, List.take_length, hlen, List.take_length] at hall; exact hall
  simp [this]

def sameM (a b : RM) : Bool := decide (a.status = b.status) && decide (a.upload = b.upload) && (a.more == b.more) && decide (a.keys = b.keys) && decide (a.data = b.data)
theorem sameM_iff (a b : RM) : sameM a b = true ↔ a = b := by
  cases a; cases b
  simp only [sameM, Bool.and_eq_true, decide_eq_true_eq, beq_iff_eq, RM.mk.injEq]
  exact ⟨fun ⟨⟨⟨⟨h1, h2⟩, h3⟩, h4⟩, h5⟩ => ⟨h1, h2, h4, h3, h5⟩, fun ⟨h1, h2, h4, h3, h5⟩ => ⟨⟨⟨⟨h1, h2⟩, h3⟩, h4⟩, h5⟩⟩

theorem same_spec (G : Assn) (x y : RW) (hx : x.ok G) (hy : y.ok G) : FSpec Tryz.prog 53 [.agg x.cells.toArray, .agg y.cells.toArray] [G] (fun v B => v = .bool (sameM x.r y.r) ∧ B = [G]) := by
  have hsm := hx.small
  have hsn := hy.small
  refine FSpec.of func53 rfl ntmps53 rfl fun W0 F => ?_
  refine J.seq <| J.region ?_
  refine J.c rfl rfl (C.box (l := [_, _, _, _, _]) rfl rfl) ?_
  rintro _ _ ⟨b2, rfl, rfl⟩
  refine J.norm rfl ?_
  refine J.c rfl rfl (C.box (l := [_, _, _, _, _]) rfl rfl) ?_
  rintro _ _ ⟨b3, rfl, rfl⟩
  refine J.norm rfl <| J.p rfl (Q.asg rfl) <| J.nil <| J.then_n <| J.seq <| J.region <| J.p rfl (Q.fa (n := 0) runUnderlying44 rfl rfl sizeOf3 rfl) ?_
  refine J.p rfl (Q.ldI isAgg3 rfl) ?_
  refine J.p rfl (Q.fa (n := 0) runUnderlying44 rfl rfl sizeOf3 rfl) ?_
  refine J.p rfl (Q.ldI isAgg3 rfl) ?_
  refine J.p rfl (Q.eql rfl rfl) <| J.m rfl ?_
  refine J.kases 10 rfl (fun hb10 => ?_) (fun hb10 => ?_)
  ·
   refine J.p rfl (Q.fa (n := 1) runUnderlying44 rfl rfl sizeOf40 rfl) ?_
   refine J.p rfl (Q.ldI isAgg40 rfl) ?_
   refine J.p rfl (Q.fa (n := 1) runUnderlying44 rfl rfl sizeOf40 rfl) ?_
   refine J.p rfl (Q.ldI isAgg40 rfl) ?_
   refine J.p rfl (Q.eql rfl rfl) <| J.p rfl (Q.pick_t rfl rfl) <| J.m rfl ?_
   refine J.kases 17 rfl (fun hb17 => ?_) (fun hb17 => ?_)
   ·
    refine J.p rfl (Q.fa (n := 3) runUnderlying44 rfl rfl sizeOf4 rfl) ?_
    refine J.p rfl (Q.ldI isAgg4 rfl) ?_
    refine J.p rfl (Q.fa (n := 3) runUnderlying44 rfl rfl sizeOf4 rfl) ?_
    refine J.p rfl (Q.ldI isAgg4 rfl) ?_
    refine J.p rfl (Q.eqlb runUnderlying4 rfl rfl) <| J.p rfl (Q.pick_t rfl rfl) <| J.m rfl ?_
    refine J.kases 24 rfl (fun hb24 => ?_) (fun hb24 => ?_)
    ·
     refine J.p rfl (Q.fa (n := 2) runUnderlying44 rfl rfl sizeOf41 rfl) ?_
     refine J.p rfl (Q.ldI isAgg41 rfl) ?_
     refine J.p rfl (Q.fa (n := 2) runUnderlying44 rfl rfl sizeOf41 rfl) ?_
     refine J.p rfl (Q.ldI isAgg41 rfl) ?_
     refine J.call call77 (equalS_spec G x.kp y.kp x.kc y.kc x.r.keys y.r.keys hx.keys hy.keys (by omega) (by omega)) [2] rfl rfl rfl rfl ?_
     rintro _ _ ⟨rfl, rfl⟩
     refine J.norm rfl <| J.p rfl (Q.pick_t rfl rfl) <| J.m rfl ?_
     refine J.kases 31 rfl (fun hb31 => ?_) (fun hb31 => ?_)
     ·
      refine J.p rfl (Q.fa (n := 4) runUnderlying44 rfl rfl sizeOf42 rfl) ?_
      refine J.p rfl (Q.ldI isAgg42 rfl) ?_
      refine J.p rfl (Q.fa (n := 4) runUnderlying44 rfl rfl sizeOf42 rfl) ?_
      refine J.p rfl (Q.ldI isAgg42 rfl) ?_
      refine J.call call78 (equalB_spec G x.dp y.dp x.dc y.dc x.r.data y.r.data hx.data hy.data (by omega) (by omega)) [0] rfl rfl rfl rfl ?_
      rintro _ _ ⟨rfl, rfl⟩
      refine J.norm rfl <| J.p rfl (Q.pick_t rfl rfl) <| J.p rfl (Q.asg rfl) <| J.nil <| J.then_n <| J.cret ?_
      first | refine J.keep [0, 3] rfl ?_; refine J.ret1 (B := [G]) rfl rfl ⟨?_, rfl⟩ rfl | refine J.keep [2, 3] rfl ?_; refine J.ret1 (B := [G]) rfl rfl ⟨?_, rfl⟩ rfl
      simp_all [sameM] <;> omega
     refine J.k rfl <| J.k rfl <| J.k rfl <| J.k rfl <| J.k rfl <| J.p rfl (Q.pick_f rfl rfl) <| J.p rfl (Q.asg rfl) <| J.nil <| J.then_n <| J.cret ?_
     first | refine J.keep [0, 3] rfl ?_; refine J.ret1 (B := [G]) rfl rfl ⟨?_, rfl⟩ rfl | refine J.keep [2, 3] rfl ?_; refine J.ret1 (B := [G]) rfl rfl ⟨?_, rfl⟩ rfl
     simp_all [sameM] <;> omega
    refine J.k rfl <| J.k rfl <| J.k rfl <| J.k rfl <| J.k rfl <| J.p rfl (Q.pick_f rfl rfl) <| J.m rfl <| J.k rfl <| J.k rfl <| J.k rfl <| J.k rfl <| J.k rfl <| J.p rfl (Q.pick_f rfl rfl) <| J.p rfl (Q.asg rfl) <| J.nil <| J.then_n <| J.cret ?_
    first | refine J.keep [0, 3] rfl ?_; refine J.ret1 (B := [G]) rfl rfl ⟨?_, rfl⟩ rfl | refine J.keep [2, 3] rfl ?_; refine J.ret1 (B := [G]) rfl rfl ⟨?_, rfl⟩ rfl
    simp_all [sameM] <;> omega
   refine J.k rfl <| J.k rfl <| J.k rfl <| J.k rfl <| J.k rfl <| J.p rfl (Q.pick_f rfl rfl) <| J.m rfl <| J.k rfl <| J.k rfl <| J.k rfl <| J.k rfl <| J.k rfl <| J.p rfl (Q.pick_f rfl rfl) <| J.m rfl <| J.k rfl <| J.k rfl <| J.k rfl <| J.k rfl <| J.k rfl <| J.p rfl (Q.pick_f rfl rfl) ?_
   refine J.p rfl (Q.asg rfl) <| J.nil <| J.then_n <| J.cret ?_
   first | refine J.keep [0, 3] rfl ?_; refine J.ret1 (B := [G]) rfl rfl ⟨?_, rfl⟩ rfl | refine J.keep [2, 3] rfl ?_; refine J.ret1 (B := [G]) rfl rfl ⟨?_, rfl⟩ rfl
   simp_all [sameM] <;> omega
  refine J.k rfl <| J.k rfl <| J.k rfl <| J.k rfl <| J.k rfl <| J.p rfl (Q.pick_f rfl rfl) <| J.m rfl <| J.k rfl <| J.k rfl <| J.k rfl <| J.k rfl <| J.k rfl <| J.p rfl (Q.pick_f rfl rfl) <| J.m rfl <| J.k rfl <| J.k rfl <| J.k rfl <| J.k rfl <| J.k rfl <| J.p rfl (Q.pick_f rfl rfl) ?_
  refine J.m rfl <| J.k rfl <| J.k rfl <| J.k rfl <| J.k rfl <| J.k rfl <| J.p rfl (Q.pick_f rfl rfl) <| J.p rfl (Q.asg rfl) <| J.nil <| J.then_n <| J.cret ?_
  first | refine J.keep [0, 3] rfl ?_; refine J.ret1 (B := [G]) rfl rfl ⟨?_, rfl⟩ rfl | refine J.keep [2, 3] rfl ?_; refine J.ret1 (B := [G]) rfl rfl ⟨?_, rfl⟩ rfl
  simp_all [sameM] <;> omega
end Go.Proofs.YtidbcaimgahllaaGreat
namespace Go.Proofs.YtidbcaimgahllaaGreat
open Go.Proofs.Tryz
open Go.X
open Go.X.G (Ord3 ord3_nat ord3_int ord3_str ltB sget sput sdel Srtd MapAt MapHole plainRep)

abbrev ltN : Nat → Nat → Bool := fun a b => decide (a < b)
abbrev ltI : Int → Int → Bool := fun a b => decide (a < b)
abbrev Objs := List (ByteArray × List UInt8)
abbrev Parts := List (Int × List UInt8)

structure UM where
  bucket : ByteArray
  key : ByteArray
  parts : Parts

structure BM where
  buckets : List (ByteArray × Objs)
  uploads : List (Nat × UM)
  done : List (Nat × RM)

structure BM.ok (k : Nat) (M : BM) : Prop where
  bs : Srtd ltB M.buckets
  os : ∀ n o, sget n M.buckets = some o → Srtd ltB o ∧ o.length ≤ k ∧ ∀ a d, sget a o = some d → d.length ≤ 274877906944
  us : Srtd ltN M.uploads
  ps : ∀ n u, sget n M.uploads = some u → Srtd ltI u.parts ∧ (sget u.bucket M.buckets).isSome = true ∧ ∀ a d, sget a u.parts = some d → d.length ≤ 16777216
  ds : Srtd ltN M.done
  rs : ∀ n r, sget n M.done = some r → r.keys.length ≤ 1000 ∧ r.data.length ≤ 274877906944
  len : M.buckets.length ≤ k ∧ M.uploads.length ≤ k ∧ M.done.length ≤ k

theorem BM.ok.new : BM.ok 0 ⟨[], [], []⟩ := ⟨List.Pairwise.nil, (fun _ _ h => by cases h), List.Pairwise.nil, (fun _ _ h => by cases h), List.Pairwise.nil, (fun _ _ h => by cases h), by simp⟩

def encU (n : Nat) : Value := .int .u64 n
theorem keyS : X.G.Keyed Tryz.prog 9 Value.string := X.G.keyed_str runUnderlying9
theorem keyU : X.G.Keyed Tryz.prog 40 encU := X.G.keyed_nat .u64 runUnderlying40
theorem keyI : X.G.Keyed Tryz.prog 3 (Value.int .i64) := X.G.keyed_int .i64 runUnderlying3

def datRep {κ : Type} (_ : κ) (bs : List UInt8) (val : Value) : Assn := fun h => ∃ z : Option Addr × Nat, val = .slice z.1 bs.length z.2 ∧ HSat h [own 5 1 (.slice z.1 bs.length z.2) (bytesV bs)]
def bRep (_ : ByteArray) (o : Objs) (val : Value) : Assn := fun h => ∃ r : Nat, val = .map (some r) ∧ HSat h [MapAt Value.string datRep r o]
def uRep (_ : Nat) (u : UM) (val : Value) : Assn := fun h => ∃ z : Nat × Nat, val = .pointer (some ⟨z.1, 0, none⟩) ∧ HSat h [pt z.1 (.cells [.string u.bucket, .string u.key, .map (some z.2)].toArray 183 (0, 0)), MapAt (Value.int .i64) datRep z.2 u.parts]
def dRep (_ : Nat) (r : RM) (val : Value) : Assn := fun h => ∃ x : RW, (x.r = r ∧ val = .agg x.cells.toArray) ∧ HSat h [x.asn]

def bktAsns (m : Nat) (M : BM) (z : Nat × Nat × Nat) : List Assn :=
  [pt m (.cells [.map (some z.1), .map (some z.2.1), .map (some z.2.2)].toArray 167 (0, 0)), MapAt Value.string bRep z.1 M.buckets, MapAt encU uRep z.2.1 M.uploads, MapAt encU dRep z.2.2 M.done]
def BktAt (m : Nat) (M : BM) : Assn := fun h => ∃ z : Nat × Nat × Nat, HSat h (bktAsns m M z)

theorem new_spec : FSpec Tryz.prog 50 [] [] (fun v B => ∃ m, v = .pointer (some ⟨m, 0, none⟩) ∧ B = [BktAt m ⟨[], [], []⟩]) := by
  refine FSpec.of func50 rfl ntmps50 rfl fun W0 F => ?_
  refine J.seq <| J.region <| J.p rfl (Q.asg rfl) <| J.nil <| J.then_n <| J.seq <| J.region ?_
  refine J.c rfl rfl C.mkMap ?_
  rintro _ _ ⟨b1, rfl, rfl⟩
  refine J.norm rfl ?_
  refine J.c rfl rfl C.mkMap ?_
  rintro _ _ ⟨b2, rfl, rfl⟩
  refine J.norm rfl ?_
  refine J.c rfl rfl C.mkMap ?_
  rintro _ _ ⟨b3, rfl, rfl⟩
  refine J.norm rfl <| J.p rfl (Q.bld (l := [_, _, _]) runUnderlying167 zeroValue167 places167 rfl rfl) ?_
  refine J.c rfl rfl (C.box (l := [_, _, _]) rfl rfl) ?_
  rintro _ _ ⟨b5, rfl, rfl⟩
  refine J.norm rfl <| J.p rfl (Q.asg rfl) <| J.nil <| J.then_n <| J.cret ?_
  refine J.conv (Y := MapAt encU dRep b3 []) 1 rfl MapAt.new ?_
  refine J.conv (Y := MapAt encU uRep b2 []) 2 rfl MapAt.new ?_
  refine J.conv (Y := MapAt Value.string bRep b1 []) 3 rfl MapAt.new ?_
  refine J.shut [3, 0, 1, 2] (BktAt b5 ⟨[], [], []⟩) rfl (fun h s => ⟨(b1, b2, b3), s⟩) ?_
  refine J.ret1 (B := [BktAt b5 ⟨[], [], []⟩]) rfl rfl ⟨b5, rfl, rfl⟩ rfl

theorem known_no_all : (∀ (m : Nat) (M : BM) (x : OW) (hB : sget x.o.bucket M.buckets = none), FSpec Tryz.prog 94 [.pointer (some ⟨m, 0, none⟩), .agg x.cells.toArray] [BktAt m M] (fun v B => v = .bool false ∧ B = [BktAt m M])) ∧ (∀ {k : Nat} (m : Nat) (M : BM) (hM : M.ok k) (x : OW) {objs : Objs} (hB : sget x.o.bucket M.buckets = some objs), FSpec Tryz.prog 94 [.pointer (some ⟨m, 0, none⟩), .agg x.cells.toArray] [BktAt m M] (fun v B => v = .bool true ∧ B = [BktAt m M])) := by
  refine ⟨fun m M x hB => ?_, fun {k} m M hM x {objs} hB => ?_⟩
  all_goals
   refine FSpec.of func94 rfl ntmps94 rfl fun W0 F => ?_
   refine J.seq <| J.region ?_
   refine J.c rfl rfl (C.box (l := [_, _, _, _, _, _, _, _, _]) rfl rfl) ?_
   rintro _ _ ⟨b3, rfl, rfl⟩
   refine J.norm rfl <| J.p rfl (Q.asg rfl) <| J.nil <| J.then_n <| J.seq ?_
   refine J.open1 1 rfl (fun _ h => h) fun z => ?_
   refine J.norm rfl ?_
   first
     | (refine J.mapFocus 1 hB rfl fun val => ?_
        refine J.norm rfl ?_
        refine J.open_ 0 rfl rfl (fun _ h => h) fun r hr => ?_
        subst hr
        refine J.norm rfl ?_)
     | skip
   refine J.draw [8] Tryz.mixed (by kernel_rfl) fun hR => ?_
   refine RG.p 0 hR rfl (Q.mv rfl) <| RG.p 1 hR rfl (Q.nil_ rfl) <| RG.p 2 hR rfl (Q.fa (n := 0) runUnderlying167 rfl rfl sizeOf163 rfl) ?_
   refine RG.p 3 hR rfl (Q.ldI isAgg163 rfl) ?_
   refine RG.p 4 hR rfl (Q.fa (n := 2) runUnderlying52 rfl rfl sizeOf9 rfl) ?_
   refine RG.p 5 hR rfl (Q.ldI isAgg9 rfl) ?_
   refine RG.p 6 hR rfl (by first | exact X.G.Q.lkNo (i := 1) runUnderlying163 keyS zeroValue179 rfl rfl rfl hB | exact X.G.Q.lkYes (i := 1) runUnderlying163 keyS zeroValue179 rfl rfl rfl) ?_
   refine RG.p 7 hR rfl (Q.neqm runUnderlying179 rfl rfl) ?_
   refine RG.bar 8 hR rfl rfl rfl rfl rfl rfl (Q.asg rfl).toC ?_
   rintro _ _ ⟨rfl, rfl⟩
   refine RG.norm rfl ?_
   refine RG.fin hR rfl ?_
   refine J.norm rfl <| J.then_n <| J.cret ?_
   first
     | (refine J.shut [0] (bRep x.o.bucket objs (.map (some r))) rfl (fun h s => ⟨r, rfl, s⟩) ?_
        refine J.mapSame 0 1 ord3_str hM.bs hB rfl ?_)
     | skip
   first
     | (refine J.shut [0, 1, 2, 3] (BktAt m M) rfl (fun h s => ⟨z, s⟩) ?_
        refine J.keep [0, 2] rfl ?_
        refine J.ret1 (B := [BktAt m M]) rfl rfl ⟨rfl, rfl⟩ rfl)
     | (refine J.shut [1, 0, 2, 3] (BktAt m M) rfl (fun h s => ⟨z, s⟩) ?_
        refine J.keep [0, 2] rfl ?_
        refine J.ret1 (B := [BktAt m M]) rfl rfl ⟨rfl, rfl⟩ rfl)
theorem known_no (m : Nat) (M : BM) (x : OW) (hB : sget x.o.bucket M.buckets = none) : FSpec Tryz.prog 94 [.pointer (some ⟨m, 0, none⟩), .agg x.cells.toArray] [BktAt m M] (fun v B => v = .bool false ∧ B = [BktAt m M]) := (known_no_all).1 m M x hB
theorem known_yes {k : Nat} (m : Nat) (M : BM) (hM : M.ok k) (x : OW) {objs : Objs} (hB : sget x.o.bucket M.buckets = some objs) : FSpec Tryz.prog 94 [.pointer (some ⟨m, 0, none⟩), .agg x.cells.toArray] [BktAt m M] (fun v B => v = .bool true ∧ B = [BktAt m M]) := (known_no_all).2 m M hM x hB
def tabM (m : Nat) : List (Int × Value) := [(1, .func (.func 84) #[.pointer (some ⟨m, 0, none⟩)] #[]), (2, .func (.func 85) #[.pointer (some ⟨m, 0, none⟩)] #[]), (3, .func (.func 86) #[.pointer (some ⟨m, 0, none⟩)] #[]), (4, .func (.func 87) #[.pointer (some ⟨m, 0, none⟩)] #[]), (5, .func (.func 88) #[.pointer (some ⟨m, 0, none⟩)] #[]),
  (6, .func (.func 89) #[.pointer (some ⟨m, 0, none⟩)] #[]), (7, .func (.func 90) #[.pointer (some ⟨m, 0, none⟩)] #[]), (8, .func (.func 91) #[.pointer (some ⟨m, 0, none⟩)] #[]), (9, .func (.func 92) #[.pointer (some ⟨m, 0, none⟩)] #[]), (10, .func (.func 93) #[.pointer (some ⟨m, 0, none⟩)] #[])]

theorem tab_step {r : Nat} {S : List (Int × Value)} {k : Int} {v : Value} (hS : Srtd ltI S) : ∀ h, MapHole (Value.int .i64) plainRep r (sput ltI k v S) k v h → MapAt (Value.int .i64) plainRep r (sput ltI k v S) h := by
  intro h hh
  have h1 := MapHole.back (rep := plainRep) (v' := v) ord3_int (X.G.srtd_put ord3_int hS k v) h (X.G.HSat.two (h1 := fun _ => none) (show plainRep k v v (fun _ => none) from rfl) hh (fun _ => Or.inl rfl) (fun _ _ e => nomatch e) (Sub.refl _))
  rwa [X.G.sput_put ord3_int hS] at h1

theorem tabIns {L : Slots} {A : List Assn} {ty : TypeId} {x y z : Operand} {r : Nat} {S : List (Int × Value)} {k : Int} {val : Value} (i : Nat) (hS : Srtd ltI S) (ex : ev L x = some (.map (some r))) (ey : ev L y = some (.int .i64 k)) (ez : ev L z = some val)
    (hA : A[i]? = some (MapAt (Value.int .i64) plainRep r S)) : OpC Tryz.prog (.insert 169 x y z) ty L A (fun u B => ∃ S', S' = sput ltI k val S ∧ Srtd ltI S' ∧ u = undef ∧ B = A.set i (MapAt (Value.int .i64) plainRep r S')) := by
  refine (X.G.C.mapIns (rep := plainRep) i val ord3_int hS runUnderlying169 keyI ex ey ez hA).shutTo ?_
  rintro u B ⟨rfl, rfl⟩
  refine ⟨_, ⟨_, rfl, X.G.srtd_put ord3_int hS _ _, rfl, rfl⟩, fun h s => ?_⟩
  have h1 := set_imp s (X := MapHole (Value.int .i64) plainRep r (sput ltI k val S) k val) (i := i) (by simp [(List.getElem?_eq_some_iff.1 hA).1]) (tab_step hS)
  rwa [List.set_set] at h1

theorem table_spec (m : Nat) : FSpec Tryz.prog 76 [.pointer (some ⟨m, 0, none⟩)] [] (fun v B => ∃ r, v = .map (some r) ∧ B = [MapAt (Value.int .i64) plainRep r (tabM m)]) := by
  refine FSpec.of func76 rfl ntmps76 rfl fun W0 F => ?_
  refine J.seq <| J.region <| J.p rfl (Q.asg rfl) <| J.nil <| J.then_n <| J.seq <| J.region ?_
  refine J.c rfl rfl C.mkMap ?_
  rintro _ _ ⟨b3, rfl, rfl⟩
  refine J.norm rfl ?_
  refine J.conv (Y := MapAt (Value.int .i64) plainRep b3 []) 0 rfl MapAt.new ?_
  obtain ⟨S, hE, hS⟩ : ∃ S : List (Int × Value), S = [] ∧ Srtd ltI S := ⟨[], rfl, List.Pairwise.nil⟩
  rw [← hE]
  refine J.m rfl <| J.p rfl (Q.func rfl rfl) ?_
  refine J.c0 rfl (tabIns 0 hS rfl rfl rfl rfl) ?_
  rintro _ _ ⟨S, hE, hS, rfl, rfl⟩
  refine J.norm rfl <| J.m rfl <| J.p rfl (Q.func rfl rfl) ?_
  refine J.c0 rfl (tabIns 0 hS rfl rfl rfl rfl) ?_
  rintro _ _ ⟨S, hE, hS, rfl, rfl⟩
  refine J.norm rfl <| J.m rfl <| J.p rfl (Q.func rfl rfl) ?_
  refine J.c0 rfl (tabIns 0 hS rfl rfl rfl rfl) ?_
  rintro _ _ ⟨S, hE, hS, rfl, rfl⟩
  refine J.norm rfl <| J.m rfl <| J.p rfl (Q.func rfl rfl) ?_
  refine J.c0 rfl (tabIns 0 hS rfl rfl rfl rfl) ?_
  rintro _ _ ⟨S, hE, hS, rfl, rfl⟩
  refine J.norm rfl <| J.m rfl <| J.p rfl (Q.func rfl rfl) ?_
  refine J.c0 rfl (tabIns 0 hS rfl rfl rfl rfl) ?_
  rintro _ _ ⟨S, hE, hS, rfl, rfl⟩
  refine J.norm rfl <| J.m rfl <| J.p rfl (Q.func rfl rfl) ?_
  refine J.c0 rfl (tabIns 0 hS rfl rfl rfl rfl) ?_
  rintro _ _ ⟨S, hE, hS, rfl, rfl⟩
  refine J.norm rfl <| J.m rfl <| J.p rfl (Q.func rfl rfl) ?_
  refine J.c0 rfl (tabIns 0 hS rfl rfl rfl rfl) ?_
  rintro _ _ ⟨S, hE, hS, rfl, rfl⟩
  refine J.norm rfl <| J.m rfl <| J.p rfl (Q.func rfl rfl) ?_
  refine J.c0 rfl (tabIns 0 hS rfl rfl rfl rfl) ?_
  rintro _ _ ⟨S, hE, hS, rfl, rfl⟩
  refine J.norm rfl <| J.m rfl <| J.p rfl (Q.func rfl rfl) ?_
  refine J.c0 rfl (tabIns 0 hS rfl rfl rfl rfl) ?_
  rintro _ _ ⟨S, hE, hS, rfl, rfl⟩
  refine J.norm rfl <| J.m rfl <| J.p rfl (Q.func rfl rfl) ?_
  refine J.c0 rfl (tabIns 0 hS rfl rfl rfl rfl) ?_
  rintro _ _ ⟨S, hE, hS, rfl, rfl⟩
  refine J.norm rfl <| J.m rfl <| J.p rfl (Q.asg rfl) <| J.nil <| J.then_n <| J.cret ?_
  have e : S = tabM m := by subst_vars; simp [sput, tabM]
  refine J.ret1 (B := [MapAt (Value.int .i64) plainRep b3 (tabM m)]) rfl rfl ⟨b3, rfl, rfl⟩ (by rw [e]; rfl)
end Go.Proofs.YtidbcaimgahllaaGreat
namespace Go.Proofs.YtidbcaimgahllaaGreat
open Go.Proofs.Tryz
open Go.X
open Go.X.G (Ord3 ord3_nat ord3_int ord3_str ltB sget sput sdel Srtd MapAt MapHole)

def ActR (m : Nat) (G : Assn) (res : RM × BM) (v : Value) (B : List Assn) : Prop := ∃ y : RW, v = .agg y.cells.toArray ∧ y.r = res.1 ∧ B = [BktAt m res.2, y.asn, G]

def BM.make (M : BM) (o : OM) : RM × BM :=
  match sget o.bucket M.buckets with
  | some _ => (st 409, M)
  | none => (st 200, { M with buckets := sput ltB o.bucket [] M.buckets })
def BM.put (M : BM) (o : OM) : RM × BM :=
  match sget o.bucket M.buckets with
  | none => (st 404, M)
  | some objs => (st 200, { M with buckets := sput ltB o.bucket (sput ltB o.key o.data objs) M.buckets })
def BM.get (M : BM) (o : OM) : RM × BM :=
  match sget o.bucket M.buckets with
  | none => (st 404, M)
  | some objs => match sget o.key objs with
    | none => (st 404, M)
    | some d => (⟨200, 0, [], false, d⟩, M)
def BM.delete (M : BM) (o : OM) : RM × BM :=
  match sget o.bucket M.buckets with
  | none => (st 404, M)
  | some objs => match sget o.key objs with
    | none => (st 404, M)
    | some _ => (st 200, { M with buckets := sput ltB o.bucket (sdel o.key objs) M.buckets })
def BM.begin (M : BM) (o : OM) : RM × BM :=
  match sget o.bucket M.buckets with
  | none => (st 404, M)
  | some _ => (⟨200, o.id, [], false, []⟩, { M with uploads := sput ltN o.id ⟨o.bucket, o.key, []⟩ M.uploads })
def BM.part (M : BM) (o : OM) : RM × BM :=
  match sget o.upload M.uploads with
  | none => (st 404, M)
  | some u => (st 200, { M with uploads := sput ltN o.upload ⟨u.bucket, u.key, sput ltI o.n o.data u.parts⟩ M.uploads })
def BM.abort (M : BM) (o : OM) : RM × BM :=
  match sget o.upload M.uploads with
  | none => (st 404, M)
  | some _ => (st 200, { M with uploads := sdel o.upload M.uploads })

section
variable {k : Nat} (m : Nat) (M : BM) (hM : M.ok k) (x : OW) (G : Assn) (hx : x.ok G)
include hM hx

theorem make_yes_all : (∀ {objs : Objs} (hB : sget x.o.bucket M.buckets = some objs), FSpec Tryz.prog 84 [.pointer (some ⟨m, 0, none⟩), .agg x.cells.toArray] [BktAt m M, G] (ActR m G (st 409, M))) ∧ (∀ (hB : sget x.o.bucket M.buckets = none), FSpec Tryz.prog 84 [.pointer (some ⟨m, 0, none⟩), .agg x.cells.toArray] [BktAt m M, G] (ActR m G (st 200, { M with buckets := sput ltB x.o.bucket [] M.buckets }))) := by
  refine ⟨fun {objs} hB => ?_, fun hB => ?_⟩
  all_goals
   refine FSpec.of func84 rfl ntmps84 rfl fun W0 F => ?_
   refine J.seq <| J.region ?_
   refine J.c rfl rfl (C.box (l := [_, _, _, _, _, _, _, _, _]) rfl rfl) ?_
   rintro _ _ ⟨b3, rfl, rfl⟩
   refine J.norm rfl ?_
   refine J.c rfl rfl (C.alloc (l := [_, _, _, _, _]) zeroValue44 rfl) ?_
   rintro _ _ ⟨b4, rfl, rfl⟩
   refine J.norm rfl <| J.nil <| J.then_n <| J.seq <| J.seq <| J.region <| J.m rfl ?_
   refine J.p rfl (Q.ldN (vs := [_, _, _, _, _, _, _, _, _]) isAgg52 sizeOf52 rfl rnI) ?_
   refine J.call call94 ((by first | exact known_no m M x hB | exact known_yes m M hM x hB)) [2] rfl rfl rfl rfl ?_
   rintro _ _ ⟨rfl, rfl⟩
   refine J.norm rfl <| J.nil <| J.then_n ?_
   refine J.kases 7 rfl (fun hc7 => ?_) (fun hc7 => ?_)
   ·
    try (first | (cases hc7; done) | (exfalso; simp at hc7; done))
    all_goals
     refine J.cond_t rfl <| J.seq <| J.region ?_
     refine J.call call73 (status_spec 409) [] rfl rfl rfl rfl ?_
     rintro _ _ ⟨y, rfl, hy, rfl⟩
     refine J.norm rfl ?_
     refine J.stAJ (vs := [_, _, _, _, _]) rfl sizeOf44 rfl rfl ?_
     refine J.nil <| J.then_n <| J.cret <| J.then_r ?_
     refine J.retC [1, 0, 4, 5] (vs := [_, _, _, _, _]) rfl rfl isAgg44 sizeOf44 (ReadsN.pt 2 rfl) rfl (B := [_, _, _]) ⟨_, rfl, hy, rfl⟩
   try (first | (cases hc7; done) | (exfalso; simp at hc7; done))
   all_goals
    refine J.cond_f rfl <| J.cskip <| J.then_n <| J.seq ?_
    refine J.open1 0 rfl (fun _ h => h) fun z => ?_
    refine J.norm rfl ?_
    refine J.draw [6, 7] Tryz.mixed (by kernel_rfl) fun hR => ?_
    refine RG.p 0 hR rfl (Q.mv rfl) <| RG.p 1 hR rfl (Q.nil_ rfl) <| RG.p 2 hR rfl (Q.fa (n := 0) runUnderlying167 rfl rfl sizeOf163 rfl) ?_
    refine RG.p 3 hR rfl (Q.ldI isAgg163 rfl) ?_
    refine RG.p 4 hR rfl (Q.fa (n := 2) runUnderlying52 rfl rfl sizeOf9 rfl) ?_
    refine RG.p 5 hR rfl (Q.ldI isAgg9 rfl) ?_
    refine RG.made 6 hR rfl rfl rfl rfl rfl C.mkMap ?_
    rintro b15
    refine RG.bar 7 hR rfl rfl rfl rfl rfl rfl (X.G.C.mapPut 1 [] ord3_str hM.bs runUnderlying163 keyS rfl rfl rfl rfl) ?_
    rintro _ _ ⟨rfl, rfl⟩
    refine RG.norm rfl ?_
    refine RG.fin hR rfl ?_
    refine J.norm rfl <| J.then_n <| J.seq <| J.region ?_
    refine J.call call73 (status_spec 200) [] rfl rfl rfl rfl ?_
    rintro _ _ ⟨y, rfl, hy, rfl⟩
    refine J.norm rfl ?_
    refine J.stAJ (vs := [_, _, _, _, _]) rfl sizeOf44 rfl rfl ?_
    refine J.nil <| J.then_n <| J.cret ?_
    refine J.conv (Y := MapAt Value.string datRep b15 []) 9 rfl MapAt.new ?_
    refine J.shut [0] (bRep x.o.bucket [] (.map (some b15))) rfl (fun h s => ⟨b15, rfl, s⟩) ?_
    refine J.mapBack 0 3 [] ord3_str (X.G.srtd_put ord3_str hM.bs _ _) rfl ?_
    rw [X.G.sput_put ord3_str hM.bs]
    refine J.shut [2, 0, 3, 4] (BktAt m { M with buckets := sput ltB x.o.bucket [] M.buckets }) rfl (fun h s => ⟨z, s⟩) ?_
    refine J.retC [0, 1, 4, 5] (vs := [_, _, _, _, _]) rfl rfl isAgg44 sizeOf44 (ReadsN.pt 2 rfl) rfl (B := [_, _, _]) ⟨_, rfl, hy, rfl⟩
theorem make_yes {objs : Objs} (hB : sget x.o.bucket M.buckets = some objs) : FSpec Tryz.prog 84 [.pointer (some ⟨m, 0, none⟩), .agg x.cells.toArray] [BktAt m M, G] (ActR m G (st 409, M)) := (make_yes_all m M hM x G hx).1 hB
theorem make_no (hB : sget x.o.bucket M.buckets = none) : FSpec Tryz.prog 84 [.pointer (some ⟨m, 0, none⟩), .agg x.cells.toArray] [BktAt m M, G] (ActR m G (st 200, { M with buckets := sput ltB x.o.bucket [] M.buckets })) := (make_yes_all m M hM x G hx).2 hB
theorem make_spec : FSpec Tryz.prog 84 [.pointer (some ⟨m, 0, none⟩), .agg x.cells.toArray] [BktAt m M, G] (ActR m G (M.make x.o)) := by
  unfold BM.make
  split
  · rename_i hB; exact make_yes m M hM x G hx hB
  · rename_i hB; exact make_no m M hM x G hx hB

theorem put_no_all : (∀ (hB : sget x.o.bucket M.buckets = none), FSpec Tryz.prog 86 [.pointer (some ⟨m, 0, none⟩), .agg x.cells.toArray] [BktAt m M, G] (ActR m G (st 404, M))) ∧ (∀ (hdl : x.o.data.length ≤ 16777216) {objs : Objs} (hB : sget x.o.bucket M.buckets = some objs), FSpec Tryz.prog 86 [.pointer (some ⟨m, 0, none⟩), .agg x.cells.toArray] [BktAt m M, G] (ActR m G (st 200, { M with buckets := sput ltB x.o.bucket (sput ltB x.o.key x.o.data objs) M.buckets }))) := by
  refine ⟨fun hB => ?_, fun hdl {objs} hB => ?_⟩
  all_goals
   have hsm := hx.small
   refine FSpec.of func86 rfl ntmps86 rfl fun W0 F => ?_
   refine J.seq <| J.region ?_
   refine J.c rfl rfl (C.box (l := [_, _, _, _, _, _, _, _, _]) rfl rfl) ?_
   rintro _ _ ⟨b3, rfl, rfl⟩
   refine J.norm rfl ?_
   refine J.c rfl rfl (C.alloc (l := [_, _, _, _, _]) zeroValue44 rfl) ?_
   rintro _ _ ⟨b4, rfl, rfl⟩
   refine J.norm rfl <| J.nil <| J.then_n <| J.seq <| J.seq <| J.region <| J.m rfl ?_
   refine J.p rfl (Q.ldN (vs := [_, _, _, _, _, _, _, _, _]) isAgg52 sizeOf52 rfl rnI) ?_
   refine J.call call94 ((by first | exact known_no m M x hB | exact known_yes m M hM x hB)) [2] rfl rfl rfl rfl ?_
   rintro _ _ ⟨rfl, rfl⟩
   refine J.norm rfl <| J.p rfl (Q.not rfl) <| J.nil <| J.then_n ?_
   refine J.kases 8 rfl (fun hc8 => ?_) (fun hc8 => ?_)
   ·
    try (first | (cases hc8; done) | (exfalso; simp at hc8; done))
    all_goals
     refine J.cond_t rfl <| J.seq <| J.region ?_
     refine J.call call73 (status_spec 404) [] rfl rfl rfl rfl ?_
     rintro _ _ ⟨y, rfl, hy, rfl⟩
     refine J.norm rfl ?_
     refine J.stAJ (vs := [_, _, _, _, _]) rfl sizeOf44 rfl rfl ?_
     refine J.nil <| J.then_n <| J.cret <| J.then_r ?_
     refine J.retC [1, 0, 4, 5] (vs := [_, _, _, _, _]) rfl rfl isAgg44 sizeOf44 (ReadsN.pt 2 rfl) rfl (B := [_, _, _]) ⟨_, rfl, hy, rfl⟩
   try (first | (cases hc8; done) | (exfalso; simp at hc8; done))
   all_goals
    refine J.cond_f rfl <| J.cskip <| J.then_n <| J.seq ?_
    have hO := hM.os _ _ hB
    refine J.open1 0 rfl (fun _ h => h) fun z => ?_
    refine J.norm rfl ?_
    refine J.mapFocus 1 hB rfl fun val => ?_
    refine J.norm rfl ?_
    refine J.open_ 0 rfl rfl (fun _ h => h) fun r hr => ?_
    subst hr
    refine J.norm rfl ?_
    refine J.keep [1, 2, 6, 0, 3, 4, 5, 7, 8] rfl ?_
    refine J.drawE [11, 12] 3 Tryz.mixed (by kernel_rfl) rfl rfl fun hR => ?_
    refine RG.p 0 hR rfl (Q.mv rfl) <| RG.p 1 hR rfl (Q.nil_ rfl) <| RG.p 2 hR rfl (Q.fa (n := 0) runUnderlying167 rfl rfl sizeOf163 rfl) ?_
    refine RG.p 3 hR rfl (Q.ldI isAgg163 rfl) ?_
    refine RG.p 4 hR rfl (Q.fa (n := 2) runUnderlying52 rfl rfl sizeOf9 rfl) ?_
    refine RG.p 5 hR rfl (Q.ldI isAgg9 rfl) ?_
    refine RG.p 6 hR rfl (X.G.Q.lkYes (i := 0) runUnderlying163 keyS zeroValue179 rfl rfl rfl) ?_
    refine RG.p 7 hR rfl (Q.fa (n := 3) runUnderlying52 rfl rfl sizeOf9 rfl) ?_
    refine RG.p 8 hR rfl (Q.ldI isAgg9 rfl) ?_
    refine RG.p 9 hR rfl (Q.fa (n := 8) runUnderlying52 rfl rfl sizeOf42 rfl) ?_
    refine RG.p 10 hR rfl (Q.ldI isAgg42 rfl) ?_
    refine RG.callk 11 hR rfl rfl rfl rfl rfl call82 (clone_spec G x.dp x.dc x.o.data hx.data (by omega)) [7] rfl rfl ?_
    rintro _ _ ⟨p21, c21, rfl, rfl⟩
    refine ⟨_, X.pick_perm (is := [2, 3, 4]) rfl, ?_⟩
    refine RG.bar 12 hR rfl rfl rfl rfl rfl rfl (X.G.C.mapPut 5 x.o.data ord3_str hO.1 runUnderlying179 keyS rfl rfl rfl rfl) ?_
    rintro _ _ ⟨rfl, rfl⟩
    refine RG.norm rfl ?_
    refine RG.fin hR rfl ?_
    refine J.norm rfl <| J.then_n <| J.seq <| J.region ?_
    refine J.call call73 (status_spec 200) [] rfl rfl rfl rfl ?_
    rintro _ _ ⟨y, rfl, hy, rfl⟩
    refine J.norm rfl ?_
    refine J.stAJ (vs := [_, _, _, _, _]) rfl sizeOf44 rfl rfl ?_
    refine J.nil <| J.then_n <| J.cret ?_
    refine J.shut [4] (datRep x.o.key x.o.data (.slice p21 x.o.data.length c21)) rfl (fun h s => ⟨(p21, c21), rfl, s⟩) ?_
    refine J.mapBack 0 6 x.o.data ord3_str (X.G.srtd_put ord3_str hO.1 _ _) rfl ?_
    rw [X.G.sput_put ord3_str hO.1]
    refine J.shut [0] (bRep x.o.bucket (sput ltB x.o.key x.o.data objs) (.map (some r))) rfl (fun h s => ⟨r, rfl, s⟩) ?_
    refine J.mapBack 0 2 (sput ltB x.o.key x.o.data objs) ord3_str hM.bs rfl ?_
    refine J.shut [2, 0, 5, 6] (BktAt m { M with buckets := sput ltB x.o.bucket (sput ltB x.o.key x.o.data objs) M.buckets }) rfl (fun h s => ⟨z, s⟩) ?_
    refine J.retC [0, 1, 3, 5] (vs := [_, _, _, _, _]) rfl rfl isAgg44 sizeOf44 (ReadsN.pt 4 rfl) rfl (B := [_, _, _]) ⟨_, rfl, hy, rfl⟩
theorem put_no (hB : sget x.o.bucket M.buckets = none) : FSpec Tryz.prog 86 [.pointer (some ⟨m, 0, none⟩), .agg x.cells.toArray] [BktAt m M, G] (ActR m G (st 404, M)) := (put_no_all m M hM x G hx).1 hB
theorem put_yes (hdl : x.o.data.length ≤ 16777216) {objs : Objs} (hB : sget x.o.bucket M.buckets = some objs) : FSpec Tryz.prog 86 [.pointer (some ⟨m, 0, none⟩), .agg x.cells.toArray] [BktAt m M, G] (ActR m G (st 200, { M with buckets := sput ltB x.o.bucket (sput ltB x.o.key x.o.data objs) M.buckets })) := (put_no_all m M hM x G hx).2 hdl hB
theorem put_spec (hdl : x.o.data.length ≤ 16777216) : FSpec Tryz.prog 86 [.pointer (some ⟨m, 0, none⟩), .agg x.cells.toArray] [BktAt m M, G] (ActR m G (M.put x.o)) := by
  unfold BM.put
  split
  · rename_i hB; exact put_no m M hM x G hx hB
  · rename_i hB; exact put_yes m M hM x G hx hdl hB

theorem get_no_all : (∀ (hB : sget x.o.bucket M.buckets = none), FSpec Tryz.prog 87 [.pointer (some ⟨m, 0, none⟩), .agg x.cells.toArray] [BktAt m M, G] (ActR m G (st 404, M))) ∧ (∀ {objs : Objs} (hB : sget x.o.bucket M.buckets = some objs) (hK : sget x.o.key objs = none), FSpec Tryz.prog 87 [.pointer (some ⟨m, 0, none⟩), .agg x.cells.toArray] [BktAt m M, G] (ActR m G (st 404, M))) ∧ (∀ {objs : Objs} (hB : sget x.o.bucket M.buckets = some objs) {d : List UInt8} (hK : sget x.o.key objs = some d), FSpec Tryz.prog 87 [.pointer (some ⟨m, 0, none⟩), .agg x.cells.toArray] [BktAt m M, G] (ActR m G (⟨200, 0, [], false, d⟩, M))) := by
  refine ⟨fun hB => ?_, fun {objs} hB hK => ?_, fun {objs} hB {d} hK => ?_⟩
  all_goals
   refine FSpec.of func87 rfl ntmps87 rfl fun W0 F => ?_
   refine J.seq <| J.region ?_
   refine J.c rfl rfl (C.box (l := [_, _, _, _, _, _, _, _, _]) rfl rfl) ?_
   rintro _ _ ⟨b3, rfl, rfl⟩
   refine J.norm rfl ?_
   refine J.c rfl rfl (C.alloc (l := [_, _, _, _, _]) zeroValue44 rfl) ?_
   rintro _ _ ⟨b4, rfl, rfl⟩
   refine J.norm rfl <| J.nil <| J.then_n <| J.seq ?_
   try have hO := hM.os _ _ hB
   try have hdl := hO.2.2 _ _ hK
   refine J.open1 2 rfl (fun _ h => h) fun z => ?_
   refine J.norm rfl ?_
   first
     | (refine J.mapFocus 1 hB rfl fun val => ?_
        refine J.norm rfl ?_
        refine J.open_ 0 rfl rfl (fun _ h => h) fun r hr => ?_
        subst hr
        refine J.norm rfl ?_)
     | skip
   first
     | (refine J.mapFocus 0 hK rfl fun val => ?_
        refine J.norm rfl ?_
        refine J.open_ 0 rfl rfl (fun _ h => h) fun z2 hz2 => ?_
        subst hz2
        refine J.norm rfl ?_)
     | skip
   refine J.draw [13, 14] Tryz.mixed (by kernel_rfl) fun hR => ?_
   refine RG.p 0 hR rfl (Q.mv rfl) <| RG.p 1 hR rfl (Q.nil_ rfl) <| RG.p 2 hR rfl (Q.fa (n := 0) runUnderlying167 rfl rfl sizeOf163 rfl) ?_
   refine RG.p 3 hR rfl (Q.ldI isAgg163 rfl) ?_
   refine RG.p 4 hR rfl (Q.fa (n := 2) runUnderlying52 rfl rfl sizeOf9 rfl) ?_
   refine RG.p 5 hR rfl (Q.ldI isAgg9 rfl) ?_
   refine RG.p 6 hR rfl (by first | exact X.G.Q.lkNo (i := 1) runUnderlying163 keyS zeroValue179 rfl rfl rfl hB | exact X.G.Q.lkYes (i := 1) runUnderlying163 keyS zeroValue179 rfl rfl rfl | exact X.G.Q.lkYes (i := 2) runUnderlying163 keyS zeroValue179 rfl rfl rfl) ?_
   refine RG.p 7 hR rfl (Q.fa (n := 3) runUnderlying52 rfl rfl sizeOf9 rfl) ?_
   refine RG.p 8 hR rfl (Q.ldI isAgg9 rfl) ?_
   refine RG.p 9 hR rfl (by first | exact X.G.Q.lk2Nil runUnderlying179 keyS zeroValue42 rfl rfl | exact X.G.Q.lk2No (i := 0) runUnderlying179 keyS zeroValue42 rfl rfl rfl hK | exact X.G.Q.lk2Yes (i := 1) runUnderlying179 keyS zeroValue42 rfl rfl rfl) ?_
   refine RG.p 10 hR rfl (Q.mv rfl) <| RG.p 11 hR rfl (Q.ext rfl rfl) <| RG.p 12 hR rfl (Q.ext rfl rfl) ?_
   refine RG.keep 13 hR rfl rfl rfl rfl rfl (Q.asg rfl) ?_
   refine RG.bar 14 hR rfl rfl rfl rfl rfl rfl (Q.asg rfl).toC ?_
   rintro _ _ ⟨rfl, rfl⟩
   refine RG.norm rfl ?_
   refine RG.fin hR rfl ?_
   refine J.norm rfl <| J.then_n <| J.seq <| J.seq <| J.region <| J.m rfl <| J.p rfl (Q.not rfl) <| J.nil <| J.then_n ?_
   refine J.kases 21 rfl (fun hc21 => ?_) (fun hc21 => ?_)
   ·
    try (first | (cases hc21; done) | (exfalso; simp at hc21; done))
    all_goals
     refine J.cond_t rfl <| J.seq <| J.region ?_
     refine J.call call73 (status_spec 404) [] rfl rfl rfl rfl ?_
     rintro _ _ ⟨y, rfl, hy, rfl⟩
     refine J.norm rfl ?_
     refine J.stAJ (vs := [_, _, _, _, _]) rfl sizeOf44 rfl rfl ?_
     refine J.nil <| J.then_n <| J.cret <| J.then_r ?_
     first
       | (refine J.shut [1, 2, 3, 4] (BktAt m M) rfl (fun h s => ⟨z, s⟩) ?_
          refine J.retC [0, 1, 4, 5] (vs := [_, _, _, _, _]) rfl rfl isAgg44 sizeOf44 (ReadsN.pt 2 rfl) rfl (B := [_, _, _]) ⟨_, rfl, hy, rfl⟩)
       | (refine J.shut [1] (bRep x.o.bucket objs (.map (some r))) rfl (fun h s => ⟨r, rfl, s⟩) ?_
          refine J.mapSame 0 2 ord3_str hM.bs hB rfl ?_
          refine J.shut [2, 0, 3, 4] (BktAt m M) rfl (fun h s => ⟨z, s⟩) ?_
          refine J.retC [0, 1, 4, 5] (vs := [_, _, _, _, _]) rfl rfl isAgg44 sizeOf44 (ReadsN.pt 2 rfl) rfl (B := [_, _, _]) ⟨_, rfl, hy, rfl⟩)
   try (first | (cases hc21; done) | (exfalso; simp at hc21; done))
   all_goals
    refine J.cond_f rfl <| J.cskip <| J.then_n <| J.seq <| J.region <| J.m rfl ?_
    refine J.slr1 0 rfl fun hs24 => ?_
    refine J.call call82 (clone_spec (own 5 1 (.slice z2.1 d.length z2.2) (bytesV d)) z2.1 z2.2 d hs24 (by omega)) [0] rfl rfl rfl rfl ?_
    rintro _ _ ⟨p24, c24, rfl, rfl⟩
    refine J.norm rfl <| J.p rfl (Q.bld (l := [_, _, _, _, _]) runUnderlying44 zeroValue44 places44 rfl rfl) ?_
    refine J.stAJ (vs := [_, _, _, _, _]) rfl sizeOf44 rfl rfl ?_
    refine J.nil <| J.then_n <| J.cret ?_
    refine J.give (own.nil 9 1 _) ?_
    refine J.pack [0, 1] rfl ?_
    refine J.shut [1] (datRep x.o.key d (.slice z2.1 d.length z2.2)) rfl (fun h s => ⟨z2, rfl, s⟩) ?_
    refine J.mapSame 0 2 ord3_str hO.1 hK rfl ?_
    refine J.shut [0] (bRep x.o.bucket objs (.map (some r))) rfl (fun h s => ⟨r, rfl, s⟩) ?_
    refine J.mapSame 0 2 ord3_str hM.bs hB rfl ?_
    refine J.shut [2, 0, 3, 4] (BktAt m M) rfl (fun h s => ⟨z, s⟩) ?_
    refine J.retC [0, 1, 4, 5] (vs := [_, _, _, _, _]) rfl rfl isAgg44 sizeOf44 (ReadsN.pt 2 rfl) rfl (B := [_, _, _]) ⟨⟨⟨200, 0, [], false, d⟩, none, 0, p24, c24⟩, rfl, rfl, rfl⟩
theorem get_no (hB : sget x.o.bucket M.buckets = none) : FSpec Tryz.prog 87 [.pointer (some ⟨m, 0, none⟩), .agg x.cells.toArray] [BktAt m M, G] (ActR m G (st 404, M)) := (get_no_all m M hM x G hx).1 hB
theorem get_none {objs : Objs} (hB : sget x.o.bucket M.buckets = some objs) (hK : sget x.o.key objs = none) : FSpec Tryz.prog 87 [.pointer (some ⟨m, 0, none⟩), .agg x.cells.toArray] [BktAt m M, G] (ActR m G (st 404, M)) := (get_no_all m M hM x G hx).2.1 hB hK
theorem get_yes {objs : Objs} (hB : sget x.o.bucket M.buckets = some objs) {d : List UInt8} (hK : sget x.o.key objs = some d) : FSpec Tryz.prog 87 [.pointer (some ⟨m, 0, none⟩), .agg x.cells.toArray] [BktAt m M, G] (ActR m G (⟨200, 0, [], false, d⟩, M)) := (get_no_all m M hM x G hx).2.2 hB hK
theorem get_spec : FSpec Tryz.prog 87 [.pointer (some ⟨m, 0, none⟩), .agg x.cells.toArray] [BktAt m M, G] (ActR m G (M.get x.o)) := by
  unfold BM.get
  split
  · rename_i hB; exact get_no m M hM x G hx hB
  · rename_i hB
    split
    · rename_i hK; exact get_none m M hM x G hx hB hK
    · rename_i hK; exact get_yes m M hM x G hx hB hK

theorem delete_no_all : (∀ (hB : sget x.o.bucket M.buckets = none), FSpec Tryz.prog 88 [.pointer (some ⟨m, 0, none⟩), .agg x.cells.toArray] [BktAt m M, G] (ActR m G (st 404, M))) ∧ (∀ {objs : Objs} (hB : sget x.o.bucket M.buckets = some objs) (hK : sget x.o.key objs = none), FSpec Tryz.prog 88 [.pointer (some ⟨m, 0, none⟩), .agg x.cells.toArray] [BktAt m M, G] (ActR m G (st 404, M))) ∧ (∀ {objs : Objs} (hB : sget x.o.bucket M.buckets = some objs) {d : List UInt8} (hK : sget x.o.key objs = some d), FSpec Tryz.prog 88 [.pointer (some ⟨m, 0, none⟩), .agg x.cells.toArray] [BktAt m M, G] (ActR m G (st 200, { M with buckets := sput ltB x.o.bucket (sdel x.o.key objs) M.buckets }))) := by
  refine ⟨fun hB => ?_, fun {objs} hB hK => ?_, fun {objs} hB {d} hK => ?_⟩
  all_goals
   refine FSpec.of func88 rfl ntmps88 rfl fun W0 F => ?_
   refine J.seq <| J.region ?_
   refine J.c rfl rfl (C.box (l := [_, _, _, _, _, _, _, _, _]) rfl rfl) ?_
   rintro _ _ ⟨b3, rfl, rfl⟩
   refine J.norm rfl ?_
   refine J.c rfl rfl (C.alloc (l := [_, _, _, _, _]) zeroValue44 rfl) ?_
   rintro _ _ ⟨b4, rfl, rfl⟩
   refine J.norm rfl <| J.nil <| J.then_n <| J.seq <| J.seq ?_
   try have hO := hM.os _ _ hB
   try have hdl := hO.2.2 _ _ hK
   refine J.open1 2 rfl (fun _ h => h) fun z => ?_
   refine J.norm rfl ?_
   first
     | (refine J.mapFocus 1 hB rfl fun val => ?_
        refine J.norm rfl ?_
        refine J.open_ 0 rfl rfl (fun _ h => h) fun r hr => ?_
        subst hr
        refine J.norm rfl ?_)
     | skip
   first
     | (refine J.mapFocus 0 hK rfl fun val => ?_
        refine J.norm rfl ?_
        refine J.open_ 0 rfl rfl (fun _ h => h) fun z2 hz2 => ?_
        subst hz2
        refine J.norm rfl ?_)
     | skip
   refine J.draw [13, 14] Tryz.mixed (by kernel_rfl) fun hR => ?_
   refine RG.p 0 hR rfl (Q.mv rfl) <| RG.p 1 hR rfl (Q.nil_ rfl) <| RG.p 2 hR rfl (Q.fa (n := 0) runUnderlying167 rfl rfl sizeOf163 rfl) ?_
   refine RG.p 3 hR rfl (Q.ldI isAgg163 rfl) ?_
   refine RG.p 4 hR rfl (Q.fa (n := 2) runUnderlying52 rfl rfl sizeOf9 rfl) ?_
   refine RG.p 5 hR rfl (Q.ldI isAgg9 rfl) ?_
   refine RG.p 6 hR rfl (by first | exact X.G.Q.lkNo (i := 1) runUnderlying163 keyS zeroValue179 rfl rfl rfl hB | exact X.G.Q.lkYes (i := 1) runUnderlying163 keyS zeroValue179 rfl rfl rfl | exact X.G.Q.lkYes (i := 2) runUnderlying163 keyS zeroValue179 rfl rfl rfl) ?_
   refine RG.p 7 hR rfl (Q.fa (n := 3) runUnderlying52 rfl rfl sizeOf9 rfl) ?_
   refine RG.p 8 hR rfl (Q.ldI isAgg9 rfl) ?_
   refine RG.p 9 hR rfl (by first | exact X.G.Q.lk2Nil runUnderlying179 keyS zeroValue42 rfl rfl | exact X.G.Q.lk2No (i := 0) runUnderlying179 keyS zeroValue42 rfl rfl rfl hK | exact X.G.Q.lk2Yes (i := 1) runUnderlying179 keyS zeroValue42 rfl rfl rfl) ?_
   refine RG.p 10 hR rfl (Q.mv rfl) <| RG.p 11 hR rfl (Q.ext rfl rfl) <| RG.p 12 hR rfl (Q.ext rfl rfl) ?_
   refine RG.keep 13 hR rfl rfl rfl rfl rfl (Q.asg rfl) ?_
   refine RG.bar 14 hR rfl rfl rfl rfl rfl rfl (Q.asg rfl).toC ?_
   rintro _ _ ⟨rfl, rfl⟩
   refine RG.norm rfl ?_
   refine RG.fin hR rfl ?_
   refine J.norm rfl <| J.then_n <| J.seq <| J.region <| J.m rfl <| J.p rfl (Q.not rfl) <| J.nil <| J.then_n ?_
   refine J.kases 21 rfl (fun hc21 => ?_) (fun hc21 => ?_)
   ·
    try (first | (cases hc21; done) | (exfalso; simp at hc21; done))
    all_goals
     refine J.cond_t rfl <| J.seq <| J.region ?_
     refine J.call call73 (status_spec 404) [] rfl rfl rfl rfl ?_
     rintro _ _ ⟨y, rfl, hy, rfl⟩
     refine J.norm rfl ?_
     refine J.stAJ (vs := [_, _, _, _, _]) rfl sizeOf44 rfl rfl ?_
     refine J.nil <| J.then_n <| J.cret <| J.then_r ?_
     first
       | (refine J.shut [1, 2, 3, 4] (BktAt m M) rfl (fun h s => ⟨z, s⟩) ?_
          refine J.retC [0, 1, 4, 5] (vs := [_, _, _, _, _]) rfl rfl isAgg44 sizeOf44 (ReadsN.pt 2 rfl) rfl (B := [_, _, _]) ⟨_, rfl, hy, rfl⟩)
       | (refine J.shut [1] (bRep x.o.bucket objs (.map (some r))) rfl (fun h s => ⟨r, rfl, s⟩) ?_
          refine J.mapSame 0 2 ord3_str hM.bs hB rfl ?_
          refine J.shut [2, 0, 3, 4] (BktAt m M) rfl (fun h s => ⟨z, s⟩) ?_
          refine J.retC [0, 1, 4, 5] (vs := [_, _, _, _, _]) rfl rfl isAgg44 sizeOf44 (ReadsN.pt 2 rfl) rfl (B := [_, _, _]) ⟨_, rfl, hy, rfl⟩)
   try (first | (cases hc21; done) | (exfalso; simp at hc21; done))
   all_goals
    refine J.cond_f rfl <| J.cskip <| J.then_n <| J.seq ?_
    refine J.shut [0] (datRep x.o.key d (.slice z2.1 d.length z2.2)) rfl (fun h s => ⟨z2, rfl, s⟩) ?_
    refine J.mapSame 0 1 ord3_str hO.1 hK rfl ?_
    refine J.draw [9] Tryz.mixed (by kernel_rfl) fun hR => ?_
    refine RG.p 0 hR rfl (Q.mv rfl) <| RG.p 1 hR rfl (Q.nil_ rfl) <| RG.p 2 hR rfl (Q.fa (n := 0) runUnderlying167 rfl rfl sizeOf163 rfl) ?_
    refine RG.p 3 hR rfl (Q.ldI isAgg163 rfl) ?_
    refine RG.p 4 hR rfl (Q.fa (n := 2) runUnderlying52 rfl rfl sizeOf9 rfl) ?_
    refine RG.p 5 hR rfl (Q.ldI isAgg9 rfl) ?_
    refine RG.p 6 hR rfl (X.G.Q.lkYes (i := 1) runUnderlying163 keyS zeroValue179 rfl rfl rfl) ?_
    refine RG.p 7 hR rfl (Q.fa (n := 3) runUnderlying52 rfl rfl sizeOf9 rfl) ?_
    refine RG.p 8 hR rfl (Q.ldI isAgg9 rfl) ?_
    refine RG.bar 9 hR rfl rfl rfl rfl rfl rfl (X.G.C.mapDel 0 runUnderlying179 keyS rfl rfl) ?_
    rintro _ _ ⟨rfl, rfl⟩
    refine RG.norm rfl ?_
    refine RG.fin hR rfl ?_
    refine J.norm rfl <| J.then_n <| J.seq <| J.region ?_
    refine J.call call73 (status_spec 200) [] rfl rfl rfl rfl ?_
    rintro _ _ ⟨y, rfl, hy, rfl⟩
    refine J.norm rfl ?_
    refine J.stAJ (vs := [_, _, _, _, _]) rfl sizeOf44 rfl rfl ?_
    refine J.nil <| J.then_n <| J.cret ?_
    refine J.shut [1] (bRep x.o.bucket (sdel x.o.key objs) (.map (some r))) rfl (fun h s => ⟨r, rfl, s⟩) ?_
    refine J.mapBack 0 2 (sdel x.o.key objs) ord3_str hM.bs rfl ?_
    refine J.shut [2, 0, 3, 4] (BktAt m { M with buckets := sput ltB x.o.bucket (sdel x.o.key objs) M.buckets }) rfl (fun h s => ⟨z, s⟩) ?_
    refine J.retC [0, 1, 4, 5] (vs := [_, _, _, _, _]) rfl rfl isAgg44 sizeOf44 (ReadsN.pt 2 rfl) rfl (B := [_, _, _]) ⟨_, rfl, hy, rfl⟩
theorem delete_no (hB : sget x.o.bucket M.buckets = none) : FSpec Tryz.prog 88 [.pointer (some ⟨m, 0, none⟩), .agg x.cells.toArray] [BktAt m M, G] (ActR m G (st 404, M)) := (delete_no_all m M hM x G hx).1 hB
theorem delete_none {objs : Objs} (hB : sget x.o.bucket M.buckets = some objs) (hK : sget x.o.key objs = none) : FSpec Tryz.prog 88 [.pointer (some ⟨m, 0, none⟩), .agg x.cells.toArray] [BktAt m M, G] (ActR m G (st 404, M)) := (delete_no_all m M hM x G hx).2.1 hB hK
theorem delete_yes {objs : Objs} (hB : sget x.o.bucket M.buckets = some objs) {d : List UInt8} (hK : sget x.o.key objs = some d) : FSpec Tryz.prog 88 [.pointer (some ⟨m, 0, none⟩), .agg x.cells.toArray] [BktAt m M, G] (ActR m G (st 200, { M with buckets := sput ltB x.o.bucket (sdel x.o.key objs) M.buckets })) := (delete_no_all m M hM x G hx).2.2 hB hK
theorem delete_spec : FSpec Tryz.prog 88 [.pointer (some ⟨m, 0, none⟩), .agg x.cells.toArray] [BktAt m M, G] (ActR m G (M.delete x.o)) := by
  unfold BM.delete
  split
  · rename_i hB; exact delete_no m M hM x G hx hB
  · rename_i hB
    split
    · rename_i hK; exact delete_none m M hM x G hx hB hK
    · rename_i hK; exact delete_yes m M hM x G hx hB hK

theorem begin_no_all : (∀ (hB : sget x.o.bucket M.buckets = none), FSpec Tryz.prog 90 [.pointer (some ⟨m, 0, none⟩), .agg x.cells.toArray] [BktAt m M, G] (ActR m G (st 404, M))) ∧ (∀ {objs : Objs} (hB : sget x.o.bucket M.buckets = some objs), FSpec Tryz.prog 90 [.pointer (some ⟨m, 0, none⟩), .agg x.cells.toArray] [BktAt m M, G] (ActR m G (⟨200, x.o.id, [], false, []⟩, { M with uploads := sput ltN x.o.id ⟨x.o.bucket, x.o.key, []⟩ M.uploads }))) := by
  refine ⟨fun hB => ?_, fun {objs} hB => ?_⟩
  all_goals
   refine FSpec.of func90 rfl ntmps90 rfl fun W0 F => ?_
   refine J.seq <| J.region ?_
   refine J.c rfl rfl (C.box (l := [_, _, _, _, _, _, _, _, _]) rfl rfl) ?_
   rintro _ _ ⟨b3, rfl, rfl⟩
   refine J.norm rfl ?_
   refine J.c rfl rfl (C.alloc (l := [_, _, _, _, _]) zeroValue44 rfl) ?_
   rintro _ _ ⟨b4, rfl, rfl⟩
   refine J.norm rfl <| J.nil <| J.then_n <| J.seq <| J.seq <| J.region <| J.m rfl ?_
   refine J.p rfl (Q.ldN (vs := [_, _, _, _, _, _, _, _, _]) isAgg52 sizeOf52 rfl rnI) ?_
   refine J.call call94 ((by first | exact known_no m M x hB | exact known_yes m M hM x hB)) [2] rfl rfl rfl rfl ?_
   rintro _ _ ⟨rfl, rfl⟩
   refine J.norm rfl <| J.p rfl (Q.not rfl) <| J.nil <| J.then_n ?_
   refine J.kases 8 rfl (fun hc8 => ?_) (fun hc8 => ?_)
   ·
    try (first | (cases hc8; done) | (exfalso; simp at hc8; done))
    all_goals
     refine J.cond_t rfl <| J.seq <| J.region ?_
     refine J.call call73 (status_spec 404) [] rfl rfl rfl rfl ?_
     rintro _ _ ⟨y, rfl, hy, rfl⟩
     refine J.norm rfl ?_
     refine J.stAJ (vs := [_, _, _, _, _]) rfl sizeOf44 rfl rfl ?_
     refine J.nil <| J.then_n <| J.cret <| J.then_r ?_
     refine J.retC [1, 0, 4, 5] (vs := [_, _, _, _, _]) rfl rfl isAgg44 sizeOf44 (ReadsN.pt 2 rfl) rfl (B := [_, _, _]) ⟨_, rfl, hy, rfl⟩
   try (first | (cases hc8; done) | (exfalso; simp at hc8; done))
   all_goals
    refine J.cond_f rfl <| J.cskip <| J.then_n <| J.seq ?_
    refine J.open1 0 rfl (fun _ h => h) fun z => ?_
    refine J.norm rfl ?_
    refine J.draw [10, 12, 13] Tryz.mixed (by kernel_rfl) fun hR => ?_
    refine RG.p 0 hR rfl (Q.mv rfl) <| RG.p 1 hR rfl (Q.nil_ rfl) <| RG.p 2 hR rfl (Q.fa (n := 1) runUnderlying167 rfl rfl sizeOf164 rfl) ?_
    refine RG.p 3 hR rfl (Q.ldI isAgg164 rfl) ?_
    refine RG.p 4 hR rfl (Q.fa (n := 0) runUnderlying52 rfl rfl sizeOf40 rfl) ?_
    refine RG.p 5 hR rfl (Q.ldI isAgg40 rfl) ?_
    refine RG.p 6 hR rfl (Q.fa (n := 2) runUnderlying52 rfl rfl sizeOf9 rfl) ?_
    refine RG.p 7 hR rfl (Q.ldI isAgg9 rfl) ?_
    refine RG.p 8 hR rfl (Q.fa (n := 3) runUnderlying52 rfl rfl sizeOf9 rfl) ?_
    refine RG.p 9 hR rfl (Q.ldI isAgg9 rfl) ?_
    refine RG.made 10 hR rfl rfl rfl rfl rfl C.mkMap ?_
    rintro b20
    refine RG.p 11 hR rfl (Q.bld (l := [_, _, _]) runUnderlying183 zeroValue183 places183 rfl rfl) ?_
    refine RG.made 12 hR rfl rfl rfl rfl rfl (C.box (l := [_, _, _]) rfl rfl) ?_
    rintro b22
    refine RG.bar 13 hR rfl rfl rfl rfl rfl rfl (X.G.C.mapPut (rep := uRep) 2 ⟨x.o.bucket, x.o.key, []⟩ ord3_nat hM.us runUnderlying164 keyU rfl rfl rfl rfl) ?_
    rintro _ _ ⟨rfl, rfl⟩
    refine RG.norm rfl ?_
    refine RG.fin hR rfl ?_
    refine J.norm rfl <| J.then_n <| J.seq <| J.region <| J.p rfl (Q.fa (n := 0) runUnderlying52 rfl rfl sizeOf40 rfl) ?_
    refine J.p rfl (Q.ldI isAgg40 rfl) ?_
    refine J.p rfl (Q.bld (l := [_, _, _, _, _]) runUnderlying44 zeroValue44 places44 rfl rfl) ?_
    refine J.stAJ (vs := [_, _, _, _, _]) rfl sizeOf44 rfl rfl ?_
    refine J.nil <| J.then_n <| J.cret ?_
    refine J.give empty_asn ?_
    refine J.conv (Y := MapAt (Value.int .i64) datRep b20 []) 10 rfl MapAt.new ?_
    refine J.shut [10, 0] (uRep x.o.id ⟨x.o.bucket, x.o.key, []⟩ (.pointer (some ⟨b22, 0, none⟩))) rfl (fun h s => ⟨(b22, b20), rfl, s⟩) ?_
    refine J.mapBack 0 4 ⟨x.o.bucket, x.o.key, []⟩ ord3_nat (X.G.srtd_put ord3_nat hM.us _ _) rfl ?_
    rw [X.G.sput_put ord3_nat hM.us]
    refine J.shut [2, 3, 0, 4] (BktAt m { M with uploads := sput ltN x.o.id ⟨x.o.bucket, x.o.key, []⟩ M.uploads }) rfl (fun h s => ⟨z, s⟩) ?_
    refine J.retC [0, 1, 4, 5] (vs := [_, _, _, _, _]) rfl rfl isAgg44 sizeOf44 (ReadsN.pt 2 rfl) rfl (B := [_, _, _]) ⟨⟨⟨200, x.o.id, [], false, []⟩, none, 0, none, 0⟩, rfl, rfl, rfl⟩
theorem begin_no (hB : sget x.o.bucket M.buckets = none) : FSpec Tryz.prog 90 [.pointer (some ⟨m, 0, none⟩), .agg x.cells.toArray] [BktAt m M, G] (ActR m G (st 404, M)) := (begin_no_all m M hM x G hx).1 hB
theorem begin_yes {objs : Objs} (hB : sget x.o.bucket M.buckets = some objs) : FSpec Tryz.prog 90 [.pointer (some ⟨m, 0, none⟩), .agg x.cells.toArray] [BktAt m M, G] (ActR m G (⟨200, x.o.id, [], false, []⟩, { M with uploads := sput ltN x.o.id ⟨x.o.bucket, x.o.key, []⟩ M.uploads })) := (begin_no_all m M hM x G hx).2 hB
theorem begin_spec : FSpec Tryz.prog 90 [.pointer (some ⟨m, 0, none⟩), .agg x.cells.toArray] [BktAt m M, G] (ActR m G (M.begin x.o)) := by
  unfold BM.begin
  split
  · rename_i hB; exact begin_no m M hM x G hx hB
  · rename_i hB; exact begin_yes m M hM x G hx hB

theorem part_no_all : (∀ (hU : sget x.o.upload M.uploads = none), FSpec Tryz.prog 91 [.pointer (some ⟨m, 0, none⟩), .agg x.cells.toArray] [BktAt m M, G] (ActR m G (st 404, M))) ∧ (∀ (hdl : x.o.data.length ≤ 16777216) {u : UM} (hU : sget x.o.upload M.uploads = some u), FSpec Tryz.prog 91 [.pointer (some ⟨m, 0, none⟩), .agg x.cells.toArray] [BktAt m M, G] (ActR m G (st 200, { M with uploads := sput ltN x.o.upload ⟨u.bucket, u.key, sput ltI x.o.n x.o.data u.parts⟩ M.uploads }))) := by
  refine ⟨fun hU => ?_, fun hdl {u} hU => ?_⟩
  all_goals
   have hsm := hx.small
   refine FSpec.of func91 rfl ntmps91 rfl fun W0 F => ?_
   refine J.seq <| J.region ?_
   refine J.c rfl rfl (C.box (l := [_, _, _, _, _, _, _, _, _]) rfl rfl) ?_
   rintro _ _ ⟨b3, rfl, rfl⟩
   refine J.norm rfl ?_
   refine J.c rfl rfl (C.alloc (l := [_, _, _, _, _]) zeroValue44 rfl) ?_
   rintro _ _ ⟨b4, rfl, rfl⟩
   refine J.norm rfl <| J.nil <| J.then_n <| J.seq ?_
   try have hP := hM.ps _ _ hU
   refine J.open1 2 rfl (fun _ h => h) fun z => ?_
   refine J.norm rfl ?_
   first
     | (refine J.mapFocus 2 hU rfl fun val => ?_
        refine J.norm rfl ?_
        refine J.open_ 0 rfl rfl (fun _ h => h) fun z2 hz2 => ?_
        subst hz2
        refine J.norm rfl ?_)
     | skip
   refine J.draw [7] Tryz.mixed (by kernel_rfl) fun hR => ?_
   refine RG.p 0 hR rfl (Q.mv rfl) <| RG.p 1 hR rfl (Q.nil_ rfl) <| RG.p 2 hR rfl (Q.fa (n := 1) runUnderlying167 rfl rfl sizeOf164 rfl) ?_
   refine RG.p 3 hR rfl (Q.ldI isAgg164 rfl) ?_
   refine RG.p 4 hR rfl (Q.fa (n := 6) runUnderlying52 rfl rfl sizeOf40 rfl) ?_
   refine RG.p 5 hR rfl (Q.ldI isAgg40 rfl) ?_
   refine RG.p 6 hR rfl (by first | exact X.G.Q.lkNo (i := 2) runUnderlying164 keyU zeroValue180 rfl rfl rfl hU | exact X.G.Q.lkYes (i := 2) runUnderlying164 keyU zeroValue180 rfl rfl rfl) ?_
   refine RG.bar 7 hR rfl rfl rfl rfl rfl rfl (Q.asg rfl).toC ?_
   rintro _ _ ⟨rfl, rfl⟩
   refine RG.norm rfl ?_
   refine RG.fin hR rfl ?_
   refine J.norm rfl <| J.then_n <| J.seq <| J.seq <| J.region <| J.m rfl <| J.p rfl (Q.eqlp runUnderlying180 rfl rfl) <| J.nil <| J.then_n ?_
   refine J.kases 14 rfl (fun hc14 => ?_) (fun hc14 => ?_)
   ·
    try (first | (cases hc14; done) | (exfalso; simp at hc14; done))
    all_goals
     refine J.cond_t rfl <| J.seq <| J.region ?_
     refine J.call call73 (status_spec 404) [] rfl rfl rfl rfl ?_
     rintro _ _ ⟨y, rfl, hy, rfl⟩
     refine J.norm rfl ?_
     refine J.stAJ (vs := [_, _, _, _, _]) rfl sizeOf44 rfl rfl ?_
     refine J.nil <| J.then_n <| J.cret <| J.then_r ?_
     refine J.shut [1, 2, 3, 4] (BktAt m M) rfl (fun h s => ⟨z, s⟩) ?_
     refine J.retC [0, 1, 4, 5] (vs := [_, _, _, _, _]) rfl rfl isAgg44 sizeOf44 (ReadsN.pt 2 rfl) rfl (B := [_, _, _]) ⟨_, rfl, hy, rfl⟩
   try (first | (cases hc14; done) | (exfalso; simp at hc14; done))
   all_goals
    refine J.cond_f rfl <| J.cskip <| J.then_n <| J.seq ?_
    refine J.keep [0, 7, 1, 2, 3, 4, 5, 6, 8, 9] rfl ?_
    refine J.drawE [8, 9] 2 Tryz.mixed (by kernel_rfl) rfl rfl fun hR => ?_
    refine RG.p 0 hR rfl (Q.mv rfl) <| RG.p 1 hR rfl (Q.nil_ rfl) <| RG.p 2 hR rfl (Q.fa (n := 2) runUnderlying183 rfl rfl sizeOf181 rfl) ?_
    refine RG.p 3 hR rfl (Q.ldI isAgg181 rfl) ?_
    refine RG.p 4 hR rfl (Q.fa (n := 5) runUnderlying52 rfl rfl sizeOf3 rfl) ?_
    refine RG.p 5 hR rfl (Q.ldI isAgg3 rfl) ?_
    refine RG.p 6 hR rfl (Q.fa (n := 8) runUnderlying52 rfl rfl sizeOf42 rfl) ?_
    refine RG.p 7 hR rfl (Q.ldI isAgg42 rfl) ?_
    refine RG.callk 8 hR rfl rfl rfl rfl rfl call82 (clone_spec G x.dp x.dc x.o.data hx.data (by omega)) [8] rfl rfl ?_
    rintro _ _ ⟨p24, c24, rfl, rfl⟩
    refine ⟨_, X.pick_perm (is := [2, 3]) rfl, ?_⟩
    refine RG.bar 9 hR rfl rfl rfl rfl rfl rfl (X.G.C.mapPut 4 x.o.data ord3_int hP.1 runUnderlying181 keyI rfl rfl rfl rfl) ?_
    rintro _ _ ⟨rfl, rfl⟩
    refine RG.norm rfl ?_
    refine RG.fin hR rfl ?_
    refine J.norm rfl <| J.then_n <| J.seq <| J.region ?_
    refine J.call call73 (status_spec 200) [] rfl rfl rfl rfl ?_
    rintro _ _ ⟨y, rfl, hy, rfl⟩
    refine J.norm rfl ?_
    refine J.stAJ (vs := [_, _, _, _, _]) rfl sizeOf44 rfl rfl ?_
    refine J.nil <| J.then_n <| J.cret ?_
    refine J.shut [3] (datRep x.o.n x.o.data (.slice p24 x.o.data.length c24)) rfl (fun h s => ⟨(p24, c24), rfl, s⟩) ?_
    refine J.mapBack 0 5 x.o.data ord3_int (X.G.srtd_put ord3_int hP.1 _ _) rfl ?_
    rw [X.G.sput_put ord3_int hP.1]
    refine J.shut [2, 0] (uRep x.o.upload ⟨u.bucket, u.key, sput ltI x.o.n x.o.data u.parts⟩ (.pointer (some ⟨z2.1, 0, none⟩))) rfl (fun h s => ⟨z2, rfl, s⟩) ?_
    refine J.mapBack 0 4 ⟨u.bucket, u.key, sput ltI x.o.n x.o.data u.parts⟩ ord3_nat hM.us rfl ?_
    refine J.shut [4, 5, 0, 6] (BktAt m { M with uploads := sput ltN x.o.upload ⟨u.bucket, u.key, sput ltI x.o.n x.o.data u.parts⟩ M.uploads }) rfl (fun h s => ⟨z, s⟩) ?_
    refine J.retC [0, 1, 3, 5] (vs := [_, _, _, _, _]) rfl rfl isAgg44 sizeOf44 (ReadsN.pt 4 rfl) rfl (B := [_, _, _]) ⟨_, rfl, hy, rfl⟩
theorem part_no (hU : sget x.o.upload M.uploads = none) : FSpec Tryz.prog 91 [.pointer (some ⟨m, 0, none⟩), .agg x.cells.toArray] [BktAt m M, G] (ActR m G (st 404, M)) := (part_no_all m M hM x G hx).1 hU
theorem part_yes (hdl : x.o.data.length ≤ 16777216) {u : UM} (hU : sget x.o.upload M.uploads = some u) : FSpec Tryz.prog 91 [.pointer (some ⟨m, 0, none⟩), .agg x.cells.toArray] [BktAt m M, G] (ActR m G (st 200, { M with uploads := sput ltN x.o.upload ⟨u.bucket, u.key, sput ltI x.o.n x.o.data u.parts⟩ M.uploads })) := (part_no_all m M hM x G hx).2 hdl hU
theorem part_spec (hdl : x.o.data.length ≤ 16777216) : FSpec Tryz.prog 91 [.pointer (some ⟨m, 0, none⟩), .agg x.cells.toArray] [BktAt m M, G] (ActR m G (M.part x.o)) := by
  unfold BM.part
  split
  · rename_i hU; exact part_no m M hM x G hx hU
  · rename_i hU; exact part_yes m M hM x G hx hdl hU

theorem abort_no_all : (∀ (hU : sget x.o.upload M.uploads = none), FSpec Tryz.prog 93 [.pointer (some ⟨m, 0, none⟩), .agg x.cells.toArray] [BktAt m M, G] (ActR m G (st 404, M))) ∧ (∀ {u : UM} (hU : sget x.o.upload M.uploads = some u), FSpec Tryz.prog 93 [.pointer (some ⟨m, 0, none⟩), .agg x.cells.toArray] [BktAt m M, G] (ActR m G (st 200, { M with uploads := sdel x.o.upload M.uploads }))) := by
  refine ⟨fun hU => ?_, fun {u} hU => ?_⟩
  all_goals
   refine FSpec.of func93 rfl ntmps93 rfl fun W0 F => ?_
   refine J.seq <| J.region ?_
   refine J.c rfl rfl (C.box (l := [_, _, _, _, _, _, _, _, _]) rfl rfl) ?_
   rintro _ _ ⟨b3, rfl, rfl⟩
   refine J.norm rfl ?_
   refine J.c rfl rfl (C.alloc (l := [_, _, _, _, _]) zeroValue44 rfl) ?_
   rintro _ _ ⟨b4, rfl, rfl⟩
   refine J.norm rfl <| J.nil <| J.then_n <| J.seq <| J.seq ?_
   try have hP := hM.ps _ _ hU
   refine J.open1 2 rfl (fun _ h => h) fun z => ?_
   refine J.norm rfl ?_
   first
     | (refine J.mapFocus 2 hU rfl fun val => ?_
        refine J.norm rfl ?_
        refine J.open_ 0 rfl rfl (fun _ h => h) fun z2 hz2 => ?_
        subst hz2
        refine J.norm rfl ?_)
     | skip
   refine J.draw [] Tryz.mixed (by kernel_rfl) fun hR => ?_
   refine RG.p 0 hR rfl (Q.mv rfl) <| RG.p 1 hR rfl (Q.nil_ rfl) <| RG.p 2 hR rfl (Q.fa (n := 1) runUnderlying167 rfl rfl sizeOf164 rfl) ?_
   refine RG.p 3 hR rfl (Q.ldI isAgg164 rfl) ?_
   refine RG.p 4 hR rfl (Q.fa (n := 6) runUnderlying52 rfl rfl sizeOf40 rfl) ?_
   refine RG.p 5 hR rfl (Q.ldI isAgg40 rfl) ?_
   refine RG.p 6 hR rfl (by first | exact X.G.Q.lkNo (i := 2) runUnderlying164 keyU zeroValue180 rfl rfl rfl hU | exact X.G.Q.lkYes (i := 2) runUnderlying164 keyU zeroValue180 rfl rfl rfl) ?_
   refine RG.p 7 hR rfl (Q.eqlp runUnderlying180 rfl rfl) ?_
   refine RG.fin hR rfl ?_
   refine J.norm rfl <| J.then_n ?_
   refine J.kases 12 rfl (fun hc12 => ?_) (fun hc12 => ?_)
   ·
    try (first | (cases hc12; done) | (exfalso; simp at hc12; done))
    all_goals
     refine J.cond_t rfl <| J.seq <| J.region ?_
     refine J.call call73 (status_spec 404) [] rfl rfl rfl rfl ?_
     rintro _ _ ⟨y, rfl, hy, rfl⟩
     refine J.norm rfl ?_
     refine J.stAJ (vs := [_, _, _, _, _]) rfl sizeOf44 rfl rfl ?_
     refine J.nil <| J.then_n <| J.cret <| J.then_r ?_
     refine J.shut [1, 2, 3, 4] (BktAt m M) rfl (fun h s => ⟨z, s⟩) ?_
     refine J.retC [0, 1, 4, 5] (vs := [_, _, _, _, _]) rfl rfl isAgg44 sizeOf44 (ReadsN.pt 2 rfl) rfl (B := [_, _, _]) ⟨_, rfl, hy, rfl⟩
   try (first | (cases hc12; done) | (exfalso; simp at hc12; done))
   all_goals
    refine J.cond_f rfl <| J.cskip <| J.then_n <| J.seq ?_
    refine J.shut [0, 1] (uRep x.o.upload u (.pointer (some ⟨z2.1, 0, none⟩))) rfl (fun h s => ⟨z2, rfl, s⟩) ?_
    refine J.mapSame 0 1 ord3_nat hM.us hU rfl ?_
    refine J.draw [6] Tryz.mixed (by kernel_rfl) fun hR => ?_
    refine RG.p 0 hR rfl (Q.mv rfl) <| RG.p 1 hR rfl (Q.nil_ rfl) <| RG.p 2 hR rfl (Q.fa (n := 1) runUnderlying167 rfl rfl sizeOf164 rfl) ?_
    refine RG.p 3 hR rfl (Q.ldI isAgg164 rfl) ?_
    refine RG.p 4 hR rfl (Q.fa (n := 6) runUnderlying52 rfl rfl sizeOf40 rfl) ?_
    refine RG.p 5 hR rfl (Q.ldI isAgg40 rfl) ?_
    refine RG.bar 6 hR rfl rfl rfl rfl rfl rfl (X.G.C.mapDel 0 runUnderlying164 keyU rfl rfl) ?_
    rintro _ _ ⟨rfl, rfl⟩
    refine RG.norm rfl ?_
    refine RG.fin hR rfl ?_
    refine J.norm rfl <| J.then_n <| J.seq <| J.region ?_
    refine J.call call73 (status_spec 200) [] rfl rfl rfl rfl ?_
    rintro _ _ ⟨y, rfl, hy, rfl⟩
    refine J.norm rfl ?_
    refine J.stAJ (vs := [_, _, _, _, _]) rfl sizeOf44 rfl rfl ?_
    refine J.nil <| J.then_n <| J.cret ?_
    refine J.shut [2, 3, 1, 4] (BktAt m { M with uploads := sdel x.o.upload M.uploads }) rfl (fun h s => ⟨z, s⟩) ?_
    refine J.retC [0, 1, 4, 5] (vs := [_, _, _, _, _]) rfl rfl isAgg44 sizeOf44 (ReadsN.pt 2 rfl) rfl (B := [_, _, _]) ⟨_, rfl, hy, rfl⟩
theorem abort_no (hU : sget x.o.upload M.uploads = none) : FSpec Tryz.prog 93 [.pointer (some ⟨m, 0, none⟩), .agg x.cells.toArray] [BktAt m M, G] (ActR m G (st 404, M)) := (abort_no_all m M hM x G hx).1 hU
theorem abort_yes {u : UM} (hU : sget x.o.upload M.uploads = some u) : FSpec Tryz.prog 93 [.pointer (some ⟨m, 0, none⟩), .agg x.cells.toArray] [BktAt m M, G] (ActR m G (st 200, { M with uploads := sdel x.o.upload M.uploads })) := (abort_no_all m M hM x G hx).2 hU
theorem abort_spec : FSpec Tryz.prog 93 [.pointer (some ⟨m, 0, none⟩), .agg x.cells.toArray] [BktAt m M, G] (ActR m G (M.abort x.o)) := by
  unfold BM.abort
  split
  · rename_i hU; exact abort_no m M hM x G hx hU
  · rename_i hU; exact abort_yes m M hM x G hx hU
end
end Go.Proofs.YtidbcaimgahllaaGreat
namespace Go.Proofs.YtidbcaimgahllaaGreat
open Go.Proofs.Tryz
open Go.X
open Go.X.G (Ord3 ord3_nat ord3_int ord3_str ltB sget sput sdel Srtd MapAt MapHole Ent Ents edone eleft)

def BM.uses (M : BM) (b : ByteArray) : Bool := M.uploads.any fun p => decide (p.2.bucket = b)
def BM.unmake (M : BM) (o : OM) : RM × BM :=
  match sget o.bucket M.buckets with
  | none => (st 404, M)
  | some objs => if (decide (0 < objs.length) || M.uses o.bucket) = true then (st 409, M) else (st 200, { M with buckets := sdel o.bucket M.buckets })

def partOf (P : Parts) (n : Int) : List UInt8 := (sget n P).getD []
def collect (P : Parts) (l : List Int) : Option (List UInt8) := if (l.all fun n => (sget n P).isSome) = true then some (l.flatMap (partOf P)) else none
def BM.complete (M : BM) (o : OM) : RM × BM :=
  match sget o.upload M.uploads with
  | none => (st 404, M)
  | some u => match collect u.parts o.parts with
    | none => (st 400, M)
    | some d => (st 200, { M with buckets := sput ltB u.bucket (sput ltB u.key d ((sget u.bucket M.buckets).getD [])) M.buckets, uploads := sdel o.upload M.uploads })

theorem bytes_eq (a b : ByteArray) : decide (a.data.toList = b.data.toList) = decide (a = b) := by
  rw [Bool.eq_iff_iff]
  simp only [decide_eq_true_eq]
  refine ⟨fun h => ?_, fun h => by rw [h]⟩
  cases a; cases b; simp only [ByteArray.mk.injEq] at *; exact Array.toList_inj.1 h

theorem any_perm {α : Type} {p : α → Bool} {l m : List α} (h : l.Perm m) : l.any p = m.any p := by
  rw [Bool.eq_iff_iff, List.any_eq_true, List.any_eq_true]
  exact ⟨fun ⟨x, a, b⟩ => ⟨x, h.mem_iff.1 a, b⟩, fun ⟨x, a, b⟩ => ⟨x, h.mem_iff.2 a, b⟩⟩

def entUses (b : ByteArray) (es : List (Ent Nat UM)) : Bool := es.any fun e => decide (e.v.bucket = b)
theorem entUses_all {M : BM} {es : List (Ent Nat UM)} {c : Nat} (h : Ents M.uploads es c) (b : ByteArray) : entUses b es = M.uses b := by
  unfold entUses BM.uses
  rw [← any_perm h.perm, List.any_map]; rfl
theorem entUses_step {es : List (Ent Nat UM)} {seen : List Nat} {e : Ent Nat UM} (hn : (es.map (·.born)).Nodup) (he : e ∈ eleft es seen) (b : ByteArray) : entUses b (edone es (seen ++ [e.born])) = (entUses b (edone es seen) || decide (e.v.bucket = b)) := by
  unfold entUses
  rw [any_perm (X.G.estep hn he).1, List.any_cons, Bool.or_comm]

theorem flat_take_succ {P : Parts} {l : List Int} {k : Nat} {v : Int} {d : List UInt8} (h : l[k]? = some v) (hd : sget v P = some d) : (l.take (k + 1)).flatMap (partOf P) = (l.take k).flatMap (partOf P) ++ d := by
  obtain ⟨h1, h2⟩ := List.getElem?_eq_some_iff.1 h
  rw [List.take_succ_eq_append_getElem h1, List.flatMap_append, h2, List.flatMap_cons, List.flatMap_nil, List.append_nil]
  congr 1
  unfold partOf; rw [hd]; rfl
theorem all_take_some {P : Parts} {l : List Int} {k : Nat} {v : Int} (h : l[k]? = some v) (ha : ((l.take k).all fun n => (sget n P).isSome) = true) (hd : (sget v P).isSome = true) : ((l.take (k + 1)).all fun n => (sget n P).isSome) = true := by
  obtain ⟨h1, h2⟩ := List.getElem?_eq_some_iff.1 h
  rw [List.take_succ_eq_append_getElem h1, List.all_append, ha, h2, List.all_cons, hd]; rfl
theorem collect_none {P : Parts} {l : List Int} {k : Nat} {v : Int} (h : l[k]? = some v) (hd : sget v P = none) : collect P l = none := by
  unfold collect
  rw [if_neg]
  intro ha
  rw [List.all_eq_true] at ha
  have := ha v (List.mem_of_getElem? h)
  rw [hd] at this; cases this

theorem partOf_len {P : Parts} (hP : ∀ a d, sget a P = some d → d.length ≤ 16777216) (n : Int) : (partOf P n).length ≤ 16777216 := by
  unfold partOf
  cases h : sget n P with
  | none => simp
  | some d => exact hP n d h
theorem flat_len {P : Parts} (hP : ∀ a d, sget a P = some d → d.length ≤ 16777216) : ∀ l : List Int, (l.flatMap (partOf P)).length ≤ l.length * 16777216
  | [] => by simp
  | n :: l => by
    have h1 := flat_len hP l
    have h2 := partOf_len hP n
    simp only [List.flatMap_cons, List.length_append, List.length_cons]; omega

section
variable {k : Nat} (m : Nat) (M : BM) (hM : M.ok k) (x : OW) (G : Assn) (hx : x.ok G)
include hM hx

theorem unmake_no (hB : sget x.o.bucket M.buckets = none) : FSpec Tryz.prog 85 [.pointer (some ⟨m, 0, none⟩), .agg x.cells.toArray] [BktAt m M, G] (ActR m G (st 404, M)) := by
  refine FSpec.of func85 rfl ntmps85 rfl fun W0 F => ?_
  refine J.seq <| J.region ?_
  refine J.c rfl rfl (C.box (l := [_, _, _, _, _, _, _, _, _]) rfl rfl) ?_
  rintro _ _ ⟨b3, rfl, rfl⟩
  refine J.norm rfl ?_
  refine J.c rfl rfl (C.alloc (l := [_, _, _, _, _]) zeroValue44 rfl) ?_
  rintro _ _ ⟨b4, rfl, rfl⟩
  refine J.norm rfl <| J.nil <| J.then_n <| J.seq <| J.seq <| J.region <| J.m rfl ?_
  refine J.p rfl (Q.ldN (vs := [_, _, _, _, _, _, _, _, _]) isAgg52 sizeOf52 rfl rnI) ?_
  refine J.call call94 (known_no m M x hB) [2] rfl rfl rfl rfl ?_
  rintro _ _ ⟨rfl, rfl⟩
  refine J.norm rfl <| J.p rfl (Q.not rfl) <| J.nil <| J.then_n ?_
  refine J.cases 11 rfl (fun hc11 => ?_) (fun hc11 => ?_)
  ·
   replace hc11 := X.nm hc11
   refine J.cond_t rfl <| J.seq <| J.region ?_
   refine J.call call73 (status_spec 404) [] rfl rfl rfl rfl ?_
   rintro _ _ ⟨y, rfl, hy, rfl⟩
   refine J.norm rfl ?_
   refine J.stAJ (vs := [_, _, _, _, _]) rfl sizeOf44 rfl rfl ?_
   refine J.nil <| J.then_n <| J.cret <| J.then_r ?_
   refine J.retC [1, 0, 4, 5] (vs := [_, _, _, _, _]) rfl rfl isAgg44 sizeOf44 (ReadsN.pt 2 rfl) rfl (B := [_, _, _]) ⟨_, rfl, hy, rfl⟩
  exact absurd hc11 (by simp)
theorem unmake_yes {objs : Objs} (hB : sget x.o.bucket M.buckets = some objs) : FSpec Tryz.prog 85 [.pointer (some ⟨m, 0, none⟩), .agg x.cells.toArray] [BktAt m M, G] (ActR m G (if (decide (0 < objs.length) || M.uses x.o.bucket) = true then (st 409, M) else (st 200, { M with buckets := sdel x.o.bucket M.buckets }))) := by
  refine FSpec.of func85 rfl ntmps85 rfl fun W0 F => ?_
  refine J.seq <| J.region ?_
  refine J.c rfl rfl (C.box (l := [_, _, _, _, _, _, _, _, _]) rfl rfl) ?_
  rintro _ _ ⟨b3, rfl, rfl⟩
  refine J.norm rfl ?_
  refine J.c rfl rfl (C.alloc (l := [_, _, _, _, _]) zeroValue44 rfl) ?_
  rintro _ _ ⟨b4, rfl, rfl⟩
  refine J.norm rfl <| J.nil <| J.then_n <| J.seq <| J.seq <| J.region <| J.m rfl ?_
  refine J.p rfl (Q.ldN (vs := [_, _, _, _, _, _, _, _, _]) isAgg52 sizeOf52 rfl rnI) ?_
  refine J.call call94 (known_yes m M hM x hB) [2] rfl rfl rfl rfl ?_
  rintro _ _ ⟨rfl, rfl⟩
  refine J.norm rfl <| J.p rfl (Q.not rfl) <| J.nil <| J.then_n ?_
  refine J.cases 11 rfl (fun hc11 => ?_) (fun hc11 => ?_)
  ·
   cases hc11
  replace hc11 := X.nm hc11
  refine J.cond_f rfl <| J.cskip <| J.then_n <| J.seq ?_
  refine J.open1 0 rfl (fun _ h => h) fun z => ?_
  refine J.norm rfl ?_
  refine J.mapFocus 1 hB rfl fun val => ?_
  refine J.norm rfl ?_
  refine J.open_ 0 rfl rfl (fun _ h => h) fun r hr => ?_
  subst hr
  refine J.norm rfl ?_
  refine J.draw [9] Tryz.mixed (by kernel_rfl) fun hR => ?_
  refine RG.p 0 hR rfl (Q.mv rfl) <| RG.p 1 hR rfl (Q.nil_ rfl) <| RG.p 2 hR rfl (Q.fa (n := 0) runUnderlying167 rfl rfl sizeOf163 rfl) ?_
  refine RG.p 3 hR rfl (Q.ldI isAgg163 rfl) ?_
  refine RG.p 4 hR rfl (Q.fa (n := 2) runUnderlying52 rfl rfl sizeOf9 rfl) ?_
  refine RG.p 5 hR rfl (Q.ldI isAgg9 rfl) ?_
  refine RG.p 6 hR rfl (X.G.Q.lkYes (i := 1) runUnderlying163 keyS zeroValue179 rfl rfl rfl) ?_
  refine RG.p 7 hR rfl (X.G.Q.lenAt (i := 0) runUnderlying179 rfl rfl) ?_
  refine RG.p 8 hR rfl (Q.gtr rfl rfl) ?_
  refine RG.bar 9 hR rfl rfl rfl rfl rfl rfl (Q.asg rfl).toC ?_
  rintro _ _ ⟨rfl, rfl⟩
  refine RG.norm rfl ?_
  refine RG.fin hR rfl ?_
  refine J.norm rfl <| J.then_n <| J.seq <| J.seq ?_
  refine J.open_ 3 rfl rfl (fun _ h => h) fun q hq => ?_
  refine J.norm rfl <| J.region <| J.m rfl <| J.p rfl (Q.nil_ rfl) <| J.p rfl (Q.fa (n := 1) runUnderlying167 rfl rfl sizeOf164 rfl) ?_
  refine J.p rfl (Q.ldI isAgg164 rfl) ?_
  refine J.c rfl rfl (X.G.C.range (i := 0) runUnderlying164 rfl rfl) ?_
  rintro _ _ ⟨b26, rfl, rfl⟩
  refine J.norm rfl <| J.nil <| J.then_n <| J.block ?_
  refine J.loop (fun z' : List Nat × Bool => z'.2 = (decide (0 < objs.length) || entUses x.o.bucket (edone q.1 z'.1))) (fun z' => (eleft q.1 z'.1).length) (fun z' => [(0, .pointer (some ⟨m, 0, none⟩)), (3, .pointer (some ⟨b3, 0, none⟩)), (4, .pointer (some ⟨b4, 0, none⟩)), (5, .bool z'.2), (26, .pointer (some ⟨b26, 0, none⟩))])
    (fun z' => [pt b26 (X.G.miter z.2.1 q.2 z'.1), pt z.2.1 (X.G.mobj encU (q.1.map Ent.m) q.2), star (q.1.map (Ent.asn uRep)), MapAt Value.string datRep r objs, MapHole Value.string bRep z.1 M.buckets x.o.bucket (.map (some r)), pt m (.cells [.map (some z.1), .map (some z.2.1), .map (some z.2.2)].toArray 167 (0, 0)), MapAt encU dRep z.2.2 M.done, pt b4 (.cells [Value.int .i64 0, .int .u64 0, .slice none 0 0, .bool false, .slice none 0 0].toArray 44 (0, 0)), pt b3 (.cells x.cells.toArray 52 (0, 0)), G, F])
    ([], decide (0 < objs.length)) (by simp [X.G.edone_nil, entUses]) ⟨rfl, rfl, rfl, congrArg some (congrArg Value.bool (by simp)), rfl, trivial⟩ rfl fun z' hz => ?_
  obtain ⟨seen, used⟩ := z'
  dsimp only at hz
  refine J.seq <| J.region ?_
  refine J.c rfl rfl (X.G.C.nextE (i := 0) (j := 1) hq rfl rfl rfl) ?_
  rintro _ _ ⟨t, rest, seen', rfl, rfl, hst⟩
  refine J.norm rfl <| J.p rfl (Q.ext rfl rfl) <| J.nil <| J.then_n <| J.seq ?_
  refine J.kases 28 rfl (fun hc28 => ?_) (fun hc28 => ?_)
  ·
   obtain ⟨e, he, rfl⟩ : ∃ e, e ∈ eleft q.1 seen ∧ seen' = seen ++ [e.born] := by rcases hst with ⟨h, _⟩ | ⟨_, h⟩; exact absurd hc28 (by rw [h]; decide); exact h
   refine J.cond_t rfl <| J.cskip <| J.then_n <| J.block <| J.seq <| J.region ?_
   have hstep := X.G.estep hq.born he
   have huse := entUses_step hq.born he x.o.bucket
   obtain ⟨j, hj⟩ := List.getElem?_of_mem (List.mem_filter.1 he).1
   obtain ⟨ek, eu, eval, eb⟩ := e
   refine J.p rfl (X.G.Q.entryE (i := 0) (j := 1) hq he rfl rfl rfl) ?_
   refine J.focus 2 j rfl hj ?_
   refine J.norm rfl ?_
   refine J.conv (Y := uRep ek eu eval) 0 rfl (fun _ h => h) ?_
   refine J.open_ 0 rfl rfl (fun _ h => h) fun z2 hz2 => ?_
   subst hz2
   refine J.norm rfl <| J.p rfl (Q.ext rfl rfl) <| J.p rfl (Q.asg rfl) <| J.nil <| J.then_n ?_
   refine J.draw [10] Tryz.mixed (by kernel_rfl) fun hR => ?_
   refine RG.p 0 hR rfl (Q.mv rfl) <| RG.p 1 hR rfl (Q.mv rfl) ?_
   refine RG.cases 32 rfl (fun hb32 => ?_) (fun hb32 => ?_)
   ·
    replace hb32 := X.nm hb32
    refine RG.k 2 hR rfl <| RG.k 3 hR rfl <| RG.k 4 hR rfl <| RG.k 5 hR rfl <| RG.k 6 hR rfl <| RG.k 7 hR rfl <| RG.k 8 hR rfl <| RG.p 9 hR rfl (Q.pick_t rfl rfl) ?_
    refine RG.bar 10 hR rfl rfl rfl rfl rfl rfl (Q.asg rfl).toC ?_
    rintro _ _ ⟨rfl, rfl⟩
    refine RG.norm rfl ?_
    refine RG.fin hR rfl ?_
    refine J.norm rfl <| J.blk_n ?_
    refine J.shut [0, 1] (uRep ek eu (.pointer (some ⟨z2.1, 0, none⟩))) rfl (fun h s => ⟨z2, rfl, s⟩) ?_
    refine J.refocus (f := Ent.asn uRep) 0 1 j ⟨ek, eu, .pointer (some ⟨z2.1, 0, none⟩), eb⟩ rfl hj ?_
    refine J.keep [1, 2, 0, 3, 4, 5, 6, 7, 8, 9, 10] rfl ?_
    refine J.again (seen ++ [eb], _) ?_ hstep.2 ⟨rfl, rfl, rfl, rfl, rfl, trivial⟩ rfl
    dsimp only at huse ⊢
    rw [huse, ← Bool.or_assoc, ← hz]
    first
      | (have hb : used = true := hb32
         rw [hb]; rfl)
      | (have hb : used = false := hb32
         rw [hb, Bool.false_or]; exact bytes_eq _ _)
   replace hb32 := X.nm hb32
   refine RG.p 2 hR rfl (Q.mv rfl) <| RG.p 3 hR rfl (Q.nil_ rfl) <| RG.p 4 hR rfl (Q.fa (n := 0) runUnderlying183 rfl rfl sizeOf9 rfl) ?_
   refine RG.p 5 hR rfl (Q.ldI isAgg9 rfl) ?_
   refine RG.p 6 hR rfl (Q.fa (n := 2) runUnderlying52 rfl rfl sizeOf9 rfl) ?_
   refine RG.p 7 hR rfl (Q.ldI isAgg9 rfl) ?_
   refine RG.p 8 hR rfl (Q.eqls rfl rfl) <| RG.p 9 hR rfl (Q.pick_f rfl rfl) ?_
   refine RG.bar 10 hR rfl rfl rfl rfl rfl rfl (Q.asg rfl).toC ?_
   rintro _ _ ⟨rfl, rfl⟩
   refine RG.norm rfl ?_
   refine RG.fin hR rfl ?_
   refine J.norm rfl <| J.blk_n ?_
   refine J.shut [0, 1] (uRep ek eu (.pointer (some ⟨z2.1, 0, none⟩))) rfl (fun h s => ⟨z2, rfl, s⟩) ?_
   refine J.refocus (f := Ent.asn uRep) 0 1 j ⟨ek, eu, .pointer (some ⟨z2.1, 0, none⟩), eb⟩ rfl hj ?_
   refine J.keep [1, 2, 0, 3, 4, 5, 6, 7, 8, 9, 10] rfl ?_
   refine J.again (seen ++ [eb], _) ?_ hstep.2 ⟨rfl, rfl, rfl, rfl, rfl, trivial⟩ rfl
   dsimp only at huse ⊢
   rw [huse, ← Bool.or_assoc, ← hz]
   first
     | (have hb : used = true := hb32
        rw [hb]; rfl)
     | (have hb : used = false := hb32
        rw [hb, Bool.false_or]; exact bytes_eq _ _)
  obtain ⟨hall, rfl⟩ : edone q.1 seen = q.1 ∧ seen' = seen := by rcases hst with ⟨_, h⟩ | ⟨h, _⟩; exact h; exact absurd hc28 (by rw [h]; decide)
  refine J.cond_f rfl <| J.exit <| J.then_x <| J.lp_x <| J.blk_x <| J.then_n <| J.seq <| J.seq ?_
  have hused : used = (decide (0 < objs.length) || M.uses x.o.bucket) := by rw [hz, hall, entUses_all hq]
  refine J.shut [1, 2] (MapAt encU uRep z.2.1 M.uploads) rfl (fun h s => ⟨q, hq, s⟩) ?_
  refine J.region <| J.m rfl <| J.nil <| J.then_n ?_
  refine J.kases 41 rfl (fun hc41 => ?_) (fun hc41 => ?_)
  ·
   refine J.cond_t rfl <| J.seq <| J.region ?_
   refine J.call call73 (status_spec 409) [] rfl rfl rfl rfl ?_
   rintro _ _ ⟨y, rfl, hy, rfl⟩
   refine J.norm rfl ?_
   refine J.stAJ (vs := [_, _, _, _, _]) rfl sizeOf44 rfl rfl ?_
   refine J.nil <| J.then_n <| J.cret <| J.then_r ?_
   rw [if_pos (by rw [← hused]; exact hc41)]
   refine J.shut [3] (bRep x.o.bucket objs (.map (some r))) rfl (fun h s => ⟨r, rfl, s⟩) ?_
   refine J.mapSame 0 4 ord3_str hM.bs hB rfl ?_
   refine J.shut [4, 0, 2, 5] (BktAt m M) rfl (fun h s => ⟨z, s⟩) ?_
   refine J.retC [0, 1, 5, 6] (vs := [_, _, _, _, _]) rfl rfl isAgg44 sizeOf44 (ReadsN.pt 3 rfl) rfl (B := [_, _, _]) ⟨_, rfl, hy, rfl⟩
  refine J.cond_f rfl <| J.cskip <| J.then_n <| J.seq ?_
  refine J.shut [2] (bRep x.o.bucket objs (.map (some r))) rfl (fun h s => ⟨r, rfl, s⟩) ?_
  refine J.mapSame 0 3 ord3_str hM.bs hB rfl ?_
  refine J.draw [6] Tryz.mixed (by kernel_rfl) fun hR => ?_
  refine RG.p 0 hR rfl (Q.mv rfl) <| RG.p 1 hR rfl (Q.nil_ rfl) <| RG.p 2 hR rfl (Q.fa (n := 0) runUnderlying167 rfl rfl sizeOf163 rfl) ?_
  refine RG.p 3 hR rfl (Q.ldI isAgg163 rfl) ?_
  refine RG.p 4 hR rfl (Q.fa (n := 2) runUnderlying52 rfl rfl sizeOf9 rfl) ?_
  refine RG.p 5 hR rfl (Q.ldI isAgg9 rfl) ?_
  refine RG.bar 6 hR rfl rfl rfl rfl rfl rfl (X.G.C.mapDel 0 runUnderlying163 keyS rfl rfl) ?_
  rintro _ _ ⟨rfl, rfl⟩
  refine RG.norm rfl ?_
  refine RG.fin hR rfl ?_
  refine J.norm rfl <| J.then_n <| J.seq <| J.region ?_
  refine J.call call73 (status_spec 200) [] rfl rfl rfl rfl ?_
  rintro _ _ ⟨y, rfl, hy, rfl⟩
  refine J.norm rfl ?_
  refine J.stAJ (vs := [_, _, _, _, _]) rfl sizeOf44 rfl rfl ?_
  refine J.nil <| J.then_n <| J.cret ?_
  have hcu : used = false := hc41
  rw [if_neg (by rw [← hused, hcu]; simp)]
  refine J.shut [4, 1, 2, 5] (BktAt m { M with buckets := sdel x.o.bucket M.buckets }) rfl (fun h s => ⟨z, s⟩) ?_
  refine J.retC [0, 1, 5, 6] (vs := [_, _, _, _, _]) rfl rfl isAgg44 sizeOf44 (ReadsN.pt 3 rfl) rfl (B := [_, _, _]) ⟨_, rfl, hy, rfl⟩
theorem unmake_spec : FSpec Tryz.prog 85 [.pointer (some ⟨m, 0, none⟩), .agg x.cells.toArray] [BktAt m M, G] (ActR m G (M.unmake x.o)) := by
  unfold BM.unmake
  split
  · rename_i hB; exact unmake_no m M hM x G hx hB
  · rename_i hB; exact unmake_yes m M hM x G hx hB

theorem complete_no (hU : sget x.o.upload M.uploads = none) : FSpec Tryz.prog 92 [.pointer (some ⟨m, 0, none⟩), .agg x.cells.toArray] [BktAt m M, G] (ActR m G (st 404, M)) := by
  refine FSpec.of func92 rfl ntmps92 rfl fun W0 F => ?_
  refine J.seq <| J.region ?_
  refine J.c rfl rfl (C.box (l := [_, _, _, _, _, _, _, _, _]) rfl rfl) ?_
  rintro _ _ ⟨b3, rfl, rfl⟩
  refine J.norm rfl ?_
  refine J.c rfl rfl (C.alloc (l := [_, _, _, _, _]) zeroValue44 rfl) ?_
  rintro _ _ ⟨b4, rfl, rfl⟩
  refine J.norm rfl <| J.nil <| J.then_n <| J.seq ?_
  refine J.open1 2 rfl (fun _ h => h) fun z => ?_
  refine J.norm rfl ?_
  refine J.draw [7] Tryz.mixed (by kernel_rfl) fun hR => ?_
  refine RG.p 0 hR rfl (Q.mv rfl) <| RG.p 1 hR rfl (Q.nil_ rfl) <| RG.p 2 hR rfl (Q.fa (n := 1) runUnderlying167 rfl rfl sizeOf164 rfl) ?_
  refine RG.p 3 hR rfl (Q.ldI isAgg164 rfl) ?_
  refine RG.p 4 hR rfl (Q.fa (n := 6) runUnderlying52 rfl rfl sizeOf40 rfl) ?_
  refine RG.p 5 hR rfl (Q.ldI isAgg40 rfl) ?_
  refine RG.p 6 hR rfl (X.G.Q.lkNo (i := 2) runUnderlying164 keyU zeroValue180 rfl rfl rfl hU) ?_
  refine RG.bar 7 hR rfl rfl rfl rfl rfl rfl (Q.asg rfl).toC ?_
  rintro _ _ ⟨rfl, rfl⟩
  refine RG.norm rfl ?_
  refine RG.fin hR rfl ?_
  refine J.norm rfl <| J.then_n <| J.seq <| J.seq <| J.region <| J.m rfl <| J.p rfl (Q.eqlp runUnderlying180 rfl rfl) <| J.nil <| J.then_n ?_
  refine J.cases 19 rfl (fun hc19 => ?_) (fun hc19 => ?_)
  ·
   replace hc19 := X.nm hc19
   refine J.cond_t rfl <| J.seq <| J.region ?_
   refine J.call call73 (status_spec 404) [] rfl rfl rfl rfl ?_
   rintro _ _ ⟨y, rfl, hy, rfl⟩
   refine J.norm rfl ?_
   refine J.stAJ (vs := [_, _, _, _, _]) rfl sizeOf44 rfl rfl ?_
   refine J.nil <| J.then_n <| J.cret <| J.then_r ?_
   refine J.shut [1, 2, 3, 4] (BktAt m M) rfl (fun h s => ⟨z, s⟩) ?_
   refine J.retC [0, 1, 4, 5] (vs := [_, _, _, _, _]) rfl rfl isAgg44 sizeOf44 (ReadsN.pt 2 rfl) rfl (B := [_, _, _]) ⟨_, rfl, hy, rfl⟩
  cases hc19

theorem complete_yes (hpl : x.o.parts.length ≤ 10000) {u : UM} (hU : sget x.o.upload M.uploads = some u) : FSpec Tryz.prog 92 [.pointer (some ⟨m, 0, none⟩), .agg x.cells.toArray] [BktAt m M, G]
    (ActR m G (match collect u.parts x.o.parts with
    | none => (st 400, M)
    | some d => (st 200, { M with buckets := sput ltB u.bucket (sput ltB u.key d ((sget u.bucket M.buckets).getD [])) M.buckets, uploads := sdel x.o.upload M.uploads }))) := by
  have hP := hM.ps _ _ hU
  obtain ⟨objs, hB⟩ := Option.isSome_iff_exists.1 hP.2.1
  have hO := hM.os _ _ hB
  have hfl := flat_len hP.2.2
  refine FSpec.of func92 rfl ntmps92 rfl fun W0 F => ?_
  refine J.seq <| J.region ?_
  refine J.c rfl rfl (C.box (l := [_, _, _, _, _, _, _, _, _]) rfl rfl) ?_
  rintro _ _ ⟨b3, rfl, rfl⟩
  refine J.norm rfl ?_
  refine J.c rfl rfl (C.alloc (l := [_, _, _, _, _]) zeroValue44 rfl) ?_
  rintro _ _ ⟨b4, rfl, rfl⟩
  refine J.norm rfl <| J.nil <| J.then_n <| J.seq ?_
  refine J.open1 2 rfl (fun _ h => h) fun z => ?_
  refine J.norm rfl ?_
  refine J.mapFocus 2 hU rfl fun val => ?_
  refine J.norm rfl ?_
  refine J.open_ 0 rfl rfl (fun _ h => h) fun z2 hz2 => ?_
  subst hz2
  refine J.norm rfl ?_
  refine J.draw [7] Tryz.mixed (by kernel_rfl) fun hR => ?_
  refine RG.p 0 hR rfl (Q.mv rfl) <| RG.p 1 hR rfl (Q.nil_ rfl) <| RG.p 2 hR rfl (Q.fa (n := 1) runUnderlying167 rfl rfl sizeOf164 rfl) ?_
  refine RG.p 3 hR rfl (Q.ldI isAgg164 rfl) ?_
  refine RG.p 4 hR rfl (Q.fa (n := 6) runUnderlying52 rfl rfl sizeOf40 rfl) ?_
  refine RG.p 5 hR rfl (Q.ldI isAgg40 rfl) ?_
  refine RG.p 6 hR rfl (X.G.Q.lkYes (i := 2) runUnderlying164 keyU zeroValue180 rfl rfl rfl) ?_
  refine RG.bar 7 hR rfl rfl rfl rfl rfl rfl (Q.asg rfl).toC ?_
  rintro _ _ ⟨rfl, rfl⟩
  refine RG.norm rfl ?_
  refine RG.fin hR rfl ?_
  refine J.norm rfl <| J.then_n <| J.seq <| J.seq <| J.region <| J.m rfl <| J.p rfl (Q.eqlp runUnderlying180 rfl rfl) <| J.nil <| J.then_n ?_
  refine J.cases 19 rfl (fun hc19 => ?_) (fun hc19 => ?_)
  ·
   cases hc19
  replace hc19 := X.nm hc19
  refine J.cond_f rfl <| J.cskip <| J.then_n <| J.seq <| J.region <| J.p rfl (Q.asg rfl) <| J.nil <| J.then_n <| J.seq <| J.seq <| J.region <| J.p rfl (Q.fa (n := 7) runUnderlying52 rfl rfl sizeOf50 rfl) ?_
  refine J.p rfl (Q.ldI isAgg50 rfl) ?_
  refine J.p rfl (Q.lenSl runUnderlying50 rfl) <| J.m rfl <| J.nil <| J.then_n <| J.block ?_
  refine J.open_ 1 rfl rfl (fun _ h => h) fun q hq => ?_
  refine J.norm rfl ?_
  refine J.give (own.nil 5 1 _) ?_
  refine J.loop (fun w : Nat × Option Addr × Nat => w.1 ≤ x.o.parts.length ∧ ((x.o.parts.take w.1).all fun n => (sget n u.parts).isSome) = true) (fun w => x.o.parts.length - w.1) (fun w => [(0, .pointer (some ⟨m, 0, none⟩)), (3, .pointer (some ⟨b3, 0, none⟩)), (4, .pointer (some ⟨b4, 0, none⟩)), (5, .pointer (some ⟨z2.1, 0, none⟩)), (6, .slice w.2.1 ((x.o.parts.take w.1).flatMap (partOf u.parts)).length w.2.2), (22, .slice x.pp x.o.parts.length x.pc), (23, .int .i64 x.o.parts.length), (24, .int .i64 w.1)])
    (fun w => [own 5 1 (.slice w.2.1 ((x.o.parts.take w.1).flatMap (partOf u.parts)).length w.2.2) (bytesV ((x.o.parts.take w.1).flatMap (partOf u.parts))), pt z2.2 (X.G.mobj (Value.int .i64) (q.1.map Ent.m) q.2), star (q.1.map (Ent.asn datRep)), pt z2.1 (.cells [.string u.bucket, .string u.key, .map (some z2.2)].toArray 183 (0, 0)), MapHole encU uRep z.2.1 M.uploads x.o.upload (.pointer (some ⟨z2.1, 0, none⟩)), pt m (.cells [.map (some z.1), .map (some z.2.1), .map (some z.2.2)].toArray 167 (0, 0)), MapAt Value.string bRep z.1 M.buckets, MapAt encU dRep z.2.2 M.done, pt b4 (.cells [Value.int .i64 0, .int .u64 0, .slice none 0 0, .bool false, .slice none 0 0].toArray 44 (0, 0)), pt b3 (.cells x.cells.toArray 52 (0, 0)), G, F])
    (0, none, 0) ⟨Nat.zero_le _, rfl⟩ ⟨rfl, rfl, rfl, rfl, rfl, rfl, rfl, rfl, trivial⟩ rfl fun w hw => ?_
  obtain ⟨i, p6, c6⟩ := w
  obtain ⟨hi, hall⟩ := hw
  dsimp only at hi hall
  refine J.seq <| J.region <| J.p rfl (Q.lss rfl rfl) <| J.nil <| J.then_n <| J.seq ?_
  refine J.kases 25 rfl (fun hc25 => ?_) (fun hc25 => ?_)
  ·
   refine J.cond_t rfl <| J.cskip <| J.then_n <| J.seq <| J.block <| J.seq ?_
   obtain ⟨b, off, hpp, hrd⟩ := hx.parts.some_ (by omega)
   obtain ⟨v, hv⟩ : ∃ v, x.o.parts[i]? = some v := ⟨_, List.getElem?_eq_getElem (by omega)⟩
   refine J.slot 22 (.slice (some ⟨b, off, none⟩) x.o.parts.length x.pc) rfl (by rw [hpp]) ?_
   refine J.region <| J.p rfl (Q.ia runUnderlying50 sizeOf3 rfl rfl (by omega) (by omega)) ?_
   refine J.p rfl (Q.ld isAgg3 rfl (((hrd i (.int .i64 v) (by simp [hv])).within (i := 10) rfl).cast (by simp))) ?_
   refine J.p rfl (Q.asg rfl) <| J.nil <| J.then_n <| J.seq <| J.region <| J.m rfl <| J.p rfl (Q.nil_ rfl) <| J.p rfl (Q.fa (n := 2) runUnderlying183 rfl rfl sizeOf181 rfl) ?_
   refine J.p rfl (Q.ldI isAgg181 rfl) ?_
   refine J.m rfl ?_
   refine J.p rfl (X.G.Q.lk2 (i := 1) runUnderlying181 keyI zeroValue42 rfl rfl rfl) ?_
   refine J.m rfl <| J.p rfl (Q.ext rfl rfl) <| J.p rfl (Q.ext rfl rfl) <| J.p rfl (Q.asg rfl) <| J.p rfl (Q.asg rfl) <| J.nil <| J.then_n <| J.seq <| J.seq <| J.region <| J.m rfl <| J.p rfl (Q.not rfl) <| J.nil <| J.then_n ?_
   refine J.kases 38 rfl (fun hc38 => ?_) (fun hc38 => ?_)
   ·
    refine J.cond_t rfl <| J.seq <| J.region ?_
    refine J.call call73 (status_spec 400) [] rfl rfl rfl rfl ?_
    rintro _ _ ⟨y, rfl, hy, rfl⟩
    refine J.norm rfl ?_
    refine J.stAJ (vs := [_, _, _, _, _]) rfl sizeOf44 rfl rfl ?_
    refine J.nil <| J.then_n <| J.cret <| J.then_r <| J.blk_r <| J.then_r <| J.lp_r <| J.blk_r <| J.then_r ?_
    have hno : sget v u.parts = none := by
      rw [hq.get]
      rcases X.G.elook v q.1 with ⟨_, h2, _⟩ | ⟨j, e, _, _, h3, _⟩
      · exact h2
      · rw [h3] at hc38; cases hc38
    rw [collect_none hv hno]
    refine J.shut [2, 3] (MapAt (Value.int .i64) datRep z2.2 u.parts) rfl (fun h s => ⟨q, hq, s⟩) ?_
    refine J.shut [3, 0] (uRep x.o.upload u (.pointer (some ⟨z2.1, 0, none⟩))) rfl (fun h s => ⟨z2, rfl, s⟩) ?_
    refine J.mapSame 0 3 ord3_nat hM.us hU rfl ?_
    refine J.shut [3, 4, 0, 5] (BktAt m M) rfl (fun h s => ⟨z, s⟩) ?_
    refine J.retC [0, 1, 5, 6] (vs := [_, _, _, _, _]) rfl rfl isAgg44 sizeOf44 (ReadsN.pt 3 rfl) rfl (B := [_, _, _]) ⟨_, rfl, hy, rfl⟩
   refine J.cond_f rfl <| J.cskip <| J.then_n ?_
   obtain ⟨j, e, hj, hek, hmg, hsg⟩ : ∃ (j : Nat) (e : Ent Int (List UInt8)), q.1[j]? = some e ∧ e.key = v ∧ X.G.mget v (q.1.map Ent.m) = some e.val ∧ sget v u.parts = some e.v := by
     rcases X.G.elook v q.1 with ⟨h1, _, _⟩ | ⟨j, e, h1, h2, h3, h4, _⟩
     · rw [h1] at hc38; cases hc38
     · exact ⟨j, e, h1, h2, h3, by rw [hq.get]; exact h4⟩
   obtain ⟨ek, d, eval, eb⟩ := e
   have hd16 : d.length ≤ 16777216 := hP.2.2 _ _ hsg
   have hacc := hfl (x.o.parts.take i)
   have hil : (x.o.parts.take i).length ≤ 10000 := by rw [List.length_take]; omega
   have hacc2 : (List.flatMap (partOf u.parts) (List.take (i, p6, c6).fst x.o.parts)).length ≤ 167772160000 := by show (List.flatMap (partOf u.parts) (List.take i x.o.parts)).length ≤ _; omega
   refine J.focus 2 j rfl hj ?_
   refine J.norm rfl ?_
   refine J.conv (Y := datRep ek d eval) 0 rfl (fun _ h => h) ?_
   refine J.open_ 0 rfl rfl (fun _ h => h) fun z3 hz3 => ?_
   subst hz3
   refine J.norm rfl ?_
   refine J.slr1 0 rfl fun hs9 => ?_
   refine J.slot 9 (.slice z3.1 d.length z3.2) rfl (by rw [hmg]; rfl) ?_
   refine J.region <| J.m rfl <| J.m rfl ?_
   refine J.c rfl rfl (C.app (i := 2) runUnderlying42 runUnderlying42 typeInfo5 sizeOf5 zeroValue5 rfl rfl rfl (hs9.within (i := 0) rfl) (bytesV_one _) (by rw [show Tryz.t5.bytes = 1 from rfl]; omega) (by decide)) ?_
   rintro _ _ ⟨p42, c42, rfl, rfl⟩
   refine J.norm rfl <| J.p rfl (Q.asg rfl) <| J.nil <| J.blk_n <| J.then_n <| J.region <| J.p rfl (Q.add64 rfl rfl (by omega)) <| J.m rfl <| J.nil ?_
   have hfs := flat_take_succ hv hsg
   dsimp only at hfs
   refine J.shut [0] (datRep ek d (.slice z3.1 d.length z3.2)) rfl (fun h s => ⟨z3, rfl, s⟩) ?_
   refine J.refocus (f := Ent.asn datRep) 0 1 j ⟨ek, d, .slice z3.1 d.length z3.2, eb⟩ rfl hj ?_
   refine J.keep [1, 2, 0, 3, 4, 5, 6, 7, 8, 9, 10, 11] rfl ?_
   refine J.again (i + 1, p42, c42) ⟨by show i + 1 ≤ _; omega, all_take_some hv hall (by rw [hsg]; rfl)⟩ (by show x.o.parts.length - (i + 1) < x.o.parts.length - i; omega) ⟨rfl, rfl, rfl, rfl, (by show _ = some (Value.slice p42 _ c42); rw [hfs, List.length_append]; rfl), (by show _ = some (Value.slice x.pp _ _); rw [hpp]; rfl), rfl, rfl, trivial⟩ ?_
   show _ = [own 5 1 (.slice p42 ((x.o.parts.take (i + 1)).flatMap (partOf u.parts)).length c42) (bytesV ((x.o.parts.take (i + 1)).flatMap (partOf u.parts))), _, _, _, _, _, _, _, _, _, _, _]
   rw [hfs, List.length_append, ← bytesV_append]
  refine J.cond_f rfl <| J.exit <| J.then_x <| J.lp_x <| J.blk_x <| J.then_n <| J.seq ?_
  have hin : i = x.o.parts.length := by omega
  subst hin
  rw [List.take_length] at hall ⊢
  have hcs : collect u.parts x.o.parts = some (x.o.parts.flatMap (partOf u.parts)) := by unfold collect; rw [if_pos hall]
  rw [hcs, hB]
  obtain ⟨acc, hac⟩ : ∃ acc, acc = x.o.parts.flatMap (partOf u.parts) := ⟨_, rfl⟩
  rw [← hac]
  refine J.shut [1, 2] (MapAt (Value.int .i64) datRep z2.2 u.parts) rfl (fun h s => ⟨q, hq, s⟩) ?_
  refine J.mapFocus 5 hB rfl fun val => ?_
  refine J.norm rfl ?_
  refine J.open_ 0 rfl rfl (fun _ h => h) fun r hr => ?_
  subst hr
  refine J.norm rfl ?_
  refine J.draw [14] Tryz.mixed (by kernel_rfl) fun hR => ?_
  refine RG.p 0 hR rfl (Q.mv rfl) <| RG.p 1 hR rfl (Q.nil_ rfl) <| RG.p 2 hR rfl (Q.fa (n := 0) runUnderlying167 rfl rfl sizeOf163 rfl) ?_
  refine RG.p 3 hR rfl (Q.ldI isAgg163 rfl) ?_
  refine RG.p 4 hR rfl (Q.mv rfl) <| RG.p 5 hR rfl (Q.nil_ rfl) <| RG.p 6 hR rfl (Q.fa (n := 0) runUnderlying183 rfl rfl sizeOf9 rfl) ?_
  refine RG.p 7 hR rfl (Q.ldI isAgg9 rfl) ?_
  refine RG.p 8 hR rfl (X.G.Q.lkYes (i := 1) runUnderlying163 keyS zeroValue179 rfl rfl rfl) ?_
  refine RG.p 9 hR rfl (Q.mv rfl) <| RG.p 10 hR rfl (Q.nil_ rfl) <| RG.p 11 hR rfl (Q.fa (n := 1) runUnderlying183 rfl rfl sizeOf9 rfl) ?_
  refine RG.p 12 hR rfl (Q.ldI isAgg9 rfl) ?_
  refine RG.p 13 hR rfl (Q.mv rfl) ?_
  refine RG.bar 14 hR rfl rfl rfl rfl rfl rfl (X.G.C.mapPut 0 acc ord3_str hO.1 runUnderlying179 keyS rfl rfl rfl rfl) ?_
  rintro _ _ ⟨rfl, rfl⟩
  refine RG.norm rfl ?_
  refine RG.fin hR rfl ?_
  refine J.norm rfl <| J.then_n <| J.seq ?_
  refine J.shut [4, 2] (uRep x.o.upload u (.pointer (some ⟨z2.1, 0, none⟩))) rfl (fun h s => ⟨z2, rfl, s⟩) ?_
  refine J.mapSame 0 4 ord3_nat hM.us hU rfl ?_
  refine J.draw [6] Tryz.mixed (by kernel_rfl) fun hR => ?_
  refine RG.p 0 hR rfl (Q.mv rfl) <| RG.p 1 hR rfl (Q.nil_ rfl) <| RG.p 2 hR rfl (Q.fa (n := 1) runUnderlying167 rfl rfl sizeOf164 rfl) ?_
  refine RG.p 3 hR rfl (Q.ldI isAgg164 rfl) ?_
  refine RG.p 4 hR rfl (Q.fa (n := 6) runUnderlying52 rfl rfl sizeOf40 rfl) ?_
  refine RG.p 5 hR rfl (Q.ldI isAgg40 rfl) ?_
  refine RG.bar 6 hR rfl rfl rfl rfl rfl rfl (X.G.C.mapDel 0 runUnderlying164 keyU rfl rfl) ?_
  rintro _ _ ⟨rfl, rfl⟩
  refine RG.norm rfl ?_
  refine RG.fin hR rfl ?_
  refine J.norm rfl <| J.then_n <| J.seq <| J.region ?_
  refine J.call call73 (status_spec 200) [] rfl rfl rfl rfl ?_
  rintro _ _ ⟨y, rfl, hy, rfl⟩
  refine J.norm rfl ?_
  refine J.stAJ (vs := [_, _, _, _, _]) rfl sizeOf44 rfl rfl ?_
  refine J.nil <| J.then_n <| J.cret ?_
  refine J.shut [4] (datRep u.key acc (.slice p6 acc.length c6)) rfl (fun h s => ⟨(p6, c6), rfl, s⟩) ?_
  refine J.mapBack 0 3 acc ord3_str (X.G.srtd_put ord3_str hO.1 _ _) rfl ?_
  rw [X.G.sput_put ord3_str hO.1]
  refine J.shut [0] (bRep u.bucket (sput ltB u.key acc objs) (.map (some r))) rfl (fun h s => ⟨r, rfl, s⟩) ?_
  refine J.mapBack 0 3 (sput ltB u.key acc objs) ord3_str hM.bs rfl ?_
  refine J.shut [3, 0, 2, 4] (BktAt m { M with buckets := sput ltB u.bucket (sput ltB u.key acc objs) M.buckets, uploads := sdel x.o.upload M.uploads }) rfl (fun h s => ⟨z, s⟩) ?_
  refine J.retC [0, 1, 4, 5] (vs := [_, _, _, _, _]) rfl rfl isAgg44 sizeOf44 (ReadsN.pt 2 rfl) rfl (B := [_, _, _]) ⟨_, rfl, hy, rfl⟩
theorem complete_spec (hpl : x.o.parts.length ≤ 10000) : FSpec Tryz.prog 92 [.pointer (some ⟨m, 0, none⟩), .agg x.cells.toArray] [BktAt m M, G] (ActR m G (M.complete x.o)) := by
  unfold BM.complete
  split
  · rename_i hU; exact complete_no m M hM x G hx hU
  · rename_i hU; exact complete_yes m M hM x G hx hpl hU
end
end Go.Proofs.YtidbcaimgahllaaGreat
namespace Go.Proofs.YtidbcaimgahllaaGreat
open Go.X
open Go.X.G (Ord3 ord3_nat ord3_int ord3_str ltB sget sput sdel Srtd MapAt MapHole)

def beg (s p : ByteArray) : Bool := decide (p.size ≤ s.size) && decide ((s.extract 0 p.size).data.toList = p.data.toList)
def listed (o : OM) (objs : Objs) : List ByteArray := (objs.map (·.1)).filter fun a => beg a o.key && ltB o.after a
def BM.list (M : BM) (o : OM) : RM × BM :=
  match sget o.bucket M.buckets with
  | none => (st 404, M)
  | some objs => (⟨200, 0, (listed o objs).take o.n.toNat, decide (o.n.toNat < (listed o objs).length), []⟩, M)

def BM.act (M : BM) (o : OM) : RM × BM :=
  if o.kind = 1 then M.make o else if o.kind = 2 then M.unmake o else if o.kind = 3 then M.put o else if o.kind = 4 then M.get o else if o.kind = 5 then M.delete o
  else if o.kind = 6 then M.list o else if o.kind = 7 then M.begin o else if o.kind = 8 then M.part o else if o.kind = 9 then M.complete o else M.abort o
def readsK (k : Int) : Bool := decide (k = 4) || decide (k = 6)
def BM.run (M : BM) (o : OM) : RM × BM :=
  if o.chkB = true then
    if readsK o.kind = true then M.act o
    else match sget o.id M.done with
      | some r => (r, M)
      | none => ((M.act o).1, { (M.act o).2 with done := sput ltN o.id (M.act o).1 M.done })
  else (st 400, M)

theorem sput_len {κ ν : Type} [DecidableEq κ] {lt : κ → κ → Bool} (o : Ord3 lt) {l : List (κ × ν)} (h : Srtd lt l) (k : κ) (v : ν) : (sput lt k v l).length ≤ l.length + 1 := by
  rw [(X.G.sput_perm o (h.nodup o) k v).length_eq, List.length_cons]
  have : (sdel k l).length ≤ l.length := List.length_filter_le _ _
  omega
theorem sdel_len {κ ν : Type} [DecidableEq κ] (k : κ) (l : List (κ × ν)) : (sdel k l).length ≤ l.length := List.length_filter_le _ _

theorem chk_9 {o : OM} (h : o.chkB = true) (hk : o.kind = 9) : o.parts.length ≤ 10000 := by
  rw [chk_eq] at h
  unfold OM.chkR at h
  simp only [hk] at h
  simp [partsOK] at h
  omega
theorem chk_len {o : OM} (h : o.chkB = true) : o.data.length ≤ 16777216 := by
  rw [chk_eq] at h
  unfold OM.chkR at h
  split at h
  · simp only [Bool.and_eq_true, decide_eq_true_eq] at h; omega
  split at h
  · simp only [Bool.and_eq_true, decide_eq_true_eq] at h; omega
  split at h
  · simp only [Bool.and_eq_true, decide_eq_true_eq] at h; omega
  split at h
  · simp only [Bool.and_eq_true, decide_eq_true_eq] at h; omega
  split at h
  · simp only [Bool.and_eq_true, decide_eq_true_eq] at h; omega
  split at h
  · simp only [Bool.and_eq_true, decide_eq_true_eq] at h; omega
  split at h
  · simp only [Bool.and_eq_true, decide_eq_true_eq] at h; omega
  · cases h
theorem chk_kind {o : OM} (h : o.chkB = true) : 1 ≤ o.kind ∧ o.kind ≤ 10 := by
  rw [chk_eq] at h
  unfold OM.chkR at h
  split at h
  · omega
  split at h
  · omega
  split at h
  · omega
  split at h
  · omega
  split at h
  · omega
  split at h
  · omega
  split at h
  · omega
  · cases h
theorem chk_6 {o : OM} (h : o.chkB = true) (hk : o.kind = 6) : 1 ≤ o.n ∧ o.n ≤ 1000 := by
  rw [chk_eq] at h
  unfold OM.chkR at h
  simp only [hk] at h
  simp only [show ¬ ((6 : Int) = 1 ∨ (6 : Int) = 2) by omega, show ¬ (6 : Int) = 3 by omega, show ¬ ((6 : Int) = 4 ∨ (6 : Int) = 5 ∨ (6 : Int) = 7) by omega, if_false, if_true, Bool.and_eq_true, decide_eq_true_eq] at h
  omega

theorem BM.ok.mono {k j : Nat} {M : BM} (h : M.ok k) (hk : k ≤ j) : M.ok j :=
  ⟨h.bs, fun n o e => ⟨(h.os n o e).1, Nat.le_trans (h.os n o e).2.1 hk, (h.os n o e).2.2⟩, h.us, h.ps, h.ds, h.rs, by have := h.len; omega⟩

theorem BM.ok.objs {k : Nat} {M : BM} (h : M.ok k) {b : ByteArray} {o o' : Objs} (hb : sget b M.buckets = some o) (h1 : Srtd ltB o') (h2 : o'.length ≤ k + 1) (h3 : ∀ a d, sget a o' = some d → d.length ≤ 274877906944) (us : List (Nat × UM)) (hus : Srtd ltN us) (hul : us.length ≤ k + 1)
    (hps : ∀ n u, sget n us = some u → sget n M.uploads = some u) : BM.ok (k + 1) ⟨sput ltB b o' M.buckets, us, M.done⟩ := by
  have hl := h.len
  refine ⟨X.G.srtd_put ord3_str h.bs _ _, ?_, hus, ?_, h.ds, h.rs, ?_, hul, by show M.done.length ≤ _; omega⟩
  · intro n q hq
    rw [X.G.sget_put ord3_str] at hq
    split at hq
    · cases hq; exact ⟨h1, h2, h3⟩
    · have := h.os n q hq; exact ⟨this.1, by omega, this.2.2⟩
  · intro n u hu
    obtain ⟨p1, p2, p3⟩ := h.ps n u (hps n u hu)
    refine ⟨p1, ?_, p3⟩
    show (sget u.bucket (sput ltB b o' M.buckets)).isSome = true
    rw [X.G.sget_put ord3_str]
    split
    · rfl
    · exact p2
  · have := sput_len ord3_str h.bs b o'
    show (sput ltB b o' M.buckets).length ≤ k + 1
    omega

theorem act_done (M : BM) (o : OM) : (M.act o).2.done = M.done := by
  unfold BM.act BM.make BM.unmake BM.put BM.get BM.delete BM.list BM.begin BM.part BM.complete BM.abort
  repeat' split
  all_goals rfl
theorem act_small {k : Nat} {M : BM} (h : M.ok k) {o : OM} (hc : o.chkB = true) : (M.act o).1.keys.length ≤ 1000 ∧ (M.act o).1.data.length ≤ 274877906944 := by
  have h6 := chk_6 hc
  unfold BM.act BM.make BM.unmake BM.put BM.get BM.delete BM.list BM.begin BM.part BM.complete BM.abort
  repeat' split
  all_goals first
    | (refine ⟨?_, ?_⟩ <;> simp [st] <;> done)
    | skip
  · rename_i h1 _ d h2
    exact ⟨by simp, (h.os _ _ h1).2.2 _ _ h2⟩
  · rename_i hk _ _ _
    have := h6 hk
    exact ⟨by simp only [List.length_take]; omega, by simp⟩

theorem act_ok {k : Nat} {M : BM} (h : M.ok k) {o : OM} (hc : o.chkB = true) : (M.act o).2.ok (k + 1) := by
  have hl := h.len
  have hd := chk_len hc
  unfold BM.act
  split
  · unfold BM.make
    split
    · exact h.mono (Nat.le_succ k)
    · rename_i hb
      refine ⟨X.G.srtd_put ord3_str h.bs _ _, ?_, h.us, ?_, h.ds, h.rs, ?_, by show M.uploads.length ≤ _; omega, by show M.done.length ≤ _; omega⟩
      · intro n q hq
        rw [X.G.sget_put ord3_str] at hq
        split at hq
        · cases hq; exact ⟨List.Pairwise.nil, by simp, by simp [sget]⟩
        · have := h.os n q hq; exact ⟨this.1, by omega, this.2.2⟩
      · intro n u hu
        obtain ⟨p1, p2, p3⟩ := h.ps n u hu
        refine ⟨p1, ?_, p3⟩
        show (sget u.bucket (sput ltB o.bucket [] M.buckets)).isSome = true
        rw [X.G.sget_put ord3_str]
        split
        · rfl
        · exact p2
      · have := sput_len ord3_str h.bs o.bucket []
        show (sput ltB o.bucket [] M.buckets).length ≤ k + 1
        omega
  split
  · unfold BM.unmake
    split
    · exact h.mono (Nat.le_succ k)
    · split
      · exact h.mono (Nat.le_succ k)
      · rename_i hu
        refine ⟨X.G.srtd_del h.bs _, ?_, h.us, ?_, h.ds, h.rs, ?_, by show M.uploads.length ≤ _; omega, by show M.done.length ≤ _; omega⟩
        · intro n q hq
          rw [X.G.sget_del] at hq
          split at hq
          · cases hq
          · have := h.os n q hq; exact ⟨this.1, by omega, this.2.2⟩
        · intro n u hu'
          obtain ⟨p1, p2, p3⟩ := h.ps n u hu'
          refine ⟨p1, ?_, p3⟩
          show (sget u.bucket (sdel o.bucket M.buckets)).isSome = true
          rw [X.G.sget_del]
          split
          · rename_i e
            exfalso
            apply hu
            rw [Bool.or_eq_true]; right
            unfold BM.uses
            rw [List.any_eq_true]
            exact ⟨_, X.G.sget_mem hu', by simpa using e⟩
          · exact p2
        · have := sdel_len o.bucket M.buckets
          show (sdel o.bucket M.buckets).length ≤ k + 1
          omega
  split
  · unfold BM.put
    split
    · exact h.mono (Nat.le_succ k)
    · rename_i objs hb
      have ho := h.os _ _ hb
      refine h.objs hb (X.G.srtd_put ord3_str ho.1 _ _) (by have := sput_len ord3_str ho.1 o.key o.data; omega) ?_ M.uploads h.us (by omega) (fun _ _ e => e)
      intro a d hq
      rw [X.G.sget_put ord3_str] at hq
      split at hq
      · cases hq; omega
      · exact ho.2.2 a d hq
  split
  · unfold BM.get
    repeat' split
    all_goals exact h.mono (Nat.le_succ k)
  split
  · unfold BM.delete
    split
    · exact h.mono (Nat.le_succ k)
    · rename_i objs hb
      split
      · exact h.mono (Nat.le_succ k)
      · have ho := h.os _ _ hb
        refine h.objs hb (X.G.srtd_del ho.1 _) (by have := sdel_len o.key objs; omega) ?_ M.uploads h.us (by omega) (fun _ _ e => e)
        intro a d hq
        rw [X.G.sget_del] at hq
        split at hq
        · cases hq
        · exact ho.2.2 a d hq
  split
  · unfold BM.list
    repeat' split
    all_goals exact h.mono (Nat.le_succ k)
  split
  · unfold BM.begin
    split
    · exact h.mono (Nat.le_succ k)
    · rename_i objs hb
      refine ⟨h.bs, fun n q hq => ⟨(h.os n q hq).1, by have := (h.os n q hq).2.1; omega, (h.os n q hq).2.2⟩, X.G.srtd_put ord3_nat h.us _ _, ?_, h.ds, h.rs, by show M.buckets.length ≤ _; omega, ?_, by show M.done.length ≤ _; omega⟩
      · intro n u hu
        rw [X.G.sget_put ord3_nat] at hu
        split at hu
        · cases hu; exact ⟨List.Pairwise.nil, by show (sget o.bucket M.buckets).isSome = true; rw [hb]; rfl, by simp [sget]⟩
        · exact h.ps n u hu
      · have := sput_len (lt := ltN) ord3_nat h.us o.id ⟨o.bucket, o.key, []⟩
        show (sput ltN o.id _ M.uploads).length ≤ k + 1
        omega
  split
  · unfold BM.part
    split
    · exact h.mono (Nat.le_succ k)
    · rename_i u hu
      obtain ⟨p1, p2, p3⟩ := h.ps _ _ hu
      refine ⟨h.bs, fun n q hq => ⟨(h.os n q hq).1, by have := (h.os n q hq).2.1; omega, (h.os n q hq).2.2⟩, X.G.srtd_put ord3_nat h.us _ _, ?_, h.ds, h.rs, by show M.buckets.length ≤ _; omega, ?_, by show M.done.length ≤ _; omega⟩
      · intro n v hv
        rw [X.G.sget_put ord3_nat] at hv
        split at hv
        · cases hv
          refine ⟨X.G.srtd_put ord3_int p1 _ _, p2, ?_⟩
          intro a d hq
          rw [X.G.sget_put ord3_int] at hq
          split at hq
          · cases hq; exact hd
          · exact p3 a d hq
        · exact h.ps n v hv
      · have := sput_len (lt := ltN) ord3_nat h.us o.upload ⟨u.bucket, u.key, sput ltI o.n o.data u.parts⟩
        show (sput ltN o.upload _ M.uploads).length ≤ k + 1
        omega
  split
  · rename_i hk
    have h9 := chk_9 hc hk
    unfold BM.complete
    split
    · exact h.mono (Nat.le_succ k)
    · rename_i u hu
      obtain ⟨p1, p2, p3⟩ := h.ps _ _ hu
      obtain ⟨objs, hb⟩ := Option.isSome_iff_exists.1 p2
      split
      · exact h.mono (Nat.le_succ k)
      · rename_i d hcd
        rw [hb]
        have ho := h.os _ _ hb
        have hdl : d.length ≤ 274877906944 := by
          unfold collect at hcd
          split at hcd
          · cases hcd
            have := flat_len p3 o.parts
            omega
          · cases hcd
        refine h.objs hb (X.G.srtd_put ord3_str ho.1 _ _) (by have := sput_len ord3_str ho.1 u.key d; show (sput ltB u.key d objs).length ≤ _; omega) ?_ (sdel o.upload M.uploads) (X.G.srtd_del h.us _) (by have := sdel_len o.upload M.uploads; omega) ?_
        · intro a e hq
          have hq : sget a (sput ltB u.key d objs) = some e := hq
          rw [X.G.sget_put ord3_str] at hq
          split at hq
          · cases hq; exact hdl
          · exact ho.2.2 a e hq
        · intro n v hv
          rw [X.G.sget_del] at hv
          split at hv
          · cases hv
          · exact hv
  · unfold BM.abort
    split
    · exact h.mono (Nat.le_succ k)
    · refine ⟨h.bs, fun n q hq => ⟨(h.os n q hq).1, by have := (h.os n q hq).2.1; omega, (h.os n q hq).2.2⟩, X.G.srtd_del h.us _, ?_, h.ds, h.rs, by show M.buckets.length ≤ _; omega, by have := sdel_len o.upload M.uploads; show (sdel o.upload M.uploads).length ≤ _; omega, by show M.done.length ≤ _; omega⟩
      intro n v hv
      rw [X.G.sget_del] at hv
      split at hv
      · cases hv
      · exact h.ps n v hv

theorem run_ok {k : Nat} {M : BM} (h : M.ok k) (o : OM) : (M.run o).2.ok (k + 1) := by
  unfold BM.run
  split
  · rename_i hc
    have h1 := act_ok h hc
    have h2 := act_small h hc
    split
    · exact h1
    · split
      · exact h.mono (Nat.le_succ k)
      · refine ⟨h1.bs, h1.os, h1.us, h1.ps, X.G.srtd_put ord3_nat h.ds _ _, ?_, h1.len.1, h1.len.2.1, ?_⟩
        · intro n r hr
          rw [X.G.sget_put ord3_nat] at hr
          split at hr
          · cases hr; exact h2
          · exact h.rs n r hr
        · have := sput_len (lt := ltN) ord3_nat h.ds o.id (M.act o).1
          have := h.len
          show (sput ltN o.id _ M.done).length ≤ k + 1
          omega
  · exact h.mono (Nat.le_succ k)
theorem run_small {k : Nat} {M : BM} (h : M.ok k) (o : OM) : (M.run o).1.keys.length ≤ 1000 ∧ (M.run o).1.data.length ≤ 274877906944 := by
  unfold BM.run
  split
  · rename_i hc
    have h2 := act_small h hc
    split
    · exact h2
    · split
      · rename_i r hr; exact h.rs _ _ hr
      · exact h2
  · exact ⟨by simp [st], by simp [st]⟩
end Go.Proofs.YtidbcaimgahllaaGreat
namespace Go.Proofs.YtidbcaimgahllaaGreat
open Go.Proofs.Tryz
open Go.X
open Go.X.G (Ord3 ord3_nat ord3_int ord3_str ltB sget sput sdel Srtd MapAt MapHole plainRep)

theorem check_yes (G : Assn) (x : OW) (hx : x.ok G) (hc : x.o.chkB = true) : FSpec Tryz.prog 46 [.agg x.cells.toArray] [G] (fun v B => v = .int .i64 0 ∧ B = [G]) := by
  have := check_spec G x hx
  rw [hc] at this; exact this
theorem check_no (G : Assn) (x : OW) (hx : x.ok G) (hc : x.o.chkB = false) : FSpec Tryz.prog 46 [.agg x.cells.toArray] [G] (fun v B => v = .int .i64 1 ∧ B = [G]) := by
  have := check_spec G x hx
  rw [hc] at this; exact this
theorem reads_at {n : Int} {b : Bool} (h : readsK n = b) : FSpec Tryz.prog 74 [.int .i64 n] [] (fun v B => v = .bool b ∧ B = []) := by
  subst h; exact reads_spec n

theorem asn_ok {x : RW} (hs : x.r.keys.length ≤ 1099511627776 ∧ x.r.data.length ≤ 1099511627776) : ∀ h, x.asn h → x.ok x.asn := by
  intro h hh
  have hh' : HSat h x.asns := hh
  obtain ⟨h1, h2, a, ⟨k1, k2, b, _, _, _, _⟩, _, _, _⟩ := hh'
  exact ⟨(own.slr (i := 0) rfl ⟨h1, X.G.HSat.one a⟩ : SlR [own 9 1 _ _] 1 _ _).into 0 rfl, (own.slr (i := 0) rfl ⟨k1, X.G.HSat.one b⟩ : SlR [own 5 1 _ _] 1 _ _).into 1 rfl, hs⟩

theorem tab_srt (m : Nat) : Srtd ltI (tabM m) := by simp [Srtd, tabM]

def HasAct (m : Nat) (M : BM) (x : OW) (G : Assn) : Prop := ∃ fid, sget x.o.kind (tabM m) = some (.func (.func fid) ([.pointer (some ⟨m, 0, none⟩)] : List Value).toArray ([] : List Value).toArray) ∧ (∀ (args : Array Value) (w : World), (callFunc fid args).run Tryz.prog w = .ok (.enter fid args) w) ∧
  FSpec Tryz.prog fid ([.pointer (some ⟨m, 0, none⟩)] ++ [.agg x.cells.toArray] ++ []) [BktAt m M, G] (ActR m G (M.act x.o))

section
variable {k : Nat} (m : Nat) (M : BM) (hM : M.ok k) (x : OW) (G : Assn) (hx : x.ok G)
include hM hx

theorem do_bad_all : (∀ (hc : x.o.chkB = false), FSpec Tryz.prog 51 [.pointer (some ⟨m, 0, none⟩), .agg x.cells.toArray] [BktAt m M, G] (ActR m G (st 400, M))) ∧ (∀ (hc : x.o.chkB = true) {r : RM} (hD : sget x.o.id M.done = some r) (hrd : readsK x.o.kind = false), FSpec Tryz.prog 51 [.pointer (some ⟨m, 0, none⟩), .agg x.cells.toArray] [BktAt m M, G] (ActR m G (r, M))) := by
  refine ⟨fun hc => ?_, fun hc {r} hD hrd => ?_⟩
  all_goals
   refine FSpec.of func51 rfl ntmps51 rfl fun W0 F => ?_
   refine J.seq <| J.region ?_
   refine J.c rfl rfl (C.box (l := [_, _, _, _, _, _, _, _, _]) rfl rfl) ?_
   rintro _ _ ⟨b3, rfl, rfl⟩
   refine J.norm rfl ?_
   refine J.c rfl rfl (C.alloc (l := [_, _, _, _, _]) zeroValue44 rfl) ?_
   rintro _ _ ⟨b4, rfl, rfl⟩
   refine J.norm rfl <| J.nil <| J.then_n <| J.seq <| J.seq <| J.region ?_
   refine J.p rfl (Q.ldN (vs := [_, _, _, _, _, _, _, _, _]) isAgg52 sizeOf52 rfl rnI) ?_
   refine J.call call46 ((by first | exact check_yes G x hx hc | exact check_no G x hx hc)) [3] rfl rfl rfl rfl ?_
   rintro _ _ ⟨rfl, rfl⟩
   refine J.norm rfl <| J.p rfl (Q.neq rfl rfl) <| J.nil <| J.then_n ?_
   refine J.kases 10 rfl (fun hc10 => ?_) (fun hc10 => ?_)
   ·
    try (first | (cases hc10; done) | (exfalso; simp at hc10; done))
    all_goals
     refine J.cond_t rfl <| J.seq <| J.region ?_
     refine J.call call73 (status_spec 400) [] rfl rfl rfl rfl ?_
     rintro _ _ ⟨y, rfl, hy, rfl⟩
     refine J.norm rfl ?_
     refine J.stAJ (vs := [_, _, _, _, _]) rfl sizeOf44 rfl rfl ?_
     refine J.nil <| J.then_n <| J.cret <| J.then_r ?_
     refine J.retC [4, 0, 1, 5] (vs := [_, _, _, _, _]) rfl rfl isAgg44 sizeOf44 (ReadsN.pt 2 rfl) rfl (B := [_, _, _]) ⟨_, rfl, hy, rfl⟩
   try (first | (cases hc10; done) | (exfalso; simp at hc10; done))
   all_goals
    refine J.cond_f rfl <| J.cskip <| J.then_n ?_
    refine J.cut (fun _ : Unit => False) (fun _ => []) (fun _ => []) ?_ fun _ hF => ?_
    ·
     refine J.seq ?_
     refine J.open1 3 rfl (fun _ h => h) fun z => ?_
     refine J.norm rfl ?_
     first
       | (refine J.mapFocus 3 hD rfl fun val => ?_
          refine J.norm rfl ?_
          refine J.open_ 0 rfl rfl (fun _ h => h) fun y0 hy0 => ?_
          obtain ⟨hyr, hyv⟩ := hy0
          subst hyv
          subst hyr
          refine J.norm rfl ?_
          have hrs := hM.rs _ _ hD
          refine J.tells 0 rfl (asn_ok ⟨by omega, by omega⟩) fun hy0 => ?_)
       | skip
     refine J.draw [10, 11, 12] Tryz.mixed (by kernel_rfl) fun hR => ?_
     refine RG.p 0 hR rfl (Q.mv rfl) <| RG.p 1 hR rfl (Q.nil_ rfl) <| RG.p 2 hR rfl (Q.fa (n := 2) runUnderlying167 rfl rfl sizeOf165 rfl) ?_
     refine RG.p 3 hR rfl (Q.ldI isAgg165 rfl) ?_
     refine RG.p 4 hR rfl (Q.fa (n := 0) runUnderlying52 rfl rfl sizeOf40 rfl) ?_
     refine RG.p 5 hR rfl (Q.ldI isAgg40 rfl) ?_
     refine RG.p 6 hR rfl (by first | exact X.G.Q.lk2No (i := 3) runUnderlying165 keyU zeroValue44 rfl rfl rfl hD | exact X.G.Q.lk2Yes (i := 1) runUnderlying165 keyU zeroValue44 rfl rfl rfl) ?_
     refine RG.p 7 hR rfl (Q.mv rfl) <| RG.p 8 hR rfl (Q.ext rfl rfl) <| RG.p 9 hR rfl (Q.ext rfl rfl) ?_
     refine RG.made 10 hR rfl rfl rfl rfl rfl (C.alloc (l := [_, _, _, _, _]) zeroValue44 rfl) ?_
     rintro b5
     refine RG.stAkI (vs := [_, _, _, _, _]) 11 hR rfl rfl rfl rfl sizeOf44 rfl rfl (by exact rfl) (by exact rfl) (by exact rfl) ?_
     refine RG.bar 12 hR rfl rfl rfl rfl rfl rfl (Q.asg rfl).toC ?_
     rintro _ _ ⟨rfl, rfl⟩
     refine RG.norm rfl ?_
     refine RG.fin hR rfl ?_
     refine J.norm rfl <| J.then_n <| J.seq <| J.region <| J.m rfl <| J.m rfl ?_
     refine J.kases 23 rfl (fun hb23 => ?_) (fun hb23 => ?_)
     ·
      refine J.p rfl (Q.fa (n := 1) runUnderlying52 rfl rfl sizeOf3 rfl) ?_
      refine J.p rfl (Q.ldI isAgg3 rfl) ?_
      refine J.call call74 (reads_at hrd) [] rfl rfl rfl rfl ?_
      rintro _ _ ⟨rfl, rfl⟩
      refine J.norm rfl <| J.p rfl (Q.not rfl) <| J.p rfl (Q.pick_t rfl rfl) <| J.nil <| J.then_n ?_
      refine J.kases 28 rfl (fun hc28 => ?_) (fun hc28 => ?_)
      ·
       refine J.cond_t rfl <| J.seq <| J.region ?_
       refine J.p rfl (Q.ldN (vs := [_, _, _, _, _]) isAgg44 sizeOf44 rfl rnI) ?_
       refine J.call call75 (apart_spec y0.asn y0 hy0) [0] rfl rfl rfl rfl ?_
       rintro _ _ ⟨y, rfl, hy, rfl⟩
       refine J.norm rfl ?_
       refine J.stAJ (vs := [_, _, _, _, _]) rfl sizeOf44 rfl rfl ?_
       refine J.nil <| J.then_n <| J.cret <| J.cut_r ?_
       refine J.shut [1] (dRep x.o.id y0.r (.agg y0.cells.toArray)) rfl (fun h s => ⟨y0, ⟨rfl, rfl⟩, s⟩) ?_
       refine J.mapSame 0 2 ord3_nat hM.ds hD rfl ?_
       refine J.shut [2, 3, 4, 0] (BktAt m M) rfl (fun h s => ⟨z, s⟩) ?_
       refine J.retC [0, 1, 2, 5] (vs := [_, _, _, _, _]) rfl rfl isAgg44 sizeOf44 (ReadsN.pt 3 rfl) rfl (B := [_, _, _]) ⟨_, rfl, hy, rfl⟩
      cases hc28
     cases hb23
    exact hF.elim
theorem do_bad (hc : x.o.chkB = false) : FSpec Tryz.prog 51 [.pointer (some ⟨m, 0, none⟩), .agg x.cells.toArray] [BktAt m M, G] (ActR m G (st 400, M)) := (do_bad_all m M hM x G hx).1 hc
theorem do_kept (hc : x.o.chkB = true) {r : RM} (hD : sget x.o.id M.done = some r) (hrd : readsK x.o.kind = false) : FSpec Tryz.prog 51 [.pointer (some ⟨m, 0, none⟩), .agg x.cells.toArray] [BktAt m M, G] (ActR m G (r, M)) := (do_bad_all m M hM x G hx).2 hc hD hrd
theorem do_read0_all : (∀ (hA : HasAct m M x G) (hc : x.o.chkB = true) (hD : sget x.o.id M.done = none) (hrd : readsK x.o.kind = true), FSpec Tryz.prog 51 [.pointer (some ⟨m, 0, none⟩), .agg x.cells.toArray] [BktAt m M, G] (ActR m G (M.act x.o))) ∧ (∀ (hA : HasAct m M x G) (hc : x.o.chkB = true) {r : RM} (hD : sget x.o.id M.done = some r) (hrd : readsK x.o.kind = true), FSpec Tryz.prog 51 [.pointer (some ⟨m, 0, none⟩), .agg x.cells.toArray] [BktAt m M, G] (ActR m G (M.act x.o))) ∧ (∀ (hA : HasAct m M x G) (hc : x.o.chkB = true) (hD : sget x.o.id M.done = none) (hrd : readsK x.o.kind = false), FSpec Tryz.prog 51 [.pointer (some ⟨m, 0, none⟩), .agg x.cells.toArray] [BktAt m M, G] (ActR m G ((M.act x.o).1, { (M.act x.o).2 with done := sput ltN x.o.id (M.act x.o).1 M.done }))) := by
  refine ⟨fun hA hc hD hrd => ?_, fun hA hc {r} hD hrd => ?_, fun hA hc hD hrd => ?_⟩
  all_goals
   refine FSpec.of func51 rfl ntmps51 rfl fun W0 F => ?_
   refine J.seq <| J.region ?_
   refine J.c rfl rfl (C.box (l := [_, _, _, _, _, _, _, _, _]) rfl rfl) ?_
   rintro _ _ ⟨b3, rfl, rfl⟩
   refine J.norm rfl ?_
   refine J.c rfl rfl (C.alloc (l := [_, _, _, _, _]) zeroValue44 rfl) ?_
   rintro _ _ ⟨b4, rfl, rfl⟩
   refine J.norm rfl <| J.nil <| J.then_n <| J.seq <| J.seq <| J.region ?_
   refine J.p rfl (Q.ldN (vs := [_, _, _, _, _, _, _, _, _]) isAgg52 sizeOf52 rfl rnI) ?_
   refine J.call call46 ((by first | exact check_yes G x hx hc | exact check_no G x hx hc)) [3] rfl rfl rfl rfl ?_
   rintro _ _ ⟨rfl, rfl⟩
   refine J.norm rfl <| J.p rfl (Q.neq rfl rfl) <| J.nil <| J.then_n ?_
   refine J.kases 10 rfl (fun hc10 => ?_) (fun hc10 => ?_)
   ·
    simp at hc10
   refine J.cond_f rfl <| J.cskip <| J.then_n ?_
   refine J.cut (fun _ : Unit => True) (fun _ => [(0, .pointer (some ⟨m, 0, none⟩)), (3, .pointer (some ⟨b3, 0, none⟩)), (4, .pointer (some ⟨b4, 0, none⟩))]) (fun _ => [pt b3 (.cells x.cells.toArray 52 (0, 0)), BktAt m M, G, pt b4 (.cells [Value.int .i64 0, .int .u64 0, .slice none 0 0, .bool false, .slice none 0 0].toArray 44 (0, 0)), F]) ?_ fun _ _ => ?_
   ·
    refine J.seq ?_
    refine J.open1 3 rfl (fun _ h => h) fun z => ?_
    refine J.norm rfl ?_
    first
      | (refine J.mapFocus 3 hD rfl fun val => ?_
         refine J.norm rfl ?_
         refine J.open_ 0 rfl rfl (fun _ h => h) fun y0 hy0 => ?_
         obtain ⟨hyr, hyv⟩ := hy0
         subst hyv
         subst hyr
         refine J.norm rfl ?_
         have hrs := hM.rs _ _ hD
         refine J.tells 0 rfl (asn_ok ⟨by omega, by omega⟩) fun hy0 => ?_)
      | skip
    refine J.draw [10, 11, 12] Tryz.mixed (by kernel_rfl) fun hR => ?_
    refine RG.p 0 hR rfl (Q.mv rfl) <| RG.p 1 hR rfl (Q.nil_ rfl) <| RG.p 2 hR rfl (Q.fa (n := 2) runUnderlying167 rfl rfl sizeOf165 rfl) ?_
    refine RG.p 3 hR rfl (Q.ldI isAgg165 rfl) ?_
    refine RG.p 4 hR rfl (Q.fa (n := 0) runUnderlying52 rfl rfl sizeOf40 rfl) ?_
    refine RG.p 5 hR rfl (Q.ldI isAgg40 rfl) ?_
    refine RG.p 6 hR rfl (by first | exact X.G.Q.lk2No (i := 3) runUnderlying165 keyU zeroValue44 rfl rfl rfl hD | exact X.G.Q.lk2Yes (i := 1) runUnderlying165 keyU zeroValue44 rfl rfl rfl) ?_
    refine RG.p 7 hR rfl (Q.mv rfl) <| RG.p 8 hR rfl (Q.ext rfl rfl) <| RG.p 9 hR rfl (Q.ext rfl rfl) ?_
    refine RG.made 10 hR rfl rfl rfl rfl rfl (C.alloc (l := [_, _, _, _, _]) zeroValue44 rfl) ?_
    rintro b5
    refine RG.stAkI (vs := [_, _, _, _, _]) 11 hR rfl rfl rfl rfl sizeOf44 rfl rfl (by exact rfl) (by exact rfl) (by exact rfl) ?_
    refine RG.bar 12 hR rfl rfl rfl rfl rfl rfl (Q.asg rfl).toC ?_
    rintro _ _ ⟨rfl, rfl⟩
    refine RG.norm rfl ?_
    refine RG.fin hR rfl ?_
    refine J.norm rfl <| J.then_n <| J.seq <| J.region <| J.m rfl <| J.m rfl ?_
    refine J.kases 23 rfl (fun hb23 => ?_) (fun hb23 => ?_)
    ·
     try (first | (cases hb23; done) | (exfalso; simp at hb23; done))
     all_goals
      refine J.p rfl (Q.fa (n := 1) runUnderlying52 rfl rfl sizeOf3 rfl) ?_
      refine J.p rfl (Q.ldI isAgg3 rfl) ?_
      refine J.call call74 (reads_at hrd) [] rfl rfl rfl rfl ?_
      rintro _ _ ⟨rfl, rfl⟩
      refine J.norm rfl <| J.p rfl (Q.not rfl) <| J.p rfl (Q.pick_t rfl rfl) <| J.nil <| J.then_n ?_
      refine J.kases 28 rfl (fun hc28 => ?_) (fun hc28 => ?_)
      ·
       cases hc28
      refine J.cond_f rfl <| J.cskip ?_
      first
        | (refine J.shut [0] (dRep x.o.id y0.r (.agg y0.cells.toArray)) rfl (fun h s => ⟨y0, ⟨rfl, rfl⟩, s⟩) ?_
           refine J.mapSame 0 1 ord3_nat hM.ds hD rfl ?_
           refine J.shut [1, 2, 3, 0] (BktAt m M) rfl (fun h s => ⟨z, s⟩) ?_)
        | refine J.shut [0, 1, 2, 3] (BktAt m M) rfl (fun h s => ⟨z, s⟩) ?_
      refine J.keep [3, 0, 1, 2, 4] rfl ?_
      refine J.meet () trivial ⟨rfl, rfl, rfl, trivial⟩ rfl
    try (first | (cases hb23; done) | (exfalso; simp at hb23; done))
    all_goals
     refine J.k rfl <| J.k rfl <| J.k rfl <| J.k rfl <| J.p rfl (Q.pick_f rfl rfl) <| J.nil <| J.then_n <| J.cond_f rfl <| J.cskip ?_
     first
       | (refine J.shut [0] (dRep x.o.id y0.r (.agg y0.cells.toArray)) rfl (fun h s => ⟨y0, ⟨rfl, rfl⟩, s⟩) ?_
          refine J.mapSame 0 1 ord3_nat hM.ds hD rfl ?_
          refine J.shut [1, 2, 3, 0] (BktAt m M) rfl (fun h s => ⟨z, s⟩) ?_)
       | refine J.shut [0, 1, 2, 3] (BktAt m M) rfl (fun h s => ⟨z, s⟩) ?_
     refine J.keep [3, 0, 1, 2, 4] rfl ?_
     refine J.meet () trivial ⟨rfl, rfl, rfl, trivial⟩ rfl
   refine J.cut (fun w : Nat × RW => w.2.r = (M.act x.o).1) (fun w => [(0, .pointer (some ⟨m, 0, none⟩)), (3, .pointer (some ⟨b3, 0, none⟩)), (4, .pointer (some ⟨b4, 0, none⟩)), (7, .pointer (some ⟨w.1, 0, none⟩))]) (fun w => [pt b3 (.cells x.cells.toArray 52 (0, 0)), BktAt m (M.act x.o).2, w.2.asn, G, pt b4 (.cells [Value.int .i64 0, .int .u64 0, .slice none 0 0, .bool false, .slice none 0 0].toArray 44 (0, 0)), F, pt w.1 (.cells w.2.cells.toArray 44 (0, 0))]) ?_ fun w hw => ?_
   ·
    obtain ⟨fid, hf1, hf2, hf3⟩ := hA
    refine J.drawE [1, 6, 7, 8] 1 Tryz.mixed (by kernel_rfl) rfl rfl fun hR => ?_
    refine RG.p 0 hR rfl (Q.mv rfl) <| RG.p 2 hR rfl (Q.fa (n := 1) runUnderlying52 rfl rfl sizeOf3 rfl) ?_
    refine RG.p 3 hR rfl (Q.ldI isAgg3 rfl) ?_
    refine RG.p 5 hR rfl (Q.ldN (vs := [_, _, _, _, _, _, _, _, _]) isAgg52 sizeOf52 rfl rnI) ?_
    refine RG.many hR 1 [7] rfl ⟨?_, ⟨?_, trivial⟩⟩
    ·
     refine RGi.callk rfl rfl rfl rfl call76 (table_spec m) [] rfl rfl ?_
     rintro _ _ ⟨rt, rfl, rfl⟩
     refine ⟨_, X.pick_perm (is := [1]) rfl, ?_⟩
     refine RG.hold ?_
     refine RG.norm rfl ?_
     refine RG.p 4 hR rfl (X.G.Q.lkPlain (i := 1) ord3_int (tab_srt m) runUnderlying169 keyI zeroValue53 rfl rfl rfl hf1) ?_
     refine RG.many hR 6 [7] rfl ⟨?_, ⟨?_, trivial⟩⟩
     ·
      refine RGi.one rfl rfl rfl rfl (OpC.callv hf2 rfl rfl hf3 [2, 3] rfl) ?_
      rintro _ _ ⟨_, ⟨y, rfl, hy, rfl⟩, rfl⟩
      refine ⟨_, X.pick_perm (is := [3, 4]) rfl, ?_⟩
      refine RG.made 7 hR rfl rfl rfl rfl rfl (C.alloc (l := [_, _, _, _, _]) zeroValue44 rfl) ?_
      rintro b7
      refine RG.rot ?_
      refine RG.normE rfl ?_
      refine RG.stAI (vs := [_, _, _, _, _]) 8 hR rfl rfl rfl rfl rfl sizeOf44 rfl rfl (by exact rfl) (by exact rfl) (by exact rfl) ?_
      refine RG.fin hR rfl ?_
      refine J.norm rfl ?_
      refine J.keep [0, 2, 3, 4, 5, 6, 7] rfl ?_
      refine J.meet (b7, y) hy ⟨rfl, rfl, rfl, rfl, trivial⟩ rfl
     ·
      refine RGi.made rfl rfl rfl rfl (C.alloc (l := [_, _, _, _, _]) zeroValue44 rfl) ?_
      rintro b7
      refine RG.rot ?_
      refine RG.normE rfl ?_
      refine RG.many hR 6 [] rfl ⟨?_, trivial⟩
      ·
       refine RGi.one rfl rfl rfl rfl (OpC.callv hf2 rfl rfl hf3 [2, 3] rfl) ?_
       rintro _ _ ⟨_, ⟨y, rfl, hy, rfl⟩, rfl⟩
       refine ⟨_, X.pick_perm (is := [3, 4]) rfl, ?_⟩
       refine RG.stAI (vs := [_, _, _, _, _]) 8 hR rfl rfl rfl rfl rfl sizeOf44 rfl rfl (by exact rfl) (by exact rfl) (by exact rfl) ?_
       refine RG.fin hR rfl ?_
       refine J.norm rfl ?_
       refine J.keep [0, 2, 3, 4, 5, 6, 7] rfl ?_
       refine J.meet (b7, y) hy ⟨rfl, rfl, rfl, rfl, trivial⟩ rfl
    ·
     refine RGi.made rfl rfl rfl rfl (C.alloc (l := [_, _, _, _, _]) zeroValue44 rfl) ?_
     rintro b7
     refine RG.rot ?_
     refine RG.normE rfl ?_
     refine RG.callk 1 hR rfl rfl rfl rfl rfl call76 (table_spec m) [] rfl rfl ?_
     rintro _ _ ⟨rt, rfl, rfl⟩
     refine ⟨_, X.pick_perm (is := [1]) rfl, ?_⟩
     refine RG.hold ?_
     refine RG.norm rfl ?_
     refine RG.p 4 hR rfl (X.G.Q.lkPlain (i := 1) ord3_int (tab_srt m) runUnderlying169 keyI zeroValue53 rfl rfl rfl hf1) ?_
     refine RG.many hR 6 [] rfl ⟨?_, trivial⟩
     ·
      refine RGi.one rfl rfl rfl rfl (OpC.callv hf2 rfl rfl hf3 [2, 3] rfl) ?_
      rintro _ _ ⟨_, ⟨y, rfl, hy, rfl⟩, rfl⟩
      refine ⟨_, X.pick_perm (is := [3, 4]) rfl, ?_⟩
      refine RG.stAI (vs := [_, _, _, _, _]) 8 hR rfl rfl rfl rfl rfl sizeOf44 rfl rfl (by exact rfl) (by exact rfl) (by exact rfl) ?_
      refine RG.fin hR rfl ?_
      refine J.norm rfl ?_
      refine J.keep [0, 2, 3, 4, 5, 6, 7] rfl ?_
      refine J.meet (b7, y) hy ⟨rfl, rfl, rfl, rfl, trivial⟩ rfl
   obtain ⟨b7, y⟩ := w
   dsimp only at hw
   have hys : y.r.keys.length ≤ 1099511627776 ∧ y.r.data.length ≤ 1099511627776 := by rw [hw]; have := act_small hM hc; omega
   refine J.tells 2 rfl (asn_ok hys) fun hyo => ?_
   refine J.seq <| J.seq <| J.region <| J.p rfl (Q.fa (n := 1) runUnderlying52 rfl rfl sizeOf3 rfl) ?_
   refine J.p rfl (Q.ldI isAgg3 rfl) ?_
   refine J.call call74 (reads_at hrd) [] rfl rfl rfl rfl ?_
   rintro _ _ ⟨rfl, rfl⟩
   refine J.norm rfl <| J.p rfl (Q.not rfl) <| J.nil <| J.then_n ?_
   refine J.kases 41 rfl (fun hc41 => ?_) (fun hc41 => ?_)
   ·
    try (first | (cases hc41; done) | (exfalso; simp at hc41; done))
    all_goals
     refine J.cond_t rfl ?_
     refine J.open1 1 rfl (fun _ h => h) fun z => ?_
     refine J.norm rfl ?_
     refine J.keep [0, 4, 9, 1, 2, 3, 5, 6, 7, 8] rfl ?_
     refine J.drawE [7, 8] 3 Tryz.mixed (by kernel_rfl) rfl rfl fun hR => ?_
     refine RG.p 0 hR rfl (Q.mv rfl) <| RG.p 1 hR rfl (Q.nil_ rfl) <| RG.p 2 hR rfl (Q.fa (n := 2) runUnderlying167 rfl rfl sizeOf165 rfl) ?_
     refine RG.p 3 hR rfl (Q.ldI isAgg165 rfl) ?_
     refine RG.p 4 hR rfl (Q.fa (n := 0) runUnderlying52 rfl rfl sizeOf40 rfl) ?_
     refine RG.p 5 hR rfl (Q.ldI isAgg40 rfl) ?_
     refine RG.p 6 hR rfl (Q.ldN (vs := [_, _, _, _, _]) isAgg44 sizeOf44 rfl rnI) ?_
     refine RG.callk 7 hR rfl rfl rfl rfl rfl call75 (apart_spec y.asn y hyo) [6] rfl rfl ?_
     rintro _ _ ⟨y2, rfl, hy2, rfl⟩
     refine ⟨_, X.pick_perm (is := [2, 3, 4]) rfl, ?_⟩
     refine RG.bar 8 hR rfl rfl rfl rfl rfl rfl (X.G.C.mapPut (rep := dRep) 7 (M.act x.o).1 ord3_nat (by rw [act_done]; exact hM.ds) runUnderlying165 keyU rfl rfl rfl rfl) ?_
     rintro _ _ ⟨rfl, rfl⟩
     refine RG.norm rfl ?_
     refine RG.fin hR rfl ?_
     refine J.norm rfl <| J.then_n <| J.seq <| J.region ?_
     refine J.p rfl (Q.ldN (vs := [_, _, _, _, _]) isAgg44 sizeOf44 rfl rnI) ?_
     refine J.stAJ (vs := [_, _, _, _, _]) rfl sizeOf44 rfl rfl ?_
     refine J.nil <| J.then_n <| J.cret ?_
     refine J.shut [3] (dRep x.o.id (M.act x.o).1 (.agg y2.cells.toArray)) rfl (fun h s => ⟨y2, ⟨hy2.trans hw, rfl⟩, s⟩) ?_
     refine J.mapBack (lt := ltN) 0 7 (M.act x.o).1 ord3_nat (X.G.srtd_put ord3_nat (by rw [act_done]; exact hM.ds) _ _) rfl ?_
     rw [X.G.sput_put ord3_nat (by rw [act_done]; exact hM.ds), act_done]
     refine J.shut [1, 5, 6, 0] (BktAt m { (M.act x.o).2 with done := sput ltN x.o.id (M.act x.o).1 M.done }) rfl (fun h s => ⟨z, s⟩) ?_
     refine J.retC [0, 3, 4, 6] (vs := [_, _, _, _, _]) rfl rfl isAgg44 sizeOf44 (ReadsN.pt 5 rfl) rfl (B := [_, _, _]) ⟨y, rfl, hw, rfl⟩
   try (first | (cases hc41; done) | (exfalso; simp at hc41; done))
   all_goals
    refine J.cond_f rfl <| J.cskip <| J.then_n <| J.seq <| J.region ?_
    refine J.p rfl (Q.ldN (vs := [_, _, _, _, _]) isAgg44 sizeOf44 rfl rnI) ?_
    refine J.stAJ (vs := [_, _, _, _, _]) rfl sizeOf44 rfl rfl ?_
    refine J.nil <| J.then_n <| J.cret ?_
    refine J.retC [1, 2, 3, 5] (vs := [_, _, _, _, _]) rfl rfl isAgg44 sizeOf44 (ReadsN.pt 4 rfl) rfl (B := [_, _, _]) ⟨y, rfl, hw, rfl⟩
theorem do_read0 (hA : HasAct m M x G) (hc : x.o.chkB = true) (hD : sget x.o.id M.done = none) (hrd : readsK x.o.kind = true) : FSpec Tryz.prog 51 [.pointer (some ⟨m, 0, none⟩), .agg x.cells.toArray] [BktAt m M, G] (ActR m G (M.act x.o)) := (do_read0_all m M hM x G hx).1 hA hc hD hrd
theorem do_read1 (hA : HasAct m M x G) (hc : x.o.chkB = true) {r : RM} (hD : sget x.o.id M.done = some r) (hrd : readsK x.o.kind = true) : FSpec Tryz.prog 51 [.pointer (some ⟨m, 0, none⟩), .agg x.cells.toArray] [BktAt m M, G] (ActR m G (M.act x.o)) := (do_read0_all m M hM x G hx).2.1 hA hc hD hrd
theorem do_new (hA : HasAct m M x G) (hc : x.o.chkB = true) (hD : sget x.o.id M.done = none) (hrd : readsK x.o.kind = false) : FSpec Tryz.prog 51 [.pointer (some ⟨m, 0, none⟩), .agg x.cells.toArray] [BktAt m M, G] (ActR m G ((M.act x.o).1, { (M.act x.o).2 with done := sput ltN x.o.id (M.act x.o).1 M.done })) := (do_read0_all m M hM x G hx).2.2 hA hc hD hrd
theorem do_spec (hA : x.o.chkB = true → HasAct m M x G) : FSpec Tryz.prog 51 [.pointer (some ⟨m, 0, none⟩), .agg x.cells.toArray] [BktAt m M, G] (ActR m G (M.run x.o)) := by
  unfold BM.run
  by_cases hc : x.o.chkB = true
  · rw [if_pos hc]
    have hA := hA hc
    by_cases hr : readsK x.o.kind = true
    · rw [if_pos hr]
      cases hD : sget x.o.id M.done with
      | none => exact do_read0 m M hM x G hx hA hc hD hr
      | some r => exact do_read1 m M hM x G hx hA hc hD hr
    · rw [if_neg hr]
      have hr : readsK x.o.kind = false := by simpa using hr
      cases hD : sget x.o.id M.done with
      | none => exact do_new m M hM x G hx hA hc hD hr
      | some r => exact do_kept m M hM x G hx hc hD hr
  · rw [if_neg hc]; exact do_bad m M hM x G hx (by simpa using hc)

theorem hasAct (hc : x.o.chkB = true) (h6 : x.o.kind = 6 → FSpec Tryz.prog 89 [.pointer (some ⟨m, 0, none⟩), .agg x.cells.toArray] [BktAt m M, G] (ActR m G (M.list x.o))) : HasAct m M x G := by
  obtain ⟨k1, k2⟩ := chk_kind hc
  have h9 := chk_9 hc
  by_cases e1 : x.o.kind = 1
  · exact ⟨84, by rw [e1]; rfl, call84, by unfold BM.act; rw [if_pos e1]; exact make_spec m M hM x G hx⟩
  by_cases e2 : x.o.kind = 2
  · exact ⟨85, by rw [e2]; rfl, call85, by unfold BM.act; rw [if_neg e1, if_pos e2]; exact unmake_spec m M hM x G hx⟩
  by_cases e3 : x.o.kind = 3
  · exact ⟨86, by rw [e3]; rfl, call86, by unfold BM.act; rw [if_neg e1, if_neg e2, if_pos e3]; exact put_spec m M hM x G hx (chk_len hc)⟩
  by_cases e4 : x.o.kind = 4
  · exact ⟨87, by rw [e4]; rfl, call87, by unfold BM.act; rw [if_neg e1, if_neg e2, if_neg e3, if_pos e4]; exact get_spec m M hM x G hx⟩
  by_cases e5 : x.o.kind = 5
  · exact ⟨88, by rw [e5]; rfl, call88, by unfold BM.act; rw [if_neg e1, if_neg e2, if_neg e3, if_neg e4, if_pos e5]; exact delete_spec m M hM x G hx⟩
  by_cases e6 : x.o.kind = 6
  · exact ⟨89, by rw [e6]; rfl, call89, by unfold BM.act; rw [if_neg e1, if_neg e2, if_neg e3, if_neg e4, if_neg e5, if_pos e6]; exact h6 e6⟩
  by_cases e7 : x.o.kind = 7
  · exact ⟨90, by rw [e7]; rfl, call90, by unfold BM.act; rw [if_neg e1, if_neg e2, if_neg e3, if_neg e4, if_neg e5, if_neg e6, if_pos e7]; exact begin_spec m M hM x G hx⟩
  by_cases e8 : x.o.kind = 8
  · exact ⟨91, by rw [e8]; rfl, call91, by unfold BM.act; rw [if_neg e1, if_neg e2, if_neg e3, if_neg e4, if_neg e5, if_neg e6, if_neg e7, if_pos e8]; exact part_spec m M hM x G hx (chk_len hc)⟩
  by_cases e9 : x.o.kind = 9
  · exact ⟨92, by rw [e9]; rfl, call92, by unfold BM.act; rw [if_neg e1, if_neg e2, if_neg e3, if_neg e4, if_neg e5, if_neg e6, if_neg e7, if_neg e8, if_pos e9]; exact complete_spec m M hM x G hx (h9 e9)⟩
  · have e10 : x.o.kind = 10 := by omega
    exact ⟨93, by rw [e10]; rfl, call93, by unfold BM.act; rw [if_neg e1, if_neg e2, if_neg e3, if_neg e4, if_neg e5, if_neg e6, if_neg e7, if_neg e8, if_neg e9]; exact abort_spec m M hM x G hx⟩
end
end Go.Proofs.YtidbcaimgahllaaGreat
namespace Go.Proofs.YtidbcaimgahllaaGreat
open Go.X
open Go.X.G (Ord3 ord3_nat ord3_int ord3_str ltB sget sput sdel Srtd MapAt MapHole)

structure Ops (G : Assn) (lp : Option Addr) (ln lc : Nat) (l : List OW) : Prop where
  rd : SlR [G] 9 (.slice lp ln lc) (l.flatMap OW.cells)
  ok : ∀ x, x ∈ l → x.ok G
  small : ln ≤ 1048576
theorem Ops.len {G : Assn} {lp : Option Addr} {ln lc : Nat} {l : List OW} (h : Ops G lp ln lc l) : l.length = ln := by
  have := h.rd.len
  rw [flat_length OW.cells_length] at this; omega

theorem RW.cells_length (x : RW) : x.cells.length = 5 := rfl
theorem RW.cells_one {l : List RW} : ∀ v, v ∈ l.flatMap RW.cells → oneC v = true := by
  intro v hv
  obtain ⟨x, _, hx⟩ := List.mem_flatMap.1 hv
  simp only [RW.cells, List.mem_cons, List.not_mem_nil, or_false] at hx
  rcases hx with rfl | rfl | rfl | rfl | rfl <;> rfl


def bt (l : List UInt8) : ByteArray := ⟨l.toArray⟩
end Go.Proofs.YtidbcaimgahllaaGreat
namespace Go.Proofs.YtidbcaimgahllaaGreat
open Go.X

def rdGo : Nat → Nat → List UInt8 → Nat × Nat × Nat
  | _, _, [] => (0, 0, 11)
  | i, v, c :: cs =>
    if i = 9 ∧ 1 < c.toNat then (0, 0, 12)
    else if c.toNat < 128 then (if c.toNat = 0 ∧ 0 < i then (0, 0, 12) else (v + 2 ^ (7 * i) * c.toNat, i + 1, 0))
    else rdGo (i + 1) (v + 2 ^ (7 * i) * (c.toNat % 128)) cs
def rdN (bs : List UInt8) : Nat × Nat × Nat := rdGo 0 0 bs

theorem rdGo_numB : ∀ (n w i acc : Nat) (rest : List UInt8), w ≤ n → (0 < i → 1 ≤ w) → (i = 9 → w ≤ 1) → acc + 2 ^ (7 * i) * w < 18446744073709551616 → rdGo i acc (numB w ++ rest) = (acc + 2 ^ (7 * i) * w, i + (numB w).length, 0) := by
  intro n
  induction n with
  | zero =>
    intro w i acc rest hn h1 _ _
    obtain rfl : w = 0 := by omega
    obtain rfl : i = 0 := by omega
    rw [numB_small (by decide)]
    simp [rdGo]
  | succ n ih =>
    intro w i acc rest hn h1 h9 hb
    by_cases hw : w < 128
    · rw [numB_small hw]
      have e : (UInt8.ofNat w).toNat = w := by simp; omega
      simp only [List.cons_append, List.nil_append, rdGo, e, List.length_cons, List.length_nil]
      rw [if_neg (by omega), if_pos hw, if_neg (by omega)]
    · rw [numB_step hw]
      have e : (UInt8.ofNat (w % 128 + 128)).toNat = w % 128 + 128 := by simp; omega
      have hi9 : i ≠ 9 := fun h => by have := h9 h; omega
      simp only [List.cons_append, rdGo, e, List.length_cons]
      rw [if_neg (by omega), if_neg (by omega), show (w % 128 + 128) % 128 = w % 128 by omega]
      have hp7 : (2 : Nat) ^ (7 * (i + 1)) = 2 ^ (7 * i) * 128 := by rw [show 7 * (i + 1) = 7 * i + 7 by omega, Nat.pow_add]
      have hmd : 2 ^ (7 * i) * w = 2 ^ (7 * i) * (w % 128) + 2 ^ (7 * i) * 128 * (w / 128) := by rw [Nat.mul_assoc, ← Nat.mul_add]; congr 1; omega
      have h90 : i + 1 = 9 → w / 128 ≤ 1 := fun h => by
        rw [← hp7, h, show (2 : Nat) ^ (7 * 9) = 9223372036854775808 by decide] at hmd
        omega
      rw [ih (w / 128) (i + 1) _ rest (by omega) (fun _ => by omega) h90 (by rw [hp7]; omega), hp7]
      congr 1
      · omega
      · congr 1; omega
theorem rdN_numB {v : Nat} (h : v ≤ 18446744073709551615) (rest : List UInt8) : rdN (numB v ++ rest) = (v, (numB v).length, 0) := by
  unfold rdN
  rw [rdGo_numB v v 0 0 rest (Nat.le_refl _) (fun h => absurd h (Nat.lt_irrefl 0)) (by omega) (by simp; omega)]
  simp

theorem rdGo_bd : ∀ (bs : List UInt8) (i v : Nat), i ≤ 9 → v < 2 ^ (7 * i) → (rdGo i v bs).1 ≤ 18446744073709551615 ∧ (rdGo i v bs).2.1 ≤ i + bs.length ∧ ((rdGo i v bs).2.2 = 0 → 1 ≤ (rdGo i v bs).2.1)
  | [], i, v, _, _ => by simp [rdGo]
  | c :: cs, i, v, hi, hv => by
    have hc : c.toNat < 256 := c.toNat_lt
    have h63 : (2 : Nat) ^ (7 * i) ≤ 9223372036854775808 := by
      have := Nat.pow_le_pow_right (n := 2) (by decide) (show 7 * i ≤ 63 by omega)
      rwa [show (2 : Nat) ^ 63 = 9223372036854775808 by decide] at this
    simp only [rdGo, List.length_cons]
    split
    · simp
    · split
      · split
        · simp
        · refine ⟨?_, by show i + 1 ≤ _; omega, fun _ => by show 1 ≤ i + 1; omega⟩
          show v + 2 ^ (7 * i) * c.toNat ≤ _
          by_cases h9 : i = 9
          · subst h9
            have : c.toNat ≤ 1 := by omega
            have := Nat.mul_le_mul_left (2 ^ (7 * 9)) this
            omega
          · have h56 : (2 : Nat) ^ (7 * i) ≤ 72057594037927936 := by
              have := Nat.pow_le_pow_right (n := 2) (by decide) (show 7 * i ≤ 56 by omega)
              rwa [show (2 : Nat) ^ 56 = 72057594037927936 by decide] at this
            have h1 := Nat.mul_le_mul h56 (show c.toNat ≤ 127 by omega)
            omega
      · have hi' : i ≠ 9 := by omega
        have hp7 : (2 : Nat) ^ (7 * (i + 1)) = 2 ^ (7 * i) * 128 := by rw [show 7 * (i + 1) = 7 * i + 7 by omega, Nat.pow_add]
        have h1 : 2 ^ (7 * i) * (c.toNat % 128) ≤ 2 ^ (7 * i) * 127 := Nat.mul_le_mul_left _ (by omega)
        obtain ⟨a, b, d⟩ := rdGo_bd cs (i + 1) (v + 2 ^ (7 * i) * (c.toNat % 128)) (by omega) (by rw [hp7]; omega)
        exact ⟨a, by omega, d⟩
theorem rdN_bd (bs : List UInt8) : (rdN bs).1 ≤ 18446744073709551615 ∧ (rdN bs).2.1 ≤ bs.length ∧ ((rdN bs).2.2 = 0 → 1 ≤ (rdN bs).2.1) := by
  have := rdGo_bd bs 0 0 (by omega) (by simp)
  rwa [Nat.zero_add] at this

def rdB (bs : List UInt8) (most : Nat) : List UInt8 × Nat × Nat :=
  if (rdN bs).2.2 ≠ 0 then ([], 0, (rdN bs).2.2)
  else if most < (rdN bs).1 then ([], 0, 3)
  else if bs.length - (rdN bs).2.1 < (rdN bs).1 then ([], 0, 11)
  else ((bs.drop (rdN bs).2.1).take (rdN bs).1, (rdN bs).2.1 + (rdN bs).1, 0)
theorem rdB_bd (bs : List UInt8) (most : Nat) : (rdB bs most).1.length ≤ bs.length ∧ (rdB bs most).2.1 ≤ bs.length := by
  have := rdN_bd bs
  unfold rdB
  split
  · simp
  · split
    · simp
    · split
      · simp
      · simp only [List.length_take, List.length_drop]; omega
theorem rdB_encB {d : List UInt8} (h : d.length ≤ 18446744073709551615) (rest : List UInt8) {most : Nat} (hm : d.length ≤ most) : rdB (encB d ++ rest) most = (d, (encB d).length, 0) := by
  unfold rdB encB
  rw [List.append_assoc, rdN_numB h, if_neg (by simp), if_neg (by show ¬ most < d.length; omega), if_neg (by simp only [List.length_append]; omega)]
  dsimp only
  rw [List.drop_left, List.take_left, List.length_append]

structure RS where
  b : List UInt8
  bad : Bool
def RS.num (s : RS) : Nat × RS := ((rdN s.b).1, ⟨s.b.drop (rdN s.b).2.1, s.bad || decide ((rdN s.b).2.2 ≠ 0)⟩)
def RS.int (s : RS) : Nat × RS := if 1099511627776 < s.num.1 then (0, ⟨s.num.2.b, true⟩) else s.num
def RS.bytes (s : RS) : List UInt8 × RS := ((rdB s.b s.b.length).1, ⟨s.b.drop (rdB s.b s.b.length).2.1, s.bad || decide ((rdB s.b s.b.length).2.2 ≠ 0)⟩)
def RS.text (s : RS) : ByteArray × RS := (bt s.bytes.1, s.bytes.2)
def RS.intsGo : Nat → RS → List Nat × RS
  | 0, s => ([], s)
  | n + 1, s => if s.bad then ([], s) else (s.int.1 :: (RS.intsGo n s.int.2).1, (RS.intsGo n s.int.2).2)
def RS.ints (s : RS) : List Nat × RS := RS.intsGo s.int.1 s.int.2

theorem RS.num_len (s : RS) : s.num.2.b.length ≤ s.b.length := by simp [RS.num]
theorem RS.num_bd (s : RS) : s.num.1 ≤ 18446744073709551615 := (rdN_bd s.b).1
theorem RS.num_less (s : RS) (h : s.num.2.bad = false) : s.num.2.b.length + 1 ≤ s.b.length := by
  simp only [RS.num, Bool.or_eq_false_iff, decide_eq_false_iff_not, Decidable.not_not] at h
  have := rdN_bd s.b
  have h1 := this.2.2 (by omega)
  simp only [RS.num, List.length_drop]; omega
theorem RS.int_len (s : RS) : s.int.2.b.length ≤ s.b.length := by
  have := s.num_len
  unfold RS.int; split <;> exact this
theorem RS.int_bd (s : RS) : s.int.1 ≤ 1099511627776 := by
  unfold RS.int; split
  · simp
  · omega
theorem RS.int_less (s : RS) (h : s.int.2.bad = false) : s.int.2.b.length + 1 ≤ s.b.length := by
  unfold RS.int at h ⊢; split at h
  · cases h
  · rename_i hc; rw [if_neg hc]; exact s.num_less h
theorem RS.bytes_len (s : RS) : s.bytes.2.b.length ≤ s.b.length ∧ s.bytes.1.length ≤ s.b.length := by
  have := rdB_bd s.b s.b.length
  simp only [RS.bytes, List.length_drop]; omega

theorem num_at {v : Nat} (h : v ≤ 18446744073709551615) (rest : List UInt8) (bad : Bool) : RS.num ⟨numB v ++ rest, bad⟩ = (v, ⟨rest, bad⟩) := by
  simp [RS.num, rdN_numB h]
theorem int_at {v : Nat} (h : v ≤ 1099511627776) (rest : List UInt8) (bad : Bool) : RS.int ⟨numB v ++ rest, bad⟩ = (v, ⟨rest, bad⟩) := by
  unfold RS.int
  rw [num_at (by omega), if_neg (by show ¬ 1099511627776 < v; omega)]
theorem bytes_at {d : List UInt8} (h : d.length ≤ 18446744073709551615) (rest : List UInt8) (bad : Bool) : RS.bytes ⟨encB d ++ rest, bad⟩ = (d, ⟨rest, bad⟩) := by
  unfold RS.bytes
  rw [rdB_encB h rest (most := (encB d ++ rest).length) (by simp [encB]; omega)]
  simp
theorem intsGo_at : ∀ (l : List Nat) (rest : List UInt8), (∀ v, v ∈ l → v ≤ 1099511627776) → RS.intsGo l.length ⟨l.flatMap numB ++ rest, false⟩ = (l, ⟨rest, false⟩)
  | [], rest, _ => rfl
  | v :: l, rest, h => by
    simp only [List.length_cons, RS.intsGo, Bool.false_eq_true, if_false, List.flatMap_cons, List.append_assoc]
    rw [int_at (h v (by simp)), intsGo_at l rest fun u hu => h u (by simp [hu])]
theorem ints_at {l : List Nat} (h : ∀ v, v ∈ l → v ≤ 1099511627776) (hl : l.length ≤ 1099511627776) (rest : List UInt8) : RS.ints ⟨numB l.length ++ (l.flatMap numB ++ rest), false⟩ = (l, ⟨rest, false⟩) := by
  unfold RS.ints
  rw [int_at hl]
  exact intsGo_at l rest h

def opB (o : OM) : List UInt8 :=
  [1, o.id, o.kind.toNat].flatMap numB ++ [o.bucket, o.key, o.after].flatMap (fun s => encB s.data.toList) ++ [o.n.toNat, o.upload, o.parts.length].flatMap numB ++ (o.parts.map Int.toNat).flatMap numB ++ encB o.data
def RS.op (s : RS) : OM × RS :=
  let a := s.num
  let b := a.2.int
  let c := b.2.text
  let d := c.2.text
  let e := d.2.text
  let f := e.2.int
  let g := f.2.num
  let h := g.2.ints
  let i := h.2.bytes
  (⟨a.1, b.1, c.1, d.1, e.1, f.1, g.1, h.1.map Int.ofNat, i.1⟩, i.2)
structure OM.fine (o : OM) : Prop where
  id : o.id ≤ 18446744073709551615
  kind : 0 ≤ o.kind ∧ o.kind ≤ 10
  n : 0 ≤ o.n ∧ o.n ≤ 10000
  up : o.upload ≤ 18446744073709551615
  parts : o.parts.length ≤ 10000 ∧ ∀ p, p ∈ o.parts → 0 ≤ p ∧ p ≤ 10000
  texts : o.bucket.size ≤ 1024 ∧ o.key.size ≤ 1024 ∧ o.after.size ≤ 1024
  data : o.data.length ≤ 16777216
theorem bt_self (s : ByteArray) : bt s.data.toList = s := by cases s; simp [bt]
theorem text_at {d : ByteArray} (h : d.size ≤ 1024) (rest : List UInt8) (bad : Bool) : RS.text ⟨encB d.data.toList ++ rest, bad⟩ = (d, ⟨rest, bad⟩) := by
  unfold RS.text
  rw [bytes_at (by have : d.data.toList.length = d.size := by simp
                   omega)]
  simp only [bt_self]
theorem op_at {o : OM} (h : o.fine) : (RS.num ⟨opB o, false⟩).1 = 1 ∧ RS.op (RS.num ⟨opB o, false⟩).2 = (o, ⟨[], false⟩) := by
  have e : opB o = numB 1 ++ (numB o.id ++ (numB o.kind.toNat ++ (encB o.bucket.data.toList ++ (encB o.key.data.toList ++ (encB o.after.data.toList ++ (numB o.n.toNat ++ (numB o.upload ++ (numB (o.parts.map Int.toNat).length ++ ((o.parts.map Int.toNat).flatMap numB ++ (encB o.data ++ [])))))))))) := by
    simp [opB]
  have h1 := h.kind
  have h2 := h.n
  have h3 := h.parts
  rw [e, num_at (by omega)]
  refine ⟨rfl, ?_⟩
  unfold RS.op
  dsimp only
  rw [num_at h.id, int_at (by omega), text_at h.texts.1, text_at h.texts.2.1, text_at h.texts.2.2, int_at (by omega), num_at h.up, ints_at (by
    intro v hv
    obtain ⟨p, hp, rfl⟩ := List.mem_map.1 hv
    have := h3.2 p hp
    omega) (by rw [List.length_map]; omega), bytes_at (by have := h.data; omega)]
  dsimp only
  have e1 : (o.parts.map Int.toNat).map Int.ofNat = o.parts := by
    rw [List.map_map]
    conv => rhs; rw [← List.map_id o.parts]
    refine List.map_congr_left fun p hp => ?_
    have := h3.2 p hp
    show ((p.toNat : Nat) : Int) = p
    omega
  rw [e1, show ((o.kind.toNat : Nat) : Int) = o.kind by omega, show ((o.n.toNat : Nat) : Int) = o.n by omega]

theorem emp_size {s : ByteArray} (h : emp s = true) : s.size = 0 := by
  have e : s.data.toList.length = s.size := by simp
  have h1 : s.data.toList = [] := by simpa [emp] using h
  rw [h1] at e; exact e.symm
theorem name_size {s : ByteArray} (h : nameOK s.data.toList = true) : s.size ≤ 64 := by
  have e : s.data.toList.length = s.size := by simp
  simp only [nameOK, Bool.and_eq_true, decide_eq_true_eq] at h; omega
theorem parts_in {l : List Int} (h : partsOK l = true) : l.length ≤ 10000 ∧ ∀ p, p ∈ l → 0 ≤ p ∧ p ≤ 10000 := by
  simp only [partsOK, Bool.and_eq_true, decide_eq_true_eq] at h
  refine ⟨h.1.2, fun p hp => ?_⟩
  have hr := h.2
  unfold rises at hr
  rw [List.all_eq_true] at hr
  obtain ⟨i, hi, rfl⟩ := List.mem_iff_getElem.1 hp
  have := hr i (List.mem_range.2 hi)
  have hg : l.getD i 0 = l[i] := by rw [List.getD_eq_getElem?_getD, List.getElem?_eq_getElem hi]; rfl
  simp only [rise1, Bool.and_eq_true, decide_eq_true_eq, hg] at this
  omega
theorem no_parts {l : List Int} (h : l.length = 0) : l.length ≤ 10000 ∧ ∀ p, p ∈ l → 0 ≤ p ∧ p ≤ 10000 := by
  obtain rfl := List.eq_nil_of_length_eq_zero h
  exact ⟨by simp, by simp⟩
theorem chk_fine {o : OM} (hc : o.chkB = true) (hid : o.id ≤ 18446744073709551615) (hu : o.upload ≤ 18446744073709551615) : o.fine := by
  have hk := chk_kind hc
  have hl := chk_len hc
  have key : (0 ≤ o.n ∧ o.n ≤ 10000) ∧ (o.parts.length ≤ 10000 ∧ ∀ p, p ∈ o.parts → 0 ≤ p ∧ p ≤ 10000) ∧ (o.bucket.size ≤ 1024 ∧ o.key.size ≤ 1024 ∧ o.after.size ≤ 1024) := by
    rw [chk_eq] at hc
    unfold OM.chkR at hc
    split at hc
    · simp only [Bool.and_eq_true, decide_eq_true_eq] at hc
      obtain ⟨⟨⟨⟨⟨⟨a, b⟩, c⟩, d⟩, e⟩, f⟩, g⟩ := hc
      have := name_size a; have := emp_size b; have := emp_size c
      exact ⟨by omega, no_parts f, by omega⟩
    split at hc
    · simp only [Bool.and_eq_true, decide_eq_true_eq, longB] at hc
      obtain ⟨⟨⟨⟨⟨⟨a, b⟩, c⟩, d⟩, e⟩, f⟩, g⟩ := hc
      have := name_size a; have := emp_size c
      exact ⟨by omega, no_parts f, by omega⟩
    split at hc
    · simp only [Bool.and_eq_true, decide_eq_true_eq, longB] at hc
      obtain ⟨⟨⟨⟨⟨⟨a, b⟩, c⟩, d⟩, e⟩, f⟩, g⟩ := hc
      have := name_size a; have := emp_size c
      exact ⟨by omega, no_parts f, by omega⟩
    split at hc
    · simp only [Bool.and_eq_true, decide_eq_true_eq] at hc
      obtain ⟨⟨⟨⟨⟨⟨⟨a, b⟩, c⟩, d⟩, d2⟩, e⟩, f⟩, g⟩ := hc
      have := name_size a
      exact ⟨by omega, no_parts f, by omega⟩
    split at hc
    · simp only [Bool.and_eq_true, decide_eq_true_eq] at hc
      obtain ⟨⟨⟨⟨⟨⟨a, b⟩, c⟩, d⟩, d2⟩, f⟩, g⟩ := hc
      have := emp_size a; have := emp_size b; have := emp_size c
      exact ⟨by omega, no_parts f, by omega⟩
    split at hc
    · simp only [Bool.and_eq_true, decide_eq_true_eq] at hc
      obtain ⟨⟨⟨⟨⟨a, b⟩, c⟩, d⟩, f⟩, g⟩ := hc
      have := emp_size a; have := emp_size b; have := emp_size c
      exact ⟨by omega, parts_in f, by omega⟩
    split at hc
    · simp only [Bool.and_eq_true, decide_eq_true_eq] at hc
      obtain ⟨⟨⟨⟨⟨a, b⟩, c⟩, d⟩, f⟩, g⟩ := hc
      have := emp_size a; have := emp_size b; have := emp_size c
      exact ⟨by omega, no_parts f, by omega⟩
    · cases hc
  exact ⟨hid, ⟨by omega, hk.2⟩, key.1, hu, key.2.1, key.2.2, hl⟩
end Go.Proofs.YtidbcaimgahllaaGreat
namespace Go.X
set_option linter.unusedSectionVars false
set_option linter.unusedSimpArgs false
set_option linter.unusedVariables false

class OwnB (A : List Assn) (b : Nat) (E sz off n c : outParam Nat) (xs : outParam (List Value)) (D : outParam (List Assn)) : Prop where
  perm : A.Perm (own E sz (.slice (some ⟨b, off, none⟩) n c) xs :: D)
instance OwnB.head {A : List Assn} {b E sz off n c : Nat} {xs : List Value} : OwnB (own E sz (.slice (some ⟨b, off, none⟩) n c) xs :: A) b E sz off n c xs A := ⟨List.Perm.refl _⟩
instance (priority := 900) OwnB.tail {A D : List Assn} {Y : Assn} {b E sz off n c : Nat} {xs : List Value} [h : OwnB A b E sz off n c xs D] : OwnB (Y :: A) b E sz off n c xs (Y :: D) := ⟨(h.perm.cons Y).trans (List.Perm.swap _ _ _)⟩
instance OwnB.left {A B D : List Assn} {b E sz off n c : Nat} {xs : List Value} [h : OwnB A b E sz off n c xs D] : OwnB (A ++ B) b E sz off n c xs (D ++ B) := ⟨h.perm.append_right B⟩
theorem rdO {A D : List Assn} {b E sz off n c o j : Nat} {xs : List Value} {v : Value} [h : OwnB A b E sz off n c xs D] (hv : xs[j]? = some v) (ho : o = off + j) : Reads A b o v := by
  subst ho
  intro k s
  obtain ⟨k1, _, h1, _, _, u1, _⟩ := s.perm h.perm
  rcases h1 with ⟨e1, _⟩ | ⟨o', ho', hb⟩
  · cases e1
  · have hv' := ho'.val
    simp only [Value.slice.injEq, Option.some.injEq, Addr.mk.injEq, and_true] at hv'
    obtain ⟨⟨hb1, hb2⟩, _, _⟩ := hv'
    refine ⟨_, _, _, u1 _ _ (by rw [hb1]; exact hb), ?_⟩
    have := ho'.get j v hv
    rw [← hb2] at this
    simpa using this
theorem rnO {α : Type} {cl : α → List Value} {A D : List Assn} {b E sz off n c o i : Nat} {l : List α} {x : α} [h : OwnB A b E sz off n c (l.flatMap cl) D] (hc : ∀ x, (cl x).length = sz) (hx : l[i]? = some x) (ho : o = off + i * sz) : ReadsN A b o (cl x) := by
  intro j v hj
  exact rdO (j := i * sz + j) (flat_get hc hx hj) (by omega)
theorem rfO {α : Type} {cl : α → List Value} {A D : List Assn} {b E sz off n c o i : Nat} {l : List α} {x : α} {v : Value} (k : Nat) [h : OwnB A b E sz off n c (l.flatMap cl) D] (hc : ∀ x, (cl x).length = sz) (hx : l[i]? = some x) (hv : (cl x)[k]? = some v) (ho : o = off + (i * sz + k)) : Reads A b o v :=
  rdO (flat_get hc hx hv) ho

section
variable {P : Program} {L : Slots} {A D : List Assn} {ty T : TypeId} {x y : Operand}
theorem C.stNO {E sz b off n c o : Nat} (j : Nat) {xs vs : List Value} (hs : ∀ w, (sizeOf T).run P w = .ok vs.length w) (ex : ev L x = some (.pointer (some ⟨b, o, none⟩))) (ey : ev L y = some (.agg vs.toArray)) [h : OwnB A b E sz off n c xs D]
    (hoj : o = off + j) (hj : j + vs.length ≤ xs.length) (hv : vs.all oneC = true) : OpC P (.store T x y) ty L A (fun u B => u = undef ∧ B = own E sz (.slice (some ⟨b, off, none⟩) n c) (splice xs j vs) :: D) :=
  (C.stON (A := own E sz (.slice (some ⟨b, off, none⟩) n c) xs :: D) 0 hs ex ey rfl hoj hj (fun v hm => by rw [List.all_eq_true] at hv; exact hv v hm)).imp fun _ s => s.perm h.perm
theorem C.st1O {E sz b off n c o : Nat} (j : Nat) {xs : List Value} {v : Value} (hs : ∀ w, (sizeOf T).run P w = .ok 1 w) (ex : ev L x = some (.pointer (some ⟨b, o, none⟩))) (ey : ev L y = some v) (hv : oneC v = true) [h : OwnB A b E sz off n c xs D]
    (hoj : o = off + j) (hj : j + 1 ≤ xs.length) : OpC P (.store T x y) ty L A (fun u B => u = undef ∧ B = own E sz (.slice (some ⟨b, off, none⟩) n c) (xs.set j v) :: D) :=
  (C.stO (A := own E sz (.slice (some ⟨b, off, none⟩) n c) xs :: D) 0 hs ex ey hv rfl hoj hj).imp fun _ s => s.perm h.perm
end

class OwnAt (A : List Assn) (v : Value) (E sz : Nat) (xs : outParam (List Value)) (D : outParam (List Assn)) : Prop where
  imp : ∀ h, HSat h A → HSat h (own E sz v xs :: D)
instance OwnAt.head {A : List Assn} {v : Value} {E sz : Nat} {xs : List Value} : OwnAt (own E sz v xs :: A) v E sz xs A := ⟨fun _ s => s⟩
instance OwnAt.zero {A : List Assn} {b E sz : Nat} {z : Nat × Nat} : OwnAt (pt b (.cells ([] : List Value).toArray E z) :: A) (.slice (some ⟨b, 0, none⟩) 0 0) E sz [] A := ⟨fun _ s => HSat.imp s own_of_zero⟩
instance (priority := 900) OwnAt.tail {A D : List Assn} {Y : Assn} {v : Value} {E sz : Nat} {xs : List Value} [h : OwnAt A v E sz xs D] : OwnAt (Y :: A) v E sz xs (Y :: D) :=
  ⟨fun _ s => (HSat.under s fun k q => h.imp k q).perm (List.Perm.swap _ _ _)⟩
section
variable {P : Program} {L : Slots} {A D : List Assn} {W0 : World} {N : Nat} {l : List Oper} {NQ : List Nat} {Q : Exit → Act → World → Prop} {S : List Nat} {Dm Em : List Assn}
theorem C.appI {E sz n c m c2 : Nat} {T T' E2 : TypeId} {ti : TypeInfo} {zv : Value} {p p2 : Option Addr} {xs ys : List Value} {x y : Operand} {ty : TypeId}
    (ht : ∀ w, (underlying T).run P w = .ok (.slice E) w) (ht2 : ∀ w, (underlying T').run P w = .ok (.slice E2) w)
    (hi : ∀ w, (typeInfo E).run P w = .ok ti w) (hs : ∀ w, (sizeOf E).run P w = .ok sz w) (hz : ∀ w, (zeroValue E).run P w = .ok zv w) (hzs : zv.cells.size = sz)
    (ex : evs L [x, y] = some [.slice p n c, .slice p2 m c2]) [h : OwnAt A (.slice p n c) E sz xs D]
    (hsrc : SlR (own E sz (.slice p n c) xs :: D) sz (.slice p2 m c2) ys) (hone : ∀ v, v ∈ ys → oneC v = true)
    (hfit : (n + m) * ti.bytes ≤ 140737488355328) (hb0 : ti.bytes ≠ 0) :
    OpC P (.call { callee := .builtin .append, args := #[x, y], argTypes := #[T, T'] }) ty L A (fun v B => ∃ p' c', v = .slice p' (n + m) c' ∧ B = own E sz (.slice p' (n + m) c') (xs ++ ys) :: D) :=
  (C.app (A := own E sz (.slice p n c) xs :: D) (i := 0) ht ht2 hi hs hz hzs ex rfl hsrc hone hfit hb0).imp h.imp
theorem RGi.appI {i : Nat} {d E sz n c m c2 : Nat} {T T' E2 : TypeId} {ti : TypeInfo} {zv : Value} {p p2 : Option Addr} {xs ys : List Value} {x y : Operand} {ty : TypeId} {pos : String} {aft : Array Edge} {g : Option (Nat × Bool)}
    (ho : l[i]? = some ⟨some d, .call { callee := .builtin .append, args := #[x, y], argTypes := #[T, T'] }, ty, pos, aft, g⟩)
    (hi : memN i NQ = true) (hN : Nat.blt d N = true) (hg : guardL l.toArray g L = some true)
    (ht : ∀ w, (underlying T).run P w = .ok (.slice E) w) (ht2 : ∀ w, (underlying T').run P w = .ok (.slice E2) w)
    (hti : ∀ w, (typeInfo E).run P w = .ok ti w) (hs : ∀ w, (sizeOf E).run P w = .ok sz w) (hz : ∀ w, (zeroValue E).run P w = .ok zv w) (hzs : zv.cells.size = sz)
    (ex : evs L [x, y] = some [.slice p n c, .slice p2 m c2]) [h : OwnAt Em (.slice p n c) E sz xs D]
    (hsrc : SlR (own E sz (.slice p n c) xs :: (Dm ++ D)) sz (.slice p2 m c2) ys) (hone : ∀ v, v ∈ ys → oneC v = true)
    (hfit : (n + m) * ti.bytes ≤ 140737488355328) (hb0 : ti.bytes ≠ 0)
    (k : ∀ p' c', RG P W0 N l NQ Q (i :: S) ((d, .slice p' (n + m) c') :: L) Dm (own E sz (.slice p' (n + m) c') (xs ++ ys) :: D)) : RGi P W0 N l NQ Q S L Dm Em i := by
  have im : ∀ k, HSat k (Dm ++ Em) → HSat k (own E sz (.slice p n c) xs :: (Dm ++ D)) := by
    intro k s
    obtain ⟨h1, h2, a, b, d, u, v⟩ := s.append
    exact (HSat.of_append a (h.imp _ b) d u v).perm List.perm_middle
  refine RGi.one ho hi hN hg ((C.app (A := own E sz (.slice p n c) xs :: (Dm ++ D)) (i := 0) ht ht2 hti hs hz hzs ex rfl hsrc hone hfit hb0).imp im) ?_
  rintro v B ⟨p', c', rfl, rfl⟩
  exact ⟨_, List.perm_middle.symm, k p' c'⟩
end

section
variable {P : Program} {fn : Func} {N : Nat} {W0 : World} {L : Slots} {A B D : List Assn} {F : Assn} {R : Value → List Assn → Prop} {s t : Nat} {T : TypeId} {b : Nat} {vs : List Value} {u : Value} {G : Act → World → Prop}
theorem J.retCI (B : List Assn) (hr : fn.results = #[.cell s T]) (hv : find s L = some (.pointer (some ⟨b, 0, none⟩))) (ha : ∀ w, (isAgg T).run P w = .ok true w) (hs : ∀ w, (sizeOf T).run P w = .ok vs.length w) (hrd : ReadsN A b 0 vs)
    (hR : R (.agg vs.toArray) B) [h : PickL A (B ++ [F]) D] : J W0 N L A (bodyPost P fn (RetQ W0 R F) .ret) := by
  refine ⟨fun a w f t => ?_⟩
  have hg : (a.tmps[s]?).getD undef = .pointer (some ⟨b, 0, none⟩) := by rw [f.get s _ hv]; rfl
  have hres : (results fn a.tmps).run P w = .ok (.agg vs.toArray) w := by
    simp [results, hr, hg, asAddr, run_loadAgg ha hs hrd t]
  exact bodyPost_ret hres f.defers ⟨_, B, rfl, hR, t.imp fun k q => HSat.keepI (A := A) (F := D) q⟩
theorem J.retC2I (B : List Assn) (hr : fn.results = #[.cell s T, .tmp t]) (hv : find s L = some (.pointer (some ⟨b, 0, none⟩))) (ht : find t L = some u) (ha : ∀ w, (isAgg T).run P w = .ok true w) (hs : ∀ w, (sizeOf T).run P w = .ok vs.length w) (hrd : ReadsN A b 0 vs)
    (hR : R (.tuple #[.agg vs.toArray, u]) B) [h : PickL A (B ++ [F]) D] : J W0 N L A (bodyPost P fn (RetQ W0 R F) .ret) := by
  refine ⟨fun a w f q => ?_⟩
  have hg : (a.tmps[s]?).getD undef = .pointer (some ⟨b, 0, none⟩) := by rw [f.get s _ hv]; rfl
  have hg2 : (a.tmps[t]?).getD undef = u := by rw [f.get t _ ht]; rfl
  have hres : (results fn a.tmps).run P w = .ok (.tuple #[.agg vs.toArray, u]) w := by
    simp [results, hr, hg, hg2, asAddr, run_loadAgg ha hs hrd q]
  exact bodyPost_ret hres f.defers ⟨_, B, rfl, hR, q.imp fun k q => HSat.keepI (A := A) (F := D) q⟩
theorem J.focusI {α : Type} {f : α → Assn} {l : List α} (k : Nat) {x : α} (hk : l[k]? = some x) [h : PickO A (star (l.map f)) D] (j : J W0 N L (f x :: star ((l.eraseIdx k).map f) :: D) G) : J W0 N L A G :=
  j.imp fun q s => by
    have s1 := HSat.unpack (s.perm h.perm)
    have s2 : HSat q ((f x :: (l.eraseIdx k).map f) ++ D) := s1.perm ((perm_focus f hk).append_right D)
    exact HSat.under (A := f x) s2 (fun _ s => HSat.pack s)
theorem J.unfocusI {α : Type} {f : α → Assn} {l : List α} (k : Nat) (x : α) (hk : k < l.length) [h : PickL A [f x, star ((l.eraseIdx k).map f)] D] (j : J W0 N L (star ((l.set k x).map f) :: D) G) : J W0 N L A G :=
  j.imp fun q s => by
    have s1 := s.perm h.perm
    have s2 : HSat q (f x :: ((l.eraseIdx k).map f ++ D)) := HSat.under (A := f x) s1 (fun _ s => HSat.unpack s)
    exact HSat.pack (HSat.perm (As := (f x :: (l.eraseIdx k).map f) ++ D) ((perm_unfocus f hk).append_right D) s2)
theorem J.unpackI (Bs : List Assn) [h : PickO A (star Bs) D] (j : J W0 N L (Bs ++ D) G) : J W0 N L A G := (j.imp fun _ s => HSat.unpack s).perm h.perm
theorem J.openI {α : Type} (U : Assn) {Bs : α → List Assn} {p : α → Prop} (f : ∀ h, U h → ∃ x, p x ∧ HSat h (Bs x)) [h : PickO A U D] (j : ∀ x, p x → J W0 N L (Bs x ++ D) G) : J W0 N L A G :=
  by
  refine ⟨fun a w u s => ?_⟩
  obtain ⟨h1, h2, hb, hd, d, s1, s2⟩ := s.heap.perm h.perm
  obtain ⟨x, px, hx⟩ := f h1 hb
  exact (j x px).run a w u ⟨s.os, s.tape, s.out, HSat.of_append hx hd d s1 s2⟩
end
end Go.X
namespace Go.X
theorem SlR.ptI {D : List Assn} {b n c sz : Nat} {l : List Value} {e : TypeId} {z : Nat × Nat} {KK : Obj → List Assn} [h : AtPt D b (.cells l.toArray e z) KK] (hl : l.length = n * sz) : SlR D sz (.slice (some ⟨b, 0, none⟩) n c) l := by
  obtain ⟨i, h1, _⟩ := h.at_
  exact SlR.pt i h1 hl (fun j u hj => by rw [Nat.zero_add]; exact hj)
theorem flat_one {α : Type} {cl : α → List Value} (h : ∀ x v, v ∈ cl x → oneC v = true) {l : List α} : ∀ v, v ∈ l.flatMap cl → oneC v = true := by
  intro v hv
  obtain ⟨x, _, hx⟩ := List.mem_flatMap.1 hv
  exact h x v hx
theorem take_one {xs : List Value} {n : Nat} (h : ∀ v, v ∈ xs → oneC v = true) : ∀ v, v ∈ xs.take n → oneC v = true := fun v hv => h v (List.mem_of_mem_take hv)
theorem drop_one {xs : List Value} {n : Nat} (h : ∀ v, v ∈ xs → oneC v = true) : ∀ v, v ∈ xs.drop n → oneC v = true := fun v hv => h v (List.mem_of_mem_drop hv)
theorem flat_same {α : Type} {cl : α → List Value} {l : List α} {j : Nat} {y z : α} (hy : l[j]? = some y) (e : cl z = cl y) : (l.set j z).flatMap cl = l.flatMap cl := by
  obtain ⟨h1, h2⟩ := List.getElem?_eq_some_iff.1 hy
  rw [List.set_eq_take_append_cons_drop, if_pos h1, List.flatMap_append, List.flatMap_cons, e]
  conv => rhs; rw [← List.take_append_drop j l, List.drop_eq_getElem_cons h1, h2]
  rw [List.flatMap_append, List.flatMap_cons]
end Go.X
namespace Go.X
theorem rnOd {α : Type} {cl : α → List Value} {A D : List Assn} {b E sz off n c o i : Nat} {l : List α} {x : α} {vs : List Value} (d : Nat) [h : OwnB A b E sz off n c (l.flatMap cl) D] (hc : ∀ x, (cl x).length = sz) (hx : l[i]? = some x)
    (hv : ∀ (k : Nat) v, vs[k]? = some v → (cl x)[k + d]? = some v) (ho : o = off + (i * sz + d)) : ReadsN A b o vs := by
  intro j v hj
  exact rdO (j := i * sz + (j + d)) (flat_get hc hx (hv j v hj)) (by omega)
theorem Reads.inI {D F : List Assn} {X : Assn} {b o : Nat} {v : Value} (h : Reads [X] b o v) [k : PickO D X F] : Reads D b o v := by
  obtain ⟨i, hi⟩ := List.getElem?_of_mem (k.perm.mem_iff.2 List.mem_cons_self)
  exact h.within hi
theorem J.slrStarI {W0 : World} {N : Nat} {L : Slots} {A D : List Assn} {G : Act → World → Prop} {α : Type} {f : α → Assn} {l : List α} {E sz : Nat} {p : Option Addr} {n c : Nat} {xs : List Value} {x : α} (k : Nat) (hx : l[k]? = some x)
    (hf : f x = own E sz (.slice p n c) xs) [h : PickO A (star (l.map f)) D] (j : SlR [star (l.map f)] sz (.slice p n c) xs → J W0 N L A G) : J W0 N L A G := by
  obtain ⟨i, hi⟩ := List.getElem?_of_mem (h.perm.mem_iff.2 List.mem_cons_self)
  exact J.slrStar i k hi hx hf j
end Go.X
namespace Go.X.G
set_option linter.unusedSectionVars false
set_option linter.unusedSimpArgs false
set_option linter.unusedVariables false
variable {κ ν : Type} [DecidableEq κ]
section ops
variable {P : Program} {L : Slots} {A D F : List Assn} {ty T K E : TypeId} {x y z : Operand} {enc : κ → Value} {rep : κ → ν → Value → Assn} {S : List (κ × ν)} {es : List (Ent κ ν)} {c : Nat} {K1 K2 : Obj → List Assn}
theorem C.mapPutI {lt : κ → κ → Bool} {r : Nat} {k : κ} {val : Value} (rep : κ → ν → Value → Assn) (S : List (κ × ν)) (v : ν) (o : Ord3 lt) (hS : Srtd lt S) (hT : ∀ w, (underlying T).run P w = .ok (.map K E) w) (hk : Keyed P K enc) (ex : ev L x = some (.map (some r))) (ey : ev L y = some (enc k)) (ez : ev L z = some val)
    [h : PickO A (MapAt enc rep r S) D] : OpC P (.mapUpdate T x y z) ty L A (fun u B => u = undef ∧ B = MapHole enc rep r (sput lt k v S) k val :: D) :=
  (C.mapPut (A := MapAt enc rep r S :: D) (rep := rep) 0 v o hS hT hk ex ey ez rfl).imp fun _ s => s.perm h.perm
end ops
section
variable {W0 : World} {N : Nat} {L : Slots} {A D : List Assn} {Gl : Act → World → Prop} {enc : κ → Value} {rep : κ → ν → Value → Assn} {r : Nat} {S : List (κ × ν)} {k : κ} {val : Value} {lt : κ → κ → Bool}
end
variable {lt : κ → κ → Bool} {S T : List (κ × ν)} {es : List (Ent κ ν)} {c : Nat} {seen : List Nat} {e : Ent κ ν}
end Go.X.G
namespace Go.X
theorem J.tellsI {W0 : World} {N : Nat} {L : Slots} {A D : List Assn} {G : Act → World → Prop} (X : Assn) {p : Prop} [k : PickO A X D] (f : ∀ h, X h → p) (h : p → J W0 N L A G) : J W0 N L A G := by
  obtain ⟨i, hi⟩ := List.getElem?_of_mem (k.perm.mem_iff.2 List.mem_cons_self)
  exact J.tells i hi f h
end Go.X
namespace Go.X
set_option linter.unusedSectionVars false
set_option linter.unusedSimpArgs false
set_option linter.unusedVariables false
section
variable {P : Program} {L : Slots} {D A F Ain : List Assn} {ty : TypeId} {x y : Operand} {k : IntKind} {a : Int} {R : Value → List Assn → Prop} {f : FuncId} {argTypes : Array TypeId}
theorem Q.maxI {m : Int} {ts : Array TypeId} (e : evs L [x, y] = some [.int k a, .int k m]) : OpQ P (.call { callee := .builtin .max, args := #[x, y], argTypes := ts }) ty L D (.int k (if m > a then m else a)) :=
  OpQ.built (xs := [x, y]) e fun w cs => by simp [builtin, Builtin.max_, Builtin.max2]
theorem Q.slL0 {T E len cap sz : Nat} {p : Option Addr} {l : Operand} (hu : ∀ w, (underlying T).run P w = .ok (.slice E) w) (hs : ∀ w, (sizeOf E).run P w = .ok sz w) (ex : ev L x = some (.slice p len cap)) (el : ev L l = some (.int k 0)) :
    OpQ P (.slice T x (some l) none none) ty L D (.slice p len cap) :=
  .pure_ fun _ _ _ _ a w ag => by
    have e1 := ag.at_ ex (by simp [Op.operands])
    have e2 := ag.at_ el (by simp [Op.operands])
    simp [execOp, e1, e2, Instr.sliceAt, Instr.slice, hu, Instr.sliceBounds, Instr.sliceBound, asIntOf, hs]
    by_cases hc : cap = 0 <;> cases p <;> simp [hc, Addr.add]
theorem slr_tail {T E : TypeId} (hu : ∀ w, (underlying T).run P w = .ok (.slice E) w) (hs : ∀ w, (sizeOf E).run P w = .ok 1 w) {D0 : List Assn} {p : Option Addr} {n c j : Nat} {xs : List Value} (h : SlR D0 1 (.slice p n c) xs) (hk : j ≤ n) (hc : n ≤ c) :
    ∃ p' c', SlR D0 1 (.slice p' (n - j) c') (xs.drop j) ∧ n - j ≤ c' ∧ ∀ {L : Slots} {D : List Assn} {ty : TypeId} {x l : Operand} {ik : IntKind}, ev L x = some (.slice p n c) → ev L l = some (.int ik (j : Int)) → OpQ P (.slice T x (some l) none none) ty L D (.slice p' (n - j) c') := by
  by_cases e : n = 0
  · subst e
    obtain rfl : j = 0 := by omega
    exact ⟨p, c, h, hc, fun ex el => Q.slL0 hu hs ex el⟩
  · have hl := h.len
    obtain ⟨b, off, rfl, hrd⟩ := h.some_ (by omega)
    refine ⟨some ⟨b, off + (if c = j then 0 else j) * 1, none⟩, c - j, ?_, by omega, fun ex el => by
      rename_i L D ty x l ik
      have := Q.slL (P := P) (D := D) (ty := ty) hu hs ex el (by omega) (by omega)
      simpa using this⟩
    by_cases e2 : n = j
    · refine .inl ⟨_, c - j, by rw [show n - j = 0 by omega], ?_⟩
      exact List.drop_eq_nil_of_le (by omega)
    · rw [if_neg (by omega), Nat.mul_one]
      refine .inr ⟨b, off + j, n - j, c - j, rfl, by rw [List.length_drop]; omega, fun i u hu => ?_⟩
      rw [List.getElem?_drop] at hu
      have := hrd (j + i) u hu
      rwa [← Nat.add_assoc] at this
theorem OpC.callvP {t : Tmp} {xs : List Operand} {args first cap : List Value} (hc : ∀ (args : Array Value) (w : World), (callFunc f args).run P w = .ok (.enter f args) w)
    (hv : find t L = some (.func (.func f) first.toArray cap.toArray)) (he : evs L xs = some args) (hs : FSpec P f (first ++ args ++ cap) Ain R) [hp : PickL A Ain F] :
    OpC P (.call { callee := .value (.tmp t), args := xs.toArray, argTypes }) ty L A (fun v B => ∃ B1, R v B1 ∧ B = B1 ++ F) := by
  refine ⟨fun dst pos aft g a W0 w ag s K Q k => ?_⟩
  have hx : xs.map a.eval = args := evs_map (fun x hx => ag x (by simp [Op.operands, Call.operands, hx])) he
  have ha : (xs.toArray).map a.eval = args.toArray := by simp [hx]
  have hf : a.eval (.tmp t) = .func (.func f) first.toArray cap.toArray := ag _ (by simp [Op.operands, Call.operands]) _ hv
  unfold Oper.wp
  have hrun : (execOp a.eval ⟨dst, .call { callee := .value (.tmp t), args := xs.toArray, argTypes }, ty, pos, aft, g⟩).run P w = .ok (.enter f (first ++ args ++ cap).toArray) w := by
    simp only [execOp, resolve, hf, Deferred.ofValue, invoke, Sem.run_bind, Sem.run_pure, Result.andThen_ok, ha]
    simpa using hc (first ++ args ++ cap).toArray w
  rw [hrun, Oper.upon_enter]
  have s' : Sat W0 w (Ain ++ [star F]) := by
    refine (s.perm hp.perm).imp fun k t => ?_
    obtain ⟨h1, h2, p, q, d, u, v⟩ := t.append
    exact HSat.of_append p (Bs := [star F]) ⟨h2, fun _ => none, q, trivial, fun _ => Or.inr rfl, Sub.refl _, fun _ _ e => nomatch e⟩ d u v
  refine (hs.call W0 w (star F) s').mono ?_
  rintro e w' ⟨v, B, rfl, r, t⟩
  refine k v (B ++ F) w' ⟨B, r, rfl⟩ (t.imp fun k t => ?_)
  obtain ⟨h1, h2, p, ⟨k1, k2, q, _, _, s1, _⟩, d, u, v⟩ := t.append
  exact HSat.of_append p (HSat.mono q s1) d u v
end

theorem Q.eql2 {P : Program} {L : Slots} {D : List Assn} {ty T T' : TypeId} {x y : Operand} {f g : Field} {k1 k2 : IntKind} {a b c d : Int} (hT : P.underlying T = some (.struct #[f, g])) (hs : P.stoodInHeld T = false) (hg : P.eqGuardType P.depth T = false)
    (h1 : P.underlying f.type = some (.int k1)) (h2 : P.underlying g.type = some (.int k2)) (a1 : ∀ w, (isAgg f.type).run P w = .ok false w) (a2 : ∀ w, (isAgg g.type).run P w = .ok false w) (n1 : (f.name == "_") = false) (n2 : (g.name == "_") = false) (o1 : f.offset = 0) (o2 : g.offset = 1)
    (ex : ev L x = some (.agg #[.int k1 a, .int k2 b])) (ey : ev L y = some (.agg #[.int k1 c, .int k2 d])) : OpQ P (.binOp .eql T x y T') ty L D (.bool (decide (a = c) && decide (b = d))) :=
  Q.bin ex ey fun w => by
    have hf : P.fieldsOf T = #[f, g] := by unfold Program.fieldsOf; rw [hT]
    have m1 : f.name ≠ "_" := by simpa using n1
    have m2 : g.name ≠ "_" := by simpa using n2
    rw [Sem.run_bind, run_eqGuard_agg w .eql T x y _ _ hg, Result.andThen_ok, run_eql_struct, run_equalIn_struct w 9999 T _ _ (by rw [hf]; exact hT) hs, hf]
    have e1 : (Op.equalIn 9999 f.type (.int k1 a) (.int k1 c)).run P w = .ok (a == c) w := run_equalIn_int (P := P) w 9998 f.type k1 k1 a c h1
    have e2 : (Op.equalIn 9999 g.type (.int k2 b) (.int k2 d)).run P w = .ok (b == d) w := run_equalIn_int (P := P) w 9998 g.type k2 k2 b d h2
    simp [Op.eqFields, m1, m2, part, a1, a2, o1, o2, e1, e2]
    by_cases hac : a = c <;> by_cases hbd : b = d <;> simp [hac, hbd]

section
variable {P : Program} {fn : Func} {N : Nat} {W0 : World} {L : Slots} {A B D : List Assn} {F : Assn} {R : Value → List Assn → Prop} {s s2 t t2 : Nat} {T T2 : TypeId} {b b2 : Nat} {vs vs2 : List Value} {u u2 : Value}
theorem J.retC4I (B : List Assn) (hr : fn.results = #[.cell s T, .cell s2 T2, .tmp t, .tmp t2]) (hv : find s L = some (.pointer (some ⟨b, 0, none⟩))) (hv2 : find s2 L = some (.pointer (some ⟨b2, 0, none⟩))) (ht : find t L = some u) (ht2 : find t2 L = some u2)
    (ha : ∀ w, (isAgg T).run P w = .ok true w) (hs : ∀ w, (sizeOf T).run P w = .ok vs.length w) (hrd : ReadsN A b 0 vs) (ha2 : ∀ w, (isAgg T2).run P w = .ok true w) (hs2 : ∀ w, (sizeOf T2).run P w = .ok vs2.length w) (hrd2 : ReadsN A b2 0 vs2)
    (hR : R (.tuple #[.agg vs.toArray, .agg vs2.toArray, u, u2]) B) [h : PickL A (B ++ [F]) D] : J W0 N L A (bodyPost P fn (RetQ W0 R F) .ret) := by
  refine ⟨fun a w f q => ?_⟩
  have hg : (a.tmps[s]?).getD undef = .pointer (some ⟨b, 0, none⟩) := by rw [f.get s _ hv]; rfl
  have hg2 : (a.tmps[s2]?).getD undef = .pointer (some ⟨b2, 0, none⟩) := by rw [f.get s2 _ hv2]; rfl
  have hg3 : (a.tmps[t]?).getD undef = u := by rw [f.get t _ ht]; rfl
  have hg4 : (a.tmps[t2]?).getD undef = u2 := by rw [f.get t2 _ ht2]; rfl
  have hres : (results fn a.tmps).run P w = .ok (.tuple #[.agg vs.toArray, .agg vs2.toArray, u, u2]) w := by
    simp [results, hr, hg, hg2, hg3, hg4, asAddr, run_loadAgg ha hs hrd q, run_loadAgg ha2 hs2 hrd2 q]
  exact bodyPost_ret hres f.defers ⟨_, B, rfl, hR, q.imp fun k q => HSat.keepI (A := A) (F := D) q⟩
end

section
variable {D F : List Assn} {b o : Nat} {X : Assn} {vs l : List Value} {e : TypeId} {z : Nat × Nat} {KK : Obj → List Assn}
theorem ReadsN.inI (h : ReadsN [X] b o vs) [k : PickO D X F] : ReadsN D b o vs := by
  obtain ⟨i, hi⟩ := List.getElem?_of_mem (k.perm.mem_iff.2 List.mem_cons_self)
  exact h.within hi
theorem rnSub (k : Nat) [h : AtPt D b (.cells l.toArray e z) KK] (hv : (l.drop k).take vs.length = vs) : ReadsN D b k vs := by
  intro j u hu
  have hj := (List.getElem?_eq_some_iff.1 hu).1
  have : l[k + j]? = some u := by
    rw [← List.getElem?_drop, ← List.getElem?_take_of_lt hj, hv]; exact hu
  exact rdI this
theorem star_snoc {α : Type} {f : α → Assn} {l : List α} (x : α) : ∀ h, HSat h [f x, star (l.map f)] → star ((l ++ [x]).map f) h := by
  intro h s
  have := star_ins1 (f := f) (l := l) l.length x h s
  simpa using this
end

section
variable {P : Program} {W0 : World} {N : Nat} {l : List Oper} {NQ : List Nat} {Q : Exit → Act → World → Prop} {S : List Nat} {L : Slots} {D E : List Assn}
variable {ty : TypeId} {pos : String} {aft : Array Edge} {g : Option (Nat × Bool)} {T : TypeId} {x y : Operand} {b off : Nat} {m m' : List Value} {e : TypeId} {z : Nat × Nat} {v : Value} {B : List Assn} {KK : Obj → List Assn}
end

namespace G
variable {κ ν : Type} [DecidableEq κ]
def valRep (f : ν → Value) (_ : κ) (v : ν) (val : Value) : Assn := fun _ => val = f v
section
variable {P : Program} {L : Slots} {A D F : List Assn} {ty : TypeId} {T K E : TypeId} {x y z : Operand} {enc : κ → Value} {lt : κ → κ → Bool} {r : Nat} {k : κ} {f : ν → Value}
theorem val_shut {S : List (κ × ν)} {v : ν} (o : Ord3 lt) (hS : Srtd lt S) : ∀ h, MapHole enc (valRep f) r S k (f v) h → MapAt enc (valRep f) r (sput lt k v S) h := fun h hh =>
  MapHole.back (rep := valRep f) (v' := v) o hS h (HSat.two (h1 := fun _ => none) (show valRep f k v (f v) (fun _ => none) from rfl) hh (fun _ => Or.inl rfl) (fun _ _ e => nomatch e) (Sub.refl _))
theorem val_focus {S : List (κ × ν)} {v : ν} (hv : sget k S = some v) : ∀ h, MapAt enc (valRep f) r S h → ∃ x : Unit, True ∧ HSat h [MapHole enc (valRep f) r S k (f v)] := by
  intro h hh
  obtain ⟨val, h1, h2, e, ⟨k1, k2, q, _, _, s1, _⟩, d, s, t⟩ := MapAt.focus hv h hh
  have e' : val = f v := e
  subst e'
  exact ⟨(), trivial, HSat.mono (HSat.one q) (s1.trans t)⟩
theorem val_back {S : List (κ × ν)} {v : ν} (o : Ord3 lt) (hS : Srtd lt S) (hv : sget k S = some v) : ∀ (x : Unit), True → ∀ h, HSat h [MapHole enc (valRep f) r S k (f v)] → MapAt enc (valRep f) r S h := by
  rintro _ _ h ⟨k1, k2, q, _, _, s1, _⟩
  have h1 : HSat h [MapHole enc (valRep f) r S k (f v)] := HSat.mono (HSat.one q) s1
  obtain ⟨j1, j2, a, b, c, e, g⟩ := h1
  have := val_shut o hS j1 a
  rw [sput_same o hS hv] at this
  obtain ⟨x, p1, p2⟩ := this
  exact ⟨x, p1, p2.mono e⟩
theorem Q.lkV (S : List (κ × ν)) {zv : Value} (o : Ord3 lt) (hS : Srtd lt S) (hT : ∀ w, (underlying T).run P w = .ok (.map K E) w) (hk : Keyed P K enc) (hz : ∀ w, (zeroValue E).run P w = .ok zv w) (ex : ev L x = some (.map (some r))) (ey : ev L y = some (enc k))
    [h : PickO D (MapAt enc (valRep f) r S) F] : OpQ P (.lookup T x y false) ty L D (((sget k S).map f).getD zv) := by
  obtain ⟨i, hi⟩ := List.getElem?_of_mem (h.perm.mem_iff.2 List.mem_cons_self)
  cases hv : sget k S with
  | none => exact Q.lkNo hT hk hz ex ey hi hv
  | some v => exact OpQ.opened (α := Unit) (Bs := fun _ => [MapHole enc (valRep f) r S k (f v)]) (p := fun _ => True) hi (val_focus hv) (val_back o hS hv) (fun _ _ => Q.lkYes (i := 0) hT hk hz ex ey rfl)
theorem Q.lk2V (S : List (κ × ν)) {zv : Value} (o : Ord3 lt) (hS : Srtd lt S) (hT : ∀ w, (underlying T).run P w = .ok (.map K E) w) (hk : Keyed P K enc) (hz : ∀ w, (zeroValue E).run P w = .ok zv w) (ex : ev L x = some (.map (some r))) (ey : ev L y = some (enc k))
    [h : PickO D (MapAt enc (valRep f) r S) F] : OpQ P (.lookup T x y true) ty L D (.tuple #[((sget k S).map f).getD zv, .bool (sget k S).isSome]) := by
  obtain ⟨i, hi⟩ := List.getElem?_of_mem (h.perm.mem_iff.2 List.mem_cons_self)
  cases hv : sget k S with
  | none => exact Q.lk2No hT hk hz ex ey hi hv
  | some v => exact OpQ.opened (α := Unit) (Bs := fun _ => [MapHole enc (valRep f) r S k (f v)]) (p := fun _ => True) hi (val_focus hv) (val_back o hS hv) (fun _ _ => Q.lk2Yes (i := 0) hT hk hz ex ey rfl)
theorem C.putV (f : ν → Value) (S : List (κ × ν)) (v : ν) (o : Ord3 lt) (hS : Srtd lt S) (hT : ∀ w, (underlying T).run P w = .ok (.map K E) w) (hk : Keyed P K enc) (ex : ev L x = some (.map (some r))) (ey : ev L y = some (enc k)) (ez : ev L z = some (f v))
    [h : PickO A (MapAt enc (valRep f) r S) D] : OpC P (.mapUpdate T x y z) ty L A (fun u B => u = undef ∧ B = MapAt enc (valRep f) r (sput lt k v S) :: D) := by
  refine (C.mapPutI (rep := valRep f) S v o hS hT hk ex ey ez).shutTo ?_
  rintro u B ⟨rfl, rfl⟩
  refine ⟨_, ⟨rfl, rfl⟩, fun h s => HSat.imp s fun h hh => ?_⟩
  have := val_shut (v := v) o (srtd_put o hS k v) h hh
  rwa [sput_put o hS] at this
end
end G
end Go.X
namespace Go.Proofs.YtidbcaimgahllaaGreat
open Go.Proofs.Tryz
open Go.X

def smallB (w : Nat) : Bool := decide (w < 128)

theorem readNumber_spec (G : Assn) (p : Option Addr) (n c : Nat) (bs : List UInt8) (hr : SlR [G] 1 (.slice p n c) (bytesV bs)) (hn : n ≤ 1099511627776) :
    FSpec Tryz.prog 67 [.slice p n c] [G] (fun u B => u = .tuple #[.int .u64 (rdN bs).1, .int .i64 (rdN bs).2.1, .int .i64 (rdN bs).2.2] ∧ B = [G]) := by
  have hlen : bs.length = n := by have := hr.len; simp [bytesV] at this; omega
  refine FSpec.of func67 rfl ntmps67 rfl fun W0 F => ?_
  refine J.seq <| J.region <| J.p rfl (Q.asg rfl) <| J.p rfl (Q.asg rfl) <| J.p rfl (Q.asg rfl) <| J.nil <| J.then_n <| J.seq <| J.region <| J.p rfl (Q.asg rfl) <| J.nil <| J.then_n <| J.seq <| J.seq <| J.region <| J.m rfl <| J.p rfl (Q.lenSl runUnderlying42 rfl) <| J.m rfl <| J.nil <| J.then_n <| J.block ?_
  refine J.loop (fun z : Nat × Nat => z.1 ≤ n ∧ z.1 ≤ 9 ∧ rdGo z.1 z.2 (bs.drop z.1) = rdN bs ∧ z.2 < 2 ^ (7 * z.1)) (fun z => n - z.1) (fun z => [(0, .slice p n c), (5, .int .u64 z.2), (8, .slice p n c), (9, .int .i64 n), (10, .int .i64 z.1)]) (fun _ => [G, F]) (0, 0) ⟨Nat.zero_le _, Nat.zero_le _, rfl, by show 0 < 2 ^ 0; decide⟩ ⟨rfl, rfl, rfl, rfl, rfl, trivial⟩ rfl fun z hz => ?_
  obtain ⟨i, acc⟩ := z
  obtain ⟨h1, h2, h3, h4⟩ := hz
  dsimp only at h1 h2 h3 h4
  refine J.seq <| J.region <| J.p rfl (Q.lss rfl rfl) <| J.nil <| J.then_n <| J.seq ?_
  refine J.kases 11 rfl (fun hc11 => ?_) (fun hc11 => ?_)
  ·
   refine J.cond_t rfl <| J.cskip <| J.then_n <| J.seq <| J.block <| J.seq ?_
   have hil : i < n := by omega
   obtain ⟨b, off, hp, hrd⟩ := hr.some_ (by omega)
   obtain ⟨u8, hu8⟩ : ∃ u8, bs[i]? = some u8 := ⟨_, List.getElem?_eq_getElem (by omega)⟩
   have hd : bs.drop i = u8 :: bs.drop (i + 1) := by
    obtain ⟨q1, q2⟩ := List.getElem?_eq_some_iff.1 hu8
    rw [List.drop_eq_getElem_cons q1, q2]
   obtain ⟨c0, hc0⟩ : ∃ c0, c0 = u8.toNat := ⟨_, rfl⟩
   have f2 : c0 < 256 := hc0 ▸ u8.toNat_lt
   have hst := h3
   rw [hd] at hst
   simp only [rdGo] at hst
   rw [← hc0] at hst
   refine J.slot 8 (.slice (some ⟨b, off, none⟩) n c) rfl (by rw [hp]) ?_
   refine J.region <| J.m rfl <| J.p rfl (Q.ia runUnderlying42 sizeOf5 rfl rfl (by omega) (by omega)) ?_
   refine J.p rfl (Q.ld isAgg5 rfl (((hrd i (.int .u8 c0) (by simp [bytesV, byteV, hu8, hc0])).within (i := 0) rfl).cast (by simp))) ?_
   refine J.p rfl (Q.asg rfl) <| J.p rfl (Q.asg rfl) <| J.nil <| J.then_n <| J.seq <| J.seq <| J.region <| J.m rfl <| J.p rfl (Q.eql rfl rfl) <| J.m rfl ?_
   refine J.kases 17 rfl (fun hb17 => ?_) (fun hb17 => ?_)
   ·
    refine J.m rfl <| J.p rfl (Q.gtr rfl rfl) <| J.p rfl (Q.pick_t rfl rfl) <| J.nil <| J.then_n ?_
    refine J.kases 20 rfl (fun hc20 => ?_) (fun hc20 => ?_)
    ·
     refine J.cond_t rfl <| J.seq <| J.region <| J.p rfl (Q.asg rfl) <| J.p rfl (Q.asg rfl) <| J.p rfl (Q.asg rfl) <| J.nil <| J.then_n <| J.cret <| J.then_r <| J.blk_r <| J.then_r <| J.lp_r <| J.blk_r <| J.then_r ?_
     rw [if_pos (by omega)] at hst
     refine J.ret3 (B := [G]) rfl rfl rfl rfl ⟨by rw [← hst]; rfl, rfl⟩ rfl
    refine J.cond_f rfl <| J.cskip <| J.then_n <| J.seq ?_
    have h9 : i = 9 → c0 ≤ 1 := by intro e9; omega
    rw [if_neg (by omega)] at hst
    have hb64 : acc + 2 ^ (7 * i) * (c0 % 128) < 18446744073709551616 := by
     by_cases e9 : i = 9
     · have := h9 e9
       subst e9
       have q : 2 ^ (7 * 9) * (c0 % 128) ≤ 2 ^ (7 * 9) * 1 := Nat.mul_le_mul_left _ (by omega)
       have e3 : (2 : Nat) ^ (7 * 9) = 9223372036854775808 := by decide
       rw [e3] at q h4 ⊢
       omega
     · have h56 : (2 : Nat) ^ (7 * i) ≤ 72057594037927936 := by
        have := Nat.pow_le_pow_right (n := 2) (by decide) (show 7 * i ≤ 56 by omega)
        rwa [show (2 : Nat) ^ 56 = 72057594037927936 by decide] at this
       have := Nat.mul_le_mul h56 (show c0 % 128 ≤ 127 by omega)
       omega
    refine J.region <| J.m rfl <| J.m rfl <| J.p rfl (Q.and rfl rfl) ?_
    refine J.slot 23 (.int .u8 ((c0 % 128 : Nat) : Int)) rfl (by show Value.int .u8 _ = _; rw [and127 f2]) ?_
    refine J.p rfl (Q.conv runUnderlying5 runUnderlying40 rfl) ?_
    refine J.slot 24 (.int .u64 ((c0 % 128 : Nat) : Int)) rfl (by rw [wrap64 (by omega)]) ?_
    refine J.m rfl <| J.p rfl (Q.mul64 rfl rfl (by omega)) ?_
    refine J.slot 26 (.int .i64 ((7 * i : Nat) : Int)) rfl (by rw [Int.natCast_mul]; rfl) ?_
    refine J.p rfl (Q.shl rfl rfl (by omega)) ?_
    refine J.slot 27 (.int .u64 ((2 ^ (7 * i) * (c0 % 128) : Nat) : Int)) rfl (by
      have hmin : min (((7 * i : Nat) : Int).toNat) IntKind.u64.bits = 7 * i := by show min _ 64 = _; omega
      have e : ((c0 % 128 : Nat) : Int) * 2 ^ (7 * i) = ((2 ^ (7 * i) * (c0 % 128) : Nat) : Int) := by rw [Int.natCast_mul, Int.mul_comm, Int.natCast_pow]; rfl
      rw [hmin, e, wrap64 (by omega)]) ?_
    refine J.p rfl (Q.or rfl rfl) ?_
    refine J.slot 28 (.int .u64 ((acc + 2 ^ (7 * i) * (c0 % 128) : Nat) : Int)) rfl (by show Value.int .u64 _ = _; rw [or64 h4 hb64]) ?_
    refine J.p rfl (Q.asg rfl) <| J.nil <| J.then_n <| J.seq <| J.region <| J.m rfl <| J.p rfl (Q.lss rfl rfl) ?_
    refine J.slot 30 (.bool (smallB c0)) rfl (by show Value.bool (decide ((c0 : Int) < 128)) = _; unfold smallB; rw [decide_eq_decide.2 (show (c0 : Int) < 128 ↔ c0 < 128 by omega)]) ?_
    refine J.nil <| J.then_n ?_
    refine J.kases 30 rfl (fun hc30 => ?_) (fun hc30 => ?_)
    ·
     refine J.cond_t rfl <| J.seq <| J.seq ?_
     have hw : c0 < 128 := of_decide_eq_true hc30
     rw [if_pos hw] at hst
     refine J.region <| J.m rfl <| J.p rfl (Q.eql rfl rfl) <| J.m rfl ?_
     refine J.kases 33 rfl (fun hb33 => ?_) (fun hb33 => ?_)
     ·
      refine J.m rfl <| J.p rfl (Q.gtr rfl rfl) <| J.p rfl (Q.pick_t rfl rfl) <| J.nil <| J.then_n ?_
      refine J.kases 36 rfl (fun hc36 => ?_) (fun hc36 => ?_)
      ·
       refine J.cond_t rfl <| J.seq <| J.region <| J.p rfl (Q.asg rfl) <| J.p rfl (Q.asg rfl) <| J.p rfl (Q.asg rfl) <| J.nil <| J.then_n <| J.cret <| J.then_r <| J.blk_r <| J.then_r <| J.lp_r <| J.blk_r <| J.then_r ?_
       first
        | (refine J.ret3 (B := [G]) rfl rfl rfl rfl ⟨?_, rfl⟩ rfl
           rw [← h3, List.drop_eq_nil_of_le (by omega)]; rfl)
        | (rw [if_pos (by omega)] at hst
           refine J.ret3 (B := [G]) rfl rfl rfl rfl ⟨by rw [← hst]; rfl, rfl⟩ rfl)
        | (rw [if_neg (by omega)] at hst
           refine J.ret3 (B := [G]) rfl rfl rfl rfl ⟨by rw [← hst, Nat.mod_eq_of_lt hw]; rfl, rfl⟩ rfl)
      refine J.cond_f rfl <| J.cskip <| J.then_n <| J.seq <| J.region <| J.m rfl <| J.m rfl <| J.p rfl (Q.add64 rfl rfl (by omega)) <| J.p rfl (Q.asg rfl) <| J.p rfl (Q.asg rfl) <| J.p rfl (Q.asg rfl) <| J.nil <| J.then_n <| J.cret <| J.blk_r <| J.then_r <| J.lp_r <| J.blk_r <| J.then_r ?_
      first
       | (refine J.ret3 (B := [G]) rfl rfl rfl rfl ⟨?_, rfl⟩ rfl
          rw [← h3, List.drop_eq_nil_of_le (by omega)]; rfl)
       | (rw [if_pos (by omega)] at hst
          refine J.ret3 (B := [G]) rfl rfl rfl rfl ⟨by rw [← hst]; rfl, rfl⟩ rfl)
       | (rw [if_neg (by omega)] at hst
          refine J.ret3 (B := [G]) rfl rfl rfl rfl ⟨by rw [← hst, Nat.mod_eq_of_lt hw]; rfl, rfl⟩ rfl)
     refine J.k rfl <| J.k rfl <| J.p rfl (Q.pick_f rfl rfl) <| J.nil <| J.then_n <| J.cond_f rfl <| J.cskip <| J.then_n <| J.seq <| J.region <| J.m rfl <| J.m rfl <| J.p rfl (Q.add64 rfl rfl (by omega)) <| J.p rfl (Q.asg rfl) <| J.p rfl (Q.asg rfl) <| J.p rfl (Q.asg rfl) <| J.nil <| J.then_n <| J.cret <| J.blk_r <| J.then_r <| J.lp_r <| J.blk_r <| J.then_r ?_
     first
      | (refine J.ret3 (B := [G]) rfl rfl rfl rfl ⟨?_, rfl⟩ rfl
         rw [← h3, List.drop_eq_nil_of_le (by omega)]; rfl)
      | (rw [if_pos (by omega)] at hst
         refine J.ret3 (B := [G]) rfl rfl rfl rfl ⟨by rw [← hst]; rfl, rfl⟩ rfl)
      | (rw [if_neg (by omega)] at hst
         refine J.ret3 (B := [G]) rfl rfl rfl rfl ⟨by rw [← hst, Nat.mod_eq_of_lt hw]; rfl, rfl⟩ rfl)
    refine J.cond_f rfl <| J.cskip <| J.blk_n <| J.then_n <| J.region <| J.p rfl (Q.add64 rfl rfl (by omega)) <| J.m rfl <| J.nil ?_
    have hw : ¬ c0 < 128 := of_decide_eq_false hc30
    rw [if_neg hw] at hst
    have hp7 : (2 : Nat) ^ (7 * (i + 1)) = 2 ^ (7 * i) * 128 := by rw [show 7 * (i + 1) = 7 * i + 7 by omega, Nat.pow_add]
    have hlt : 2 ^ (7 * i) * (c0 % 128) + 2 ^ (7 * i) ≤ 2 ^ (7 * i) * 128 := by rw [← Nat.mul_succ]; exact Nat.mul_le_mul_left _ (by omega)
    refine J.again (i + 1, acc + 2 ^ (7 * i) * (c0 % 128)) ⟨by show i + 1 ≤ n; omega, by show i + 1 ≤ 9; omega, hst, ?_⟩ (by show n - (i + 1) < n - i; omega) ⟨rfl, rfl, (by show _ = some (Value.slice p n c); rw [hp]; rfl), rfl, rfl, trivial⟩ rfl
    show acc + 2 ^ (7 * i) * (c0 % 128) < 2 ^ (7 * (i + 1))
    rw [hp7]; omega
   refine J.k rfl <| J.k rfl <| J.p rfl (Q.pick_f rfl rfl) <| J.nil <| J.then_n <| J.cond_f rfl <| J.cskip <| J.then_n <| J.seq ?_
   have h9 : i = 9 → c0 ≤ 1 := by intro e9; omega
   rw [if_neg (by omega)] at hst
   have hb64 : acc + 2 ^ (7 * i) * (c0 % 128) < 18446744073709551616 := by
    by_cases e9 : i = 9
    · have := h9 e9
      subst e9
      have q : 2 ^ (7 * 9) * (c0 % 128) ≤ 2 ^ (7 * 9) * 1 := Nat.mul_le_mul_left _ (by omega)
      have e3 : (2 : Nat) ^ (7 * 9) = 9223372036854775808 := by decide
      rw [e3] at q h4 ⊢
      omega
    · have h56 : (2 : Nat) ^ (7 * i) ≤ 72057594037927936 := by
       have := Nat.pow_le_pow_right (n := 2) (by decide) (show 7 * i ≤ 56 by omega)
       rwa [show (2 : Nat) ^ 56 = 72057594037927936 by decide] at this
      have := Nat.mul_le_mul h56 (show c0 % 128 ≤ 127 by omega)
      omega
   refine J.region <| J.m rfl <| J.m rfl <| J.p rfl (Q.and rfl rfl) ?_
   refine J.slot 23 (.int .u8 ((c0 % 128 : Nat) : Int)) rfl (by show Value.int .u8 _ = _; rw [and127 f2]) ?_
   refine J.p rfl (Q.conv runUnderlying5 runUnderlying40 rfl) ?_
   refine J.slot 24 (.int .u64 ((c0 % 128 : Nat) : Int)) rfl (by rw [wrap64 (by omega)]) ?_
   refine J.m rfl <| J.p rfl (Q.mul64 rfl rfl (by omega)) ?_
   refine J.slot 26 (.int .i64 ((7 * i : Nat) : Int)) rfl (by rw [Int.natCast_mul]; rfl) ?_
   refine J.p rfl (Q.shl rfl rfl (by omega)) ?_
   refine J.slot 27 (.int .u64 ((2 ^ (7 * i) * (c0 % 128) : Nat) : Int)) rfl (by
     have hmin : min (((7 * i : Nat) : Int).toNat) IntKind.u64.bits = 7 * i := by show min _ 64 = _; omega
     have e : ((c0 % 128 : Nat) : Int) * 2 ^ (7 * i) = ((2 ^ (7 * i) * (c0 % 128) : Nat) : Int) := by rw [Int.natCast_mul, Int.mul_comm, Int.natCast_pow]; rfl
     rw [hmin, e, wrap64 (by omega)]) ?_
   refine J.p rfl (Q.or rfl rfl) ?_
   refine J.slot 28 (.int .u64 ((acc + 2 ^ (7 * i) * (c0 % 128) : Nat) : Int)) rfl (by show Value.int .u64 _ = _; rw [or64 h4 hb64]) ?_
   refine J.p rfl (Q.asg rfl) <| J.nil <| J.then_n <| J.seq <| J.region <| J.m rfl <| J.p rfl (Q.lss rfl rfl) ?_
   refine J.slot 30 (.bool (smallB c0)) rfl (by show Value.bool (decide ((c0 : Int) < 128)) = _; unfold smallB; rw [decide_eq_decide.2 (show (c0 : Int) < 128 ↔ c0 < 128 by omega)]) ?_
   refine J.nil <| J.then_n ?_
   refine J.kases 30 rfl (fun hc30 => ?_) (fun hc30 => ?_)
   ·
    refine J.cond_t rfl <| J.seq <| J.seq ?_
    have hw : c0 < 128 := of_decide_eq_true hc30
    rw [if_pos hw] at hst
    refine J.region <| J.m rfl <| J.p rfl (Q.eql rfl rfl) <| J.m rfl ?_
    refine J.kases 33 rfl (fun hb33 => ?_) (fun hb33 => ?_)
    ·
     refine J.m rfl <| J.p rfl (Q.gtr rfl rfl) <| J.p rfl (Q.pick_t rfl rfl) <| J.nil <| J.then_n ?_
     refine J.kases 36 rfl (fun hc36 => ?_) (fun hc36 => ?_)
     ·
      refine J.cond_t rfl <| J.seq <| J.region <| J.p rfl (Q.asg rfl) <| J.p rfl (Q.asg rfl) <| J.p rfl (Q.asg rfl) <| J.nil <| J.then_n <| J.cret <| J.then_r <| J.blk_r <| J.then_r <| J.lp_r <| J.blk_r <| J.then_r ?_
      first
       | (refine J.ret3 (B := [G]) rfl rfl rfl rfl ⟨?_, rfl⟩ rfl
          rw [← h3, List.drop_eq_nil_of_le (by omega)]; rfl)
       | (rw [if_pos (by omega)] at hst
          refine J.ret3 (B := [G]) rfl rfl rfl rfl ⟨by rw [← hst]; rfl, rfl⟩ rfl)
       | (rw [if_neg (by omega)] at hst
          refine J.ret3 (B := [G]) rfl rfl rfl rfl ⟨by rw [← hst, Nat.mod_eq_of_lt hw]; rfl, rfl⟩ rfl)
     refine J.cond_f rfl <| J.cskip <| J.then_n <| J.seq <| J.region <| J.m rfl <| J.m rfl <| J.p rfl (Q.add64 rfl rfl (by omega)) <| J.p rfl (Q.asg rfl) <| J.p rfl (Q.asg rfl) <| J.p rfl (Q.asg rfl) <| J.nil <| J.then_n <| J.cret <| J.blk_r <| J.then_r <| J.lp_r <| J.blk_r <| J.then_r ?_
     first
      | (refine J.ret3 (B := [G]) rfl rfl rfl rfl ⟨?_, rfl⟩ rfl
         rw [← h3, List.drop_eq_nil_of_le (by omega)]; rfl)
      | (rw [if_pos (by omega)] at hst
         refine J.ret3 (B := [G]) rfl rfl rfl rfl ⟨by rw [← hst]; rfl, rfl⟩ rfl)
      | (rw [if_neg (by omega)] at hst
         refine J.ret3 (B := [G]) rfl rfl rfl rfl ⟨by rw [← hst, Nat.mod_eq_of_lt hw]; rfl, rfl⟩ rfl)
    refine J.k rfl <| J.k rfl <| J.p rfl (Q.pick_f rfl rfl) <| J.nil <| J.then_n <| J.cond_f rfl <| J.cskip <| J.then_n <| J.seq <| J.region <| J.m rfl <| J.m rfl <| J.p rfl (Q.add64 rfl rfl (by omega)) <| J.p rfl (Q.asg rfl) <| J.p rfl (Q.asg rfl) <| J.p rfl (Q.asg rfl) <| J.nil <| J.then_n <| J.cret <| J.blk_r <| J.then_r <| J.lp_r <| J.blk_r <| J.then_r ?_
    first
     | (refine J.ret3 (B := [G]) rfl rfl rfl rfl ⟨?_, rfl⟩ rfl
        rw [← h3, List.drop_eq_nil_of_le (by omega)]; rfl)
     | (rw [if_pos (by omega)] at hst
        refine J.ret3 (B := [G]) rfl rfl rfl rfl ⟨by rw [← hst]; rfl, rfl⟩ rfl)
     | (rw [if_neg (by omega)] at hst
        refine J.ret3 (B := [G]) rfl rfl rfl rfl ⟨by rw [← hst, Nat.mod_eq_of_lt hw]; rfl, rfl⟩ rfl)
   refine J.cond_f rfl <| J.cskip <| J.blk_n <| J.then_n <| J.region <| J.p rfl (Q.add64 rfl rfl (by omega)) <| J.m rfl <| J.nil ?_
   have hw : ¬ c0 < 128 := of_decide_eq_false hc30
   rw [if_neg hw] at hst
   have hp7 : (2 : Nat) ^ (7 * (i + 1)) = 2 ^ (7 * i) * 128 := by rw [show 7 * (i + 1) = 7 * i + 7 by omega, Nat.pow_add]
   have hlt : 2 ^ (7 * i) * (c0 % 128) + 2 ^ (7 * i) ≤ 2 ^ (7 * i) * 128 := by rw [← Nat.mul_succ]; exact Nat.mul_le_mul_left _ (by omega)
   refine J.again (i + 1, acc + 2 ^ (7 * i) * (c0 % 128)) ⟨by show i + 1 ≤ n; omega, by show i + 1 ≤ 9; omega, hst, ?_⟩ (by show n - (i + 1) < n - i; omega) ⟨rfl, rfl, (by show _ = some (Value.slice p n c); rw [hp]; rfl), rfl, rfl, trivial⟩ rfl
   show acc + 2 ^ (7 * i) * (c0 % 128) < 2 ^ (7 * (i + 1))
   rw [hp7]; omega
  refine J.cond_f rfl <| J.exit <| J.then_x <| J.lp_x <| J.blk_x <| J.then_n <| J.seq <| J.region <| J.p rfl (Q.asg rfl) <| J.p rfl (Q.asg rfl) <| J.p rfl (Q.asg rfl) <| J.nil <| J.then_n <| J.cret ?_
  first
   | (refine J.ret3 (B := [G]) rfl rfl rfl rfl ⟨?_, rfl⟩ rfl
      rw [← h3, List.drop_eq_nil_of_le (by omega)]; rfl)
   | (rw [if_pos (by omega)] at hst
      refine J.ret3 (B := [G]) rfl rfl rfl rfl ⟨by rw [← hst]; rfl, rfl⟩ rfl)
   | (rw [if_neg (by omega)] at hst
      refine J.ret3 (B := [G]) rfl rfl rfl rfl ⟨by rw [← hst, Nat.mod_eq_of_lt hw]; rfl, rfl⟩ rfl)

theorem slr_part {D : List Assn} {b off n c k m : Nat} {xs : List Value} (h : ReadsN D b off xs) (hl : xs.length = n) (hk : k + m ≤ n) (hc : n ≤ c) :
    ∃ (o2 : Option Addr) (d2 : Nat), SlR D 1 (.slice o2 m d2) ((xs.drop k).take m) ∧ Value.slice (some ⟨b, off + (if c = k then 0 else k) * 1, none⟩) (k + m - k) (c - k) = .slice o2 m d2 := by
  refine ⟨_, _, ?_, by rw [Nat.add_sub_cancel_left]⟩
  by_cases e : m = 0
  · subst e
    exact .inl ⟨_, c - k, rfl, rfl⟩
  · rw [if_neg (by omega), Nat.mul_one]
    refine .inr ⟨b, off + k, m, c - k, rfl, by rw [List.length_take, List.length_drop]; omega, fun j u hu => ?_⟩
    have hj : j < m := by
      have := (List.getElem?_eq_some_iff.1 hu).1
      rw [List.length_take] at this; omega
    rw [List.getElem?_take_of_lt hj, List.getElem?_drop] at hu
    have := h (k + j) u hu
    rwa [← Nat.add_assoc] at this
theorem bytesV_part (bs : List UInt8) (k m : Nat) : bytesV ((bs.drop k).take m) = ((bytesV bs).drop k).take m := by simp [bytesV]

theorem readBytes_spec (G : Assn) (p : Option Addr) (c : Nat) (bs : List UInt8) (most : Nat) (hr : SlR [G] 1 (.slice p bs.length c) (bytesV bs)) (hn : bs.length ≤ 1099511627776) (hm : most ≤ 1099511627776) (hc : bs.length ≤ c) :
    FSpec Tryz.prog 68 [.slice p bs.length c, .int .i64 most] [G] (fun u B => ∃ q d, u = .tuple #[.slice q (rdB bs most).1.length d, .int .i64 (rdB bs most).2.1, .int .i64 (rdB bs most).2.2] ∧ B = [own 5 1 (.slice q (rdB bs most).1.length d) (bytesV (rdB bs most).1), G]) := by
  have hbd := rdN_bd bs
  refine FSpec.of func68 rfl ntmps68 rfl fun W0 F => ?_
  refine J.seq <| J.region <| J.p rfl (Q.asg rfl) <| J.p rfl (Q.asg rfl) <| J.p rfl (Q.asg rfl) <| J.nil <| J.then_n <| J.seq <| J.region <| J.m rfl ?_
  refine J.callI call67 (readNumber_spec G p bs.length c bs hr hn) rfl rfl rfl ?_
  rintro _ _ ⟨rfl, rfl⟩
  refine J.norm rfl <| J.m rfl <| J.p rfl (Q.ext rfl rfl) <| J.p rfl (Q.ext rfl rfl) <| J.p rfl (Q.ext rfl rfl) <| J.p rfl (Q.asg rfl) <| J.p rfl (Q.asg rfl) <| J.p rfl (Q.asg rfl) <| J.nil <| J.then_n <| J.seq <| J.block <| J.seq <| J.region <| J.m rfl <| J.p rfl (Q.neq rfl rfl) <| J.p rfl (Q.asg rfl) <| J.nil <| J.then_n ?_
  refine J.kases 17 rfl (fun hc17 => ?_) (fun hc17 => ?_)
  ·
   refine J.cond_t rfl <| J.seq <| J.region <| J.m rfl <| J.p rfl (Q.asg rfl) <| J.p rfl (Q.asg rfl) <| J.p rfl (Q.asg rfl) <| J.nil <| J.then_n <| J.cret <| J.blk_r <| J.then_r ?_
   have he : (rdN bs).2.2 ≠ 0 := by omega
   have e : rdB bs most = ([], 0, (rdN bs).2.2) := by unfold rdB; rw [if_pos he]
   rw [e]
   refine J.give (X := own 5 1 (.slice none 0 0) (bytesV [])) (own.nil _ _ _) ?_
   refine J.keepI ([own 5 1 (.slice none 0 0) (bytesV []), G] ++ [F]) ?_
   refine J.ret3 (B := [own 5 1 (.slice none 0 0) (bytesV []), G]) rfl rfl rfl rfl ⟨none, 0, rfl, rfl⟩ rfl
  refine J.cond_f rfl <| J.seq <| J.region <| J.m rfl <| J.m rfl <| J.p rfl (Q.maxI rfl) ?_
  refine J.slot 24 (.int .i64 (most : Int)) rfl (by rw [show (if (0 : Int) > (most : Int) then (0 : Int) else most) = most from if_neg (by omega)]) ?_
  refine J.p rfl (Q.conv runUnderlying3 runUnderlying40 rfl) ?_
  refine J.slot 25 (.int .u64 (most : Int)) rfl (by rw [wrap64 (by omega)]) ?_
  refine J.p rfl (Q.gtr rfl rfl) <| J.p rfl (Q.asg rfl) <| J.nil <| J.then_n ?_
  refine J.kases 21 rfl (fun hc21 => ?_) (fun hc21 => ?_)
  ·
   refine J.cond_t rfl <| J.seq <| J.region <| J.p rfl (Q.asg rfl) <| J.p rfl (Q.asg rfl) <| J.p rfl (Q.asg rfl) <| J.nil <| J.then_n <| J.cret <| J.blk_r <| J.then_r ?_
   have he : ¬ (rdN bs).2.2 ≠ 0 := by omega
   have e : rdB bs most = ([], 0, 3) := by unfold rdB; rw [if_neg he, if_pos (by omega)]
   rw [e]
   refine J.give (X := own 5 1 (.slice none 0 0) (bytesV [])) (own.nil _ _ _) ?_
   refine J.keepI ([own 5 1 (.slice none 0 0) (bytesV []), G] ++ [F]) ?_
   refine J.ret3 (B := [own 5 1 (.slice none 0 0) (bytesV []), G]) rfl rfl rfl rfl ⟨none, 0, rfl, rfl⟩ rfl
  refine J.cond_f rfl <| J.seq <| J.region <| J.m rfl <| J.m rfl <| J.p rfl (Q.lenSl runUnderlying42 rfl) <| J.m rfl <| J.p rfl (Q.sub64 rfl rfl (by omega)) <| J.p rfl (Q.conv runUnderlying3 runUnderlying40 rfl) ?_
  refine J.slot 33 (.int .u64 ((bs.length - (rdN bs).2.1 : Nat) : Int)) rfl (by
    rw [show (bs.length : Int) - ((rdN bs).2.1 : Int) = ((bs.length - (rdN bs).2.1 : Nat) : Int) by omega, wrap64 (by omega)]) ?_
  refine J.p rfl (Q.gtr rfl rfl) <| J.p rfl (Q.asg rfl) <| J.nil <| J.then_n ?_
  refine J.kases 27 rfl (fun hc27 => ?_) (fun hc27 => ?_)
  ·
   refine J.cond_t rfl <| J.seq <| J.region <| J.p rfl (Q.asg rfl) <| J.p rfl (Q.asg rfl) <| J.p rfl (Q.asg rfl) <| J.nil <| J.then_n <| J.cret <| J.blk_r <| J.then_r ?_
   have he : ¬ (rdN bs).2.2 ≠ 0 := by omega
   have e : rdB bs most = ([], 0, 11) := by unfold rdB; rw [if_neg he, if_neg (by omega), if_pos (by omega)]
   rw [e]
   refine J.give (X := own 5 1 (.slice none 0 0) (bytesV [])) (own.nil _ _ _) ?_
   refine J.keepI ([own 5 1 (.slice none 0 0) (bytesV []), G] ++ [F]) ?_
   refine J.ret3 (B := [own 5 1 (.slice none 0 0) (bytesV []), G]) rfl rfl rfl rfl ⟨none, 0, rfl, rfl⟩ rfl
  refine J.cond_f rfl <| J.cskip <| J.blk_n <| J.then_n <| J.seq ?_
  have he : ¬ (rdN bs).2.2 ≠ 0 := by omega
  have e : rdB bs most = ((bs.drop (rdN bs).2.1).take (rdN bs).1, (rdN bs).2.1 + (rdN bs).1, 0) := by unfold rdB; rw [if_neg he, if_neg (by omega), if_neg (by omega)]
  have h1 : 1 ≤ (rdN bs).2.1 := hbd.2.2 (by omega)
  have hlen : ((bs.drop (rdN bs).2.1).take (rdN bs).1).length = (rdN bs).1 := by rw [List.length_take, List.length_drop]; omega
  obtain ⟨b, off, rfl, hrd⟩ := hr.some_ (by omega)
  refine J.region <| J.m rfl <| J.m rfl <| J.p rfl (Q.conv64 runUnderlying40 runUnderlying3 rfl (by omega)) <| J.p rfl (Q.add64 rfl rfl (by omega)) ?_
  refine J.slot 38 (.int .i64 (((rdN bs).2.1 + (rdN bs).1 : Nat) : Int)) rfl (by rw [Int.natCast_add]) ?_
  refine J.p rfl (Q.asg rfl) <| J.nil <| J.then_n <| J.seq <| J.region <| J.m rfl <| J.m rfl <| J.m rfl <| J.p rfl (Q.slLH runUnderlying42 sizeOf5 rfl rfl rfl (by omega) (by omega) (by omega)) ?_
  obtain ⟨o2, d2, hsl, hval⟩ := slr_part hrd (show (bytesV bs).length = bs.length by simp [bytesV]) (show (rdN bs).2.1 + (rdN bs).1 ≤ bs.length by omega) hc
  refine J.slot 42 (.slice o2 ((bs.drop (rdN bs).2.1).take (rdN bs).1).length d2) rfl (by rw [hlen, ← hval]; simp; omega) ?_
  refine J.callI call82 (clone_spec G o2 d2 ((bs.drop (rdN bs).2.1).take (rdN bs).1) (by rw [hlen, bytesV_part]; exact hsl) (by omega)) rfl rfl rfl ?_
  rintro _ _ ⟨q, d, rfl, rfl⟩
  refine J.norm rfl <| J.m rfl <| J.p rfl (Q.asg rfl) <| J.p rfl (Q.asg rfl) <| J.p rfl (Q.asg rfl) <| J.nil <| J.then_n <| J.cret ?_
  rw [e]
  refine J.keepI ([own 5 1 (.slice q ((bs.drop (rdN bs).2.1).take (rdN bs).1).length d) (bytesV ((bs.drop (rdN bs).2.1).take (rdN bs).1)), G] ++ [F]) ?_
  refine J.ret3 (B := [own 5 1 (.slice q ((bs.drop (rdN bs).2.1).take (rdN bs).1).length d) (bytesV ((bs.drop (rdN bs).2.1).take (rdN bs).1)), G]) rfl rfl rfl rfl ⟨q, d, rfl, rfl⟩ rfl

structure SlP (G : Assn) (p : Option Addr) (c : Nat) (bs : List UInt8) : Prop where
  sl : SlR [G] 1 (.slice p bs.length c) (bytesV bs)
  n : bs.length ≤ 1099511627776
  c : bs.length ≤ c
abbrev rdA (r : Nat) (p : Option Addr) (c : Nat) (s : RS) : Assn := pt r (.cells [Value.slice p s.b.length c, .bool s.bad].toArray 116 (0, 0))

section
variable (G : Assn) (r : Nat) (p : Option Addr) (c : Nat) (s : RS) (hs : SlP G p c s.b)
include hs
theorem rnumber_spec : FSpec Tryz.prog 41 [.pointer (some ⟨r, 0, none⟩)] [rdA r p c s, G] (fun u B => ∃ p' c', u = .int .u64 s.num.1 ∧ SlP G p' c' s.num.2.b ∧ B = [rdA r p' c' s.num.2, G]) := by
  have hbd := rdN_bd s.b
  have hn := hs.n
  have hc := hs.c
  have hnum : s.num.2.b = s.b.drop (rdN s.b).2.1 := rfl
  obtain ⟨p', c', hsl, hc', hq⟩ := slr_tail runUnderlying42 sizeOf5 hs.sl (j := (rdN s.b).2.1) hbd.2.1 hs.c
  have hl2 : s.num.2.b.length = s.b.length - (rdN s.b).2.1 := by rw [hnum, List.length_drop]
  have hsp : SlP G p' c' s.num.2.b := ⟨by rw [hl2, hnum, show bytesV (s.b.drop (rdN s.b).2.1) = (bytesV s.b).drop (rdN s.b).2.1 by simp [bytesV]]; exact hsl, by omega, by omega⟩
  refine FSpec.of func41 rfl ntmps41 rfl fun W0 F => ?_
  refine J.seq <| J.region <| J.p rfl (Q.asg rfl) <| J.nil <| J.then_n <| J.seq <| J.region <| J.m rfl <| J.p rfl (Q.nil_ rfl) <| J.p rfl (Q.fa (n := 0) runUnderlying116 rfl rfl sizeOf42 rfl) ?_
  refine J.p rfl (Q.ldI isAgg42 rfl) ?_
  refine J.callI call67 (readNumber_spec G p s.b.length c s.b hs.sl hn) rfl rfl rfl ?_
  rintro _ _ ⟨rfl, rfl⟩
  refine J.norm rfl <| J.m rfl <| J.p rfl (Q.ext rfl rfl) <| J.p rfl (Q.ext rfl rfl) <| J.p rfl (Q.ext rfl rfl) <| J.p rfl (Q.asg rfl) <| J.p rfl (Q.asg rfl) <| J.p rfl (Q.asg rfl) <| J.nil <| J.then_n <| J.seq <| J.region <| J.m rfl <| J.m rfl <| J.p rfl (Q.nil_ rfl) <| J.p rfl (Q.fa (n := 1) runUnderlying116 rfl rfl sizeOf4 rfl) ?_
  refine J.p rfl (Q.ldI isAgg4 rfl) ?_
  refine J.m rfl ?_
  refine J.kases 20 rfl (fun hb20 => ?_) (fun hb20 => ?_)
  ·
   refine J.k rfl <| J.k rfl <| J.p rfl (Q.pick_t rfl rfl) <| J.p rfl (Q.nil_ rfl) <| J.p rfl (Q.fa (n := 1) runUnderlying116 rfl rfl sizeOf4 rfl) ?_
   refine J.stJ rfl sizeOf4 rfl rfl rfl ?_
   refine J.nil <| J.then_n <| J.seq <| J.region <| J.m rfl <| J.m rfl <| J.p rfl (Q.nil_ rfl) <| J.p rfl (Q.fa (n := 0) runUnderlying116 rfl rfl sizeOf42 rfl) ?_
   refine J.p rfl (Q.ldI isAgg42 rfl) ?_
   refine J.m rfl ?_
   refine J.p rfl (hq rfl rfl) ?_
   refine J.p rfl (Q.nil_ rfl) <| J.p rfl (Q.fa (n := 0) runUnderlying116 rfl rfl sizeOf42 rfl) ?_
   refine J.stJ rfl sizeOf42 rfl rfl rfl ?_
   refine J.nil <| J.then_n <| J.seq <| J.region <| J.m rfl <| J.p rfl (Q.asg rfl) <| J.nil <| J.then_n <| J.cret ?_
   have hbad : s.num.2.bad = (s.bad || decide ((rdN s.b).2.2 ≠ 0)) := rfl
   first
    | (have e : s.num.2.bad = true := by rw [hbad, hb20]; rfl
       refine J.convI (pt r (.cells [Value.slice p' (s.b.length - (rdN s.b).2.1) c', .bool true].toArray 116 (0, 0))) (rdA r p' c' s.num.2) (fun _ h => by unfold rdA; rw [hl2, e]; exact h) ?_
       refine J.ret1I [rdA r p' c' s.num.2, G] rfl rfl ⟨p', c', rfl, hsp, rfl⟩)
    | (have e : s.num.2.bad = !decide (((rdN s.b).2.2 : Int) = 0) := by
         rw [hbad, hb20, Bool.false_or, Bool.eq_iff_iff]; simp
       refine J.convI (pt r (.cells [Value.slice p' (s.b.length - (rdN s.b).2.1) c', .bool (!decide (((rdN s.b).2.2 : Int) = 0))].toArray 116 (0, 0))) (rdA r p' c' s.num.2) (fun _ h => by unfold rdA; rw [hl2, e]; exact h) ?_
       refine J.ret1I [rdA r p' c' s.num.2, G] rfl rfl ⟨p', c', rfl, hsp, rfl⟩)
  refine J.m rfl <| J.p rfl (Q.neq rfl rfl) <| J.p rfl (Q.pick_f rfl rfl) <| J.p rfl (Q.nil_ rfl) <| J.p rfl (Q.fa (n := 1) runUnderlying116 rfl rfl sizeOf4 rfl) ?_
  refine J.stJ rfl sizeOf4 rfl rfl rfl ?_
  refine J.nil <| J.then_n <| J.seq <| J.region <| J.m rfl <| J.m rfl <| J.p rfl (Q.nil_ rfl) <| J.p rfl (Q.fa (n := 0) runUnderlying116 rfl rfl sizeOf42 rfl) ?_
  refine J.p rfl (Q.ldI isAgg42 rfl) ?_
  refine J.m rfl ?_
  refine J.p rfl (hq rfl rfl) ?_
  refine J.p rfl (Q.nil_ rfl) <| J.p rfl (Q.fa (n := 0) runUnderlying116 rfl rfl sizeOf42 rfl) ?_
  refine J.stJ rfl sizeOf42 rfl rfl rfl ?_
  refine J.nil <| J.then_n <| J.seq <| J.region <| J.m rfl <| J.p rfl (Q.asg rfl) <| J.nil <| J.then_n <| J.cret ?_
  have hbad : s.num.2.bad = (s.bad || decide ((rdN s.b).2.2 ≠ 0)) := rfl
  first
   | (have e : s.num.2.bad = true := by rw [hbad, hb20]; rfl
      refine J.convI (pt r (.cells [Value.slice p' (s.b.length - (rdN s.b).2.1) c', .bool true].toArray 116 (0, 0))) (rdA r p' c' s.num.2) (fun _ h => by unfold rdA; rw [hl2, e]; exact h) ?_
      refine J.ret1I [rdA r p' c' s.num.2, G] rfl rfl ⟨p', c', rfl, hsp, rfl⟩)
   | (have e : s.num.2.bad = !decide (((rdN s.b).2.2 : Int) = 0) := by
        rw [hbad, hb20, Bool.false_or, Bool.eq_iff_iff]; simp
      refine J.convI (pt r (.cells [Value.slice p' (s.b.length - (rdN s.b).2.1) c', .bool (!decide (((rdN s.b).2.2 : Int) = 0))].toArray 116 (0, 0))) (rdA r p' c' s.num.2) (fun _ h => by unfold rdA; rw [hl2, e]; exact h) ?_
      refine J.ret1I [rdA r p' c' s.num.2, G] rfl rfl ⟨p', c', rfl, hsp, rfl⟩)
theorem rint_spec : FSpec Tryz.prog 42 [.pointer (some ⟨r, 0, none⟩)] [rdA r p c s, G] (fun u B => ∃ p' c', u = .int .i64 s.int.1 ∧ SlP G p' c' s.int.2.b ∧ B = [rdA r p' c' s.int.2, G]) := by
  have hbd := s.num_bd
  refine FSpec.of func42 rfl ntmps42 rfl fun W0 F => ?_
  refine J.seq <| J.region <| J.p rfl (Q.asg rfl) <| J.nil <| J.then_n <| J.seq <| J.region <| J.m rfl ?_
  refine J.callI call41 (rnumber_spec G r p c s hs) rfl rfl rfl ?_
  rintro _ _ ⟨p', c', rfl, hs', rfl⟩
  refine J.norm rfl <| J.p rfl (Q.asg rfl) <| J.nil <| J.then_n <| J.seq <| J.seq <| J.region <| J.m rfl <| J.p rfl (Q.gtr rfl rfl) <| J.nil <| J.then_n ?_
  refine J.kases 7 rfl (fun hc7 => ?_) (fun hc7 => ?_)
  ·
   refine J.cond_t rfl <| J.seq <| J.region <| J.m rfl <| J.p rfl (Q.nil_ rfl) <| J.p rfl (Q.fa (n := 1) runUnderlying116 rfl rfl sizeOf4 rfl) ?_
   refine J.stJ rfl sizeOf4 rfl rfl rfl ?_
   refine J.nil <| J.then_n <| J.seq <| J.region <| J.p rfl (Q.asg rfl) <| J.nil <| J.then_n <| J.cret <| J.then_r ?_
   have e : s.int = (0, ⟨s.num.2.b, true⟩) := by unfold RS.int; rw [if_pos (by omega)]
   refine J.convI (pt r (.cells [Value.slice p' s.num.2.b.length c', .bool true].toArray 116 (0, 0))) (rdA r p' c' s.int.2) (fun _ h => by rw [e]; exact h) ?_
   refine J.ret1I [rdA r p' c' s.int.2, G] rfl rfl ⟨p', c', by rw [e]; rfl, by rw [e]; exact hs', rfl⟩
  refine J.cond_f rfl <| J.cskip <| J.then_n <| J.seq <| J.region <| J.m rfl <| J.p rfl (Q.conv64 runUnderlying40 runUnderlying3 rfl (by omega)) <| J.p rfl (Q.asg rfl) <| J.nil <| J.then_n <| J.cret ?_
  have e : s.int = s.num := by unfold RS.int; rw [if_neg (by omega)]
  rw [← e]
  refine J.ret1I [rdA r p' c' s.int.2, G] rfl rfl ⟨p', c', by rw [e], by rw [e]; exact hs', rfl⟩
theorem rbytes_spec : FSpec Tryz.prog 45 [.pointer (some ⟨r, 0, none⟩)] [rdA r p c s, G] (fun u B => ∃ p' c' q d, u = .slice q s.bytes.1.length d ∧ SlP G p' c' s.bytes.2.b ∧ B = [rdA r p' c' s.bytes.2, own 5 1 (.slice q s.bytes.1.length d) (bytesV s.bytes.1), G]) := by
  have hbd := rdB_bd s.b s.b.length
  have hn := hs.n
  have hc := hs.c
  have hnum : s.bytes.2.b = s.b.drop (rdB s.b s.b.length).2.1 := rfl
  obtain ⟨p', c', hsl, hc', hq⟩ := slr_tail runUnderlying42 sizeOf5 hs.sl (j := (rdB s.b s.b.length).2.1) hbd.2 hs.c
  have hl2 : s.bytes.2.b.length = s.b.length - (rdB s.b s.b.length).2.1 := by rw [hnum, List.length_drop]
  have hsp : SlP G p' c' s.bytes.2.b := ⟨by rw [hl2, hnum, show bytesV (s.b.drop (rdB s.b s.b.length).2.1) = (bytesV s.b).drop (rdB s.b s.b.length).2.1 by simp [bytesV]]; exact hsl, by omega, by omega⟩
  refine FSpec.of func45 rfl ntmps45 rfl fun W0 F => ?_
  refine J.seq <| J.region <| J.p rfl (Q.asg rfl) <| J.nil <| J.then_n <| J.seq ?_
  refine J.draw [9, 14, 15, 16] Tryz.mixed (by kernel_rfl) fun hR => ?_
  refine RG.p 0 hR rfl (Q.mv rfl) <| RG.p 1 hR rfl (Q.nil_ rfl) <| RG.p 2 hR rfl (Q.fa (n := 0) runUnderlying116 rfl rfl sizeOf42 rfl) ?_
  refine RG.p 3 hR rfl (Q.ldI isAgg42 rfl) ?_
  refine RG.p 4 hR rfl (Q.mv rfl) <| RG.p 5 hR rfl (Q.nil_ rfl) <| RG.p 6 hR rfl (Q.fa (n := 0) runUnderlying116 rfl rfl sizeOf42 rfl) ?_
  refine RG.p 7 hR rfl (Q.ldI isAgg42 rfl) ?_
  refine RG.p 8 hR rfl (Q.lenSl runUnderlying42 rfl) ?_
  refine RG.callI 9 hR rfl rfl rfl rfl rfl rfl call68 (readBytes_spec G p c s.b s.b.length hs.sl hn hn hc) rfl ?_
  rintro _ _ ⟨q, d, rfl, rfl⟩
  refine RG.norm rfl <| RG.p 10 hR rfl (Q.mv rfl) <| RG.p 11 hR rfl (Q.ext rfl rfl) <| RG.p 12 hR rfl (Q.ext rfl rfl) <| RG.p 13 hR rfl (Q.ext rfl rfl) ?_
  refine RG.keep 14 hR rfl rfl rfl rfl rfl (Q.asg rfl) ?_
  refine RG.keep 15 hR rfl rfl rfl rfl rfl (Q.asg rfl) ?_
  refine RG.bar 16 hR rfl rfl rfl rfl rfl rfl (Q.asg rfl).toC ?_
  rintro _ _ ⟨rfl, rfl⟩
  refine RG.norm rfl ?_
  refine RG.fin hR rfl ?_
  refine J.norm rfl <| J.then_n <| J.seq <| J.region <| J.m rfl <| J.m rfl <| J.p rfl (Q.nil_ rfl) <| J.p rfl (Q.fa (n := 1) runUnderlying116 rfl rfl sizeOf4 rfl) ?_
  refine J.p rfl (Q.ldI isAgg4 rfl) ?_
  refine J.m rfl ?_
  refine J.kases 25 rfl (fun hb25 => ?_) (fun hb25 => ?_)
  ·
   refine J.k rfl <| J.k rfl <| J.p rfl (Q.pick_t rfl rfl) <| J.p rfl (Q.nil_ rfl) <| J.p rfl (Q.fa (n := 1) runUnderlying116 rfl rfl sizeOf4 rfl) ?_
   refine J.stJ rfl sizeOf4 rfl rfl rfl ?_
   refine J.nil <| J.then_n <| J.seq <| J.region <| J.m rfl <| J.m rfl <| J.p rfl (Q.nil_ rfl) <| J.p rfl (Q.fa (n := 0) runUnderlying116 rfl rfl sizeOf42 rfl) ?_
   refine J.p rfl (Q.ldI isAgg42 rfl) ?_
   refine J.m rfl ?_
   refine J.p rfl (hq rfl rfl) ?_
   refine J.p rfl (Q.nil_ rfl) <| J.p rfl (Q.fa (n := 0) runUnderlying116 rfl rfl sizeOf42 rfl) ?_
   refine J.stJ rfl sizeOf42 rfl rfl rfl ?_
   refine J.nil <| J.then_n <| J.seq <| J.region <| J.m rfl <| J.p rfl (Q.asg rfl) <| J.nil <| J.then_n <| J.cret ?_
   have hbad : s.bytes.2.bad = (s.bad || decide ((rdB s.b s.b.length).2.2 ≠ 0)) := rfl
   first
    | (have e : s.bytes.2.bad = true := by rw [hbad, hb25]; rfl
       refine J.convI (pt r (.cells [Value.slice p' (s.b.length - (rdB s.b s.b.length).2.1) c', .bool true].toArray 116 (0, 0))) (rdA r p' c' s.bytes.2) (fun _ h => by unfold rdA; rw [hl2, e]; exact h) ?_
       refine J.ret1I [rdA r p' c' s.bytes.2, own 5 1 (.slice q (rdB s.b s.b.length).1.length d) (bytesV (rdB s.b s.b.length).1), G] rfl rfl ⟨p', c', q, d, rfl, hsp, rfl⟩)
    | (have e : s.bytes.2.bad = !decide (((rdB s.b s.b.length).2.2 : Int) = 0) := by
         rw [hbad, hb25, Bool.false_or, Bool.eq_iff_iff]; simp
       refine J.convI (pt r (.cells [Value.slice p' (s.b.length - (rdB s.b s.b.length).2.1) c', .bool (!decide (((rdB s.b s.b.length).2.2 : Int) = 0))].toArray 116 (0, 0))) (rdA r p' c' s.bytes.2) (fun _ h => by unfold rdA; rw [hl2, e]; exact h) ?_
       refine J.ret1I [rdA r p' c' s.bytes.2, own 5 1 (.slice q (rdB s.b s.b.length).1.length d) (bytesV (rdB s.b s.b.length).1), G] rfl rfl ⟨p', c', q, d, rfl, hsp, rfl⟩)
  refine J.m rfl <| J.p rfl (Q.neq rfl rfl) <| J.p rfl (Q.pick_f rfl rfl) <| J.p rfl (Q.nil_ rfl) <| J.p rfl (Q.fa (n := 1) runUnderlying116 rfl rfl sizeOf4 rfl) ?_
  refine J.stJ rfl sizeOf4 rfl rfl rfl ?_
  refine J.nil <| J.then_n <| J.seq <| J.region <| J.m rfl <| J.m rfl <| J.p rfl (Q.nil_ rfl) <| J.p rfl (Q.fa (n := 0) runUnderlying116 rfl rfl sizeOf42 rfl) ?_
  refine J.p rfl (Q.ldI isAgg42 rfl) ?_
  refine J.m rfl ?_
  refine J.p rfl (hq rfl rfl) ?_
  refine J.p rfl (Q.nil_ rfl) <| J.p rfl (Q.fa (n := 0) runUnderlying116 rfl rfl sizeOf42 rfl) ?_
  refine J.stJ rfl sizeOf42 rfl rfl rfl ?_
  refine J.nil <| J.then_n <| J.seq <| J.region <| J.m rfl <| J.p rfl (Q.asg rfl) <| J.nil <| J.then_n <| J.cret ?_
  have hbad : s.bytes.2.bad = (s.bad || decide ((rdB s.b s.b.length).2.2 ≠ 0)) := rfl
  first
   | (have e : s.bytes.2.bad = true := by rw [hbad, hb25]; rfl
      refine J.convI (pt r (.cells [Value.slice p' (s.b.length - (rdB s.b s.b.length).2.1) c', .bool true].toArray 116 (0, 0))) (rdA r p' c' s.bytes.2) (fun _ h => by unfold rdA; rw [hl2, e]; exact h) ?_
      refine J.ret1I [rdA r p' c' s.bytes.2, own 5 1 (.slice q (rdB s.b s.b.length).1.length d) (bytesV (rdB s.b s.b.length).1), G] rfl rfl ⟨p', c', q, d, rfl, hsp, rfl⟩)
   | (have e : s.bytes.2.bad = !decide (((rdB s.b s.b.length).2.2 : Int) = 0) := by
        rw [hbad, hb25, Bool.false_or, Bool.eq_iff_iff]; simp
      refine J.convI (pt r (.cells [Value.slice p' (s.b.length - (rdB s.b s.b.length).2.1) c', .bool (!decide (((rdB s.b s.b.length).2.2 : Int) = 0))].toArray 116 (0, 0))) (rdA r p' c' s.bytes.2) (fun _ h => by unfold rdA; rw [hl2, e]; exact h) ?_
      refine J.ret1I [rdA r p' c' s.bytes.2, own 5 1 (.slice q (rdB s.b s.b.length).1.length d) (bytesV (rdB s.b s.b.length).1), G] rfl rfl ⟨p', c', q, d, rfl, hsp, rfl⟩)
theorem rtext_spec : FSpec Tryz.prog 43 [.pointer (some ⟨r, 0, none⟩)] [rdA r p c s, G] (fun u B => ∃ p' c', u = .string s.text.1 ∧ SlP G p' c' s.text.2.b ∧ B = [rdA r p' c' s.text.2, G]) := by
  refine FSpec.of func43 rfl ntmps43 rfl fun W0 F => ?_
  refine J.seq <| J.region <| J.p rfl (Q.asg rfl) <| J.nil <| J.then_n <| J.seq <| J.region <| J.m rfl ?_
  refine J.callI call45 (rbytes_spec G r p c s hs) rfl rfl rfl ?_
  rintro _ _ ⟨p', c', q, d, rfl, hs', rfl⟩
  refine J.norm rfl ?_
  refine J.slrI (E0 := 5) (sz := 1) (p := q) (n := s.bytes.1.length) (c := d) (xs := bytesV s.bytes.1) fun hsq => ?_
  refine J.p rfl (Q.b2s runUnderlying42 runUnderlying9 runUnderlying5 rfl hsq.inI) <| J.p rfl (Q.asg rfl) <| J.nil <| J.then_n <| J.cret ?_
  refine J.ret1I [rdA r p' c' s.bytes.2, G] rfl rfl ⟨p', c', rfl, hs', rfl⟩
theorem rints_spec : FSpec Tryz.prog 44 [.pointer (some ⟨r, 0, none⟩)] [rdA r p c s, G] (fun u B => ∃ p' c' q d, u = .slice q s.ints.1.length d ∧ SlP G p' c' s.ints.2.b ∧ B = [rdA r p' c' s.ints.2, own 3 1 (.slice q s.ints.1.length d) (s.ints.1.map fun v : Nat => Value.int .i64 (v : Int)), G]) := by
  have hn := hs.n
  have hc := hs.c
  have hil := s.int_len
  have hib := s.int_bd
  refine FSpec.of func44 rfl ntmps44 rfl fun W0 F => ?_
  refine J.seq <| J.region <| J.p rfl (Q.asg rfl) <| J.nil <| J.then_n <| J.seq <| J.region <| J.p rfl (Q.asg rfl) <| J.nil <| J.then_n <| J.seq <| J.seq <| J.region <| J.m rfl ?_
  refine J.callI call42 (rint_spec G r p c s hs) rfl rfl rfl ?_
  rintro _ _ ⟨p1, c1, rfl, hs1, rfl⟩
  refine J.norm rfl <| J.p rfl (Q.asg rfl) <| J.nil <| J.then_n <| J.block ?_
  refine J.give (own.nil 3 1 _) ?_
  refine J.loop (fun z : Nat × List Nat × RS × (Option Addr × Nat) × (Option Addr × Nat) => z.1 ≤ 1099511627776 ∧ (z.2.1 ++ (RS.intsGo z.1 z.2.2.1).1, (RS.intsGo z.1 z.2.2.1).2) = s.ints ∧ SlP G z.2.2.2.1.1 z.2.2.2.1.2 z.2.2.1.b ∧ z.2.1.length + z.2.2.1.b.length ≤ s.b.length + (if z.2.2.1.bad then 1 else 0)) (fun z => z.1)
   (fun z => [(0, .pointer (some ⟨r, 0, none⟩)), (3, .slice z.2.2.2.2.1 z.2.1.length z.2.2.2.2.2), (4, .int .i64 z.1)])
   (fun z => [own 3 1 (.slice z.2.2.2.2.1 z.2.1.length z.2.2.2.2.2) (z.2.1.map fun v : Nat => Value.int .i64 (v : Int)), rdA r z.2.2.2.1.1 z.2.2.2.1.2 z.2.2.1, G, F]) (s.int.1, [], s.int.2, (p1, c1), (none, 0)) ⟨hib, rfl, hs1, by show 0 + s.int.2.b.length ≤ _; omega⟩ ⟨rfl, rfl, rfl, trivial⟩ rfl fun z hz => ?_
  obtain ⟨k, out, t, ⟨p', c'⟩, ⟨q, d⟩⟩ := z
  obtain ⟨h1, h2, hsp, h4⟩ := hz
  dsimp only at h1 h2 hsp h4
  refine J.seq <| J.seq <| J.region <| J.m rfl <| J.p rfl (Q.gtr rfl rfl) <| J.m rfl ?_
  refine J.kases 9 rfl (fun hb9 => ?_) (fun hb9 => ?_)
  ·
   refine J.m rfl <| J.p rfl (Q.nil_ rfl) <| J.p rfl (Q.fa (n := 1) runUnderlying116 rfl rfl sizeOf4 rfl) ?_
   refine J.p rfl (Q.ldI isAgg4 rfl) ?_
   refine J.p rfl (Q.not rfl) <| J.p rfl (Q.pick_t rfl rfl) <| J.nil <| J.then_n ?_
   refine J.kases 15 rfl (fun hc15 => ?_) (fun hc15 => ?_)
   ·
    refine J.cond_t rfl <| J.cskip <| J.then_n <| J.seq <| J.block ?_
    have hbad : t.bad = false := by simpa using hc15
    obtain ⟨k', rfl⟩ : ∃ k', k = k' + 1 := ⟨k - 1, by omega⟩
    simp only [RS.intsGo, hbad, Bool.false_eq_true, if_false] at h2 h4
    have hl1 := t.int_len
    have hl2 := t.int_less
    have hob : out.length ≤ 1099511627776 := by omega
    refine J.region <| J.m rfl <| J.m rfl ?_
    refine J.callI call42 (rint_spec G r p' c' t hsp) rfl rfl rfl ?_
    rintro _ _ ⟨p2, c2, rfl, hsp2, rfl⟩
    refine J.norm rfl ?_
    refine J.c rfl rfl (C.bslG (l := [_]) runUnderlying50 sizeOf3 zeroValue3 (by decide) rfl rfl rfl rfl rfl) ?_
    rintro _ _ ⟨b21, rfl, rfl⟩
    refine J.norm rfl ?_
    refine J.c rfl rfl (C.appI runUnderlying50 runUnderlying50 typeInfo3 sizeOf3 zeroValue3 rfl rfl (SlR.ptI rfl) (by simp [oneC]) (by simp [Tryz.t3] <;> omega) (by decide)) ?_
    rintro _ _ ⟨p22, c22, rfl, rfl⟩
    refine J.norm rfl <| J.p rfl (Q.asg rfl) <| J.nil <| J.blk_n <| J.then_n <| J.region <| J.m rfl <| J.p rfl (Q.sub64 rfl rfl (by omega)) ?_
    refine J.slot 17 (.int .i64 (k' : Int)) rfl (by congr 1; omega) ?_
    refine J.p rfl (Q.asg rfl) <| J.nil ?_
    have e2 : out.length + 1 = (out ++ [t.int.1]).length := by simp
    have e3 : (out.map fun v : Nat => Value.int .i64 (v : Int)) ++ [Value.int .i64 (t.int.1 : Int)] = (out ++ [t.int.1]).map fun v : Nat => Value.int .i64 (v : Int) := by simp
    rw [e2, e3]
    refine J.againI (k', out ++ [t.int.1], t.int.2, (p2, c2), (p22, c22)) ⟨by show k' ≤ _; omega, by rw [← h2]; simp, hsp2, ?_⟩ (Nat.lt_succ_self _) ⟨rfl, rfl, rfl, trivial⟩
    show (out ++ [t.int.1]).length + t.int.2.b.length ≤ _
    rw [← e2]
    split
    · omega
    · rename_i hx; have := hl2 (by simpa using hx); omega
   refine J.cond_f rfl <| J.exit <| J.then_x <| J.lp_x <| J.blk_x <| J.then_n <| J.seq <| J.region <| J.m rfl <| J.p rfl (Q.asg rfl) <| J.nil <| J.then_n <| J.cret ?_
   have hkb : k = 0 ∨ t.bad = true := by
    first
     | exact Or.inl (by omega)
     | exact Or.inr (by simpa using hc15)
   have e : RS.intsGo k t = ([], t) := by
    cases k with
    | zero => rfl
    | succ k =>
     have hb : t.bad = true := hkb.resolve_left (by omega)
     simp [RS.intsGo, hb]
   rw [e, List.append_nil] at h2
   rw [← h2]
   refine J.ret1I [rdA r p' c' t, own 3 1 (.slice q out.length d) (out.map fun v : Nat => Value.int .i64 (v : Int)), G] rfl rfl ⟨p', c', q, d, rfl, hsp, rfl⟩
  refine J.k rfl <| J.k rfl <| J.k rfl <| J.k rfl <| J.k rfl <| J.p rfl (Q.pick_f rfl rfl) <| J.nil <| J.then_n <| J.cond_f rfl <| J.exit <| J.then_x <| J.lp_x <| J.blk_x <| J.then_n <| J.seq <| J.region <| J.m rfl <| J.p rfl (Q.asg rfl) <| J.nil <| J.then_n <| J.cret ?_
  have hkb : k = 0 ∨ t.bad = true := by
   first
    | exact Or.inl (by omega)
    | exact Or.inr (by simpa using hc15)
  have e : RS.intsGo k t = ([], t) := by
   cases k with
   | zero => rfl
   | succ k =>
    have hb : t.bad = true := hkb.resolve_left (by omega)
    simp [RS.intsGo, hb]
  rw [e, List.append_nil] at h2
  rw [← h2]
  refine J.ret1I [rdA r p' c' t, own 3 1 (.slice q out.length d) (out.map fun v : Nat => Value.int .i64 (v : Int)), G] rfl rfl ⟨p', c', q, d, rfl, hsp, rfl⟩
end

abbrev wrA (w : Nat) (p : Option Addr) (c : Nat) (acc : List UInt8) : Assn := pt w (.cells [Value.slice p acc.length c].toArray 108 (0, 0))
abbrev wrO (p : Option Addr) (c : Nat) (acc : List UInt8) : Assn := own 5 1 (.slice p acc.length c) (bytesV acc)

theorem flat_numB : ∀ (vs : List Nat), (∀ v, v ∈ vs → v ≤ 18446744073709551615) → (vs.flatMap numB).length ≤ 10 * vs.length
  | [], _ => by simp
  | v :: vs, h => by
    have := numB_len v (h v (by simp))
    have := flat_numB vs fun u hu => h u (by simp [hu])
    simp only [List.flatMap_cons, List.length_append, List.length_cons]; omega
theorem flat_encB : ∀ (vs : List ByteArray), (∀ v, v ∈ vs → v.size ≤ 1024) → (vs.flatMap fun s => encB s.data.toList).length ≤ 2000 * vs.length
  | [], _ => by simp
  | v :: vs, h => by
    have h1 := h v (by simp)
    have hl : v.data.toList.length = v.size := by simp
    have := numB_len v.data.toList.length (by omega)
    have := flat_encB vs fun u hu => h u (by simp [hu])
    simp only [List.flatMap_cons, List.length_append, List.length_cons, encB] at this ⊢; omega

section
variable (G : Assn) (w : Nat) (p : Option Addr) (c : Nat) (acc : List UInt8)
theorem wnumbers_spec (vp : Option Addr) (vn vc : Nat) (vs : List Nat) (hr : SlR [G] 1 (.slice vp vn vc) (vs.map encU)) (hn : acc.length + 10 * vs.length ≤ 70368744100000) (hv : ∀ v, v ∈ vs → v ≤ 18446744073709551615) :
    FSpec Tryz.prog 36 [.pointer (some ⟨w, 0, none⟩), .slice vp vn vc] [wrA w p c acc, wrO p c acc, G]
    (fun u B => ∃ p' c', u = .tuple #[] ∧ B = [wrA w p' c' (acc ++ vs.flatMap numB), wrO p' c' (acc ++ vs.flatMap numB), G]) := by
  have hlen : vs.length = vn := by have := hr.len; simp at this; omega
  refine FSpec.of func36 rfl ntmps36 rfl fun W0 F => ?_
  refine J.seq <| J.region <| J.m rfl <| J.p rfl (Q.lenSl runUnderlying151 rfl) <| J.m rfl <| J.nil <| J.then_n <| J.block ?_
  refine J.loop3 (fun (i : Nat) (_ : Option Addr) (_ : Nat) => i ≤ vn ∧ ((vs.take i).flatMap numB).length ≤ 10 * i) (fun i _ _ => vn - i) (fun i p c => [(0, .pointer (some ⟨w, 0, none⟩)), (6, .slice vp vn vc), (7, .int .i64 vn), (8, .int .i64 i)]) (fun i p c => [wrA w p c (acc ++ (vs.take i).flatMap numB), wrO p c (acc ++ (vs.take i).flatMap numB), G, F]) 0 p c ⟨Nat.zero_le _, Nat.le_refl _⟩ ⟨rfl, rfl, rfl, rfl, trivial⟩ (by simp) fun i p c hz => ?_
  obtain ⟨hi, hb⟩ := hz
  refine J.seq <| J.region <| J.p rfl (Q.lss rfl rfl) <| J.nil <| J.then_n <| J.seq ?_
  refine J.kases 9 rfl (fun hc9 => ?_) (fun hc9 => ?_)
  ·
   refine J.cond_t rfl <| J.cskip <| J.then_n <| J.seq <| J.block <| J.seq ?_
   have hil : i < vn := by omega
   obtain ⟨b, off, hvp, hrd⟩ := hr.some_ (by omega)
   obtain ⟨v, hvi⟩ : ∃ v, vs[i]? = some v := ⟨_, List.getElem?_eq_getElem (by omega)⟩
   have hvb := hv v (List.mem_of_getElem? hvi)
   have hnl := numB_len v hvb
   have hft : (vs.take (i + 1)).flatMap numB = (vs.take i).flatMap numB ++ numB v := by
     obtain ⟨h1, h2⟩ := List.getElem?_eq_some_iff.1 hvi
     rw [List.take_succ_eq_append_getElem h1, List.flatMap_append, h2, List.flatMap_cons, List.flatMap_nil, List.append_nil]
   obtain ⟨ac, hac⟩ : ∃ ac, ac = acc ++ (vs.take i).flatMap numB := ⟨_, rfl⟩
   have hal : ac.length ≤ 70368744100000 := by rw [hac, List.length_append]; omega
   rw [← hac]
   refine J.slot 6 (.slice (some ⟨b, off, none⟩) vn vc) rfl (by rw [hvp]) ?_
   refine J.region <| J.p rfl (Q.ia runUnderlying151 sizeOf40 rfl rfl (by omega) (by omega)) <| J.p rfl (Q.ld isAgg40 rfl ((hrd i (encU v) (by simp [hvi])).cast (by simp)).inI) <| J.p rfl (Q.asg rfl) <| J.nil <| J.then_n <| J.region <| J.m rfl <| J.m rfl <| J.p rfl (Q.nil_ rfl) <| J.p rfl (Q.fa (n := 0) runUnderlying108 rfl rfl sizeOf42 rfl) ?_
   refine J.p rfl (Q.ldI isAgg42 rfl) ?_
   refine J.m rfl ?_
   refine J.callI call65 (number_spec p c ac v hal hvb) rfl rfl rfl ?_
   rintro _ _ ⟨p18, c18, rfl, rfl⟩
   refine J.norm rfl <| J.p rfl (Q.nil_ rfl) <| J.p rfl (Q.fa (n := 0) runUnderlying108 rfl rfl sizeOf42 rfl) ?_
   refine J.stJ rfl sizeOf42 rfl rfl rfl ?_
   refine J.nil <| J.blk_n <| J.then_n <| J.region <| J.p rfl (Q.add64 rfl rfl (by omega)) <| J.m rfl <| J.nil ?_
   have e1 : acc ++ (vs.take (i + 1)).flatMap numB = ac ++ numB v := by rw [hft, ← List.append_assoc, hac]
   rw [← e1]
   refine J.againI (i + 1, p18, c18) ⟨by show i + 1 ≤ vn; omega, by show ((vs.take (i + 1)).flatMap numB).length ≤ 10 * (i + 1); rw [hft, List.length_append]; omega⟩ (by show vn - (i + 1) < vn - i; omega) ⟨rfl, (by show _ = some (Value.slice vp vn vc); rw [hvp]; rfl), rfl, rfl, trivial⟩
  refine J.cond_f rfl <| J.exit <| J.then_x <| J.lp_x <| J.blk_x ?_
  have htk : vs.take i = vs := List.take_of_length_le (by omega)
  rw [htk]
  refine J.end0I [wrA w p c (acc ++ vs.flatMap numB), wrO p c (acc ++ vs.flatMap numB), G] rfl ⟨p, c, rfl, rfl⟩
theorem wbytes_spec (q : Option Addr) (e : Nat) (bs : List UInt8) (hs : SlR [G] 1 (.slice q bs.length e) (bytesV bs)) (hn : acc.length + bs.length ≤ 70368744000000) :
    FSpec Tryz.prog 39 [.pointer (some ⟨w, 0, none⟩), .slice q bs.length e] [wrA w p c acc, wrO p c acc, G]
    (fun u B => ∃ p' c', u = .tuple #[] ∧ B = [wrA w p' c' (acc ++ encB bs), wrO p' c' (acc ++ encB bs), G]) := by
  refine FSpec.of func39 rfl ntmps39 rfl fun W0 F => ?_
  refine J.region <| J.m rfl <| J.m rfl <| J.p rfl (Q.nil_ rfl) <| J.p rfl (Q.fa (n := 0) runUnderlying108 rfl rfl sizeOf42 rfl) ?_
  refine J.p rfl (Q.ldI isAgg42 rfl) ?_
  refine J.m rfl ?_
  refine J.c rfl rfl (C.bslG (l := [_]) runUnderlying175 sizeOf42 zeroValue42 (by decide) rfl rfl rfl rfl rfl) ?_
  rintro _ _ ⟨b10, rfl, rfl⟩
  refine J.norm rfl ?_
  refine J.callI call66 (bytes_spec G q e bs hs (by omega) b10 p c acc (by omega)) rfl rfl rfl ?_
  rintro _ _ ⟨p11, c11, rfl, rfl⟩
  refine J.norm rfl <| J.p rfl (Q.nil_ rfl) <| J.p rfl (Q.fa (n := 0) runUnderlying108 rfl rfl sizeOf42 rfl) ?_
  refine J.stJ rfl sizeOf42 rfl rfl rfl ?_
  refine J.nil ?_
  refine J.end0I [wrA w p11 c11 (acc ++ encB bs), wrO p11 c11 (acc ++ encB bs), G] rfl ⟨p11, c11, rfl, rfl⟩
theorem wtexts_spec (vp : Option Addr) (vn vc : Nat) (vs : List ByteArray) (hr : SlR [G] 1 (.slice vp vn vc) (vs.map Value.string)) (hn : acc.length + 2000 * vs.length ≤ 70368740000000) (hv : ∀ v, v ∈ vs → v.size ≤ 1024) :
    FSpec Tryz.prog 37 [.pointer (some ⟨w, 0, none⟩), .slice vp vn vc] [wrA w p c acc, wrO p c acc, G]
    (fun u B => ∃ p' c', u = .tuple #[] ∧ B = [wrA w p' c' (acc ++ vs.flatMap fun s => encB s.data.toList), wrO p' c' (acc ++ vs.flatMap fun s => encB s.data.toList), G]) := by
  have hlen : vs.length = vn := by have := hr.len; simp at this; omega
  refine FSpec.of func37 rfl ntmps37 rfl fun W0 F => ?_
  refine J.seq <| J.region <| J.m rfl <| J.p rfl (Q.lenSl runUnderlying41 rfl) <| J.m rfl <| J.nil <| J.then_n <| J.block ?_
  refine J.loop3 (fun (i : Nat) (_ : Option Addr) (_ : Nat) => i ≤ vn ∧ ((vs.take i).flatMap fun s => encB s.data.toList).length ≤ 2000 * i) (fun i _ _ => vn - i) (fun i p c => [(0, .pointer (some ⟨w, 0, none⟩)), (6, .slice vp vn vc), (7, .int .i64 vn), (8, .int .i64 i)]) (fun i p c => [wrA w p c (acc ++ (vs.take i).flatMap fun s => encB s.data.toList), wrO p c (acc ++ (vs.take i).flatMap fun s => encB s.data.toList), G, F]) 0 p c ⟨Nat.zero_le _, Nat.le_refl _⟩ ⟨rfl, rfl, rfl, rfl, trivial⟩ (by simp) fun i p c hz => ?_
  obtain ⟨hi, hb⟩ := hz
  refine J.seq <| J.region <| J.p rfl (Q.lss rfl rfl) <| J.nil <| J.then_n <| J.seq ?_
  refine J.kases 9 rfl (fun hc9 => ?_) (fun hc9 => ?_)
  ·
   refine J.cond_t rfl <| J.cskip <| J.then_n <| J.seq <| J.block <| J.seq ?_
   have hil : i < vn := by omega
   obtain ⟨b, off, hvp, hrd⟩ := hr.some_ (by omega)
   obtain ⟨v, hvi⟩ : ∃ v, vs[i]? = some v := ⟨_, List.getElem?_eq_getElem (by omega)⟩
   have hvb := hv v (List.mem_of_getElem? hvi)
   have hvl : v.data.toList.length ≤ 1024 := by have : v.data.toList.length = v.size := by simp
                                                omega
   have hel : (encB v.data.toList).length ≤ 2000 := by unfold encB; rw [List.length_append]; have := numB_len v.data.toList.length (by omega); omega
   have hft : ((vs.take (i + 1)).flatMap fun s => encB s.data.toList) = ((vs.take i).flatMap fun s => encB s.data.toList) ++ encB v.data.toList := by
     obtain ⟨h1, h2⟩ := List.getElem?_eq_some_iff.1 hvi
     rw [List.take_succ_eq_append_getElem h1, List.flatMap_append, h2, List.flatMap_cons, List.flatMap_nil, List.append_nil]
   obtain ⟨ac, hac⟩ : ∃ ac, ac = acc ++ (vs.take i).flatMap fun s => encB s.data.toList := ⟨_, rfl⟩
   have hal : ac.length ≤ 70368740000000 := by rw [hac, List.length_append]; omega
   rw [← hac]
   refine J.slot 6 (.slice (some ⟨b, off, none⟩) vn vc) rfl (by rw [hvp]) ?_
   refine J.region <| J.p rfl (Q.ia runUnderlying41 sizeOf9 rfl rfl (by omega) (by omega)) <| J.p rfl (Q.ld isAgg9 rfl ((hrd i (Value.string v) (by simp [hvi])).cast (by simp)).inI) <| J.p rfl (Q.asg rfl) <| J.nil <| J.then_n <| J.region <| J.m rfl <| J.m rfl ?_
   refine J.c rfl rfl (C.s2bL runUnderlying9 runUnderlying42 runUnderlying5 rfl) ?_
   rintro _ _ ⟨b14, c14, rfl, rfl⟩
   refine J.norm rfl ?_
   refine J.slrI (E0 := 5) (sz := 1) (p := some ⟨b14, 0, none⟩) (n := v.data.toList.length) (c := c14) (xs := bytesV v.data.toList) fun hsq => ?_
   refine J.callI call39 (wbytes_spec _ w p c ac (some ⟨b14, 0, none⟩) c14 v.data.toList hsq (by omega)) rfl rfl rfl ?_
   rintro _ _ ⟨p15, c15, rfl, rfl⟩
   refine J.norm rfl <| J.nil <| J.blk_n <| J.then_n <| J.region <| J.p rfl (Q.add64 rfl rfl (by omega)) <| J.m rfl <| J.nil ?_
   have e1 : (acc ++ (vs.take (i + 1)).flatMap fun s => encB s.data.toList) = ac ++ encB v.data.toList := by rw [hft, ← List.append_assoc, hac]
   rw [← e1]
   refine J.againI (i + 1, p15, c15) ⟨by show i + 1 ≤ vn; omega, by show ((vs.take (i + 1)).flatMap fun s => encB s.data.toList).length ≤ 2000 * (i + 1); rw [hft, List.length_append]; omega⟩ (by show vn - (i + 1) < vn - i; omega) ⟨rfl, (by show _ = some (Value.slice vp vn vc); rw [hvp]; rfl), rfl, rfl, trivial⟩
  refine J.cond_f rfl <| J.exit <| J.then_x <| J.lp_x <| J.blk_x ?_
  have htk : vs.take i = vs := List.take_of_length_le (by omega)
  rw [htk]
  refine J.end0I [wrA w p c (acc ++ vs.flatMap fun s => encB s.data.toList), wrO p c (acc ++ vs.flatMap fun s => encB s.data.toList), G] rfl ⟨p, c, rfl, rfl⟩
theorem wints_spec (vp : Option Addr) (vn vc : Nat) (vs : List Int) (hr : SlR [G] 1 (.slice vp vn vc) (vs.map (Value.int .i64))) (hn : acc.length + 10 * vs.length ≤ 70368744000000) (hv : ∀ v, v ∈ vs → 0 ≤ v ∧ v ≤ 1099511627776) :
    FSpec Tryz.prog 38 [.pointer (some ⟨w, 0, none⟩), .slice vp vn vc] [wrA w p c acc, wrO p c acc, G]
    (fun u B => ∃ p' c', u = .tuple #[] ∧ B = [wrA w p' c' (acc ++ (vs.map Int.toNat).flatMap numB), wrO p' c' (acc ++ (vs.map Int.toNat).flatMap numB), G]) := by
  have hlen : vs.length = vn := by have := hr.len; simp at this; omega
  refine FSpec.of func38 rfl ntmps38 rfl fun W0 F => ?_
  refine J.seq <| J.region <| J.m rfl <| J.p rfl (Q.lenSl runUnderlying50 rfl) <| J.m rfl <| J.nil <| J.then_n <| J.block ?_
  refine J.loop3 (fun (i : Nat) (_ : Option Addr) (_ : Nat) => i ≤ vn ∧ (((vs.take i).map Int.toNat).flatMap numB).length ≤ 10 * i) (fun i _ _ => vn - i) (fun i p c => [(0, .pointer (some ⟨w, 0, none⟩)), (6, .slice vp vn vc), (7, .int .i64 vn), (8, .int .i64 i)]) (fun i p c => [wrA w p c (acc ++ ((vs.take i).map Int.toNat).flatMap numB), wrO p c (acc ++ ((vs.take i).map Int.toNat).flatMap numB), G, F]) 0 p c ⟨Nat.zero_le _, Nat.le_refl _⟩ ⟨rfl, rfl, rfl, rfl, trivial⟩ (by simp) fun i p c hz => ?_
  obtain ⟨hi, hb⟩ := hz
  refine J.seq <| J.region <| J.p rfl (Q.lss rfl rfl) <| J.nil <| J.then_n <| J.seq ?_
  refine J.kases 9 rfl (fun hc9 => ?_) (fun hc9 => ?_)
  ·
   refine J.cond_t rfl <| J.cskip <| J.then_n <| J.seq <| J.block <| J.seq ?_
   have hil : i < vn := by omega
   obtain ⟨b, off, hvp, hrd⟩ := hr.some_ (by omega)
   obtain ⟨v, hvi⟩ : ∃ v, vs[i]? = some v := ⟨_, List.getElem?_eq_getElem (by omega)⟩
   have hvb := hv v (List.mem_of_getElem? hvi)
   have hnl := numB_len v.toNat (by omega)
   have hft : ((vs.take (i + 1)).map Int.toNat).flatMap numB = ((vs.take i).map Int.toNat).flatMap numB ++ numB v.toNat := by
     obtain ⟨h1, h2⟩ := List.getElem?_eq_some_iff.1 hvi
     rw [List.take_succ_eq_append_getElem h1, List.map_append, List.flatMap_append, h2, List.map_cons, List.map_nil, List.flatMap_cons, List.flatMap_nil, List.append_nil]
   obtain ⟨ac, hac⟩ : ∃ ac, ac = acc ++ ((vs.take i).map Int.toNat).flatMap numB := ⟨_, rfl⟩
   have hal : ac.length ≤ 70368744000000 := by rw [hac, List.length_append]; omega
   rw [← hac]
   refine J.slot 6 (.slice (some ⟨b, off, none⟩) vn vc) rfl (by rw [hvp]) ?_
   refine J.region <| J.p rfl (Q.ia runUnderlying50 sizeOf3 rfl rfl (by omega) (by omega)) <| J.p rfl (Q.ld isAgg3 rfl ((hrd i (.int .i64 v) (by simp [hvi])).cast (by simp)).inI) <| J.p rfl (Q.asg rfl) <| J.nil <| J.then_n <| J.region <| J.m rfl <| J.m rfl <| J.p rfl (Q.conv runUnderlying3 runUnderlying40 rfl) ?_
   refine J.slot 14 (encU v.toNat) rfl (by show Value.int .u64 (IntKind.u64.wrap v) = Value.int .u64 ((v.toNat : Nat) : Int); congr 1; rw [show v = ((v.toNat : Nat) : Int) by omega, wrap64 (by omega)]; simp) ?_
   refine J.c rfl rfl (C.bslG (l := [_]) runUnderlying151 sizeOf40 zeroValue40 (by decide) rfl rfl rfl rfl rfl) ?_
   rintro _ _ ⟨b15, rfl, rfl⟩
   refine J.norm rfl ?_
   refine J.callI call36 (wnumbers_spec (pt b15 (.cells [encU v.toNat].toArray 40 (0, 0))) w p c ac (some ⟨b15, 0, none⟩) 1 1 [v.toNat] (SlR.ptI rfl) (by show _ + 10 * 1 ≤ _; omega) (by intro u hu; rw [List.mem_singleton.1 hu]; omega)) rfl rfl rfl ?_
   rintro _ _ ⟨p15, c15, rfl, rfl⟩
   refine J.norm rfl <| J.nil <| J.blk_n <| J.then_n <| J.region <| J.p rfl (Q.add64 rfl rfl (by omega)) <| J.m rfl <| J.nil ?_
   have e1 : acc ++ ((vs.take (i + 1)).map Int.toNat).flatMap numB = ac ++ [v.toNat].flatMap numB := by rw [hft, ← List.append_assoc, hac]; simp
   rw [← e1]
   refine J.againI (i + 1, p15, c15) ⟨by show i + 1 ≤ vn; omega, by show (((vs.take (i + 1)).map Int.toNat).flatMap numB).length ≤ 10 * (i + 1); rw [hft, List.length_append]; omega⟩ (by show vn - (i + 1) < vn - i; omega) ⟨rfl, (by show _ = some (Value.slice vp vn vc); rw [hvp]; rfl), rfl, rfl, trivial⟩
  refine J.cond_f rfl <| J.exit <| J.then_x <| J.lp_x <| J.blk_x ?_
  have htk : vs.take i = vs := List.take_of_length_le (by omega)
  rw [htk]
  refine J.end0I [wrA w p c (acc ++ (vs.map Int.toNat).flatMap numB), wrO p c (acc ++ (vs.map Int.toNat).flatMap numB), G] rfl ⟨p, c, rfl, rfl⟩
end
theorem opCommand_spec (G : Assn) (x : OW) (hx : x.ok G) (ho : x.o.fine) : FSpec Tryz.prog 14 [.agg x.cells.toArray] [G] (fun u B => ∃ p c, u = .slice p (opB x.o).length c ∧ B = [wrO p c (opB x.o), G]) := by
  have hk := ho.kind
  have hnn := ho.n
  have hpp := ho.parts
  have htt := ho.texts
  have hdd := ho.data
  have hii := ho.id
  have huu := ho.up
  refine FSpec.of func14 rfl ntmps14 rfl fun W0 F => ?_
  refine J.seq <| J.region ?_
  refine J.c rfl rfl (C.box (l := [_, _, _, _, _, _, _, _, _]) rfl rfl) ?_
  rintro _ _ ⟨b1, rfl, rfl⟩
  refine J.norm rfl <| J.p rfl (Q.asg rfl) <| J.nil <| J.then_n <| J.seq <| J.region <| J.p rfl (Q.bld (l := [_]) runUnderlying108 zeroValue108 places108 rfl rfl) ?_
  refine J.c rfl rfl (C.box (l := [_]) rfl rfl) ?_
  rintro _ _ ⟨b5, rfl, rfl⟩
  refine J.norm rfl ?_
  refine J.conv (Y := wrA b5 none 0 []) 0 rfl (fun _ h => h) ?_
  refine J.give (X := wrO none 0 []) (own.nil _ _ _) ?_
  refine J.p rfl (Q.asg rfl) <| J.nil <| J.then_n <| J.seq <| J.region <| J.m rfl <| J.p rfl (Q.fa (n := 0) runUnderlying52 rfl rfl sizeOf40 rfl) ?_
  refine J.p rfl (Q.ldI isAgg40 rfl) ?_
  refine J.p rfl (Q.fa (n := 1) runUnderlying52 rfl rfl sizeOf3 rfl) ?_
  refine J.p rfl (Q.ldI isAgg3 rfl) ?_
  refine J.p rfl (Q.conv runUnderlying3 runUnderlying40 rfl) ?_
  refine J.slot 11 (encU x.o.kind.toNat) rfl (by show Value.int .u64 (IntKind.u64.wrap x.o.kind) = Value.int .u64 ((x.o.kind.toNat : Nat) : Int); congr 1; rw [show x.o.kind = ((x.o.kind.toNat : Nat) : Int) by omega, wrap64 (by omega)]; simp) ?_
  refine J.c rfl rfl (C.bslG (l := [_, _, _]) runUnderlying151 sizeOf40 zeroValue40 (by decide) rfl rfl rfl rfl rfl) ?_
  rintro _ _ ⟨b12, rfl, rfl⟩
  refine J.norm rfl ?_
  refine J.conv (Y := pt b12 (.cells ([1, x.o.id, x.o.kind.toNat].map encU).toArray 40 (0, 0))) 0 rfl (fun _ h => h) ?_
  refine J.callI call36 (wnumbers_spec (pt b12 (.cells ([1, x.o.id, x.o.kind.toNat].map encU).toArray 40 (0, 0))) b5 none 0 [] (some ⟨b12, 0, none⟩) 3 3 [1, x.o.id, x.o.kind.toNat] (SlR.ptI rfl) (by show 0 + 10 * 3 ≤ _; omega) (by intro v hv; simp only [List.mem_cons, List.not_mem_nil, or_false] at hv; omega)) rfl rfl rfl ?_
  rintro _ _ ⟨p13, c13, rfl, rfl⟩
  refine J.norm rfl ?_
  obtain ⟨a1, ha1⟩ : ∃ a, a = [] ++ [1, x.o.id, x.o.kind.toNat].flatMap numB := ⟨_, rfl⟩
  have l1 : a1.length ≤ 30 := by rw [ha1, List.nil_append]; exact flat_numB [1, x.o.id, x.o.kind.toNat] (by intro v hv; simp only [List.mem_cons, List.not_mem_nil, or_false] at hv; omega)
  rw [← ha1]
  refine J.nil <| J.then_n <| J.seq <| J.region <| J.m rfl <| J.p rfl (Q.fa (n := 2) runUnderlying52 rfl rfl sizeOf9 rfl) ?_
  refine J.p rfl (Q.ldI isAgg9 rfl) ?_
  refine J.p rfl (Q.fa (n := 3) runUnderlying52 rfl rfl sizeOf9 rfl) ?_
  refine J.p rfl (Q.ldI isAgg9 rfl) ?_
  refine J.p rfl (Q.fa (n := 4) runUnderlying52 rfl rfl sizeOf9 rfl) ?_
  refine J.p rfl (Q.ldI isAgg9 rfl) ?_
  refine J.c rfl rfl (C.bslG (l := [_, _, _]) runUnderlying41 sizeOf9 zeroValue9 (by decide) rfl rfl rfl rfl rfl) ?_
  rintro _ _ ⟨b21, rfl, rfl⟩
  refine J.norm rfl ?_
  refine J.conv (Y := pt b21 (.cells ([x.o.bucket, x.o.key, x.o.after].map Value.string).toArray 9 (0, 0))) 0 rfl (fun _ h => h) ?_
  refine J.callI call37 (wtexts_spec (pt b21 (.cells ([x.o.bucket, x.o.key, x.o.after].map Value.string).toArray 9 (0, 0))) b5 p13 c13 a1 (some ⟨b21, 0, none⟩) 3 3 [x.o.bucket, x.o.key, x.o.after] (SlR.ptI rfl) (by show a1.length + 2000 * 3 ≤ _; omega) (by intro v hv; simp only [List.mem_cons, List.not_mem_nil, or_false] at hv; rcases hv with rfl | rfl | rfl <;> omega)) rfl rfl rfl ?_
  rintro _ _ ⟨p22, c22, rfl, rfl⟩
  refine J.norm rfl ?_
  obtain ⟨a2, ha2⟩ : ∃ a, a = a1 ++ [x.o.bucket, x.o.key, x.o.after].flatMap fun s => encB s.data.toList := ⟨_, rfl⟩
  have l2 : a2.length ≤ 6030 := by rw [ha2, List.length_append]; have := flat_encB [x.o.bucket, x.o.key, x.o.after] (by intro v hv; simp only [List.mem_cons, List.not_mem_nil, or_false] at hv; rcases hv with rfl | rfl | rfl <;> omega)
                                   simp only [List.length_cons, List.length_nil] at this; omega
  rw [← ha2]
  refine J.nil <| J.then_n <| J.seq <| J.region <| J.m rfl <| J.p rfl (Q.fa (n := 5) runUnderlying52 rfl rfl sizeOf3 rfl) ?_
  refine J.p rfl (Q.ldI isAgg3 rfl) ?_
  refine J.p rfl (Q.conv runUnderlying3 runUnderlying40 rfl) ?_
  refine J.slot 26 (encU x.o.n.toNat) rfl (by show Value.int .u64 (IntKind.u64.wrap x.o.n) = Value.int .u64 ((x.o.n.toNat : Nat) : Int); congr 1; rw [show x.o.n = ((x.o.n.toNat : Nat) : Int) by omega, wrap64 (by omega)]; simp) ?_
  refine J.p rfl (Q.fa (n := 6) runUnderlying52 rfl rfl sizeOf40 rfl) ?_
  refine J.p rfl (Q.ldI isAgg40 rfl) ?_
  refine J.p rfl (Q.fa (n := 7) runUnderlying52 rfl rfl sizeOf50 rfl) ?_
  refine J.p rfl (Q.ldI isAgg50 rfl) ?_
  refine J.p rfl (Q.lenSl runUnderlying50 rfl) <| J.p rfl (Q.conv runUnderlying3 runUnderlying40 rfl) ?_
  refine J.slot 32 (encU x.o.parts.length) rfl (by show Value.int .u64 (IntKind.u64.wrap (x.o.parts.length : Int)) = _; rw [wrap64 (by omega)]; rfl) ?_
  refine J.c rfl rfl (C.bslG (l := [_, _, _]) runUnderlying151 sizeOf40 zeroValue40 (by decide) rfl rfl rfl rfl rfl) ?_
  rintro _ _ ⟨b33, rfl, rfl⟩
  refine J.norm rfl ?_
  refine J.conv (Y := pt b33 (.cells ([x.o.n.toNat, x.o.upload, x.o.parts.length].map encU).toArray 40 (0, 0))) 0 rfl (fun _ h => h) ?_
  refine J.callI call36 (wnumbers_spec (pt b33 (.cells ([x.o.n.toNat, x.o.upload, x.o.parts.length].map encU).toArray 40 (0, 0))) b5 p22 c22 a2 (some ⟨b33, 0, none⟩) 3 3 [x.o.n.toNat, x.o.upload, x.o.parts.length] (SlR.ptI rfl) (by show a2.length + 10 * 3 ≤ _; omega) (by intro v hv; simp only [List.mem_cons, List.not_mem_nil, or_false] at hv; omega)) rfl rfl rfl ?_
  rintro _ _ ⟨p34, c34, rfl, rfl⟩
  refine J.norm rfl ?_
  obtain ⟨a3, ha3⟩ : ∃ a, a = a2 ++ [x.o.n.toNat, x.o.upload, x.o.parts.length].flatMap numB := ⟨_, rfl⟩
  have l3 : a3.length ≤ 6060 := by rw [ha3, List.length_append]; have := flat_numB [x.o.n.toNat, x.o.upload, x.o.parts.length] (by intro v hv; simp only [List.mem_cons, List.not_mem_nil, or_false] at hv; omega)
                                   simp only [List.length_cons, List.length_nil] at this; omega
  rw [← ha3]
  refine J.nil <| J.then_n <| J.seq <| J.region <| J.m rfl <| J.p rfl (Q.fa (n := 7) runUnderlying52 rfl rfl sizeOf50 rfl) ?_
  refine J.p rfl (Q.ldI isAgg50 rfl) ?_
  refine J.callI call38 (wints_spec G b5 p34 c34 a3 x.pp x.o.parts.length x.pc x.o.parts hx.parts (by omega) (by intro v hv; have := hpp.2 v hv; omega)) rfl rfl rfl ?_
  rintro _ _ ⟨p38, c38, rfl, rfl⟩
  refine J.norm rfl ?_
  obtain ⟨a4, ha4⟩ : ∃ a, a = a3 ++ (x.o.parts.map Int.toNat).flatMap numB := ⟨_, rfl⟩
  have l4 : a4.length ≤ 106060 := by rw [ha4, List.length_append]; have := flat_numB (x.o.parts.map Int.toNat) (by
                                      intro v hv
                                      obtain ⟨u, hu, rfl⟩ := List.mem_map.1 hv
                                      have := hpp.2 u hu; omega)
                                     rw [List.length_map] at this; omega
  rw [← ha4]
  refine J.nil <| J.then_n <| J.seq <| J.region <| J.m rfl <| J.p rfl (Q.fa (n := 8) runUnderlying52 rfl rfl sizeOf42 rfl) ?_
  refine J.p rfl (Q.ldI isAgg42 rfl) ?_
  refine J.callI call39 (wbytes_spec G b5 p38 c38 a4 x.dp x.dc x.o.data hx.data (by omega)) rfl rfl rfl ?_
  rintro _ _ ⟨p42, c42, rfl, rfl⟩
  refine J.norm rfl ?_
  have e : a4 ++ encB x.o.data = opB x.o := by rw [ha4, ha3, ha2, ha1]; simp [opB]
  rw [e]
  refine J.nil <| J.then_n <| J.seq <| J.region <| J.m rfl <| J.p rfl (Q.nil_ rfl) <| J.p rfl (Q.fa (n := 0) runUnderlying108 rfl rfl sizeOf42 rfl) ?_
  refine J.p rfl (Q.ldI isAgg42 rfl) ?_
  refine J.p rfl (Q.asg rfl) <| J.nil <| J.then_n <| J.cret ?_
  refine J.ret1I [wrO p42 c42 (opB x.o), G] rfl rfl ⟨p42, c42, rfl, rfl⟩

theorem bequal_spec (G H : Assn) (p q : Option Addr) (c d : Nat) (bs cs : List UInt8) (hb : SlR [G] 1 (.slice p bs.length c) (bytesV bs)) (hc : SlR [H] 1 (.slice q cs.length d) (bytesV cs)) :
    FSpec Tryz.prog 47 [.slice p bs.length c, .slice q cs.length d] [G, H] (fun v B => v = .bool (decide (bs = cs)) ∧ B = [G, H]) := by
  refine FSpec.of func47 rfl ntmps47 rfl fun W0 F => ?_
  refine J.seq <| J.region <| J.p rfl (Q.asg rfl) <| J.nil <| J.then_n <| J.seq <| J.region <| J.m rfl <| J.p rfl (Q.b2s runUnderlying42 runUnderlying9 runUnderlying5 rfl hb.inI) <| J.m rfl <| J.p rfl (Q.b2s runUnderlying42 runUnderlying9 runUnderlying5 rfl hc.inI) <| J.p rfl (Q.eqls rfl rfl) <| J.p rfl (Q.asg rfl) <| J.nil <| J.then_n ?_
  refine J.cret ?_
  refine J.ret1I [G, H] rfl rfl ⟨by simp, rfl⟩

def OW.asns (x : OW) : List Assn := [own 3 1 (.slice x.pp x.o.parts.length x.pc) (x.o.parts.map (Value.int .i64)), own 5 1 (.slice x.dp x.o.data.length x.dc) (bytesV x.o.data)]
def OW.asn (x : OW) : Assn := star x.asns
theorem OM.fine.small {o : OM} (h : o.fine) : o.bucket.size ≤ 9223372036854775807 ∧ o.key.size ≤ 9223372036854775807 ∧ o.after.size ≤ 9223372036854775807 ∧ o.parts.length ≤ 9223372036854775807 ∧ o.data.length ≤ 9223372036854775807 := by
  have h1 := h.texts
  have h2 := h.parts
  have h3 := h.data
  omega
theorem oasn_ok {x : OW} (hs : x.o.bucket.size ≤ 9223372036854775807 ∧ x.o.key.size ≤ 9223372036854775807 ∧ x.o.after.size ≤ 9223372036854775807 ∧ x.o.parts.length ≤ 9223372036854775807 ∧ x.o.data.length ≤ 9223372036854775807) : ∀ h, x.asn h → x.ok x.asn := by
  intro h hh
  have hh' : HSat h x.asns := hh
  obtain ⟨h1, h2, a, ⟨k1, k2, b, _, _, _, _⟩, _, _, _⟩ := hh'
  exact ⟨(own.slr (i := 0) rfl ⟨h1, X.G.HSat.one a⟩ : SlR [own 3 1 _ _] 1 _ _).into 0 rfl, (own.slr (i := 0) rfl ⟨k1, X.G.HSat.one b⟩ : SlR [own 5 1 _ _] 1 _ _).into 1 rfl, hs⟩

structure PM where
  bucket : ByteArray
  key : ByteArray
  version : Nat
  stripe : Nat
  k : Int
  m : Int
  size : Int
  sum : Nat
  nodes : List Int
structure PW where
  o : PM
  np : Option Addr
  nc : Nat
abbrev PW.cells (z : PW) : List Value := [.string z.o.bucket, .string z.o.key, .int .u64 z.o.version, .int .u64 z.o.stripe, .int .i64 z.o.k, .int .i64 z.o.m, .int .i64 z.o.size, .int .u32 z.o.sum, .slice z.np z.o.nodes.length z.nc]
def P0 : PW := ⟨⟨bt [], bt [], 0, 0, 0, 0, 0, 0, []⟩, none, 0⟩
def O0 : OM := ⟨0, 0, bt [], bt [], bt [], 0, 0, [], []⟩
structure DM where
  o : OM
  point : Bool
  bad : Bool
def DecR (d : DM) (G : Assn) (u : Value) (B : List Assn) : Prop := ∃ (y : OW) (z : PW), u = .tuple #[.agg y.cells.toArray, .agg z.cells.toArray, .bool d.point, .int .i64 (if d.bad then 14 else 0)] ∧ y.o = d.o ∧ y.ok y.asn ∧ B = [y.asn, G]
def DecIs (bs : List UInt8) (d : DM) : Prop := ∀ (G : Assn) (p : Option Addr) (c : Nat), SlP G p c bs → FSpec Tryz.prog 19 [.slice p bs.length c] [G] (DecR d G)

set_option maxHeartbeats 400000 in
theorem decode_op {o : OM} (ho : o.fine) (hc : o.chkB = true) : DecIs (opB o) ⟨o, false, false⟩ := by
  intro G p c hs
  obtain ⟨h1, h2⟩ := op_at ho
  obtain ⟨s0, e0⟩ : ∃ s : RS, s = ⟨opB o, false⟩ := ⟨_, rfl⟩
  rw [← e0] at h1 h2
  have hs0 : SlP G p c s0.b := by rw [e0]; exact hs
  have el : (opB o).length = s0.b.length := by rw [e0]
  rw [el]
  refine FSpec.of func19 rfl ntmps19 rfl fun W0 F => ?_
  refine J.seq <| J.region ?_
  refine J.c rfl rfl (C.alloc (l := [_, _, _, _, _, _, _, _, _]) zeroValue52 rfl) ?_
  rintro _ _ ⟨b2, rfl, rfl⟩
  refine J.norm rfl ?_
  refine J.c rfl rfl (C.alloc (l := [_, _, _, _, _, _, _, _, _]) zeroValue67 rfl) ?_
  rintro _ _ ⟨b3, rfl, rfl⟩
  refine J.norm rfl <| J.p rfl (Q.asg rfl) <| J.p rfl (Q.asg rfl) <| J.nil <| J.then_n <| J.seq <| J.region <| J.m rfl <| J.p rfl (Q.bld (l := [_, _]) runUnderlying116 zeroValue116 places116 rfl rfl) ?_
  refine J.c rfl rfl (C.box (l := [_, _]) rfl rfl) ?_
  rintro _ _ ⟨b9, rfl, rfl⟩
  refine J.norm rfl ?_
  refine J.conv (Y := rdA b9 p c s0) 0 rfl (fun _ h => by rw [e0] at h ⊢; exact h) ?_
  refine J.p rfl (Q.asg rfl) <| J.nil <| J.then_n <| J.seq <| J.seq <| J.region <| J.m rfl ?_
  refine J.callI call41 (rnumber_spec G b9 p c s0 hs0) rfl rfl rfl ?_
  rintro _ _ ⟨p1, c1, rfl, hs1, rfl⟩
  refine J.norm rfl ?_
  refine J.slot 11 (.int .u64 1) rfl (by rw [h1]; rfl) ?_
  obtain ⟨s1, e1⟩ : ∃ s, s = s0.num.2 := ⟨_, rfl⟩
  rw [← e1] at hs1 h2 ⊢
  refine J.nil <| J.then_n <| J.block <| J.seq <| J.region <| J.p rfl (Q.eql rfl rfl) <| J.p rfl (Q.asg rfl) <| J.nil <| J.then_n <| J.cond_t rfl <| J.seq <| J.region <| J.m rfl ?_
  refine J.callI call41 (rnumber_spec G b9 p1 c1 s1 hs1) rfl rfl rfl ?_
  rintro _ _ ⟨p2, c2, rfl, hs2, rfl⟩
  refine J.norm rfl ?_
  obtain ⟨s2, e2⟩ : ∃ s, s = s1.num.2 := ⟨_, rfl⟩
  rw [← e2] at hs2 ⊢
  refine J.m rfl ?_
  refine J.callI call42 (rint_spec G b9 p2 c2 s2 hs2) rfl rfl rfl ?_
  rintro _ _ ⟨p3, c3, rfl, hs3, rfl⟩
  refine J.norm rfl ?_
  obtain ⟨s3, e3⟩ : ∃ s, s = s2.int.2 := ⟨_, rfl⟩
  rw [← e3] at hs3 ⊢
  refine J.m rfl ?_
  refine J.callI call43 (rtext_spec G b9 p3 c3 s3 hs3) rfl rfl rfl ?_
  rintro _ _ ⟨p4, c4, rfl, hs4, rfl⟩
  refine J.norm rfl ?_
  obtain ⟨s4, e4⟩ : ∃ s, s = s3.text.2 := ⟨_, rfl⟩
  rw [← e4] at hs4 ⊢
  refine J.m rfl ?_
  refine J.callI call43 (rtext_spec G b9 p4 c4 s4 hs4) rfl rfl rfl ?_
  rintro _ _ ⟨p5, c5, rfl, hs5, rfl⟩
  refine J.norm rfl ?_
  obtain ⟨s5, e5⟩ : ∃ s, s = s4.text.2 := ⟨_, rfl⟩
  rw [← e5] at hs5 ⊢
  refine J.m rfl ?_
  refine J.callI call43 (rtext_spec G b9 p5 c5 s5 hs5) rfl rfl rfl ?_
  rintro _ _ ⟨p6, c6, rfl, hs6, rfl⟩
  refine J.norm rfl ?_
  obtain ⟨s6, e6⟩ : ∃ s, s = s5.text.2 := ⟨_, rfl⟩
  rw [← e6] at hs6 ⊢
  refine J.m rfl ?_
  refine J.callI call42 (rint_spec G b9 p6 c6 s6 hs6) rfl rfl rfl ?_
  rintro _ _ ⟨p7, c7, rfl, hs7, rfl⟩
  refine J.norm rfl ?_
  obtain ⟨s7, e7⟩ : ∃ s, s = s6.int.2 := ⟨_, rfl⟩
  rw [← e7] at hs7 ⊢
  refine J.m rfl ?_
  refine J.callI call41 (rnumber_spec G b9 p7 c7 s7 hs7) rfl rfl rfl ?_
  rintro _ _ ⟨p8, c8, rfl, hs8, rfl⟩
  refine J.norm rfl ?_
  obtain ⟨s8, e8⟩ : ∃ s, s = s7.num.2 := ⟨_, rfl⟩
  rw [← e8] at hs8 ⊢
  refine J.m rfl ?_
  refine J.callI call44 (rints_spec G b9 p8 c8 s8 hs8) rfl rfl rfl ?_
  rintro _ _ ⟨p9, c9, q29, d29, rfl, hs9, rfl⟩
  refine J.norm rfl ?_
  obtain ⟨s9, e9⟩ : ∃ s, s = s8.ints.2 := ⟨_, rfl⟩
  rw [← e9] at hs9 ⊢
  refine J.m rfl ?_
  refine J.callI call45 (rbytes_spec G b9 p9 c9 s9 hs9) rfl rfl rfl ?_
  rintro _ _ ⟨p10, c10, q31, d31, rfl, hs10, rfl⟩
  refine J.norm rfl ?_
  obtain ⟨s10, e10⟩ : ∃ s, s = s9.bytes.2 := ⟨_, rfl⟩
  rw [← e10] at hs10 ⊢
  have hop : RS.op s1 = (⟨s1.num.1, s2.int.1, s3.text.1, s4.text.1, s5.text.1, s6.int.1, s7.num.1, s8.ints.1.map Int.ofNat, s9.bytes.1⟩, s10) := by
   unfold RS.op
   dsimp only
   rw [← e2, ← e3, ← e4, ← e5, ← e6, ← e7, ← e8, ← e9, ← e10]
  rw [h2] at hop
  have ho1 := congrArg Prod.fst hop
  have ho2 := congrArg Prod.snd hop
  dsimp only at ho1 ho2
  obtain ⟨y, hy⟩ : ∃ y : OW, y = ⟨o, q29, d29, q31, d31⟩ := ⟨_, rfl⟩
  have hyo : y.o = o := by rw [hy]
  have hyc : y.cells = [.int .u64 s1.num.1, .int .i64 s2.int.1, .string s3.text.1, .string s4.text.1, .string s5.text.1, .int .i64 s6.int.1, .int .u64 s7.num.1, .slice q29 s8.ints.1.length d29, .slice q31 s9.bytes.1.length d31] := by rw [hy, ho1]; simp [OW.cells]
  have hya : ∀ h, HSat h [own 3 1 (.slice q29 s8.ints.1.length d29) (s8.ints.1.map fun v : Nat => Value.int .i64 (v : Int)), own 5 1 (.slice q31 s9.bytes.1.length d31) (bytesV s9.bytes.1)] → y.asn h := by
   intro h hh
   have e : y.asns = [own 3 1 (.slice q29 s8.ints.1.length d29) (s8.ints.1.map fun v : Nat => Value.int .i64 (v : Int)), own 5 1 (.slice q31 s9.bytes.1.length d31) (bytesV s9.bytes.1)] := by rw [hy, ho1]; simp [OW.asns, Function.comp_def]
   show HSat h y.asns
   rw [e]; exact hh
  refine J.shutI [own 3 1 (.slice q29 s8.ints.1.length d29) (s8.ints.1.map fun v : Nat => Value.int .i64 (v : Int)), own 5 1 (.slice q31 s9.bytes.1.length d31) (bytesV s9.bytes.1)] y.asn hya ?_
  have hbd : s10.bad = false := by rw [← ho2]
  subst hyo
  refine J.p rfl (Q.bld (l := [.int .u64 s1.num.1, .int .i64 s2.int.1, .string s3.text.1, .string s4.text.1, .string s5.text.1, .int .i64 s6.int.1, .int .u64 s7.num.1, .slice q29 s8.ints.1.length d29, .slice q31 s9.bytes.1.length d31]) runUnderlying52 zeroValue52 places52 rfl (by kernel_rfl)) ?_
  refine J.slot 32 (.agg y.cells.toArray) rfl (by rw [hyc]) ?_
  refine J.stAJ (vs := [_, _, _, _, _, _, _, _, _]) rfl sizeOf52 rfl rfl ?_
  refine J.nil <| J.then_n <| J.seq ?_
  refine J.tellsI y.asn (oasn_ok ho.small) fun hyk => ?_
  refine J.region <| J.m rfl <| J.p rfl (Q.nil_ rfl) <| J.p rfl (Q.fa (n := 1) runUnderlying116 rfl rfl sizeOf4 rfl) ?_
  refine J.p rfl (Q.ldI isAgg4 rfl) ?_
  refine J.slot 36 (.bool false) rfl (by rw [hbd]) ?_
  refine J.p rfl (Q.not rfl) <| J.m rfl ?_
  refine J.kases 38 rfl (fun hb38 => ?_) (fun hb38 => ?_)
  ·
   refine J.p rfl (Q.ldN (vs := [_, _, _, _, _, _, _, _, _]) isAgg52 sizeOf52 rfl rnI) ?_
   refine J.callI call46 (check_yes y.asn y hyk hc) rfl rfl rfl ?_
   rintro _ _ ⟨rfl, rfl⟩
   refine J.norm rfl <| J.p rfl (Q.eql rfl rfl) <| J.p rfl (Q.pick_t rfl rfl) <| J.m rfl ?_
   refine J.kases 43 rfl (fun hb43 => ?_) (fun hb43 => ?_)
   ·
    refine J.p rfl (Q.ldN (vs := [_, _, _, _, _, _, _, _, _]) isAgg52 sizeOf52 rfl rnI) ?_
    refine J.callI call14 (opCommand_spec y.asn y hyk ho) rfl rfl rfl ?_
    rintro _ _ ⟨q45, d45, rfl, rfl⟩
    refine J.norm rfl ?_
    refine J.slrI (E0 := 5) (sz := 1) (p := q45) (n := (opB y.o).length) (c := d45) (xs := bytesV (opB y.o)) fun hsq => ?_
    refine J.m rfl ?_
    refine J.callI call47 (bequal_spec (wrO q45 d45 (opB y.o)) G q45 p d45 c (opB y.o) s0.b hsq hs0.sl) rfl rfl rfl ?_
    rintro _ _ ⟨rfl, rfl⟩
    refine J.norm rfl ?_
    refine J.slot 47 (.bool true) rfl (by rw [e0]; simp) ?_
    refine J.p rfl (Q.pick_t rfl rfl) <| J.nil <| J.then_n ?_
    refine J.kases 48 rfl (fun hc48 => ?_) (fun hc48 => ?_)
    ·
     refine J.cond_t rfl <| J.seq <| J.region ?_
     refine J.p rfl (Q.ldN (vs := [_, _, _, _, _, _, _, _, _]) isAgg52 sizeOf52 rfl rnI) ?_
     refine J.p rfl (Q.bld (l := [_, _, _, _, _, _, _, _, _]) runUnderlying67 zeroValue67 places67 rfl rfl) ?_
     refine J.stAJ (vs := [_, _, _, _, _, _, _, _, _]) rfl sizeOf52 rfl rfl ?_
     refine J.stAJ (vs := [_, _, _, _, _, _, _, _, _]) rfl sizeOf67 rfl rfl ?_
     refine J.p rfl (Q.asg rfl) <| J.p rfl (Q.asg rfl) <| J.nil <| J.then_n <| J.cret <| J.blk_r <| J.then_r ?_
     refine J.retC4I (vs := y.cells) (vs2 := P0.cells) [y.asn, G] rfl rfl rfl rfl rfl isAgg52 sizeOf52 rnI isAgg67 sizeOf67 rnI ⟨y, P0, rfl, rfl, hyk, rfl⟩
    cases hc48
   simp at hb43
  cases hb38

def boxOwnS (b : Nat) (xs : List ByteArray) : Assn := fun h => ∃ z : Option Addr × Nat, HSat h [pt b (.cells [.slice z.1 xs.length z.2].toArray 41 (0, 0)), own 9 1 (.slice z.1 xs.length z.2) (xs.map Value.string)]

theorem appendSeqS (gf : FuncId) (lb : List Value) (G : Assn) (S : List ByteArray → Prop) (ok : List ByteArray → ByteArray → Prop) (eg : ∀ (args : Array Value) (w : World), (callFunc gf args).run Tryz.prog w = .ok (.enter gf args) w)
    (hit : ItSpec Tryz.prog gf lb (fun x : ByteArray => [Value.string x]) [G] S ok) (hok : ∀ pre x, ok pre x → pre.length < 1099511627776) :
    FSpec Tryz.prog 103 [.slice none 0 0, .func (.func gf) #[] lb.toArray] [G] (fun v B => ∃ (xs : List ByteArray) (p : Option Addr) (c : Nat), S xs ∧ v = .slice p xs.length c ∧ B = [own 9 1 (.slice p xs.length c) (xs.map Value.string), G]) := by
  refine FSpec.ofM func103 rfl ntmps103 rfl fun W0 F => ?_
  refine JI.seq ?_
  refine JI.region ?_
  refine JI.c rfl rfl (fun _ e => nomatch e) (C.box (l := [_]) rfl rfl) ?_
  rintro _ _ ⟨b2, rfl, rfl⟩
  refine J.norm rfl ?_
  refine JI.q rfl rfl (fun _ e => nomatch e) (Q.asg rfl) ?_
  refine JI.nil ?_
  refine JI.then_n ?_
  refine JI.seq ?_
  refine JI.seq ?_
  refine JI.region ?_
  refine JI.q rfl rfl (fun _ e => nomatch e) (Q.mv rfl) ?_
  refine JI.nil ?_
  refine JI.then_n ?_
  refine JI.block ?_
  refine J.give (own.nil 9 1 _) ?_
  refine J.shut [1, 0] (boxOwnS b2 []) rfl (fun h s => ⟨(none, 0), s⟩) ?_
  refine J.sub [(2, .pointer (some ⟨b2, 0, none⟩)), (6, .func (.func gf) #[] lb.toArray)] ⟨rfl, rfl, trivial⟩ ?_
  refine JI.rangeFunc gf lb (fun x : ByteArray => [Value.string x]) S ok (fun pre => [boxOwnS b2 pre]) (fun x => [(5, Value.string x), (2, .pointer (some ⟨b2, 0, none⟩))]) rfl eg hit (by decide) (fun _ => rfl) [0, 1] rfl ?_ ?_ ?_
  · intro l W1 F1 pre x _
    refine JI.region ?_
    refine JI.q rfl rfl (fun _ e => nomatch e) (Q.asg rfl) ?_
    refine JI.nil ?_
    exact JI.asgEnd ⟨rfl, rfl, trivial⟩ rfl
  · intro l W1 F1 pre x hk
    have hlen := hok pre x hk
    refine JI.block ?_
    refine JI.region ?_
    refine J.open_ 0 (p := fun _ => True) rfl rfl (fun h hh => by obtain ⟨z, hz⟩ := hh; exact ⟨z, trivial, hz⟩) fun z _ => ?_
    refine J.norm rfl ?_
    refine JI.q rfl rfl (fun _ e => nomatch e) (Q.ld isAgg41 rfl (Reads.pt 0 rfl rfl)) ?_
    refine JI.q rfl rfl (fun _ e => nomatch e) (Q.mv rfl) ?_
    refine JI.c rfl rfl (fun _ e => nomatch e) (C.bslG (l := [_]) runUnderlying41 sizeOf9 zeroValue9 (by decide) rfl rfl rfl rfl rfl) ?_
    rintro _ _ ⟨b10, rfl, rfl⟩
    refine J.norm rfl ?_
    refine JI.c rfl rfl (fun _ e => nomatch e) (C.app (i := 2) runUnderlying41 runUnderlying41 typeInfo9 sizeOf9 zeroValue9 rfl rfl rfl (SlR.pt 0 rfl rfl (xs := [Value.string x]) (fun j u h => by rw [Nat.zero_add]; exact h)) (by intro v hv; obtain rfl := List.mem_singleton.1 hv; rfl) (by simp [Tryz.t9]; omega) (by decide)) ?_
    rintro _ _ ⟨p11, c11, rfl, rfl⟩
    refine J.norm rfl ?_
    refine JI.c0 rfl (fun _ e => nomatch e) (C.stl (i := 1) sizeOf41 rfl rfl rfl rfl rfl rfl rfl) ?_
    rintro _ _ ⟨rfl, rfl⟩
    refine JI.nil ?_
    refine JI.blk_n ?_
    refine J.shut [1, 2] (boxOwnS b2 (pre ++ [x])) rfl (fun h s => ⟨(p11, c11), by simpa [List.length_append] using s⟩) ?_
    refine J.keep [0, 2] rfl ?_
    exact JI.bodyEnd rfl
  · intro D xs hS
    refine J.norm rfl ?_
    refine JI.blk_n ?_
    refine JI.then_n ?_
    refine JI.seq ?_
    refine JI.region ?_
    refine J.open_ 1 (p := fun _ => True) rfl rfl (fun h hh => by obtain ⟨z, hz⟩ := hh; exact ⟨z, trivial, hz⟩) fun z _ => ?_
    refine J.norm rfl ?_
    refine JI.q rfl rfl (fun _ e => nomatch e) (Q.ld isAgg41 rfl (Reads.pt 0 rfl rfl)) ?_
    refine JI.q rfl rfl (fun _ e => nomatch e) (Q.asg rfl) ?_
    refine JI.nil ?_
    refine JI.then_n ?_
    refine JI.ret ?_
    refine J.keep [2, 1, 3, 4] rfl ?_
    exact JI.ret1 rfl rfl ⟨xs, z.1, z.2, hS, rfl, rfl⟩ rfl

theorem collectS (gf : FuncId) (lb : List Value) (G : Assn) (S : List ByteArray → Prop) (ok : List ByteArray → ByteArray → Prop) (eg : ∀ (args : Array Value) (w : World), (callFunc gf args).run Tryz.prog w = .ok (.enter gf args) w)
    (hit : ItSpec Tryz.prog gf lb (fun x : ByteArray => [Value.string x]) [G] S ok) (hok : ∀ pre x, ok pre x → pre.length < 1099511627776) :
    FSpec Tryz.prog 100 [.func (.func gf) #[] lb.toArray] [G] (fun v B => ∃ (xs : List ByteArray) (p : Option Addr) (c : Nat), S xs ∧ v = .slice p xs.length c ∧ B = [own 9 1 (.slice p xs.length c) (xs.map Value.string), G]) := by
  refine FSpec.of func100 rfl ntmps100 rfl fun W0 F => ?_
  refine J.seq <| J.region <| J.p rfl (Q.asg rfl) <| J.nil <| J.then_n <| J.seq <| J.region <| J.m rfl ?_
  refine J.call call103 (appendSeqS gf lb G S ok eg hit hok) [0] rfl rfl rfl rfl ?_
  rintro _ _ ⟨xs, p, c, hS, rfl, rfl⟩
  refine J.norm rfl <| J.p rfl (Q.asg rfl) <| J.nil <| J.then_n <| J.cret ?_
  refine J.ret1 (B := [_, G]) rfl rfl ⟨xs, p, c, hS, rfl, rfl⟩ rfl
end Go.Proofs.YtidbcaimgahllaaGreat
namespace Go.Proofs
open Go.Shelf
def Tryz.sort101_ren : Go.Shelf.Ren := ⟨fun | 6 => 101 | 8 => 105 | 9 => 104 | 19 => 115 | 20 => 116 | 21 => 106 | 22 => 107 | 23 => 108 | 24 => 109 | 25 => 110 | 26 => 111 | 27 => 112 | 28 => 113 | 29 => 114 | 36 => 117 | 31 => 118 | 32 => 119 | 37 => 120 | 38 => 121 | 39 => 122 | 41 => 123 | n => n, fun | 27 => 41 | 29 => 9 | 3 => 3 | 32 => 174 | 26 => 41 | 0 => 0 | 44 => 65 | 46 => 40 | 4 => 4 | 36 => 196 | 35 => 195 | 41 => 132 | 5 => 5 | 9 => 9 | 53 => 203 | 57 => 206 | 63 => 208 | 64 => 209 | n => n, fun | n => n⟩
theorem Tryz.sort101 : Go.Proofs.SlLaysM.n6 Tryz.prog Tryz.sort101_ren := {
  mixed := by kernel_rfl
  f6 := ⟨Tryz.f101.name, by decide, Tryz.func101.trans (congrArg some (by kernel_rfl))⟩
  f8 := Tryz.func105.trans (congrArg some (by kernel_rfl))
  f9 := ⟨Tryz.f104.name, by decide, Tryz.func104.trans (congrArg some (by kernel_rfl))⟩
  f19 := Tryz.func115.trans (congrArg some (by kernel_rfl))
  f20 := Tryz.func116.trans (congrArg some (by kernel_rfl))
  f21 := ⟨Tryz.f106.name, by decide, Tryz.func106.trans (congrArg some (by kernel_rfl))⟩
  f22 := ⟨Tryz.f107.name, by decide, Tryz.func107.trans (congrArg some (by kernel_rfl))⟩
  f23 := ⟨Tryz.f108.name, by decide, Tryz.func108.trans (congrArg some (by kernel_rfl))⟩
  f24 := ⟨Tryz.f109.name, by decide, Tryz.func109.trans (congrArg some (by kernel_rfl))⟩
  f25 := ⟨Tryz.f110.name, by decide, Tryz.func110.trans (congrArg some (by kernel_rfl))⟩
  f26 := ⟨Tryz.f111.name, by decide, Tryz.func111.trans (congrArg some (by kernel_rfl))⟩
  f27 := ⟨Tryz.f112.name, by decide, Tryz.func112.trans (congrArg some (by kernel_rfl))⟩
  f28 := ⟨Tryz.f113.name, by decide, Tryz.func113.trans (congrArg some (by kernel_rfl))⟩
  f29 := ⟨Tryz.f114.name, by decide, Tryz.func114.trans (congrArg some (by kernel_rfl))⟩
  f31 := Tryz.func118.trans (congrArg some (by kernel_rfl))
  f32 := Tryz.func119.trans (congrArg some (by kernel_rfl))
  f36 := ⟨Tryz.f117.name, by decide, Tryz.func117.trans (congrArg some (by kernel_rfl))⟩
  f37 := ⟨Tryz.f120.name, by decide, Tryz.func120.trans (congrArg some (by kernel_rfl))⟩
  f38 := ⟨Tryz.f121.name, by decide, Tryz.func121.trans (congrArg some (by kernel_rfl))⟩
  f39 := ⟨Tryz.f122.name, by decide, Tryz.func122.trans (congrArg some (by kernel_rfl))⟩
  f41 := ⟨Tryz.f123.name, by decide, Tryz.func123.trans (congrArg some (by kernel_rfl))⟩
  t0 := Tryz.underlying0
  a0 := Tryz.isAgg0
  z0 := Tryz.sizeOf0
  v0 := Tryz.zeroValue0
  t3 := Tryz.underlying3
  a3 := Tryz.isAgg3
  z3 := Tryz.sizeOf3
  v3 := Tryz.zeroValue3
  t4 := Tryz.underlying4
  a4 := Tryz.isAgg4
  z4 := Tryz.sizeOf4
  v4 := Tryz.zeroValue4
  t5 := Tryz.underlying5
  a5 := Tryz.isAgg5
  z5 := Tryz.sizeOf5
  v5 := Tryz.zeroValue5
  t9 := Tryz.underlying9
  a9 := Tryz.isAgg9
  z9 := Tryz.sizeOf9
  v9 := Tryz.zeroValue9
  t26 := Tryz.underlying41
  a26 := Tryz.isAgg41
  z26 := Tryz.sizeOf41
  v26 := Tryz.zeroValue41
  t27 := Tryz.underlying41
  a27 := Tryz.isAgg41
  z27 := Tryz.sizeOf41
  v27 := Tryz.zeroValue41
  t29 := Tryz.underlying9
  a29 := Tryz.isAgg9
  z29 := Tryz.sizeOf9
  v29 := Tryz.zeroValue9
  t32 := Tryz.underlying174
  a32 := Tryz.isAgg174
  z32 := Tryz.sizeOf174
  v32 := Tryz.zeroValue174
  t35 := Tryz.underlying195
  a35 := Tryz.isAgg195
  z35 := Tryz.sizeOf195
  v35 := Tryz.zeroValue195
  t36 := Tryz.underlying196
  a36 := Tryz.isAgg196
  z36 := Tryz.sizeOf196
  v36 := Tryz.zeroValue196
  t41 := Tryz.underlying132
  a41 := Tryz.isAgg132
  z41 := Tryz.sizeOf132
  v41 := Tryz.zeroValue132
  t44 := Tryz.underlying65
  a44 := Tryz.isAgg65
  z44 := Tryz.sizeOf65
  v44 := Tryz.zeroValue65
  t46 := Tryz.underlying40
  a46 := Tryz.isAgg40
  z46 := Tryz.sizeOf40
  v46 := Tryz.zeroValue40
  t53 := Tryz.underlying203
  a53 := Tryz.isAgg203
  z53 := Tryz.sizeOf203
  v53 := Tryz.zeroValue203
  t57 := Tryz.underlying206
  a57 := Tryz.isAgg206
  z57 := Tryz.sizeOf206
  v57 := Tryz.zeroValue206
  t63 := Tryz.underlying208
  a63 := Tryz.isAgg208
  z63 := Tryz.sizeOf208
  v63 := Tryz.zeroValue208
  t64 := Tryz.underlying209
  a64 := Tryz.isAgg209
  z64 := Tryz.sizeOf209
  v64 := Tryz.zeroValue209 }
end Go.Proofs

