/-
  Acts; one step on a disk and on the document's disk.
-/
import Derived.Test.YtkekcdcmmggbaaaRefJ
import Derived.Test.YtkekcdcmmggbaaaDiskK
namespace Go.Proofs.Ytkekcdcmmggbaaa
open Go.X

structure AM where
  op : Int
  name : ByteArray
  to_ : ByteArray
  names : List ByteArray
  bytes : List UInt8
  picks : List Int

structure AW where
  a : AM
  np : Option Addr
  nc : Nat
  bp : Option Addr
  bc : Nat
  pp : Option Addr
  pc : Nat

def AW.cells (x : AW) : List Value := [.int .i64 x.a.op, .string x.a.name, .string x.a.to_, .slice x.np x.a.names.length x.nc, .slice x.bp x.a.bytes.length x.bc, .slice x.pp x.a.picks.length x.pc]
theorem AW.cells_length (x : AW) : x.cells.length = 6 := rfl

/-- What is known of an act that is handed in. -/
structure AW.ok (G : Assn) (x : AW) : Prop where
  names : SlR [G] 1 (.slice x.np x.a.names.length x.nc) (x.a.names.map Value.string)
  bytes : SlR [G] 1 (.slice x.bp x.a.bytes.length x.bc) (bytesV x.a.bytes)
  picks : SlR [G] 1 (.slice x.pp x.a.picks.length x.pc) (x.a.picks.map (Value.int .i64))
  bcap : x.a.bytes.length ≤ x.bc
  op : -9223372036854775808 ≤ x.a.op ∧ x.a.op ≤ 9223372036854775807
  ints : ∀ v, v ∈ x.a.picks → -9223372036854775808 ≤ v ∧ v ≤ 9223372036854775807
  small : x.a.name.size ≤ 1048576 ∧ x.a.to_.size ≤ 1048576 ∧ x.a.names.length ≤ 1048576 ∧ x.a.bytes.length ≤ 1048576 ∧ x.a.picks.length ≤ 1048576
  nsmall : ∀ s, s ∈ x.a.names → s.size ≤ 1048576

def stepD (d : DM) (x : AM) : DM :=
  if x.op = 1 then (d.append x.name x.bytes).2 else if x.op = 2 then (d.sync x.names).2 else if x.op = 3 then (d.rename x.name x.to_).2
  else if x.op = 4 then (d.delete x.names).2 else if x.op = 5 then d.crash x.picks else if x.op = 6 then d.lose else d
def stepR (d : DM) (x : AM) : DM :=
  if x.op = 1 then (d.rappend x.name x.bytes).2 else if x.op = 2 then (d.sync x.names).2 else if x.op = 3 then (d.rrename x.name x.to_).2
  else if x.op = 4 then (d.delete x.names).2 else if x.op = 5 then d.rcrash x.picks else if x.op = 6 then d.lose else d
def stepV (d r : DM) (x : AM) : Bool :=
  if x.op = 1 then decide ((d.append x.name x.bytes).1 = (r.rappend x.name x.bytes).1) else if x.op = 2 then decide ((d.sync x.names).1 = (r.sync x.names).1)
  else if x.op = 3 then decide ((d.rename x.name x.to_).1 = (r.rrename x.name x.to_).1) else if x.op = 4 then decide ((d.delete x.names).1 = (r.delete x.names).1) else true

theorem stepV_1 {d r : DM} {x : AM} (h : x.op = 1) : stepV d r x = decide ((d.append x.name x.bytes).1 = (r.rappend x.name x.bytes).1) := by simp [stepV, h]
theorem stepV_2 {d r : DM} {x : AM} (h : x.op = 2) : stepV d r x = decide ((d.sync x.names).1 = (r.sync x.names).1) := by simp [stepV, h]
theorem stepV_3 {d r : DM} {x : AM} (h : x.op = 3) : stepV d r x = decide ((d.rename x.name x.to_).1 = (r.rrename x.name x.to_).1) := by simp [stepV, h]
theorem stepV_4 {d r : DM} {x : AM} (h : x.op = 4) : stepV d r x = decide ((d.delete x.names).1 = (r.delete x.names).1) := by simp [stepV, h]
theorem stepV_5 {d r : DM} {x : AM} (h : x.op = 5) : stepV d r x = true := by simp [stepV, h]
theorem stepV_6 {d r : DM} {x : AM} (h : x.op = 6) : stepV d r x = true := by simp [stepV, h]

theorem append2_spec (p : Nat) (d : DM) (hd : d.wf) (name : ByteArray) (hnm : name.size ≤ 140737488355328) (X G : Assn) (pp : Option Addr) (pn pc : Nat) (parts : List Part) (hp : SlR [star [X, G]] 1 (.slice pp pn pc) (parts.map Part.val)) (hpn : pn ≤ 1000000)
    (hq : ∀ q, q ∈ parts → SlR [star [X, G]] 1 q.val (bytesV q.bs)) (htot : (pcat parts).length ≤ 1099511627776) :
    FSpec Try.prog 10 [.pointer (some ⟨p, 0, none⟩), .string name, .slice pp pn pc] [DiskAt p d, X, G] (fun v B => v = .int .i64 (d.append name (pcat parts)).1 ∧ B = [DiskAt p (d.append name (pcat parts)).2, X, G]) :=
  (append_spec p d hd name hnm (star [X, G]) pp pn pc parts hp hpn hq htot).conv (fun _ s => s.star2) (by
    rintro v B' ⟨rfl, rfl⟩
    exact ⟨_, ⟨rfl, rfl⟩, fun _ s => s.unstar2⟩)

/-- The two halves of an act's bytes, appended. -/
theorem app19 (p : Nat) (d : DM) (hd : d.wf) {G : Assn} (x : AW) (hx : x.ok G) (hf : Nat) (hh : hf ≤ x.a.bytes.length) (b : Nat) (p2 : Option Addr) (c2 : Nat) (h1 : SlR [G] 1 (.slice x.bp hf x.bc) ((bytesV x.a.bytes).take (hf * 1))) (h2 : SlR [G] 1 (.slice p2 (x.a.bytes.length - hf) c2) ((bytesV x.a.bytes).drop (hf * 1))) :
    FSpec Try.prog 10 [.pointer (some ⟨p, 0, none⟩), .string x.a.name, .slice (some ⟨b, 0, none⟩) 2 2] [DiskAt p d, pt b (.cells [Value.slice x.bp hf x.bc, Value.slice p2 (x.a.bytes.length - hf) c2].toArray 30 (0, 0)), G]
      (fun v B => v = .int .i64 (d.append x.a.name x.a.bytes).1 ∧ B = [DiskAt p (d.append x.a.name x.a.bytes).2, pt b (.cells [Value.slice x.bp hf x.bc, Value.slice p2 (x.a.bytes.length - hf) c2].toArray 30 (0, 0)), G]) := by
  have hsm := hx.small
  have hcat : pcat [(⟨x.bp, x.bc, x.a.bytes.take hf⟩ : Part), ⟨p2, c2, x.a.bytes.drop hf⟩] = x.a.bytes := by simp [pcat]
  have hv1 : Part.val ⟨x.bp, x.bc, x.a.bytes.take hf⟩ = Value.slice x.bp hf x.bc := by simp [Part.val]; omega
  have hv2 : Part.val ⟨p2, c2, x.a.bytes.drop hf⟩ = Value.slice p2 (x.a.bytes.length - hf) c2 := by simp [Part.val]
  have h := append2_spec p d hd x.a.name (by omega) (pt b (.cells [Value.slice x.bp hf x.bc, Value.slice p2 (x.a.bytes.length - hf) c2].toArray 30 (0, 0))) G (some ⟨b, 0, none⟩) 2 2 [⟨x.bp, x.bc, x.a.bytes.take hf⟩, ⟨p2, c2, x.a.bytes.drop hf⟩]
    (by
      rw [List.map_cons, List.map_cons, List.map_nil, hv1, hv2]
      exact (SlR.pt (D := [pt b (.cells [Value.slice x.bp hf x.bc, Value.slice p2 (x.a.bytes.length - hf) c2].toArray 30 (0, 0))]) 0 rfl rfl (fun j u h => by rw [Nat.zero_add]; exact h)).into 0 rfl)
    (by decide)
    (by
      intro y hy
      simp only [List.mem_cons, List.not_mem_nil, or_false] at hy
      rcases hy with rfl | rfl
      · rw [hv1]
        have e : bytesV (x.a.bytes.take hf) = (bytesV x.a.bytes).take (hf * 1) := by simp [bytesV]
        show SlR _ 1 _ (bytesV (x.a.bytes.take hf))
        rw [e]; exact h1.into 1 rfl
      · rw [hv2]
        have e : bytesV (x.a.bytes.drop hf) = (bytesV x.a.bytes).drop (hf * 1) := by simp [bytesV]
        show SlR _ 1 _ (bytesV (x.a.bytes.drop hf))
        rw [e]; exact h2.into 1 rfl)
    (by rw [hcat]; omega)
  rw [hcat] at h
  exact h

theorem step_spec (p q : Nat) (d r : DM) (hd : d.wf) (hdl : d.files.length ≤ 1000000) (hr : RWf r) (hrb : r.born ≤ 1000000) (G : Assn) (x : AW) (hx : x.ok G) :
    FSpec Try.prog 19 [.pointer (some ⟨p, 0, none⟩), .pointer (some ⟨q, 0, none⟩), .agg x.cells.toArray] [DiskAt p d, RefAt q r, G] (fun v B => v = .bool (stepV d r x.a) ∧ B = [DiskAt p (stepD d x.a), RefAt q (stepR r x.a), G]) := by
  refine FSpec.of Try.func19 rfl Try.ntmps19 rfl fun W0 F => ?_
  refine J.seq ?_
  refine J.region ?_
  refine J.c rfl rfl (C.box (l := [_, _, _, _, _, _]) rfl rfl) ?_
  rintro _ _ ⟨b5, rfl, rfl⟩
  refine J.norm rfl ?_
  refine J.q rfl rfl (Q.asg rfl) ?_
  refine J.nil ?_
  refine J.then_n ?_
  refine J.seq ?_
  refine J.seq ?_
  have hsm := hx.small
  refine J.pick [0, 3, 4, 1, 2] rfl ?_
  refine J.norm rfl ?_
  refine J.region ?_
  refine J.q rfl rfl (Q.fa (n := 0) Try.runUnderlying46 rfl rfl Try.sizeOf3 rfl) ?_
  refine J.q rfl rfl (Q.ld Try.isAgg3 rfl (by first | exact Reads.pt 0 rfl rfl | exact Reads.pt 1 rfl rfl | exact Reads.pt 2 rfl rfl | exact Reads.pt 3 rfl rfl | exact Reads.pt 4 rfl rfl | exact Reads.pt 5 rfl rfl | exact Reads.pt 6 rfl rfl | exact Reads.pt 7 rfl rfl)) ?_
  refine J.nil ?_
  refine J.then_n ?_
  refine J.block ?_
  refine J.seq ?_
  refine J.region ?_
  refine J.q rfl rfl (Q.eql rfl rfl) ?_
  refine J.q rfl rfl (Q.asg rfl) ?_
  refine J.nil ?_
  refine J.then_n ?_
  refine J.cond rfl (fun hc10 => ?_) (fun hc10 => ?_)
  ·
    first | replace hc10 := X.tt_dec hc10 | replace hc10 := X.tt_not hc10 | replace hc10 := X.ff_dec hc10 | replace hc10 := X.ff_not hc10 | skip
    refine J.seq ?_
    refine J.region ?_
    refine J.q rfl rfl (Q.fa (n := 4) Try.runUnderlying46 rfl rfl Try.sizeOf30 rfl) ?_
    refine J.q rfl rfl (Q.ld Try.isAgg30 rfl (by first | exact Reads.pt 0 rfl rfl | exact Reads.pt 1 rfl rfl | exact Reads.pt 2 rfl rfl | exact Reads.pt 3 rfl rfl | exact Reads.pt 4 rfl rfl | exact Reads.pt 5 rfl rfl | exact Reads.pt 6 rfl rfl | exact Reads.pt 7 rfl rfl)) ?_
    refine J.q rfl rfl (Q.lenSl Try.runUnderlying30 rfl) ?_
    refine J.q rfl rfl (Q.quo64 rfl rfl (by omega) (by omega) (by omega)) ?_
    refine J.q rfl rfl (Q.asg rfl) ?_
    refine J.nil ?_
    refine J.then_n ?_
    refine J.seq ?_
    have hhalf : 0 ≤ (x.a.bytes.length : Int) / 2 ∧ (x.a.bytes.length : Int) / 2 ≤ x.a.bytes.length := by omega
    obtain ⟨hf, hhf⟩ : ∃ hf : Nat, hf = x.a.bytes.length / 2 := ⟨_, rfl⟩
    have hhi : (x.a.bytes.length : Int) / 2 = (hf : Int) := by omega
    obtain ⟨hq22, hr22⟩ := slH_ (P := Try.prog) (T := 30) Try.runUnderlying30 Try.sizeOf5 hx.bytes (hi := hf) (by omega) hx.bcap
    obtain ⟨p26, c26, hq26, hr26⟩ := slL_ (P := Try.prog) (T := 30) Try.runUnderlying30 Try.sizeOf5 hx.bytes (lo := hf) (by omega) hx.bcap
    refine J.slot 7 (.int .i64 hf) rfl (congrArg (Value.int .i64) hhi) ?_
    refine J.drawE [11, 12, 18, 20] 3 Try.mixed (by kernel_rfl) rfl rfl fun hR => ?_
    refine RG.q 0 hR rfl rfl rfl rfl rfl rfl (Q.mv rfl) ?_
    refine RG.q 1 hR rfl rfl rfl rfl rfl rfl (Q.fa (n := 1) Try.runUnderlying46 rfl rfl Try.sizeOf9 rfl) ?_
    refine RG.q 2 hR rfl rfl rfl rfl rfl rfl (Q.ld Try.isAgg9 rfl (by first | exact Reads.pt 0 rfl rfl | exact Reads.pt 1 rfl rfl | exact Reads.pt 2 rfl rfl | exact Reads.pt 3 rfl rfl | exact Reads.pt 4 rfl rfl | exact Reads.pt 5 rfl rfl | exact Reads.pt 6 rfl rfl | exact Reads.pt 7 rfl rfl)) ?_
    refine RG.q 3 hR rfl rfl rfl rfl rfl rfl (Q.fa (n := 4) Try.runUnderlying46 rfl rfl Try.sizeOf30 rfl) ?_
    refine RG.q 4 hR rfl rfl rfl rfl rfl rfl (Q.ld Try.isAgg30 rfl (by first | exact Reads.pt 0 rfl rfl | exact Reads.pt 1 rfl rfl | exact Reads.pt 2 rfl rfl | exact Reads.pt 3 rfl rfl | exact Reads.pt 4 rfl rfl | exact Reads.pt 5 rfl rfl | exact Reads.pt 6 rfl rfl | exact Reads.pt 7 rfl rfl)) ?_
    refine RG.q 5 hR rfl rfl rfl rfl rfl rfl (Q.mv rfl) ?_
    refine RG.q 6 hR rfl rfl rfl rfl rfl rfl (hq22 _ _ _ _ _ _ rfl rfl) ?_
    refine RG.q 7 hR rfl rfl rfl rfl rfl rfl (Q.fa (n := 4) Try.runUnderlying46 rfl rfl Try.sizeOf30 rfl) ?_
    refine RG.q 8 hR rfl rfl rfl rfl rfl rfl (Q.ld Try.isAgg30 rfl (by first | exact Reads.pt 0 rfl rfl | exact Reads.pt 1 rfl rfl | exact Reads.pt 2 rfl rfl | exact Reads.pt 3 rfl rfl | exact Reads.pt 4 rfl rfl | exact Reads.pt 5 rfl rfl | exact Reads.pt 6 rfl rfl | exact Reads.pt 7 rfl rfl)) ?_
    refine RG.q 9 hR rfl rfl rfl rfl rfl rfl (Q.mv rfl) ?_
    refine RG.q 10 hR rfl rfl rfl rfl rfl rfl (hq26 _ _ _ _ _ _ rfl rfl) ?_
    refine RG.q 13 hR rfl rfl rfl rfl rfl rfl (Q.mv rfl) ?_
    refine RG.q 14 hR rfl rfl rfl rfl rfl rfl (Q.fa (n := 1) Try.runUnderlying46 rfl rfl Try.sizeOf9 rfl) ?_
    refine RG.q 15 hR rfl rfl rfl rfl rfl rfl (Q.ld Try.isAgg9 rfl (by first | exact Reads.pt 0 rfl rfl | exact Reads.pt 1 rfl rfl | exact Reads.pt 2 rfl rfl | exact Reads.pt 3 rfl rfl | exact Reads.pt 4 rfl rfl | exact Reads.pt 5 rfl rfl | exact Reads.pt 6 rfl rfl | exact Reads.pt 7 rfl rfl)) ?_
    refine RG.q 16 hR rfl rfl rfl rfl rfl rfl (Q.fa (n := 4) Try.runUnderlying46 rfl rfl Try.sizeOf30 rfl) ?_
    refine RG.q 17 hR rfl rfl rfl rfl rfl rfl (Q.ld Try.isAgg30 rfl (by first | exact Reads.pt 0 rfl rfl | exact Reads.pt 1 rfl rfl | exact Reads.pt 2 rfl rfl | exact Reads.pt 3 rfl rfl | exact Reads.pt 4 rfl rfl | exact Reads.pt 5 rfl rfl | exact Reads.pt 6 rfl rfl | exact Reads.pt 7 rfl rfl)) ?_
    refine RG.made 11 hR rfl rfl rfl rfl rfl (C.bslG (l := [_, _]) Try.runUnderlying68 Try.sizeOf30 Try.zeroValue30 (by decide) rfl rfl rfl rfl rfl) ?_
    rintro b27
    refine RG.callk 12 hR rfl rfl rfl rfl rfl Try.call10 (app19 p d hd x hx hf (by omega) b27 p26 c26 hr22 hr26) [4, 3, 1] rfl rfl ?_
    rintro _ _ ⟨rfl, rfl⟩
    refine ⟨_, X.pick_perm (is := [3, 2, 4]) rfl, ?_⟩
    refine RG.call 18 hR rfl rfl rfl rfl rfl rfl Try.call35 (rappend_spec q r hr x.a.name (by omega) G x.bp x.bc x.a.bytes hx.bytes) [5, 1] rfl rfl ?_
    rintro _ _ ⟨rfl, rfl⟩
    refine RG.norm rfl ?_
    refine RG.q 19 hR rfl rfl rfl rfl rfl rfl (Q.eql rfl rfl) ?_
    refine RG.bar 20 hR rfl rfl rfl rfl rfl rfl (Q.asg rfl).toC ?_
    rintro _ _ ⟨rfl, rfl⟩
    refine RG.norm rfl ?_
    refine RG.fin hR rfl ?_
    refine J.norm rfl ?_
    refine J.then_n ?_
    refine J.cret ?_
    refine J.blk_r ?_
    refine J.then_r ?_
    have e1 : stepD d x.a = (d.append x.a.name x.a.bytes).2 := by simp [stepD, hc10]
    have e2 : stepR r x.a = (r.rappend x.a.name x.a.bytes).2 := by simp [stepR, hc10]
    have e3 := stepV_1 (d := d) (r := r) hc10
    rw [e1, e2, e3]
    refine J.keep [4, 0, 1, 3] rfl ?_
    refine J.ret1 (B := [DiskAt p ((d.append x.a.name x.a.bytes).2), RefAt q ((r.rappend x.a.name x.a.bytes).2), G]) rfl rfl ⟨rfl, rfl⟩ rfl
  ·
    first | replace hc10 := X.tt_dec hc10 | replace hc10 := X.tt_not hc10 | replace hc10 := X.ff_dec hc10 | replace hc10 := X.ff_not hc10 | skip
    refine J.seq ?_
    refine J.region ?_
    refine J.q rfl rfl (Q.eql rfl rfl) ?_
    refine J.q rfl rfl (Q.asg rfl) ?_
    refine J.nil ?_
    refine J.then_n ?_
    refine J.cond rfl (fun hc36 => ?_) (fun hc36 => ?_)
    ·
      first | replace hc36 := X.tt_dec hc36 | replace hc36 := X.tt_not hc36 | replace hc36 := X.ff_dec hc36 | replace hc36 := X.ff_not hc36 | skip
      refine J.seq ?_
      refine J.drawE [3, 7, 9] 3 Try.mixed (by kernel_rfl) rfl rfl fun hR => ?_
      refine RG.q 0 hR rfl rfl rfl rfl rfl rfl (Q.mv rfl) ?_
      refine RG.q 1 hR rfl rfl rfl rfl rfl rfl (Q.fa (n := 3) Try.runUnderlying46 rfl rfl Try.sizeOf28 rfl) ?_
      refine RG.q 2 hR rfl rfl rfl rfl rfl rfl (Q.ld Try.isAgg28 rfl (by first | exact Reads.pt 0 rfl rfl | exact Reads.pt 1 rfl rfl | exact Reads.pt 2 rfl rfl | exact Reads.pt 3 rfl rfl | exact Reads.pt 4 rfl rfl | exact Reads.pt 5 rfl rfl | exact Reads.pt 6 rfl rfl | exact Reads.pt 7 rfl rfl)) ?_
      refine RG.q 4 hR rfl rfl rfl rfl rfl rfl (Q.mv rfl) ?_
      refine RG.q 5 hR rfl rfl rfl rfl rfl rfl (Q.fa (n := 3) Try.runUnderlying46 rfl rfl Try.sizeOf28 rfl) ?_
      refine RG.q 6 hR rfl rfl rfl rfl rfl rfl (Q.ld Try.isAgg28 rfl (by first | exact Reads.pt 0 rfl rfl | exact Reads.pt 1 rfl rfl | exact Reads.pt 2 rfl rfl | exact Reads.pt 3 rfl rfl | exact Reads.pt 4 rfl rfl | exact Reads.pt 5 rfl rfl | exact Reads.pt 6 rfl rfl | exact Reads.pt 7 rfl rfl)) ?_
      refine RG.callk 3 hR rfl rfl rfl rfl rfl Try.call14 (sync_spec p d G x.np x.a.names.length x.nc x.a.names hx.names (by omega)) [3, 1] rfl rfl ?_
      rintro _ _ ⟨rfl, rfl⟩
      refine ⟨_, X.pick_perm (is := [2, 1, 3]) rfl, ?_⟩
      refine RG.call 7 hR rfl rfl rfl rfl rfl rfl Try.call36 (rsync_spec q r hr G x.np x.a.names.length x.nc x.a.names hx.names (by omega)) [4, 1] rfl rfl ?_
      rintro _ _ ⟨rfl, rfl⟩
      refine RG.norm rfl ?_
      refine RG.q 8 hR rfl rfl rfl rfl rfl rfl (Q.eql rfl rfl) ?_
      refine RG.bar 9 hR rfl rfl rfl rfl rfl rfl (Q.asg rfl).toC ?_
      rintro _ _ ⟨rfl, rfl⟩
      refine RG.norm rfl ?_
      refine RG.fin hR rfl ?_
      refine J.norm rfl ?_
      refine J.then_n ?_
      refine J.cret ?_
      refine J.blk_r ?_
      refine J.then_r ?_
      have e1 : stepD d x.a = (d.sync x.a.names).2 := by simp [stepD, hc36]
      have e2 : stepR r x.a = (r.sync x.a.names).2 := by simp [stepR, hc36]
      have e3 := stepV_2 (d := d) (r := r) hc36
      rw [e1, e2, e3]
      refine J.keep [4, 0, 1, 3] rfl ?_
      refine J.ret1 (B := [DiskAt p ((d.sync x.a.names).2), RefAt q ((r.sync x.a.names).2), G]) rfl rfl ⟨rfl, rfl⟩ rfl
    ·
      first | replace hc36 := X.tt_dec hc36 | replace hc36 := X.tt_not hc36 | replace hc36 := X.ff_dec hc36 | replace hc36 := X.ff_not hc36 | skip
      refine J.seq ?_
      refine J.region ?_
      refine J.q rfl rfl (Q.eql rfl rfl) ?_
      refine J.q rfl rfl (Q.asg rfl) ?_
      refine J.nil ?_
      refine J.then_n ?_
      refine J.cond rfl (fun hc47 => ?_) (fun hc47 => ?_)
      ·
        first | replace hc47 := X.tt_dec hc47 | replace hc47 := X.tt_not hc47 | replace hc47 := X.ff_dec hc47 | replace hc47 := X.ff_not hc47 | skip
        refine J.seq ?_
        refine J.drawE [5, 11, 13] 3 Try.mixed (by kernel_rfl) rfl rfl fun hR => ?_
        refine RG.q 0 hR rfl rfl rfl rfl rfl rfl (Q.mv rfl) ?_
        refine RG.q 1 hR rfl rfl rfl rfl rfl rfl (Q.fa (n := 1) Try.runUnderlying46 rfl rfl Try.sizeOf9 rfl) ?_
        refine RG.q 2 hR rfl rfl rfl rfl rfl rfl (Q.ld Try.isAgg9 rfl (by first | exact Reads.pt 0 rfl rfl | exact Reads.pt 1 rfl rfl | exact Reads.pt 2 rfl rfl | exact Reads.pt 3 rfl rfl | exact Reads.pt 4 rfl rfl | exact Reads.pt 5 rfl rfl | exact Reads.pt 6 rfl rfl | exact Reads.pt 7 rfl rfl)) ?_
        refine RG.q 3 hR rfl rfl rfl rfl rfl rfl (Q.fa (n := 2) Try.runUnderlying46 rfl rfl Try.sizeOf9 rfl) ?_
        refine RG.q 4 hR rfl rfl rfl rfl rfl rfl (Q.ld Try.isAgg9 rfl (by first | exact Reads.pt 0 rfl rfl | exact Reads.pt 1 rfl rfl | exact Reads.pt 2 rfl rfl | exact Reads.pt 3 rfl rfl | exact Reads.pt 4 rfl rfl | exact Reads.pt 5 rfl rfl | exact Reads.pt 6 rfl rfl | exact Reads.pt 7 rfl rfl)) ?_
        refine RG.q 6 hR rfl rfl rfl rfl rfl rfl (Q.mv rfl) ?_
        refine RG.q 7 hR rfl rfl rfl rfl rfl rfl (Q.fa (n := 1) Try.runUnderlying46 rfl rfl Try.sizeOf9 rfl) ?_
        refine RG.q 8 hR rfl rfl rfl rfl rfl rfl (Q.ld Try.isAgg9 rfl (by first | exact Reads.pt 0 rfl rfl | exact Reads.pt 1 rfl rfl | exact Reads.pt 2 rfl rfl | exact Reads.pt 3 rfl rfl | exact Reads.pt 4 rfl rfl | exact Reads.pt 5 rfl rfl | exact Reads.pt 6 rfl rfl | exact Reads.pt 7 rfl rfl)) ?_
        refine RG.q 9 hR rfl rfl rfl rfl rfl rfl (Q.fa (n := 2) Try.runUnderlying46 rfl rfl Try.sizeOf9 rfl) ?_
        refine RG.q 10 hR rfl rfl rfl rfl rfl rfl (Q.ld Try.isAgg9 rfl (by first | exact Reads.pt 0 rfl rfl | exact Reads.pt 1 rfl rfl | exact Reads.pt 2 rfl rfl | exact Reads.pt 3 rfl rfl | exact Reads.pt 4 rfl rfl | exact Reads.pt 5 rfl rfl | exact Reads.pt 6 rfl rfl | exact Reads.pt 7 rfl rfl)) ?_
        refine RG.callk 5 hR rfl rfl rfl rfl rfl Try.call15 (rename_spec p d hd x.a.name x.a.to_ (by omega)) [3] rfl rfl ?_
        rintro _ _ ⟨rfl, rfl⟩
        refine ⟨_, X.pick_perm (is := [1, 2, 3]) rfl, ?_⟩
        refine RG.call 11 hR rfl rfl rfl rfl rfl rfl Try.call37 (rrename_spec q r hr x.a.name x.a.to_ (by omega)) [4] rfl rfl ?_
        rintro _ _ ⟨rfl, rfl⟩
        refine RG.norm rfl ?_
        refine RG.q 12 hR rfl rfl rfl rfl rfl rfl (Q.eql rfl rfl) ?_
        refine RG.bar 13 hR rfl rfl rfl rfl rfl rfl (Q.asg rfl).toC ?_
        rintro _ _ ⟨rfl, rfl⟩
        refine RG.norm rfl ?_
        refine RG.fin hR rfl ?_
        refine J.norm rfl ?_
        refine J.then_n ?_
        refine J.cret ?_
        refine J.blk_r ?_
        refine J.then_r ?_
        have e1 : stepD d x.a = (d.rename x.a.name x.a.to_).2 := by simp [stepD, hc47]
        have e2 : stepR r x.a = (r.rrename x.a.name x.a.to_).2 := by simp [stepR, hc47]
        have e3 := stepV_3 (d := d) (r := r) hc47
        rw [e1, e2, e3]
        refine J.keep [4, 0, 2, 3] rfl ?_
        refine J.ret1 (B := [DiskAt p ((d.rename x.a.name x.a.to_).2), RefAt q ((r.rrename x.a.name x.a.to_).2), G]) rfl rfl ⟨rfl, rfl⟩ rfl
      ·
        first | replace hc47 := X.tt_dec hc47 | replace hc47 := X.tt_not hc47 | replace hc47 := X.ff_dec hc47 | replace hc47 := X.ff_not hc47 | skip
        refine J.seq ?_
        refine J.region ?_
        refine J.q rfl rfl (Q.eql rfl rfl) ?_
        refine J.q rfl rfl (Q.asg rfl) ?_
        refine J.nil ?_
        refine J.then_n ?_
        refine J.cond rfl (fun hc62 => ?_) (fun hc62 => ?_)
        ·
          first | replace hc62 := X.tt_dec hc62 | replace hc62 := X.tt_not hc62 | replace hc62 := X.ff_dec hc62 | replace hc62 := X.ff_not hc62 | skip
          refine J.seq ?_
          refine J.drawE [3, 7, 9] 3 Try.mixed (by kernel_rfl) rfl rfl fun hR => ?_
          refine RG.q 0 hR rfl rfl rfl rfl rfl rfl (Q.mv rfl) ?_
          refine RG.q 1 hR rfl rfl rfl rfl rfl rfl (Q.fa (n := 3) Try.runUnderlying46 rfl rfl Try.sizeOf28 rfl) ?_
          refine RG.q 2 hR rfl rfl rfl rfl rfl rfl (Q.ld Try.isAgg28 rfl (by first | exact Reads.pt 0 rfl rfl | exact Reads.pt 1 rfl rfl | exact Reads.pt 2 rfl rfl | exact Reads.pt 3 rfl rfl | exact Reads.pt 4 rfl rfl | exact Reads.pt 5 rfl rfl | exact Reads.pt 6 rfl rfl | exact Reads.pt 7 rfl rfl)) ?_
          refine RG.q 4 hR rfl rfl rfl rfl rfl rfl (Q.mv rfl) ?_
          refine RG.q 5 hR rfl rfl rfl rfl rfl rfl (Q.fa (n := 3) Try.runUnderlying46 rfl rfl Try.sizeOf28 rfl) ?_
          refine RG.q 6 hR rfl rfl rfl rfl rfl rfl (Q.ld Try.isAgg28 rfl (by first | exact Reads.pt 0 rfl rfl | exact Reads.pt 1 rfl rfl | exact Reads.pt 2 rfl rfl | exact Reads.pt 3 rfl rfl | exact Reads.pt 4 rfl rfl | exact Reads.pt 5 rfl rfl | exact Reads.pt 6 rfl rfl | exact Reads.pt 7 rfl rfl)) ?_
          refine RG.callk 3 hR rfl rfl rfl rfl rfl Try.call13 (delete_spec p d hd G x.np x.a.names.length x.nc x.a.names hx.names (by omega)) [3, 1] rfl rfl ?_
          rintro _ _ ⟨rfl, rfl⟩
          refine ⟨_, X.pick_perm (is := [2, 1, 3]) rfl, ?_⟩
          refine RG.call 7 hR rfl rfl rfl rfl rfl rfl Try.call38 (rdelete_spec q r hr G x.np x.a.names.length x.nc x.a.names hx.names (by omega)) [4, 1] rfl rfl ?_
          rintro _ _ ⟨rfl, rfl⟩
          refine RG.norm rfl ?_
          refine RG.q 8 hR rfl rfl rfl rfl rfl rfl (Q.eql rfl rfl) ?_
          refine RG.bar 9 hR rfl rfl rfl rfl rfl rfl (Q.asg rfl).toC ?_
          rintro _ _ ⟨rfl, rfl⟩
          refine RG.norm rfl ?_
          refine RG.fin hR rfl ?_
          refine J.norm rfl ?_
          refine J.then_n ?_
          refine J.cret ?_
          refine J.blk_r ?_
          refine J.then_r ?_
          have e1 : stepD d x.a = (d.delete x.a.names).2 := by simp [stepD, hc62]
          have e2 : stepR r x.a = (r.delete x.a.names).2 := by simp [stepR, hc62]
          have e3 := stepV_4 (d := d) (r := r) hc62
          rw [e1, e2, e3]
          refine J.keep [4, 0, 1, 3] rfl ?_
          refine J.ret1 (B := [DiskAt p ((d.delete x.a.names).2), RefAt q ((r.delete x.a.names).2), G]) rfl rfl ⟨rfl, rfl⟩ rfl
        ·
          first | replace hc62 := X.tt_dec hc62 | replace hc62 := X.tt_not hc62 | replace hc62 := X.ff_dec hc62 | replace hc62 := X.ff_not hc62 | skip
          refine J.seq ?_
          refine J.region ?_
          refine J.q rfl rfl (Q.eql rfl rfl) ?_
          refine J.q rfl rfl (Q.asg rfl) ?_
          refine J.nil ?_
          refine J.then_n ?_
          refine J.cond rfl (fun hc73 => ?_) (fun hc73 => ?_)
          ·
            first | replace hc73 := X.tt_dec hc73 | replace hc73 := X.tt_not hc73 | replace hc73 := X.ff_dec hc73 | replace hc73 := X.ff_not hc73 | skip
            refine J.seq ?_
            refine J.region ?_
            refine J.q rfl rfl (Q.mv rfl) ?_
            refine J.q rfl rfl (Q.fa (n := 5) Try.runUnderlying46 rfl rfl Try.sizeOf22 rfl) ?_
            refine J.q rfl rfl (Q.ld Try.isAgg22 rfl (by first | exact Reads.pt 0 rfl rfl | exact Reads.pt 1 rfl rfl | exact Reads.pt 2 rfl rfl | exact Reads.pt 3 rfl rfl | exact Reads.pt 4 rfl rfl | exact Reads.pt 5 rfl rfl | exact Reads.pt 6 rfl rfl | exact Reads.pt 7 rfl rfl)) ?_
            refine J.call Try.call16 (crash_spec p d hd (by omega) G x.pp x.a.picks.length x.pc x.a.picks hx.picks (by omega) hx.ints) [3, 1] rfl rfl rfl rfl ?_
            rintro _ _ ⟨rfl, rfl⟩
            refine J.norm rfl ?_
            refine J.nil ?_
            refine J.then_n ?_
            refine J.region ?_
            refine J.q rfl rfl (Q.mv rfl) ?_
            refine J.q rfl rfl (Q.fa (n := 5) Try.runUnderlying46 rfl rfl Try.sizeOf22 rfl) ?_
            refine J.q rfl rfl (Q.ld Try.isAgg22 rfl (by first | exact Reads.pt 0 rfl rfl | exact Reads.pt 1 rfl rfl | exact Reads.pt 2 rfl rfl | exact Reads.pt 3 rfl rfl | exact Reads.pt 4 rfl rfl | exact Reads.pt 5 rfl rfl | exact Reads.pt 6 rfl rfl | exact Reads.pt 7 rfl rfl)) ?_
            refine J.call Try.call39 (rcrash_spec q r hr G x.pp x.a.picks.length x.pc x.a.picks hx.picks (by omega) hx.ints) [4, 1] rfl rfl rfl rfl ?_
            rintro _ _ ⟨rfl, rfl⟩
            refine J.norm rfl ?_
            refine J.nil ?_
            refine J.blk_n ?_
            refine J.then_n ?_
            refine J.seq ?_
            refine J.region ?_
            refine J.q rfl rfl (Q.asg rfl) ?_
            refine J.nil ?_
            refine J.then_n ?_
            refine J.cret ?_
            have e1 : stepD d x.a = d.crash x.a.picks := by simp [stepD, hc73]
            have e2 : stepR r x.a = r.rcrash x.a.picks := by simp [stepR, hc73]
            have e3 := stepV_5 (d := d) (r := r) hc73
            rw [e1, e2, e3]
            refine J.keep [2, 0, 1, 4] rfl ?_
            refine J.ret1 (B := [DiskAt p (d.crash x.a.picks), RefAt q (r.rcrash x.a.picks), G]) rfl rfl ⟨rfl, rfl⟩ rfl
          ·
            first | replace hc73 := X.tt_dec hc73 | replace hc73 := X.tt_not hc73 | replace hc73 := X.ff_dec hc73 | replace hc73 := X.ff_not hc73 | skip
            refine J.seq ?_
            refine J.region ?_
            refine J.q rfl rfl (Q.eql rfl rfl) ?_
            refine J.q rfl rfl (Q.asg rfl) ?_
            refine J.nil ?_
            refine J.then_n ?_
            refine J.cond rfl (fun hc83 => ?_) (fun hc83 => ?_)
            ·
              first | replace hc83 := X.tt_dec hc83 | replace hc83 := X.tt_not hc83 | replace hc83 := X.ff_dec hc83 | replace hc83 := X.ff_not hc83 | skip
              refine J.seq ?_
              refine J.region ?_
              refine J.q rfl rfl (Q.mv rfl) ?_
              refine J.call Try.call40 (lose_spec p d hd) [3] rfl rfl rfl rfl ?_
              rintro _ _ ⟨rfl, rfl⟩
              refine J.norm rfl ?_
              refine J.nil ?_
              refine J.then_n ?_
              refine J.region ?_
              refine J.q rfl rfl (Q.mv rfl) ?_
              refine J.call Try.call41 (rlose_spec q r hrb) [4] rfl rfl rfl rfl ?_
              rintro _ _ ⟨rfl, rfl⟩
              refine J.norm rfl ?_
              refine J.nil ?_
              refine J.blk_n ?_
              refine J.then_n ?_
              refine J.seq ?_
              refine J.region ?_
              refine J.q rfl rfl (Q.asg rfl) ?_
              refine J.nil ?_
              refine J.then_n ?_
              refine J.cret ?_
              have e1 : stepD d x.a = d.lose := by simp [stepD, hc83]
              have e2 : stepR r x.a = r.lose := by simp [stepR, hc83]
              have e3 := stepV_6 (d := d) (r := r) hc83
              rw [e1, e2, e3]
              refine J.keep [1, 0, 3, 4] rfl ?_
              refine J.ret1 (B := [DiskAt p (d.lose), RefAt q (r.lose), G]) rfl rfl ⟨rfl, rfl⟩ rfl
            ·
              first | replace hc83 := X.tt_dec hc83 | replace hc83 := X.tt_not hc83 | replace hc83 := X.ff_dec hc83 | replace hc83 := X.ff_not hc83 | skip
              refine J.cskip ?_
              refine J.blk_n ?_
              refine J.then_n ?_
              refine J.seq ?_
              refine J.region ?_
              refine J.q rfl rfl (Q.asg rfl) ?_
              refine J.nil ?_
              refine J.then_n ?_
              refine J.cret ?_
              have e1 : stepD d x.a = d := by simp [stepD, hc10, hc36, hc47, hc62, hc73, hc83]
              have e2 : stepR r x.a = r := by simp [stepR, hc10, hc36, hc47, hc62, hc73, hc83]
              have e3 : stepV d r x.a = true := by simp [stepV, hc10, hc36, hc47, hc62]
              rw [e1, e2, e3]
              refine J.keep [3, 4, 1, 2] rfl ?_
              refine J.ret1 (B := [DiskAt p d, RefAt q r, G]) rfl rfl ⟨rfl, rfl⟩ rfl

end Go.Proofs.Ytkekcdcmmggbaaa
