/-
  The disk's functions: Read, Unsynced, New, Lose, Sync, Delete, Rename.
-/
import Derived.Test.YtkekcdcmmggbaaaDiskB
namespace Go.Proofs.Ytkekcdcmmggbaaa
open Go.X

def DM.bytes (d : DM) (n : ByteArray) : List UInt8 := match fget n d.files with | some f => f.bs | none => []
def DM.found (d : DM) (n : ByteArray) : Int := match fget n d.files with | some _ => 0 | none => 4
def DM.unsynced (d : DM) (n : ByteArray) : Int := match fget n d.files with | some f => (f.bs.length : Int) - f.sy | none => 0

theorem DM.wf.len {d : DM} (hd : d.wf) {n : ByteArray} {f : FM} (h : fget n d.files = some f) : f ∈ d.files ∧ f.bs.length ≤ d.size ∧ f.sy ≤ f.bs.length := by
  have key : ∀ l : List FM, fget n l = some f → f ∈ l := by
    intro l
    induction l with
    | nil => intro h; cases h
    | cons x l ih =>
      intro h
      simp only [fget] at h
      split at h
      · cases h; simp
      · exact List.mem_cons_of_mem _ (ih h)
  have hm := key _ h
  have h1 := lenSum_mem hm
  have h2 := hd.used
  unfold DM.used at h2
  exact ⟨hm, by omega, hd.sy f hm⟩

theorem read_spec (p : Nat) (d : DM) (hd : d.wf) (name : ByteArray) : FSpec Try.prog 12 [.pointer (some ⟨p, 0, none⟩), .string name] [DiskAt p d]
    (fun v B => ∃ sp sc, v = .tuple #[.slice sp (d.bytes name).length sc, .int .i64 (d.found name)] ∧ B = [own 5 1 (.slice sp (d.bytes name).length sc) (bytesV (d.bytes name)), DiskAt p d]) := by
  refine FSpec.of Try.func12 rfl Try.ntmps12 rfl fun W0 F => ?_
  refine J.seq ?_
  refine J.region ?_
  refine J.q rfl rfl (Q.asg rfl) ?_
  refine J.q rfl rfl (Q.asg rfl) ?_
  refine J.nil ?_
  refine J.then_n ?_
  refine J.seq ?_
  refine J.open_ 0 rfl rfl DiskAt.open_ fun x hx => ?_
  refine J.norm rfl ?_
  obtain ⟨o, ho, hlk⟩ := look' name x.fs
  refine J.region ?_
  refine J.q rfl rfl (Q.mv rfl) ?_
  refine J.q rfl rfl (Q.nil_ rfl) ?_
  refine J.q rfl rfl (Q.fa (n := 3) Try.runUnderlying67 rfl rfl Try.sizeOf65 rfl) ?_
  refine J.q rfl rfl (Q.ld Try.isAgg65 rfl (by first | exact Reads.pt 0 rfl rfl | exact Reads.pt 1 rfl rfl | exact Reads.pt 2 rfl rfl | exact Reads.pt 3 rfl rfl | exact Reads.pt 4 rfl rfl | exact Reads.pt 5 rfl rfl | exact Reads.pt 6 rfl rfl | exact Reads.pt 7 rfl rfl)) ?_
  refine J.q rfl rfl (Q.mv rfl) ?_
  refine J.q rfl rfl (Q.lk (i := 1) Try.runUnderlying65 Try.runUnderlying9 Try.zeroValue69 rfl rfl rfl ho) ?_
  refine J.q rfl rfl (Q.asg rfl) ?_
  refine J.nil ?_
  refine J.then_n ?_
  refine J.seq ?_
  refine J.seq ?_
  refine J.region ?_
  refine J.q rfl rfl (Q.mv rfl) ?_
  refine J.q rfl rfl (Q.eqlp Try.runUnderlying69 rfl rfl) ?_
  refine J.nil ?_
  refine J.then_n ?_
  refine J.cond rfl (fun hc14 => ?_) (fun hc14 => ?_)
  ·
    first | replace hc14 := X.tt_dec hc14 | replace hc14 := X.tt_not hc14 | replace hc14 := X.ff_dec hc14 | replace hc14 := X.ff_not hc14 | skip
    obtain ⟨rfl, hl⟩ := look_none hlk hc14
    refine J.seq ?_
    refine J.region ?_
    refine J.q rfl rfl (Q.asg rfl) ?_
    refine J.q rfl rfl (Q.asg rfl) ?_
    refine J.nil ?_
    refine J.then_n ?_
    refine J.cret ?_
    refine J.then_r ?_
    have hg : fget name d.files = none := by rw [← hx.files]; exact hl.fget
    refine J.shut [0, 1, 2] (DiskAt p d) rfl (fun h s => ⟨x, hx, s⟩) ?_
    refine J.give (own.nil 5 1 _) ?_
    refine J.ret2 (B := [own 5 1 (.slice none 0 0) [], DiskAt p d]) rfl rfl rfl ⟨none, 0, by simp only [DM.bytes, DM.found, hg]; rfl, by simp only [DM.bytes, hg]; rfl⟩ rfl
  ·
    first | replace hc14 := X.tt_dec hc14 | replace hc14 := X.tt_not hc14 | replace hc14 := X.ff_dec hc14 | replace hc14 := X.ff_not hc14 | skip
    obtain ⟨i, y, rfl, hl⟩ := look_some hlk hc14
    refine J.cskip ?_
    refine J.then_n ?_
    refine J.seq ?_
    have hg : fget name d.files = some y.f := by rw [← hx.files]; exact hl.fget
    obtain ⟨_, hlen, _⟩ := hd.len hg
    have hsz := hd.size
    refine J.focus 2 i rfl hl.at_ ?_
    refine J.conv (Y := star y.asns) 0 rfl (fun _ h => h) ?_
    refine J.unpack 0 rfl rfl ?_
    refine J.region ?_
    refine J.q rfl rfl (Q.mv rfl) ?_
    refine J.q rfl rfl (Q.nil_ rfl) ?_
    refine J.q rfl rfl (Q.fa (n := 0) Try.runUnderlying71 rfl rfl Try.sizeOf30 rfl) ?_
    refine J.q rfl rfl (Q.ld Try.isAgg30 rfl (by first | exact Reads.pt 0 rfl rfl | exact Reads.pt 1 rfl rfl | exact Reads.pt 2 rfl rfl | exact Reads.pt 3 rfl rfl | exact Reads.pt 4 rfl rfl | exact Reads.pt 5 rfl rfl | exact Reads.pt 6 rfl rfl | exact Reads.pt 7 rfl rfl)) ?_
    refine J.slr1 1 rfl fun hsl => ?_
    refine J.call Try.call33 (clone_spec (own 5 1 (.slice y.sp y.f.bs.length y.sc) (bytesV y.f.bs)) y.sp y.sc y.f.bs hsl (by omega)) [1] rfl rfl rfl rfl ?_
    rintro _ _ ⟨sp', sc', rfl, rfl⟩
    refine J.norm rfl ?_
    refine J.q rfl rfl (Q.asg rfl) ?_
    refine J.q rfl rfl (Q.asg rfl) ?_
    refine J.nil ?_
    refine J.then_n ?_
    refine J.cret ?_
    refine J.pack [2, 1] rfl ?_
    refine J.conv (Y := FW.asn y) 0 rfl (fun _ h => h) ?_
    refine J.refocus 0 2 i y rfl hl.at_ ?_
    refine J.shut [2, 3, 0] (DiskAt p d) rfl (fun h s => ⟨x, hx, s⟩) ?_
    refine J.pick [1, 0] rfl ?_
    refine J.ret2 (B := [own 5 1 (.slice sp' y.f.bs.length sc') (bytesV y.f.bs), DiskAt p d]) rfl rfl rfl ⟨sp', sc', by simp only [DM.bytes, DM.found, hg], by simp only [DM.bytes, hg]⟩ rfl

theorem unsynced_spec (p : Nat) (d : DM) (hd : d.wf) (name : ByteArray) : FSpec Try.prog 22 [.pointer (some ⟨p, 0, none⟩), .string name] [DiskAt p d] (fun v B => v = .int .i64 (d.unsynced name) ∧ B = [DiskAt p d]) := by
  refine FSpec.of Try.func22 rfl Try.ntmps22 rfl fun W0 F => ?_
  refine J.seq ?_
  refine J.region ?_
  refine J.q rfl rfl (Q.asg rfl) ?_
  refine J.nil ?_
  refine J.then_n ?_
  refine J.seq ?_
  refine J.open_ 0 rfl rfl DiskAt.open_ fun x hx => ?_
  refine J.norm rfl ?_
  obtain ⟨o, ho, hlk⟩ := look' name x.fs
  refine J.region ?_
  refine J.q rfl rfl (Q.mv rfl) ?_
  refine J.q rfl rfl (Q.nil_ rfl) ?_
  refine J.q rfl rfl (Q.fa (n := 3) Try.runUnderlying67 rfl rfl Try.sizeOf65 rfl) ?_
  refine J.q rfl rfl (Q.ld Try.isAgg65 rfl (by first | exact Reads.pt 0 rfl rfl | exact Reads.pt 1 rfl rfl | exact Reads.pt 2 rfl rfl | exact Reads.pt 3 rfl rfl | exact Reads.pt 4 rfl rfl | exact Reads.pt 5 rfl rfl | exact Reads.pt 6 rfl rfl | exact Reads.pt 7 rfl rfl)) ?_
  refine J.q rfl rfl (Q.mv rfl) ?_
  refine J.q rfl rfl (Q.lk (i := 1) Try.runUnderlying65 Try.runUnderlying9 Try.zeroValue69 rfl rfl rfl ho) ?_
  refine J.q rfl rfl (Q.asg rfl) ?_
  refine J.nil ?_
  refine J.then_n ?_
  refine J.seq ?_
  refine J.seq ?_
  refine J.region ?_
  refine J.q rfl rfl (Q.mv rfl) ?_
  refine J.q rfl rfl (Q.eqlp Try.runUnderlying69 rfl rfl) ?_
  refine J.nil ?_
  refine J.then_n ?_
  refine J.cond rfl (fun hc13 => ?_) (fun hc13 => ?_)
  ·
    first | replace hc13 := X.tt_dec hc13 | replace hc13 := X.tt_not hc13 | replace hc13 := X.ff_dec hc13 | replace hc13 := X.ff_not hc13 | skip
    obtain ⟨rfl, hl⟩ := look_none hlk hc13
    refine J.seq ?_
    refine J.region ?_
    refine J.q rfl rfl (Q.asg rfl) ?_
    refine J.nil ?_
    refine J.then_n ?_
    refine J.cret ?_
    refine J.then_r ?_
    have hg : fget name d.files = none := by rw [← hx.files]; exact hl.fget
    refine J.shut [0, 1, 2] (DiskAt p d) rfl (fun h s => ⟨x, hx, s⟩) ?_
    refine J.ret1 (B := [DiskAt p d]) rfl rfl ⟨by simp only [DM.unsynced, hg], rfl⟩ rfl
  ·
    first | replace hc13 := X.tt_dec hc13 | replace hc13 := X.tt_not hc13 | replace hc13 := X.ff_dec hc13 | replace hc13 := X.ff_not hc13 | skip
    obtain ⟨i, y, rfl, hl⟩ := look_some hlk hc13
    refine J.cskip ?_
    refine J.then_n ?_
    refine J.seq ?_
    have hg : fget name d.files = some y.f := by rw [← hx.files]; exact hl.fget
    obtain ⟨_, hlen, hsy⟩ := hd.len hg
    have hsz := hd.size
    refine J.focus 2 i rfl hl.at_ ?_
    refine J.conv (Y := star y.asns) 0 rfl (fun _ h => h) ?_
    refine J.unpack 0 rfl rfl ?_
    refine J.draw [10] Try.mixed (by kernel_rfl) fun hR => ?_
    refine RG.q 0 hR rfl rfl rfl rfl rfl rfl (Q.mv rfl) ?_
    refine RG.q 1 hR rfl rfl rfl rfl rfl rfl (Q.nil_ rfl) ?_
    refine RG.q 2 hR rfl rfl rfl rfl rfl rfl (Q.fa (n := 0) Try.runUnderlying71 rfl rfl Try.sizeOf30 rfl) ?_
    refine RG.q 3 hR rfl rfl rfl rfl rfl rfl (Q.ld Try.isAgg30 rfl (by first | exact Reads.pt 0 rfl rfl | exact Reads.pt 1 rfl rfl | exact Reads.pt 2 rfl rfl | exact Reads.pt 3 rfl rfl | exact Reads.pt 4 rfl rfl | exact Reads.pt 5 rfl rfl | exact Reads.pt 6 rfl rfl | exact Reads.pt 7 rfl rfl)) ?_
    refine RG.q 4 hR rfl rfl rfl rfl rfl rfl (Q.lenSl Try.runUnderlying30 rfl) ?_
    refine RG.q 5 hR rfl rfl rfl rfl rfl rfl (Q.mv rfl) ?_
    refine RG.q 6 hR rfl rfl rfl rfl rfl rfl (Q.nil_ rfl) ?_
    refine RG.q 7 hR rfl rfl rfl rfl rfl rfl (Q.fa (n := 1) Try.runUnderlying71 rfl rfl Try.sizeOf3 rfl) ?_
    refine RG.q 8 hR rfl rfl rfl rfl rfl rfl (Q.ld Try.isAgg3 rfl (by first | exact Reads.pt 0 rfl rfl | exact Reads.pt 1 rfl rfl | exact Reads.pt 2 rfl rfl | exact Reads.pt 3 rfl rfl | exact Reads.pt 4 rfl rfl | exact Reads.pt 5 rfl rfl | exact Reads.pt 6 rfl rfl | exact Reads.pt 7 rfl rfl)) ?_
    refine RG.q 9 hR rfl rfl rfl rfl rfl rfl (Q.sub64 rfl rfl (by omega)) ?_
    refine RG.bar 10 hR rfl rfl rfl rfl rfl rfl (Q.asg rfl).toC ?_
    rintro _ _ ⟨rfl, rfl⟩
    refine RG.norm rfl ?_
    refine RG.fin hR rfl ?_
    refine J.norm rfl ?_
    refine J.then_n ?_
    refine J.cret ?_
    refine J.pack [0, 1] rfl ?_
    refine J.conv (Y := FW.asn y) 0 rfl (fun _ h => h) ?_
    refine J.refocus 0 1 i y rfl hl.at_ ?_
    refine J.shut [1, 2, 0] (DiskAt p d) rfl (fun h s => ⟨x, hx, s⟩) ?_
    refine J.ret1 (B := [DiskAt p d]) rfl rfl ⟨by simp only [DM.unsynced, hg], rfl⟩ rfl

theorem new_no (n : Int) (h : n < 1 ∨ 1073741824 < n) : FSpec Try.prog 9 [.int .i64 n] [] (fun v B => v = .tuple #[.pointer none, .int .i64 1] ∧ B = []) := by
  refine FSpec.of Try.func9 rfl Try.ntmps9 rfl fun W0 F => ?_
  refine J.seq ?_
  refine J.region ?_
  refine J.q rfl rfl (Q.asg rfl) ?_
  refine J.q rfl rfl (Q.asg rfl) ?_
  refine J.nil ?_
  refine J.then_n ?_
  refine J.seq ?_
  refine J.seq ?_
  refine J.region ?_
  refine J.q rfl rfl (Q.mv rfl) ?_
  refine J.q rfl rfl (Q.lss rfl rfl) ?_
  refine J.q rfl rfl (Q.mv rfl) ?_
  refine J.cases 6 rfl (fun hb6 => ?_) (fun hb6 => ?_)
  ·
    first | replace hb6 := X.tt_dec hb6 | replace hb6 := X.tt_not hb6 | replace hb6 := X.ff_dec hb6 | replace hb6 := X.ff_not hb6 | skip
    refine J.skip rfl rfl ?_
    refine J.skip rfl rfl ?_
    refine J.q rfl rfl (Q.pick_t rfl rfl) ?_
    refine J.nil ?_
    refine J.then_n ?_
    refine J.cond_t rfl ?_
    refine J.seq ?_
    refine J.region ?_
    refine J.q rfl rfl (Q.asg rfl) ?_
    refine J.q rfl rfl (Q.asg rfl) ?_
    refine J.nil ?_
    refine J.then_n ?_
    refine J.cret ?_
    refine J.then_r ?_
    refine J.ret2 (B := []) rfl rfl rfl ⟨rfl, rfl⟩ rfl
  ·
    first | replace hb6 := X.tt_dec hb6 | replace hb6 := X.tt_not hb6 | replace hb6 := X.ff_dec hb6 | replace hb6 := X.ff_not hb6 | skip
    refine J.q rfl rfl (Q.mv rfl) ?_
    refine J.q rfl rfl (Q.gtr rfl rfl) ?_
    refine J.q rfl rfl (Q.pick_f rfl rfl) ?_
    refine J.nil ?_
    refine J.then_n ?_
    refine J.cond rfl (fun hc9 => ?_) (fun hc9 => ?_)
    ·
      first | replace hc9 := X.tt_dec hc9 | replace hc9 := X.tt_not hc9 | replace hc9 := X.ff_dec hc9 | replace hc9 := X.ff_not hc9 | skip
      refine J.seq ?_
      refine J.region ?_
      refine J.q rfl rfl (Q.asg rfl) ?_
      refine J.q rfl rfl (Q.asg rfl) ?_
      refine J.nil ?_
      refine J.then_n ?_
      refine J.cret ?_
      refine J.then_r ?_
      refine J.ret2 (B := []) rfl rfl rfl ⟨rfl, rfl⟩ rfl
    ·
      first | replace hc9 := X.tt_dec hc9 | replace hc9 := X.tt_not hc9 | replace hc9 := X.ff_dec hc9 | replace hc9 := X.ff_not hc9 | skip
      refine J.cskip ?_
      refine J.then_n ?_
      refine J.seq ?_
      refine J.region ?_
      refine J.q rfl rfl (Q.mv rfl) ?_
      refine J.c rfl rfl C.mkMap ?_
      rintro _ _ ⟨b11, rfl, rfl⟩
      refine J.norm rfl ?_
      refine J.q rfl rfl (Q.bld (l := [_, _, _, _]) Try.runUnderlying67 Try.zeroValue67 Try.places67 rfl rfl) ?_
      refine J.c rfl rfl (C.box (l := [_, _, _, _]) rfl rfl) ?_
      rintro _ _ ⟨b13, rfl, rfl⟩
      refine J.norm rfl ?_
      refine J.q rfl rfl (Q.asg rfl) ?_
      refine J.q rfl rfl (Q.asg rfl) ?_
      refine J.nil ?_
      refine J.then_n ?_
      refine J.cret ?_
      omega

theorem new_yes (n : Nat) (h1 : 1 ≤ n) (h2 : n ≤ 1073741824) : FSpec Try.prog 9 [.int .i64 n] [] (fun v B => ∃ p, v = .tuple #[.pointer (some ⟨p, 0, none⟩), .int .i64 0] ∧ B = [DiskAt p ⟨n, 0, []⟩]) := by
  refine FSpec.of Try.func9 rfl Try.ntmps9 rfl fun W0 F => ?_
  refine J.seq ?_
  refine J.region ?_
  refine J.q rfl rfl (Q.asg rfl) ?_
  refine J.q rfl rfl (Q.asg rfl) ?_
  refine J.nil ?_
  refine J.then_n ?_
  refine J.seq ?_
  refine J.seq ?_
  refine J.region ?_
  refine J.q rfl rfl (Q.mv rfl) ?_
  refine J.q rfl rfl (Q.lss rfl rfl) ?_
  refine J.q rfl rfl (Q.mv rfl) ?_
  refine J.cases 6 rfl (fun hb6 => ?_) (fun hb6 => ?_)
  ·
    first | replace hb6 := X.tt_dec hb6 | replace hb6 := X.tt_not hb6 | replace hb6 := X.ff_dec hb6 | replace hb6 := X.ff_not hb6 | skip
    refine J.skip rfl rfl ?_
    refine J.skip rfl rfl ?_
    refine J.q rfl rfl (Q.pick_t rfl rfl) ?_
    refine J.nil ?_
    refine J.then_n ?_
    refine J.cond_t rfl ?_
    refine J.seq ?_
    refine J.region ?_
    refine J.q rfl rfl (Q.asg rfl) ?_
    refine J.q rfl rfl (Q.asg rfl) ?_
    refine J.nil ?_
    refine J.then_n ?_
    refine J.cret ?_
    refine J.then_r ?_
    omega
  ·
    first | replace hb6 := X.tt_dec hb6 | replace hb6 := X.tt_not hb6 | replace hb6 := X.ff_dec hb6 | replace hb6 := X.ff_not hb6 | skip
    refine J.q rfl rfl (Q.mv rfl) ?_
    refine J.q rfl rfl (Q.gtr rfl rfl) ?_
    refine J.q rfl rfl (Q.pick_f rfl rfl) ?_
    refine J.nil ?_
    refine J.then_n ?_
    refine J.cond rfl (fun hc9 => ?_) (fun hc9 => ?_)
    ·
      first | replace hc9 := X.tt_dec hc9 | replace hc9 := X.tt_not hc9 | replace hc9 := X.ff_dec hc9 | replace hc9 := X.ff_not hc9 | skip
      refine J.seq ?_
      refine J.region ?_
      refine J.q rfl rfl (Q.asg rfl) ?_
      refine J.q rfl rfl (Q.asg rfl) ?_
      refine J.nil ?_
      refine J.then_n ?_
      refine J.cret ?_
      refine J.then_r ?_
      omega
    ·
      first | replace hc9 := X.tt_dec hc9 | replace hc9 := X.tt_not hc9 | replace hc9 := X.ff_dec hc9 | replace hc9 := X.ff_not hc9 | skip
      refine J.cskip ?_
      refine J.then_n ?_
      refine J.seq ?_
      refine J.region ?_
      refine J.q rfl rfl (Q.mv rfl) ?_
      refine J.c rfl rfl C.mkMap ?_
      rintro _ _ ⟨b11, rfl, rfl⟩
      refine J.norm rfl ?_
      refine J.q rfl rfl (Q.bld (l := [_, _, _, _]) Try.runUnderlying67 Try.zeroValue67 Try.places67 rfl rfl) ?_
      refine J.c rfl rfl (C.box (l := [_, _, _, _]) rfl rfl) ?_
      rintro _ _ ⟨b13, rfl, rfl⟩
      refine J.norm rfl ?_
      refine J.q rfl rfl (Q.asg rfl) ?_
      refine J.q rfl rfl (Q.asg rfl) ?_
      refine J.nil ?_
      refine J.then_n ?_
      refine J.cret ?_
      refine J.give (X := star (([] : List FW).map FW.asn)) trivial ?_
      refine J.shut [1, 2, 0] (DiskAt b13 ⟨n, 0, []⟩) rfl (fun h s => ⟨⟨b11, 0, []⟩, ⟨rfl, List.nodup_nil, by simp⟩, s⟩) ?_
      refine J.ret2 (B := [DiskAt b13 ⟨n, 0, []⟩]) rfl rfl rfl ⟨_, rfl, rfl⟩ rfl

def DM.lose (d : DM) : DM := ⟨d.size, d.born + 1, []⟩
theorem lose_spec (p : Nat) (d : DM) (hd : d.wf) : FSpec Try.prog 40 [.pointer (some ⟨p, 0, none⟩)] [DiskAt p d] (fun v B => v = .tuple #[] ∧ B = [DiskAt p d.lose]) := by
  have hb := hd.born
  refine FSpec.of Try.func40 rfl Try.ntmps40 rfl fun W0 F => ?_
  refine J.open_ 0 rfl rfl DiskAt.open_ fun x hx => ?_
  refine J.norm rfl ?_
  refine J.seq ?_
  refine J.region ?_
  refine J.q rfl rfl (Q.mv rfl) ?_
  refine J.q rfl rfl (Q.mv rfl) ?_
  refine J.c rfl rfl C.mkMap ?_
  rintro _ _ ⟨b4, rfl, rfl⟩
  refine J.norm rfl ?_
  refine J.q rfl rfl (Q.nil_ rfl) ?_
  refine J.q rfl rfl (Q.fa (n := 3) Try.runUnderlying67 rfl rfl Try.sizeOf65 rfl) ?_
  first | refine J.st (i := 0) rfl Try.sizeOf65 rfl rfl rfl rfl rfl rfl rfl ?_ | refine J.st (i := 1) rfl Try.sizeOf65 rfl rfl rfl rfl rfl rfl rfl ?_ | refine J.st (i := 2) rfl Try.sizeOf65 rfl rfl rfl rfl rfl rfl rfl ?_ | refine J.st (i := 3) rfl Try.sizeOf65 rfl rfl rfl rfl rfl rfl rfl ?_ | refine J.st (i := 4) rfl Try.sizeOf65 rfl rfl rfl rfl rfl rfl rfl ?_ | refine J.st (i := 5) rfl Try.sizeOf65 rfl rfl rfl rfl rfl rfl rfl ?_
  refine J.q rfl rfl (Q.nil_ rfl) ?_
  refine J.q rfl rfl (Q.fa (n := 1) Try.runUnderlying67 rfl rfl Try.sizeOf3 rfl) ?_
  first | refine J.st (i := 0) rfl Try.sizeOf3 rfl rfl rfl rfl rfl rfl rfl ?_ | refine J.st (i := 1) rfl Try.sizeOf3 rfl rfl rfl rfl rfl rfl rfl ?_ | refine J.st (i := 2) rfl Try.sizeOf3 rfl rfl rfl rfl rfl rfl rfl ?_ | refine J.st (i := 3) rfl Try.sizeOf3 rfl rfl rfl rfl rfl rfl rfl ?_ | refine J.st (i := 4) rfl Try.sizeOf3 rfl rfl rfl rfl rfl rfl rfl ?_ | refine J.st (i := 5) rfl Try.sizeOf3 rfl rfl rfl rfl rfl rfl rfl ?_
  refine J.nil ?_
  refine J.then_n ?_
  refine J.region ?_
  refine J.q rfl rfl (Q.mv rfl) ?_
  refine J.q rfl rfl (Q.nil_ rfl) ?_
  refine J.q rfl rfl (Q.fa (n := 2) Try.runUnderlying67 rfl rfl Try.sizeOf3 rfl) ?_
  refine J.q rfl rfl (Q.ld Try.isAgg3 rfl (by first | exact Reads.pt 0 rfl rfl | exact Reads.pt 1 rfl rfl | exact Reads.pt 2 rfl rfl | exact Reads.pt 3 rfl rfl | exact Reads.pt 4 rfl rfl | exact Reads.pt 5 rfl rfl | exact Reads.pt 6 rfl rfl | exact Reads.pt 7 rfl rfl)) ?_
  refine J.q rfl rfl (Q.add64 rfl rfl (by omega)) ?_
  refine J.q rfl rfl (Q.nil_ rfl) ?_
  refine J.q rfl rfl (Q.fa (n := 2) Try.runUnderlying67 rfl rfl Try.sizeOf3 rfl) ?_
  first | refine J.st (i := 0) rfl Try.sizeOf3 rfl rfl rfl rfl rfl rfl rfl ?_ | refine J.st (i := 1) rfl Try.sizeOf3 rfl rfl rfl rfl rfl rfl rfl ?_ | refine J.st (i := 2) rfl Try.sizeOf3 rfl rfl rfl rfl rfl rfl rfl ?_ | refine J.st (i := 3) rfl Try.sizeOf3 rfl rfl rfl rfl rfl rfl rfl ?_ | refine J.st (i := 4) rfl Try.sizeOf3 rfl rfl rfl rfl rfl rfl rfl ?_ | refine J.st (i := 5) rfl Try.sizeOf3 rfl rfl rfl rfl rfl rfl rfl ?_
  refine J.nil ?_
  refine J.give (X := star (([] : List FW).map FW.asn)) trivial ?_
  refine J.keep [2, 1, 0, 5] rfl ?_
  refine J.shut [0, 1, 2] (DiskAt p d.lose) rfl (fun h s => ⟨⟨b4, 0, []⟩, ⟨rfl, List.nodup_nil, by simp⟩, s⟩) ?_
  refine J.end0 (B := [DiskAt p d.lose]) rfl ⟨rfl, rfl⟩ rfl

end Go.Proofs.Ytkekcdcmmggbaaa
