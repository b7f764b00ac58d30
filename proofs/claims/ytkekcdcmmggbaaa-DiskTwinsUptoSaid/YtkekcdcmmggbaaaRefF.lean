/-
  The document's disk in memory, whole: sync, delete, append, rename.
-/
import Derived.Test.YtkekcdcmmggbaaaRefE
namespace Go.Proofs.Ytkekcdcmmggbaaa
open Go.X

theorem hasAll_eq {r : DM} (h : Srt r.files) (names : List ByteArray) : (names.all fun n => isAt n r.files) = r.hasAll names := by
  unfold DM.hasAll; congr 1; funext n; exact isAt_eq h

theorem srt_fsync {n : ByteArray} {l : List FM} (h : Srt l) : Srt (fsync n l) := by
  unfold fsync; split
  · exact srt_fset h
  · exact h
theorem srt_fsyncs : ∀ (names : List ByteArray) {l : List FM}, Srt l → Srt (fsyncs names l)
  | [], _, h => h
  | n :: ns, _, h => srt_fsyncs ns (srt_fsync h)
theorem srt_fdels : ∀ (names : List ByteArray) {l : List FM}, Srt l → Srt (fdels names l)
  | [], _, h => h
  | n :: ns, _, h => srt_fdels ns (srt_fdel h)

theorem rsync_step {fs : List RFile} {n : ByteArray} {x : RFile} (h : Srt (fms fs)) (hi : isAt n (fms fs) = true) (hx : fs[place n (fms fs)]? = some x) :
    fms (fs.set (place n (fms fs)) ⟨⟨x.f.name, x.f.bs, x.f.bs.length⟩, x.sp, x.sc⟩) = fsync n (fms fs) ∧ (fs.set (place n (fms fs)) (⟨⟨x.f.name, x.f.bs, x.f.bs.length⟩, x.sp, x.sc⟩ : RFile)).map RFile.asn = fs.map RFile.asn := by
  have hg : fget n (fms fs) = some x.f := get_at h hi (by rw [List.getElem?_map, hx]; rfl)
  have hnm := fget_name hg
  refine ⟨?_, ?_⟩
  · rw [fsync_of hg, fms, List.map_set, ← set_fset (f := ⟨n, x.f.bs, x.f.bs.length⟩) h hi]
    subst hnm; rfl
  · rw [List.map_set]
    exact set_self (by rw [List.getElem?_map, hx]; rfl)

theorem rsync_spec (q : Nat) (r : DM) (hr : RWf r) (G : Assn) (sp : Option Addr) (sn sc : Nat) (names : List ByteArray) (hs : SlR [G] 1 (.slice sp sn sc) (names.map Value.string)) (hsn : sn ≤ 140737488355328) :
    FSpec Try.prog 36 [.pointer (some ⟨q, 0, none⟩), .slice sp sn sc] [RefAt q r, G] (fun v B => v = .int .i64 (r.sync names).1 ∧ B = [RefAt q (r.sync names).2, G]) := by
  refine FSpec.of Try.func36 rfl Try.ntmps36 rfl fun W0 F => ?_
  refine J.seq ?_
  refine J.region ?_
  refine J.q rfl rfl (Q.asg rfl) ?_
  refine J.nil ?_
  refine J.then_n ?_
  refine J.seq ?_
  refine J.seq ?_
  refine J.open_ 0 rfl rfl (fun _ h => h) fun fs hfs => ?_
  refine J.norm rfl ?_
  have hlen : fs.length = r.files.length := by rw [← hfs, List.length_map]
  refine J.region ?_
  refine J.q rfl rfl (Q.mv rfl) ?_
  refine J.q rfl rfl (Q.mv rfl) ?_
  refine J.call Try.call52 (rall_spec q r.size r.born fs (by have := hr.len; omega) G sp sn sc names hs hsn) [0, 2] rfl rfl rfl rfl ?_
  rintro _ _ ⟨rfl, rfl⟩
  refine J.norm rfl ?_
  have hsrt : Srt (fms fs) := by rw [hfs]; exact hr.srt
  rw [show (names.all fun n => isAt n (fms fs)) = r.hasAll names from by rw [hfs]; exact hasAll_eq hr.srt names]
  refine J.q rfl rfl (Q.not rfl) ?_
  refine J.nil ?_
  refine J.then_n ?_
  refine J.cond rfl (fun hc11 => ?_) (fun hc11 => ?_)
  ·
    first | replace hc11 := X.tt_dec hc11 | replace hc11 := X.tt_not hc11 | replace hc11 := X.ff_dec hc11 | replace hc11 := X.ff_not hc11 | skip
    refine J.seq ?_
    refine J.region ?_
    refine J.q rfl rfl (Q.asg rfl) ?_
    refine J.nil ?_
    refine J.then_n ?_
    refine J.cret ?_
    refine J.then_r ?_
    have e : r.sync names = (4, r) := by unfold DM.sync; exact if_neg (by simpa using hc11)
    rw [e]
    refine J.shut [0, 2] (RefAt q r) rfl (fun h s => ⟨fs, hfs, s⟩) ?_
    refine J.ret1 (B := [RefAt q r, G]) rfl rfl ⟨rfl, rfl⟩ rfl
  ·
    first | replace hc11 := X.tt_dec hc11 | replace hc11 := X.tt_not hc11 | replace hc11 := X.ff_dec hc11 | replace hc11 := X.ff_not hc11 | skip
    refine J.cskip ?_
    refine J.then_n ?_
    refine J.seq ?_
    refine J.seq ?_
    refine J.region ?_
    refine J.q rfl rfl (Q.asg rfl) ?_
    refine J.nil ?_
    refine J.then_n ?_
    refine J.block ?_
    have hsl0 : names.length = sn := by have := hs.len; simpa using this
    have hall : r.hasAll names = true := by simpa using hc11
    refine J.pick [0, 2, 1, 3] rfl ?_
    refine J.norm rfl ?_
    refine J.loop (fun z : Nat × List RFile => z.1 ≤ sn ∧ fms z.2 = fsyncs (names.take z.1) r.files ∧ z.2.map RFile.asn = fs.map RFile.asn) (fun z => sn - z.1) (fun z => [(0, .pointer (some ⟨q, 0, none⟩)), (1, .slice sp sn sc), (5, .int .i64 z.1)])
      (fun z => [RTab q r.size r.born z.2, star (fs.map RFile.asn), G, F]) (0, fs) ⟨Nat.zero_le _, hfs, rfl⟩ ⟨rfl, rfl, rfl, trivial⟩ rfl fun z hz => ?_
    obtain ⟨k, fs'⟩ := z
    obtain ⟨hk, hfs', hasn⟩ := hz
    dsimp only at hk hfs' hasn
    have hlen' : fs'.length = fs.length := by have := congrArg List.length hasn; simpa using this
    have hsrt' : Srt (fms fs') := by rw [hfs']; exact srt_fsyncs _ hr.srt
    refine J.seq ?_
    refine J.seq ?_
    refine J.region ?_
    refine J.q rfl rfl (Q.mv rfl) ?_
    refine J.q rfl rfl (Q.mv rfl) ?_
    refine J.q rfl rfl (Q.lenSl Try.runUnderlying28 rfl) ?_
    refine J.q rfl rfl (Q.lss rfl rfl) ?_
    refine J.nil ?_
    refine J.then_n ?_
    refine J.cond rfl (fun hc15 => ?_) (fun hc15 => ?_)
    ·
      first | replace hc15 := X.tt_dec hc15 | replace hc15 := X.tt_not hc15 | replace hc15 := X.ff_dec hc15 | replace hc15 := X.ff_not hc15 | skip
      refine J.cskip ?_
      refine J.then_n ?_
      refine J.seq ?_
      refine J.block ?_
      refine J.seq ?_
      refine J.region ?_
      refine J.q rfl rfl (Q.mv rfl) ?_
      refine J.q rfl rfl (Q.mv rfl) ?_
      refine J.q rfl rfl (Q.mv rfl) ?_
      obtain ⟨b0, off0, rfl, hrd0⟩ := hs.some_ (by omega)
      obtain ⟨n, hn'⟩ : ∃ n, names[k]? = some n := ⟨_, List.getElem?_eq_getElem (by omega)⟩
      refine J.q rfl rfl (Q.ia Try.runUnderlying28 Try.sizeOf9 rfl rfl (by omega) (by omega)) ?_
      refine J.q rfl rfl (Q.ld Try.isAgg9 rfl (((hrd0 k (.string n) (by simp [hn'])).within (i := 2) rfl).cast (by simp))) ?_
      refine J.call Try.call49 (find_spec q r.size r.born fs' (by have := hr.len; omega) n) [0] rfl rfl rfl rfl ?_
      rintro _ _ ⟨rfl, rfl⟩
      refine J.norm rfl ?_
      have hi : isAt n (fms fs') = true := by
        rw [isAt_eq hsrt', hfs', fget_fsyncs]
        unfold DM.hasAll at hall
        rw [List.all_eq_true] at hall
        exact hall n (List.mem_of_getElem? hn')
      rw [hi]
      have hlt := isAt_lt hi
      simp only [List.length_map] at hlt
      refine J.open1 0 rfl (fun _ h => h) fun z => ?_
      refine J.norm rfl ?_
      obtain ⟨p, c⟩ := z
      refine J.slr1 1 rfl fun hsl => ?_
      dsimp only at hsl
      obtain ⟨b, off, rfl, hrd⟩ := hsl.some_ (by omega)
      obtain ⟨x, hx⟩ : ∃ x, fs'[place n (fms fs')]? = some x := ⟨_, List.getElem?_eq_getElem (by omega)⟩
      obtain ⟨hst1, hst2⟩ := rsync_step hsrt' hi hx
      refine J.q rfl rfl (Q.mv rfl) ?_
      refine J.q rfl rfl (Q.ext rfl rfl) ?_
      refine J.q rfl rfl (Q.ext rfl rfl) ?_
      refine J.q rfl rfl (Q.asg rfl) ?_
      refine J.q rfl rfl (Q.asg rfl) ?_
      refine J.nil ?_
      refine J.then_n ?_
      refine J.draw [16] Try.mixed (by kernel_rfl) fun hR => ?_
      refine RG.q 0 hR rfl rfl rfl rfl rfl rfl (Q.mv rfl) ?_
      refine RG.q 1 hR rfl rfl rfl rfl rfl rfl (Q.nil_ rfl) ?_
      refine RG.q 2 hR rfl rfl rfl rfl rfl rfl (Q.fa (n := 1) Try.runUnderlying56 rfl rfl Try.sizeOf54 rfl) ?_
      refine RG.q 3 hR rfl rfl rfl rfl rfl rfl (Q.ld Try.isAgg54 rfl (by first | exact Reads.pt 0 rfl rfl | exact Reads.pt 1 rfl rfl | exact Reads.pt 2 rfl rfl | exact Reads.pt 3 rfl rfl | exact Reads.pt 4 rfl rfl | exact Reads.pt 5 rfl rfl | exact Reads.pt 6 rfl rfl | exact Reads.pt 7 rfl rfl)) ?_
      refine RG.q 4 hR rfl rfl rfl rfl rfl rfl (Q.mv rfl) ?_
      refine RG.q 5 hR rfl rfl rfl rfl rfl rfl (Q.mv rfl) ?_
      refine RG.q 6 hR rfl rfl rfl rfl rfl rfl (Q.nil_ rfl) ?_
      refine RG.q 7 hR rfl rfl rfl rfl rfl rfl (Q.fa (n := 1) Try.runUnderlying56 rfl rfl Try.sizeOf54 rfl) ?_
      refine RG.q 8 hR rfl rfl rfl rfl rfl rfl (Q.ld Try.isAgg54 rfl (by first | exact Reads.pt 0 rfl rfl | exact Reads.pt 1 rfl rfl | exact Reads.pt 2 rfl rfl | exact Reads.pt 3 rfl rfl | exact Reads.pt 4 rfl rfl | exact Reads.pt 5 rfl rfl | exact Reads.pt 6 rfl rfl | exact Reads.pt 7 rfl rfl)) ?_
      refine RG.q 9 hR rfl rfl rfl rfl rfl rfl (Q.mv rfl) ?_
      refine RG.q 10 hR rfl rfl rfl rfl rfl rfl (Q.ia Try.runUnderlying54 Try.sizeOf82 rfl rfl (by omega) (by omega)) ?_
      refine RG.q 11 hR rfl rfl rfl rfl rfl rfl (Q.fa (n := 1) Try.runUnderlying82 rfl rfl Try.sizeOf30 rfl) ?_
      refine RG.q 12 hR rfl rfl rfl rfl rfl rfl (Q.ld Try.isAgg30 rfl ((rd_field RFile.cells_length hrd hx (k := 1) rfl (by simp; omega)).within (i := 1) rfl)) ?_
      refine RG.q 13 hR rfl rfl rfl rfl rfl rfl (Q.lenSl Try.runUnderlying30 rfl) ?_
      refine RG.q 14 hR rfl rfl rfl rfl rfl rfl (Q.ia Try.runUnderlying54 Try.sizeOf82 rfl rfl (by omega) (by omega)) ?_
      refine RG.q 15 hR rfl rfl rfl rfl rfl rfl (Q.fa (n := 2) Try.runUnderlying82 rfl rfl Try.sizeOf3 rfl) ?_
      refine RG.bar 16 hR rfl rfl rfl rfl rfl rfl (C.stO 1 (j := place n (fms fs') * 3 + 2) Try.sizeOf3 rfl rfl rfl rfl (by simp; omega) (by rw [flat_length RFile.cells_length]; omega)) ?_
      rintro _ _ ⟨rfl, rfl⟩
      refine RG.norm rfl ?_
      refine RG.fin hR rfl ?_
      refine J.norm rfl ?_
      refine J.blk_n ?_
      refine J.then_n ?_
      refine J.region ?_
      refine J.q rfl rfl (Q.mv rfl) ?_
      refine J.q rfl rfl (Q.add64 rfl rfl (by omega)) ?_
      refine J.q rfl rfl (Q.asg rfl) ?_
      refine J.nil ?_
      rw [flat_set1 (x' := (⟨⟨x.f.name, x.f.bs, x.f.bs.length⟩, x.sp, x.sc⟩ : RFile)) RFile.cells_length hx (by omega) rfl]
      refine J.shut [0, 1] (RTab q r.size r.born (fs'.set (place n (fms fs')) (⟨⟨x.f.name, x.f.bs, x.f.bs.length⟩, x.sp, x.sc⟩ : RFile))) rfl (fun h s => ⟨(some ⟨b, off, none⟩, c), by rw [List.length_set]; exact s⟩) ?_
      refine J.again (k + 1, fs'.set (place n (fms fs')) (⟨⟨x.f.name, x.f.bs, x.f.bs.length⟩, x.sp, x.sc⟩ : RFile)) ⟨by show k + 1 ≤ sn; omega, by rw [fsyncs_take hn', ← hfs']; exact hst1, hst2.trans hasn⟩ (by show sn - (k + 1) < sn - k; omega) ⟨rfl, rfl, rfl, trivial⟩ rfl
    ·
      first | replace hc15 := X.tt_dec hc15 | replace hc15 := X.tt_not hc15 | replace hc15 := X.ff_dec hc15 | replace hc15 := X.ff_not hc15 | skip
      refine J.exit ?_
      refine J.then_x ?_
      refine J.lp_x ?_
      refine J.blk_x ?_
      refine J.then_n ?_
      refine J.seq ?_
      refine J.region ?_
      refine J.q rfl rfl (Q.asg rfl) ?_
      refine J.nil ?_
      refine J.then_n ?_
      refine J.cret ?_
      rw [List.take_of_length_le (by omega)] at hfs'
      have e : r.sync names = (0, { r with files := fsyncs names r.files }) := by unfold DM.sync; exact if_pos hall
      rw [e]
      refine J.same (B := [RTab q r.size r.born fs', star (fs'.map RFile.asn), G, F]) (by rw [hasn]) ?_
      refine J.shut [0, 1] (RefAt q { r with files := fsyncs names r.files }) rfl (fun h s => ⟨fs', hfs', s⟩) ?_
      refine J.ret1 (B := [RefAt q { r with files := fsyncs names r.files }, G]) rfl rfl ⟨rfl, rfl⟩ rfl

theorem star_rdrop {n : ByteArray} {fs : List RFile} : ∀ h, star (fs.map RFile.asn) h → star ((rdrop n fs).map RFile.asn) h := by
  intro h s
  unfold rdrop; split
  · exact star_drop1 _ h s
  · exact s
theorem rdrop_len (n : ByteArray) (fs : List RFile) : (rdrop n fs).length ≤ fs.length := by
  unfold rdrop; split
  · rw [List.length_eraseIdx]; split <;> omega
  · exact Nat.le_refl _

theorem rdelete_spec (q : Nat) (r : DM) (hr : RWf r) (G : Assn) (sp : Option Addr) (sn sc : Nat) (names : List ByteArray) (hs : SlR [G] 1 (.slice sp sn sc) (names.map Value.string)) (hsn : sn ≤ 140737488355328) :
    FSpec Try.prog 38 [.pointer (some ⟨q, 0, none⟩), .slice sp sn sc] [RefAt q r, G] (fun v B => v = .int .i64 (r.delete names).1 ∧ B = [RefAt q (r.delete names).2, G]) := by
  refine FSpec.of Try.func38 rfl Try.ntmps38 rfl fun W0 F => ?_
  refine J.seq ?_
  refine J.region ?_
  refine J.q rfl rfl (Q.asg rfl) ?_
  refine J.nil ?_
  refine J.then_n ?_
  refine J.seq ?_
  refine J.seq ?_
  refine J.open_ 0 rfl rfl (fun _ h => h) fun fs hfs => ?_
  refine J.norm rfl ?_
  have hlen : fs.length = r.files.length := by rw [← hfs, List.length_map]
  refine J.region ?_
  refine J.q rfl rfl (Q.mv rfl) ?_
  refine J.q rfl rfl (Q.mv rfl) ?_
  refine J.call Try.call52 (rall_spec q r.size r.born fs (by have := hr.len; omega) G sp sn sc names hs hsn) [0, 2] rfl rfl rfl rfl ?_
  rintro _ _ ⟨rfl, rfl⟩
  refine J.norm rfl ?_
  have hsrt : Srt (fms fs) := by rw [hfs]; exact hr.srt
  rw [show (names.all fun n => isAt n (fms fs)) = r.hasAll names from by rw [hfs]; exact hasAll_eq hr.srt names]
  refine J.q rfl rfl (Q.not rfl) ?_
  refine J.nil ?_
  refine J.then_n ?_
  refine J.cond rfl (fun hc9 => ?_) (fun hc9 => ?_)
  ·
    first | replace hc9 := X.tt_dec hc9 | replace hc9 := X.tt_not hc9 | replace hc9 := X.ff_dec hc9 | replace hc9 := X.ff_not hc9 | skip
    refine J.seq ?_
    refine J.region ?_
    refine J.q rfl rfl (Q.asg rfl) ?_
    refine J.nil ?_
    refine J.then_n ?_
    refine J.cret ?_
    refine J.then_r ?_
    have e : r.delete names = (4, r) := by unfold DM.delete; exact if_neg (by simpa using hc9)
    rw [e]
    refine J.shut [0, 2] (RefAt q r) rfl (fun h s => ⟨fs, hfs, s⟩) ?_
    refine J.ret1 (B := [RefAt q r, G]) rfl rfl ⟨rfl, rfl⟩ rfl
  ·
    first | replace hc9 := X.tt_dec hc9 | replace hc9 := X.tt_not hc9 | replace hc9 := X.ff_dec hc9 | replace hc9 := X.ff_not hc9 | skip
    refine J.cskip ?_
    refine J.then_n ?_
    refine J.seq ?_
    refine J.seq ?_
    refine J.region ?_
    refine J.q rfl rfl (Q.asg rfl) ?_
    refine J.nil ?_
    refine J.then_n ?_
    refine J.block ?_
    have hsl0 : names.length = sn := by have := hs.len; simpa using this
    have hall : r.hasAll names = true := by simpa using hc9
    refine J.pick [0, 2, 1, 3] rfl ?_
    refine J.norm rfl ?_
    refine J.loop (fun z : Nat × List RFile => z.1 ≤ sn ∧ fms z.2 = fdels (names.take z.1) r.files ∧ z.2.length ≤ fs.length) (fun z => sn - z.1) (fun z => [(0, .pointer (some ⟨q, 0, none⟩)), (1, .slice sp sn sc), (5, .int .i64 z.1)])
      (fun z => [RTab q r.size r.born z.2, star (z.2.map RFile.asn), G, F]) (0, fs) ⟨Nat.zero_le _, hfs, Nat.le_refl _⟩ ⟨rfl, rfl, rfl, trivial⟩ rfl fun z hz => ?_
    obtain ⟨k, fs'⟩ := z
    obtain ⟨hk, hfs', hlen'⟩ := hz
    dsimp only at hk hfs' hlen'
    have hsrt' : Srt (fms fs') := by rw [hfs']; exact srt_fdels _ hr.srt
    refine J.seq ?_
    refine J.seq ?_
    refine J.region ?_
    refine J.q rfl rfl (Q.mv rfl) ?_
    refine J.q rfl rfl (Q.mv rfl) ?_
    refine J.q rfl rfl (Q.lenSl Try.runUnderlying28 rfl) ?_
    refine J.q rfl rfl (Q.lss rfl rfl) ?_
    refine J.nil ?_
    refine J.then_n ?_
    refine J.cond rfl (fun hc13 => ?_) (fun hc13 => ?_)
    ·
      first | replace hc13 := X.tt_dec hc13 | replace hc13 := X.tt_not hc13 | replace hc13 := X.ff_dec hc13 | replace hc13 := X.ff_not hc13 | skip
      refine J.cskip ?_
      refine J.then_n ?_
      refine J.seq ?_
      refine J.block ?_
      refine J.region ?_
      refine J.q rfl rfl (Q.mv rfl) ?_
      refine J.q rfl rfl (Q.mv rfl) ?_
      refine J.q rfl rfl (Q.mv rfl) ?_
      obtain ⟨b0, off0, rfl, hrd0⟩ := hs.some_ (by omega)
      obtain ⟨n, hn'⟩ : ∃ n, names[k]? = some n := ⟨_, List.getElem?_eq_getElem (by omega)⟩
      refine J.q rfl rfl (Q.ia Try.runUnderlying28 Try.sizeOf9 rfl rfl (by omega) (by omega)) ?_
      refine J.q rfl rfl (Q.ld Try.isAgg9 rfl (((hrd0 k (.string n) (by simp [hn'])).within (i := 2) rfl).cast (by simp))) ?_
      refine J.call Try.call53 (drop_spec q r.size r.born fs' (by have := hr.len; omega) n) [0] rfl rfl rfl rfl ?_
      rintro _ _ ⟨rfl, rfl⟩
      refine J.norm rfl ?_
      refine J.nil ?_
      refine J.blk_n ?_
      refine J.then_n ?_
      refine J.region ?_
      refine J.q rfl rfl (Q.mv rfl) ?_
      refine J.q rfl rfl (Q.add64 rfl rfl (by omega)) ?_
      refine J.q rfl rfl (Q.asg rfl) ?_
      refine J.nil ?_
      refine J.conv (Y := star ((rdrop n fs').map RFile.asn)) 1 rfl star_rdrop ?_
      refine J.pick [1, 0, 2, 3] rfl ?_
      refine J.again (k + 1, rdrop n fs') ⟨by show k + 1 ≤ sn; omega, by rw [fdels_take hn', ← hfs']; exact fms_rdrop hsrt', Nat.le_trans (rdrop_len n fs') hlen'⟩ (by show sn - (k + 1) < sn - k; omega) ⟨rfl, rfl, rfl, trivial⟩ rfl
    ·
      first | replace hc13 := X.tt_dec hc13 | replace hc13 := X.tt_not hc13 | replace hc13 := X.ff_dec hc13 | replace hc13 := X.ff_not hc13 | skip
      refine J.exit ?_
      refine J.then_x ?_
      refine J.lp_x ?_
      refine J.blk_x ?_
      refine J.then_n ?_
      refine J.seq ?_
      refine J.region ?_
      refine J.q rfl rfl (Q.asg rfl) ?_
      refine J.nil ?_
      refine J.then_n ?_
      refine J.cret ?_
      rw [List.take_of_length_le (by omega)] at hfs'
      have e : r.delete names = (0, { r with files := fdels names r.files }) := by unfold DM.delete; exact if_pos hall
      rw [e]
      refine J.shut [0, 1] (RefAt q { r with files := fdels names r.files }) rfl (fun h s => ⟨fs', hfs', s⟩) ?_
      refine J.ret1 (B := [RefAt q { r with files := fdels names r.files }, G]) rfl rfl ⟨rfl, rfl⟩ rfl

end Go.Proofs.Ytkekcdcmmggbaaa
