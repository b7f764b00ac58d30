/-
  The document's disk in memory, whole: read, unsynced, lose, new.
-/
import Derived.Test.YtkekcdcmmggbaaaRefD
namespace Go.Proofs.Ytkekcdcmmggbaaa
open Go.X

structure RWf (r : DM) : Prop where
  wf : r.wf
  srt : Srt r.files
  len : r.files.length ≤ 1000000

def RefAt (q : Nat) (r : DM) : Assn := fun h => ∃ fs : List RFile, fms fs = r.files ∧ HSat h [RTab q r.size r.born fs, star (fs.map RFile.asn)]

theorem RefAt.mk {q : Nat} {r : DM} {fs : List RFile} {z : Option Addr × Nat} (hfs : fms fs = r.files) {h : Hp}
    (s : HSat h [pt q (.cells [.int .i64 r.size, .slice z.1 fs.length z.2, .int .i64 r.born].toArray 56 (0, 0)), own 82 3 (.slice z.1 fs.length z.2) (fs.flatMap RFile.cells), star (fs.map RFile.asn)]) : RefAt q r h :=
  ⟨fs, hfs, HSat.imp (HSat.pack (As := [_, _]) s) fun _ hk => ⟨z, hk⟩⟩

theorem get_at {n : ByteArray} {l : List FM} {f : FM} (h : Srt l) (hi : isAt n l = true) (hf : l[place n l]? = some f) : fget n l = some f := by
  rw [isAt_eq h] at hi
  obtain ⟨g, hg⟩ := Option.isSome_iff_exists.1 hi
  have := ((place_at h).1 g hg).2
  rw [hf] at this; cases this; exact hg
theorem get_not {n : ByteArray} {l : List FM} (h : Srt l) (hi : isAt n l = false) : fget n l = none := by
  rw [isAt_eq h] at hi
  cases e : fget n l with
  | none => rfl
  | some f => rw [e] at hi; cases hi

theorem rnew_no (n : Int) (h : n < 1 ∨ 1073741824 < n) : FSpec Try.prog 18 [.int .i64 n] [] (fun v B => v = .tuple #[.pointer none, .int .i64 1] ∧ B = []) := by
  refine FSpec.of Try.func18 rfl Try.ntmps18 rfl fun W0 F => ?_
  refine J.seq ?_
  refine J.region ?_
  refine J.q rfl rfl (Q.asg rfl) ?_
  refine J.q rfl rfl (Q.asg rfl) ?_
  refine J.nil ?_
  refine J.then_n ?_
  refine J.seq ?_
  refine J.seq ?_
  refine J.region ?_
  refine J.q rfl rfl (Q.mv rfl) ?_
  refine J.q rfl rfl (Q.lss rfl rfl) ?_
  refine J.q rfl rfl (Q.mv rfl) ?_
  refine J.cases 6 rfl (fun hb6 => ?_) (fun hb6 => ?_)
  ·
    first | replace hb6 := X.tt_dec hb6 | replace hb6 := X.tt_not hb6 | replace hb6 := X.ff_dec hb6 | replace hb6 := X.ff_not hb6 | skip
    refine J.skip rfl rfl ?_
    refine J.skip rfl rfl ?_
    refine J.q rfl rfl (Q.pick_t rfl rfl) ?_
    refine J.nil ?_
    refine J.then_n ?_
    refine J.cond_t rfl ?_
    refine J.seq ?_
    refine J.region ?_
    refine J.q rfl rfl (Q.asg rfl) ?_
    refine J.q rfl rfl (Q.asg rfl) ?_
    refine J.nil ?_
    refine J.then_n ?_
    refine J.cret ?_
    refine J.then_r ?_
    refine J.ret2 (B := []) rfl rfl rfl ⟨rfl, rfl⟩ rfl
  ·
    first | replace hb6 := X.tt_dec hb6 | replace hb6 := X.tt_not hb6 | replace hb6 := X.ff_dec hb6 | replace hb6 := X.ff_not hb6 | skip
    refine J.q rfl rfl (Q.mv rfl) ?_
    refine J.q rfl rfl (Q.gtr rfl rfl) ?_
    refine J.q rfl rfl (Q.pick_f rfl rfl) ?_
    refine J.nil ?_
    refine J.then_n ?_
    refine J.cond rfl (fun hc9 => ?_) (fun hc9 => ?_)
    ·
      first | replace hc9 := X.tt_dec hc9 | replace hc9 := X.tt_not hc9 | replace hc9 := X.ff_dec hc9 | replace hc9 := X.ff_not hc9 | skip
      refine J.seq ?_
      refine J.region ?_
      refine J.q rfl rfl (Q.asg rfl) ?_
      refine J.q rfl rfl (Q.asg rfl) ?_
      refine J.nil ?_
      refine J.then_n ?_
      refine J.cret ?_
      refine J.then_r ?_
      refine J.ret2 (B := []) rfl rfl rfl ⟨rfl, rfl⟩ rfl
    ·
      first | replace hc9 := X.tt_dec hc9 | replace hc9 := X.tt_not hc9 | replace hc9 := X.ff_dec hc9 | replace hc9 := X.ff_not hc9 | skip
      refine J.cskip ?_
      refine J.then_n ?_
      refine J.seq ?_
      refine J.region ?_
      refine J.q rfl rfl (Q.mv rfl) ?_
      refine J.q rfl rfl (Q.bld (l := [_, _, _]) Try.runUnderlying56 Try.zeroValue56 Try.places56 rfl rfl) ?_
      refine J.c rfl rfl (C.box (l := [_, _, _]) rfl rfl) ?_
      rintro _ _ ⟨b12, rfl, rfl⟩
      refine J.norm rfl ?_
      refine J.q rfl rfl (Q.asg rfl) ?_
      refine J.q rfl rfl (Q.asg rfl) ?_
      refine J.nil ?_
      refine J.then_n ?_
      refine J.cret ?_
      omega

theorem rnew_yes (n : Nat) (h1 : 1 ≤ n) (h2 : n ≤ 1073741824) : FSpec Try.prog 18 [.int .i64 n] [] (fun v B => ∃ q, v = .tuple #[.pointer (some ⟨q, 0, none⟩), .int .i64 0] ∧ B = [RefAt q ⟨n, 0, []⟩]) := by
  refine FSpec.of Try.func18 rfl Try.ntmps18 rfl fun W0 F => ?_
  refine J.seq ?_
  refine J.region ?_
  refine J.q rfl rfl (Q.asg rfl) ?_
  refine J.q rfl rfl (Q.asg rfl) ?_
  refine J.nil ?_
  refine J.then_n ?_
  refine J.seq ?_
  refine J.seq ?_
  refine J.region ?_
  refine J.q rfl rfl (Q.mv rfl) ?_
  refine J.q rfl rfl (Q.lss rfl rfl) ?_
  refine J.q rfl rfl (Q.mv rfl) ?_
  refine J.cases 6 rfl (fun hb6 => ?_) (fun hb6 => ?_)
  ·
    first | replace hb6 := X.tt_dec hb6 | replace hb6 := X.tt_not hb6 | replace hb6 := X.ff_dec hb6 | replace hb6 := X.ff_not hb6 | skip
    refine J.skip rfl rfl ?_
    refine J.skip rfl rfl ?_
    refine J.q rfl rfl (Q.pick_t rfl rfl) ?_
    refine J.nil ?_
    refine J.then_n ?_
    refine J.cond_t rfl ?_
    refine J.seq ?_
    refine J.region ?_
    refine J.q rfl rfl (Q.asg rfl) ?_
    refine J.q rfl rfl (Q.asg rfl) ?_
    refine J.nil ?_
    refine J.then_n ?_
    refine J.cret ?_
    refine J.then_r ?_
    omega
  ·
    first | replace hb6 := X.tt_dec hb6 | replace hb6 := X.tt_not hb6 | replace hb6 := X.ff_dec hb6 | replace hb6 := X.ff_not hb6 | skip
    refine J.q rfl rfl (Q.mv rfl) ?_
    refine J.q rfl rfl (Q.gtr rfl rfl) ?_
    refine J.q rfl rfl (Q.pick_f rfl rfl) ?_
    refine J.nil ?_
    refine J.then_n ?_
    refine J.cond rfl (fun hc9 => ?_) (fun hc9 => ?_)
    ·
      first | replace hc9 := X.tt_dec hc9 | replace hc9 := X.tt_not hc9 | replace hc9 := X.ff_dec hc9 | replace hc9 := X.ff_not hc9 | skip
      refine J.seq ?_
      refine J.region ?_
      refine J.q rfl rfl (Q.asg rfl) ?_
      refine J.q rfl rfl (Q.asg rfl) ?_
      refine J.nil ?_
      refine J.then_n ?_
      refine J.cret ?_
      refine J.then_r ?_
      omega
    ·
      first | replace hc9 := X.tt_dec hc9 | replace hc9 := X.tt_not hc9 | replace hc9 := X.ff_dec hc9 | replace hc9 := X.ff_not hc9 | skip
      refine J.cskip ?_
      refine J.then_n ?_
      refine J.seq ?_
      refine J.region ?_
      refine J.q rfl rfl (Q.mv rfl) ?_
      refine J.q rfl rfl (Q.bld (l := [_, _, _]) Try.runUnderlying56 Try.zeroValue56 Try.places56 rfl rfl) ?_
      refine J.c rfl rfl (C.box (l := [_, _, _]) rfl rfl) ?_
      rintro _ _ ⟨b12, rfl, rfl⟩
      refine J.norm rfl ?_
      refine J.q rfl rfl (Q.asg rfl) ?_
      refine J.q rfl rfl (Q.asg rfl) ?_
      refine J.nil ?_
      refine J.then_n ?_
      refine J.cret ?_
      refine J.give (X := own 82 3 (.slice none 0 0) []) (own.nil _ _ _) ?_
      refine J.give (X := star (([] : List RFile).map RFile.asn)) trivial ?_
      refine J.shut [2, 1, 0] (RefAt b12 ⟨n, 0, []⟩) rfl (fun h s => RefAt.mk (fs := []) (z := (none, 0)) rfl s) ?_
      refine J.ret2 (B := [RefAt b12 ⟨n, 0, []⟩]) rfl rfl rfl ⟨_, rfl, rfl⟩ rfl

theorem rlose_spec (q : Nat) (r : DM) (hb : r.born ≤ 1000000) : FSpec Try.prog 41 [.pointer (some ⟨q, 0, none⟩)] [RefAt q r] (fun v B => v = .tuple #[] ∧ B = [RefAt q r.lose]) := by
  refine FSpec.of Try.func41 rfl Try.ntmps41 rfl fun W0 F => ?_
  refine J.seq ?_
  refine J.open_ 0 rfl rfl (fun _ h => h) fun fs hfs => ?_
  refine J.norm rfl ?_
  have hlen : fs.length = r.files.length := by rw [← hfs, List.length_map]
  refine J.open1 0 rfl (fun _ h => h) fun z => ?_
  refine J.norm rfl ?_
  refine J.region ?_
  refine J.q rfl rfl (Q.mv rfl) ?_
  refine J.q rfl rfl (Q.nil_ rfl) ?_
  refine J.q rfl rfl (Q.fa (n := 1) Try.runUnderlying56 rfl rfl Try.sizeOf54 rfl) ?_
  first | refine J.st (i := 0) rfl Try.sizeOf54 rfl rfl rfl rfl rfl rfl rfl ?_ | refine J.st (i := 1) rfl Try.sizeOf54 rfl rfl rfl rfl rfl rfl rfl ?_ | refine J.st (i := 2) rfl Try.sizeOf54 rfl rfl rfl rfl rfl rfl rfl ?_ | refine J.st (i := 3) rfl Try.sizeOf54 rfl rfl rfl rfl rfl rfl rfl ?_ | refine J.st (i := 4) rfl Try.sizeOf54 rfl rfl rfl rfl rfl rfl rfl ?_ | refine J.st (i := 5) rfl Try.sizeOf54 rfl rfl rfl rfl rfl rfl rfl ?_
  refine J.nil ?_
  refine J.then_n ?_
  refine J.region ?_
  refine J.q rfl rfl (Q.mv rfl) ?_
  refine J.q rfl rfl (Q.nil_ rfl) ?_
  refine J.q rfl rfl (Q.fa (n := 2) Try.runUnderlying56 rfl rfl Try.sizeOf3 rfl) ?_
  refine J.q rfl rfl (Q.ld Try.isAgg3 rfl (by first | exact Reads.pt 0 rfl rfl | exact Reads.pt 1 rfl rfl | exact Reads.pt 2 rfl rfl | exact Reads.pt 3 rfl rfl | exact Reads.pt 4 rfl rfl | exact Reads.pt 5 rfl rfl | exact Reads.pt 6 rfl rfl | exact Reads.pt 7 rfl rfl)) ?_
  refine J.q rfl rfl (Q.add64 rfl rfl (by omega)) ?_
  refine J.q rfl rfl (Q.nil_ rfl) ?_
  refine J.q rfl rfl (Q.fa (n := 2) Try.runUnderlying56 rfl rfl Try.sizeOf3 rfl) ?_
  first | refine J.st (i := 0) rfl Try.sizeOf3 rfl rfl rfl rfl rfl rfl rfl ?_ | refine J.st (i := 1) rfl Try.sizeOf3 rfl rfl rfl rfl rfl rfl rfl ?_ | refine J.st (i := 2) rfl Try.sizeOf3 rfl rfl rfl rfl rfl rfl rfl ?_ | refine J.st (i := 3) rfl Try.sizeOf3 rfl rfl rfl rfl rfl rfl rfl ?_ | refine J.st (i := 4) rfl Try.sizeOf3 rfl rfl rfl rfl rfl rfl rfl ?_ | refine J.st (i := 5) rfl Try.sizeOf3 rfl rfl rfl rfl rfl rfl rfl ?_
  refine J.nil ?_
  refine J.give (X := own 82 3 (.slice none 0 0) []) (own.nil _ _ _) ?_
  refine J.give (X := star (([] : List RFile).map RFile.asn)) trivial ?_
  refine J.shut [2, 1, 0] (RefAt q r.lose) rfl (fun h s => RefAt.mk (fs := []) (z := (none, 0)) rfl s) ?_
  refine J.keep [0, 3] rfl ?_
  refine J.end0 (B := [RefAt q r.lose]) rfl ⟨rfl, rfl⟩ rfl

theorem runsynced_spec (q : Nat) (r : DM) (hr : RWf r) (n : ByteArray) : FSpec Try.prog 32 [.pointer (some ⟨q, 0, none⟩), .string n] [RefAt q r] (fun v B => v = .int .i64 (r.unsynced n) ∧ B = [RefAt q r]) := by
  refine FSpec.of Try.func32 rfl Try.ntmps32 rfl fun W0 F => ?_
  refine J.seq ?_
  refine J.region ?_
  refine J.q rfl rfl (Q.asg rfl) ?_
  refine J.nil ?_
  refine J.then_n ?_
  refine J.seq ?_
  refine J.open_ 0 rfl rfl (fun _ h => h) fun fs hfs => ?_
  refine J.norm rfl ?_
  have hlen : fs.length = r.files.length := by rw [← hfs, List.length_map]
  refine J.region ?_
  refine J.q rfl rfl (Q.mv rfl) ?_
  refine J.q rfl rfl (Q.mv rfl) ?_
  refine J.call Try.call49 (find_spec q r.size r.born fs (by have := hr.len; omega) n) [0] rfl rfl rfl rfl ?_
  rintro _ _ ⟨rfl, rfl⟩
  refine J.norm rfl ?_
  refine J.open1 0 rfl (fun _ h => h) fun z => ?_
  refine J.norm rfl ?_
  obtain ⟨p, c⟩ := z
  refine J.slr1 1 rfl fun hsl => ?_
  refine J.tells 1 rfl own.len fun hlc => ?_
  obtain ⟨_, hlc⟩ := hlc
  have hlc' : fs.length ≤ c := hlc
  dsimp only at hsl
  refine J.q rfl rfl (Q.mv rfl) ?_
  refine J.q rfl rfl (Q.ext rfl rfl) ?_
  refine J.q rfl rfl (Q.ext rfl rfl) ?_
  refine J.q rfl rfl (Q.asg rfl) ?_
  refine J.q rfl rfl (Q.asg rfl) ?_
  refine J.nil ?_
  refine J.then_n ?_
  refine J.seq ?_
  refine J.seq ?_
  refine J.region ?_
  refine J.q rfl rfl (Q.mv rfl) ?_
  refine J.q rfl rfl (Q.not rfl) ?_
  refine J.nil ?_
  refine J.then_n ?_
  refine J.cond rfl (fun hc14 => ?_) (fun hc14 => ?_)
  ·
    first | replace hc14 := X.tt_dec hc14 | replace hc14 := X.tt_not hc14 | replace hc14 := X.ff_dec hc14 | replace hc14 := X.ff_not hc14 | skip
    refine J.seq ?_
    refine J.region ?_
    refine J.q rfl rfl (Q.asg rfl) ?_
    refine J.nil ?_
    refine J.then_n ?_
    refine J.cret ?_
    refine J.then_r ?_
    have hno := get_not (n := n) (l := fms fs) (by rw [hfs]; exact hr.srt) (by simpa using hc14)
    rw [hfs] at hno
    refine J.shut [0, 1, 2] (RefAt q r) rfl (fun h s => RefAt.mk (z := (p, c)) hfs s) ?_
    refine J.ret1 (B := [RefAt q r]) rfl rfl ⟨by unfold DM.unsynced; rw [hno], rfl⟩ rfl
  ·
    first | replace hc14 := X.tt_dec hc14 | replace hc14 := X.tt_not hc14 | replace hc14 := X.ff_dec hc14 | replace hc14 := X.ff_not hc14 | skip
    refine J.cskip ?_
    refine J.then_n ?_
    refine J.seq ?_
    have hlt := isAt_lt (by simpa using hc14)
    simp only [List.length_map] at hlt
    obtain ⟨b, off, rfl, hrd⟩ := hsl.some_ (by omega)
    obtain ⟨x, hx⟩ : ∃ x, fs[place n (fms fs)]? = some x := ⟨_, List.getElem?_eq_getElem (by omega)⟩
    have hxf : fget n r.files = some x.f := by rw [← hfs]; exact get_at (by rw [hfs]; exact hr.srt) (by simpa using hc14) (by rw [List.getElem?_map, hx]; rfl)
    obtain ⟨h1, h2, h3⟩ := hr.wf.len hxf
    have h4 := hr.wf.size
    refine J.draw [18] Try.mixed (by kernel_rfl) fun hR => ?_
    refine RG.q 0 hR rfl rfl rfl rfl rfl rfl (Q.mv rfl) ?_
    refine RG.q 1 hR rfl rfl rfl rfl rfl rfl (Q.nil_ rfl) ?_
    refine RG.q 2 hR rfl rfl rfl rfl rfl rfl (Q.fa (n := 1) Try.runUnderlying56 rfl rfl Try.sizeOf54 rfl) ?_
    refine RG.q 3 hR rfl rfl rfl rfl rfl rfl (Q.ld Try.isAgg54 rfl (by first | exact Reads.pt 0 rfl rfl | exact Reads.pt 1 rfl rfl | exact Reads.pt 2 rfl rfl | exact Reads.pt 3 rfl rfl | exact Reads.pt 4 rfl rfl | exact Reads.pt 5 rfl rfl | exact Reads.pt 6 rfl rfl | exact Reads.pt 7 rfl rfl)) ?_
    refine RG.q 4 hR rfl rfl rfl rfl rfl rfl (Q.mv rfl) ?_
    refine RG.q 5 hR rfl rfl rfl rfl rfl rfl (Q.ia Try.runUnderlying54 Try.sizeOf82 rfl rfl (by omega) (by omega)) ?_
    refine RG.q 6 hR rfl rfl rfl rfl rfl rfl (Q.fa (n := 1) Try.runUnderlying82 rfl rfl Try.sizeOf30 rfl) ?_
    refine RG.q 7 hR rfl rfl rfl rfl rfl rfl (Q.ld Try.isAgg30 rfl ((rd_field RFile.cells_length hrd hx (k := 1) rfl (by simp; omega)).within (i := 1) rfl)) ?_
    refine RG.q 8 hR rfl rfl rfl rfl rfl rfl (Q.lenSl Try.runUnderlying30 rfl) ?_
    refine RG.q 9 hR rfl rfl rfl rfl rfl rfl (Q.mv rfl) ?_
    refine RG.q 10 hR rfl rfl rfl rfl rfl rfl (Q.nil_ rfl) ?_
    refine RG.q 11 hR rfl rfl rfl rfl rfl rfl (Q.fa (n := 1) Try.runUnderlying56 rfl rfl Try.sizeOf54 rfl) ?_
    refine RG.q 12 hR rfl rfl rfl rfl rfl rfl (Q.ld Try.isAgg54 rfl (by first | exact Reads.pt 0 rfl rfl | exact Reads.pt 1 rfl rfl | exact Reads.pt 2 rfl rfl | exact Reads.pt 3 rfl rfl | exact Reads.pt 4 rfl rfl | exact Reads.pt 5 rfl rfl | exact Reads.pt 6 rfl rfl | exact Reads.pt 7 rfl rfl)) ?_
    refine RG.q 13 hR rfl rfl rfl rfl rfl rfl (Q.mv rfl) ?_
    refine RG.q 14 hR rfl rfl rfl rfl rfl rfl (Q.ia Try.runUnderlying54 Try.sizeOf82 rfl rfl (by omega) (by omega)) ?_
    refine RG.q 15 hR rfl rfl rfl rfl rfl rfl (Q.fa (n := 2) Try.runUnderlying82 rfl rfl Try.sizeOf3 rfl) ?_
    refine RG.q 16 hR rfl rfl rfl rfl rfl rfl (Q.ld Try.isAgg3 rfl ((rd_field RFile.cells_length hrd hx (k := 2) rfl (by simp; omega)).within (i := 1) rfl)) ?_
    refine RG.q 17 hR rfl rfl rfl rfl rfl rfl (Q.sub64 rfl rfl (by omega)) ?_
    refine RG.bar 18 hR rfl rfl rfl rfl rfl rfl (Q.asg rfl).toC ?_
    rintro _ _ ⟨rfl, rfl⟩
    refine RG.norm rfl ?_
    refine RG.fin hR rfl ?_
    refine J.norm rfl ?_
    refine J.then_n ?_
    refine J.cret ?_
    refine J.shut [0, 1, 2] (RefAt q r) rfl (fun h s => RefAt.mk (z := (some ⟨b, off, none⟩, c)) hfs s) ?_
    refine J.ret1 (B := [RefAt q r]) rfl rfl ⟨by unfold DM.unsynced; rw [hxf], rfl⟩ rfl

theorem rread_spec (q : Nat) (r : DM) (hr : RWf r) (n : ByteArray) : FSpec Try.prog 29 [.pointer (some ⟨q, 0, none⟩), .string n] [RefAt q r] (fun v B => ∃ s, v = .tuple #[s, .int .i64 (r.found n)] ∧ B = [RefAt q r]) := by
  refine FSpec.of Try.func29 rfl Try.ntmps29 rfl fun W0 F => ?_
  refine J.seq ?_
  refine J.region ?_
  refine J.q rfl rfl (Q.asg rfl) ?_
  refine J.q rfl rfl (Q.asg rfl) ?_
  refine J.nil ?_
  refine J.then_n ?_
  refine J.seq ?_
  refine J.open_ 0 rfl rfl (fun _ h => h) fun fs hfs => ?_
  refine J.norm rfl ?_
  have hlen : fs.length = r.files.length := by rw [← hfs, List.length_map]
  refine J.region ?_
  refine J.q rfl rfl (Q.mv rfl) ?_
  refine J.q rfl rfl (Q.mv rfl) ?_
  refine J.call Try.call49 (find_spec q r.size r.born fs (by have := hr.len; omega) n) [0] rfl rfl rfl rfl ?_
  rintro _ _ ⟨rfl, rfl⟩
  refine J.norm rfl ?_
  refine J.open1 0 rfl (fun _ h => h) fun z => ?_
  refine J.norm rfl ?_
  obtain ⟨p, c⟩ := z
  refine J.slr1 1 rfl fun hsl => ?_
  refine J.tells 1 rfl own.len fun hlc => ?_
  obtain ⟨_, hlc⟩ := hlc
  have hlc' : fs.length ≤ c := hlc
  dsimp only at hsl
  refine J.q rfl rfl (Q.mv rfl) ?_
  refine J.q rfl rfl (Q.ext rfl rfl) ?_
  refine J.q rfl rfl (Q.ext rfl rfl) ?_
  refine J.q rfl rfl (Q.asg rfl) ?_
  refine J.q rfl rfl (Q.asg rfl) ?_
  refine J.nil ?_
  refine J.then_n ?_
  refine J.seq ?_
  refine J.seq ?_
  refine J.region ?_
  refine J.q rfl rfl (Q.mv rfl) ?_
  refine J.q rfl rfl (Q.not rfl) ?_
  refine J.nil ?_
  refine J.then_n ?_
  refine J.cond rfl (fun hc15 => ?_) (fun hc15 => ?_)
  ·
    first | replace hc15 := X.tt_dec hc15 | replace hc15 := X.tt_not hc15 | replace hc15 := X.ff_dec hc15 | replace hc15 := X.ff_not hc15 | skip
    refine J.seq ?_
    refine J.region ?_
    refine J.q rfl rfl (Q.asg rfl) ?_
    refine J.q rfl rfl (Q.asg rfl) ?_
    refine J.nil ?_
    refine J.then_n ?_
    refine J.cret ?_
    refine J.then_r ?_
    have hno := get_not (n := n) (l := fms fs) (by rw [hfs]; exact hr.srt) (by simpa using hc15)
    rw [hfs] at hno
    refine J.shut [0, 1, 2] (RefAt q r) rfl (fun h s => RefAt.mk (z := (p, c)) hfs s) ?_
    refine J.ret2 (B := [RefAt q r]) rfl rfl rfl ⟨_, by unfold DM.found; rw [hno], rfl⟩ rfl
  ·
    first | replace hc15 := X.tt_dec hc15 | replace hc15 := X.tt_not hc15 | replace hc15 := X.ff_dec hc15 | replace hc15 := X.ff_not hc15 | skip
    refine J.cskip ?_
    refine J.then_n ?_
    refine J.seq ?_
    have hlt := isAt_lt (by simpa using hc15)
    simp only [List.length_map] at hlt
    obtain ⟨b, off, rfl, hrd⟩ := hsl.some_ (by omega)
    obtain ⟨x, hx⟩ : ∃ x, fs[place n (fms fs)]? = some x := ⟨_, List.getElem?_eq_getElem (by omega)⟩
    have hxf : fget n r.files = some x.f := by rw [← hfs]; exact get_at (by rw [hfs]; exact hr.srt) (by simpa using hc15) (by rw [List.getElem?_map, hx]; rfl)
    refine J.region ?_
    refine J.q rfl rfl (Q.mv rfl) ?_
    refine J.q rfl rfl (Q.nil_ rfl) ?_
    refine J.q rfl rfl (Q.fa (n := 1) Try.runUnderlying56 rfl rfl Try.sizeOf54 rfl) ?_
    refine J.q rfl rfl (Q.ld Try.isAgg54 rfl (by first | exact Reads.pt 0 rfl rfl | exact Reads.pt 1 rfl rfl | exact Reads.pt 2 rfl rfl | exact Reads.pt 3 rfl rfl | exact Reads.pt 4 rfl rfl | exact Reads.pt 5 rfl rfl | exact Reads.pt 6 rfl rfl | exact Reads.pt 7 rfl rfl)) ?_
    refine J.q rfl rfl (Q.mv rfl) ?_
    refine J.q rfl rfl (Q.ia Try.runUnderlying54 Try.sizeOf82 rfl rfl (by omega) (by omega)) ?_
    refine J.q rfl rfl (Q.fa (n := 1) Try.runUnderlying82 rfl rfl Try.sizeOf30 rfl) ?_
    refine J.q rfl rfl (Q.ld Try.isAgg30 rfl ((rd_field RFile.cells_length hrd hx (k := 1) rfl (by simp; omega)).within (i := 1) rfl)) ?_
    refine J.q rfl rfl (Q.asg rfl) ?_
    refine J.q rfl rfl (Q.asg rfl) ?_
    refine J.nil ?_
    refine J.then_n ?_
    refine J.cret ?_
    refine J.shut [0, 1, 2] (RefAt q r) rfl (fun h s => RefAt.mk (z := (some ⟨b, off, none⟩, c)) hfs s) ?_
    refine J.ret2 (B := [RefAt q r]) rfl rfl rfl ⟨_, by unfold DM.found; rw [hxf], rfl⟩ rfl

end Go.Proofs.Ytkekcdcmmggbaaa
