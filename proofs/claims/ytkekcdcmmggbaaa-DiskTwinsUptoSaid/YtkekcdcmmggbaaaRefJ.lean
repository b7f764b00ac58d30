/-
  The document's disk in memory, whole: twin.
-/
import Derived.Test.YtkekcdcmmggbaaaRefI
import Derived.Test.YtkekcdcmmggbaaaXo
namespace Go.Proofs.Ytkekcdcmmggbaaa
open Go.X

theorem rtwin_spec (q : Nat) (r : DM) (hr : RWf r) : FSpec Try.prog 24 [.pointer (some ⟨q, 0, none⟩)] [RefAt q r] (fun v B => ∃ q2, v = .pointer (some ⟨q2, 0, none⟩) ∧ B = [RefAt q2 r, RefAt q r]) := by
  refine FSpec.of Try.func24 rfl Try.ntmps24 rfl fun W0 F => ?_
  refine J.seq ?_
  refine J.region ?_
  refine J.q rfl rfl (Q.asg rfl) ?_
  refine J.nil ?_
  refine J.then_n ?_
  refine J.seq ?_
  refine J.open_ 0 rfl rfl (fun _ h => h) fun fs hfs => ?_
  refine J.norm rfl ?_
  have hlen : fs.length = r.files.length := by rw [← hfs, List.length_map]
  refine J.open1 0 rfl (fun _ h => h) fun z => ?_
  refine J.norm rfl ?_
  obtain ⟨p, c⟩ := z
  refine J.slr1 1 rfl fun hsl => ?_
  refine J.tells 1 rfl own.len fun hlc => ?_
  obtain ⟨_, hlc⟩ := hlc
  have hlc' : fs.length ≤ c := hlc
  dsimp only at hsl
  have hrl := hr.len
  refine J.draw [9, 10] Try.mixed (by kernel_rfl) fun hR => ?_
  refine RG.q 0 hR rfl rfl rfl rfl rfl rfl (Q.mv rfl) ?_
  refine RG.q 1 hR rfl rfl rfl rfl rfl rfl (Q.nil_ rfl) ?_
  refine RG.q 2 hR rfl rfl rfl rfl rfl rfl (Q.fa (n := 0) Try.runUnderlying56 rfl rfl Try.sizeOf3 rfl) ?_
  refine RG.q 3 hR rfl rfl rfl rfl rfl rfl (Q.ld Try.isAgg3 rfl (by first | exact Reads.pt 0 rfl rfl | exact Reads.pt 1 rfl rfl | exact Reads.pt 2 rfl rfl | exact Reads.pt 3 rfl rfl | exact Reads.pt 4 rfl rfl | exact Reads.pt 5 rfl rfl | exact Reads.pt 6 rfl rfl | exact Reads.pt 7 rfl rfl)) ?_
  refine RG.q 4 hR rfl rfl rfl rfl rfl rfl (Q.mv rfl) ?_
  refine RG.q 5 hR rfl rfl rfl rfl rfl rfl (Q.nil_ rfl) ?_
  refine RG.q 6 hR rfl rfl rfl rfl rfl rfl (Q.fa (n := 2) Try.runUnderlying56 rfl rfl Try.sizeOf3 rfl) ?_
  refine RG.q 7 hR rfl rfl rfl rfl rfl rfl (Q.ld Try.isAgg3 rfl (by first | exact Reads.pt 0 rfl rfl | exact Reads.pt 1 rfl rfl | exact Reads.pt 2 rfl rfl | exact Reads.pt 3 rfl rfl | exact Reads.pt 4 rfl rfl | exact Reads.pt 5 rfl rfl | exact Reads.pt 6 rfl rfl | exact Reads.pt 7 rfl rfl)) ?_
  refine RG.q 8 hR rfl rfl rfl rfl rfl rfl (Q.bld (l := [_, _, _]) Try.runUnderlying56 Try.zeroValue56 Try.places56 rfl rfl) ?_
  refine RG.bar 9 hR rfl rfl rfl rfl rfl rfl (C.box (l := [_, _, _]) rfl rfl) ?_
  rintro _ _ ⟨b15, rfl, rfl⟩
  refine RG.norm rfl ?_
  refine RG.bar 10 hR rfl rfl rfl rfl rfl rfl (Q.asg rfl).toC ?_
  rintro _ _ ⟨rfl, rfl⟩
  refine RG.norm rfl ?_
  refine RG.fin hR rfl ?_
  refine J.norm rfl ?_
  refine J.then_n ?_
  refine J.seq ?_
  refine J.seq ?_
  refine J.region ?_
  refine J.q rfl rfl (Q.asg rfl) ?_
  refine J.nil ?_
  refine J.then_n ?_
  refine J.block ?_
  refine J.give (X := own 82 3 (.slice none 0 0) []) (own.nil _ _ _) ?_
  refine J.give (X := star (([] : List RFile).map RFile.asn)) trivial ?_
  refine J.pick [2, 1, 0, 3, 4, 5, 6] rfl ?_
  refine J.norm rfl ?_
  refine J.loop (fun z : List RFile × Option Addr × Nat => z.1.length ≤ fs.length ∧ fms z.1 = r.files.take z.1.length) (fun z => fs.length - z.1.length) (fun z => [(0, .pointer (some ⟨q, 0, none⟩)), (3, .pointer (some ⟨b15, 0, none⟩)), (4, .int .i64 z.1.length)])
    (fun z => [pt b15 (.cells [.int .i64 r.size, .slice z.2.1 z.1.length z.2.2, .int .i64 r.born].toArray 56 (0, 0)), own 82 3 (.slice z.2.1 z.1.length z.2.2) (z.1.flatMap RFile.cells), star (z.1.map RFile.asn), pt q (.cells [.int .i64 r.size, .slice p fs.length c, .int .i64 r.born].toArray 56 (0, 0)), own 82 3 (.slice p fs.length c) (fs.flatMap RFile.cells), star (fs.map RFile.asn), F]) ([], none, 0)
    ⟨Nat.zero_le _, rfl⟩ ⟨rfl, rfl, rfl, trivial⟩ rfl fun z hz => ?_
  obtain ⟨hgl, hgs⟩ := hz
  refine J.seq ?_
  refine J.seq ?_
  refine J.region ?_
  refine J.q rfl rfl (Q.mv rfl) ?_
  refine J.q rfl rfl (Q.mv rfl) ?_
  refine J.q rfl rfl (Q.nil_ rfl) ?_
  refine J.q rfl rfl (Q.fa (n := 1) Try.runUnderlying56 rfl rfl Try.sizeOf54 rfl) ?_
  refine J.q rfl rfl (Q.ld Try.isAgg54 rfl (by first | exact Reads.pt 0 rfl rfl | exact Reads.pt 1 rfl rfl | exact Reads.pt 2 rfl rfl | exact Reads.pt 3 rfl rfl | exact Reads.pt 4 rfl rfl | exact Reads.pt 5 rfl rfl | exact Reads.pt 6 rfl rfl | exact Reads.pt 7 rfl rfl)) ?_
  refine J.q rfl rfl (Q.lenSl Try.runUnderlying54 rfl) ?_
  refine J.q rfl rfl (Q.lss rfl rfl) ?_
  refine J.nil ?_
  refine J.then_n ?_
  refine J.cond rfl (fun hc22 => ?_) (fun hc22 => ?_)
  ·
    first | replace hc22 := X.tt_dec hc22 | replace hc22 := X.tt_not hc22 | replace hc22 := X.ff_dec hc22 | replace hc22 := X.ff_not hc22 | skip
    refine J.cskip ?_
    refine J.then_n ?_
    refine J.seq ?_
    refine J.block ?_
    refine J.seq ?_
    obtain ⟨b, off, rfl, hrd⟩ := hsl.some_ (by omega)
    obtain ⟨x, hx⟩ : ∃ x, fs[z.1.length]? = some x := ⟨_, List.getElem?_eq_getElem (by omega)⟩
    have hxr : r.files[z.1.length]? = some x.f := by rw [← hfs, List.getElem?_map, hx]; rfl
    have hxl : x.f.bs.length ≤ r.size := Nat.le_trans (lenSum_mem (List.mem_of_getElem? hxr)) hr.wf.used
    have hsz := hr.wf.size
    refine J.slrStar 5 z.1.length rfl hx rfl fun hys => ?_
    refine J.region ?_
    refine J.q rfl rfl (Q.mv rfl) ?_
    refine J.q rfl rfl (Q.nil_ rfl) ?_
    refine J.q rfl rfl (Q.fa (n := 1) Try.runUnderlying56 rfl rfl Try.sizeOf54 rfl) ?_
    refine J.q rfl rfl (Q.ld Try.isAgg54 rfl (by first | exact Reads.pt 0 rfl rfl | exact Reads.pt 1 rfl rfl | exact Reads.pt 2 rfl rfl | exact Reads.pt 3 rfl rfl | exact Reads.pt 4 rfl rfl | exact Reads.pt 5 rfl rfl | exact Reads.pt 6 rfl rfl | exact Reads.pt 7 rfl rfl)) ?_
    refine J.q rfl rfl (Q.mv rfl) ?_
    refine J.q rfl rfl (Q.ia Try.runUnderlying54 Try.sizeOf82 rfl rfl (by omega) (by omega)) ?_
    refine J.q rfl rfl (Q.ldN (vs := [_, _, _]) Try.isAgg82 Try.sizeOf82 rfl ((rd_elem RFile.cells_length hrd hx (by simp)).within (i := 4) rfl)) ?_
    refine J.c rfl rfl (C.alloc (l := [_, _, _]) Try.zeroValue82 rfl) ?_
    rintro _ _ ⟨b5, rfl, rfl⟩
    refine J.norm rfl ?_
    refine J.c0 rfl (C.stA (i := 0) (vs := x.cells) Try.sizeOf82 rfl rfl rfl rfl rfl rfl) ?_
    rintro _ _ ⟨rfl, rfl⟩
    refine J.nil ?_
    refine J.then_n ?_
    refine J.seq ?_
    refine J.region ?_
    refine J.c rfl rfl (C.bslG (l := []) Try.runUnderlying30 Try.sizeOf5 Try.zeroValue5 (by decide) rfl rfl rfl rfl rfl) ?_
    rintro _ _ ⟨b32, rfl, rfl⟩
    refine J.norm rfl ?_
    refine J.q rfl rfl (Q.fa (n := 1) Try.runUnderlying82 rfl rfl Try.sizeOf30 rfl) ?_
    refine J.q rfl rfl (Q.ld Try.isAgg30 rfl (by first | exact Reads.pt 0 rfl rfl | exact Reads.pt 1 rfl rfl | exact Reads.pt 2 rfl rfl | exact Reads.pt 3 rfl rfl | exact Reads.pt 4 rfl rfl | exact Reads.pt 5 rfl rfl | exact Reads.pt 6 rfl rfl | exact Reads.pt 7 rfl rfl)) ?_
    refine J.conv 0 rfl (own_of_zero (sz := 1)) ?_
    refine J.c rfl rfl (C.app (i := 0) Try.runUnderlying30 Try.runUnderlying30 Try.typeInfo5 Try.sizeOf5 Try.zeroValue5 rfl rfl rfl (hys.within (i := 7) rfl) (bytesV_one _) (by simp [Try.t5] <;> omega) (by decide)) ?_
    rintro _ _ ⟨p35, c35, rfl, rfl⟩
    refine J.norm rfl ?_
    rw [show 0 + x.f.bs.length = x.f.bs.length from by omega, List.nil_append]
    refine J.q rfl rfl (Q.fa (n := 1) Try.runUnderlying82 rfl rfl Try.sizeOf30 rfl) ?_
    first | refine J.st (i := 0) rfl Try.sizeOf30 rfl rfl rfl rfl rfl rfl rfl ?_ | refine J.st (i := 1) rfl Try.sizeOf30 rfl rfl rfl rfl rfl rfl rfl ?_ | refine J.st (i := 2) rfl Try.sizeOf30 rfl rfl rfl rfl rfl rfl rfl ?_ | refine J.st (i := 3) rfl Try.sizeOf30 rfl rfl rfl rfl rfl rfl rfl ?_ | refine J.st (i := 4) rfl Try.sizeOf30 rfl rfl rfl rfl rfl rfl rfl ?_ | refine J.st (i := 5) rfl Try.sizeOf30 rfl rfl rfl rfl rfl rfl rfl ?_
    refine J.nil ?_
    refine J.then_n ?_
    refine J.pick [1, 2, 0, 4, 5, 6, 7, 8, 3] rfl ?_
    refine J.norm rfl ?_
    refine J.drawE [6, 7, 10] 8 Try.mixed (by kernel_rfl) rfl rfl fun hR => ?_
    refine RG.q 0 hR rfl rfl rfl rfl rfl rfl (Q.mv rfl) ?_
    refine RG.q 1 hR rfl rfl rfl rfl rfl rfl (Q.mv rfl) ?_
    refine RG.q 2 hR rfl rfl rfl rfl rfl rfl (Q.nil_ rfl) ?_
    refine RG.q 3 hR rfl rfl rfl rfl rfl rfl (Q.fa (n := 1) Try.runUnderlying56 rfl rfl Try.sizeOf54 rfl) ?_
    refine RG.q 4 hR rfl rfl rfl rfl rfl rfl (Q.ld Try.isAgg54 rfl (by first | exact Reads.pt 0 rfl rfl | exact Reads.pt 1 rfl rfl | exact Reads.pt 2 rfl rfl | exact Reads.pt 3 rfl rfl | exact Reads.pt 4 rfl rfl | exact Reads.pt 5 rfl rfl | exact Reads.pt 6 rfl rfl | exact Reads.pt 7 rfl rfl)) ?_
    refine RG.q 5 hR rfl rfl rfl rfl rfl rfl (Q.ldN (vs := [_, _, _]) Try.isAgg82 Try.sizeOf82 rfl (fun j u h => Reads.pt 0 rfl (by rw [Nat.zero_add]; exact h))) ?_
    refine RG.made 6 hR rfl rfl rfl rfl rfl (C.bslG (l := [_, _, _]) Try.runUnderlying54 Try.sizeOf82 Try.zeroValue82 (by decide) rfl rfl rfl rfl rfl) ?_
    rintro b43
    refine RG.many hR 7 [] rfl ⟨?_, trivial⟩
    ·
      refine RGi.app 1 rfl rfl rfl rfl Try.runUnderlying54 Try.runUnderlying54 Try.typeInfo82 Try.sizeOf82 Try.zeroValue82 rfl rfl rfl (fun _ h => h) rfl (SlR.pt 8 rfl rfl (fun j u h => by rw [Nat.zero_add]; exact h)) (by simp [oneC]) (by simp [Try.t82] <;> omega) (by decide) ?_
      rintro p44 c44
      refine RG.normE rfl ?_
      refine RG.q 8 hR rfl rfl rfl rfl rfl rfl (Q.nil_ rfl) ?_
      refine RG.q 9 hR rfl rfl rfl rfl rfl rfl (Q.fa (n := 1) Try.runUnderlying56 rfl rfl Try.sizeOf54 rfl) ?_
      first | refine RG.st 10 (j := 0) hR rfl rfl rfl rfl rfl Try.sizeOf54 rfl rfl rfl rfl rfl rfl rfl ?_ | refine RG.st 10 (j := 1) hR rfl rfl rfl rfl rfl Try.sizeOf54 rfl rfl rfl rfl rfl rfl rfl ?_ | refine RG.st 10 (j := 2) hR rfl rfl rfl rfl rfl Try.sizeOf54 rfl rfl rfl rfl rfl rfl rfl ?_ | refine RG.st 10 (j := 3) hR rfl rfl rfl rfl rfl Try.sizeOf54 rfl rfl rfl rfl rfl rfl rfl ?_ | refine RG.st 10 (j := 4) hR rfl rfl rfl rfl rfl Try.sizeOf54 rfl rfl rfl rfl rfl rfl rfl ?_ | refine RG.st 10 (j := 5) hR rfl rfl rfl rfl rfl Try.sizeOf54 rfl rfl rfl rfl rfl rfl rfl ?_
      refine RG.fin hR rfl ?_
      refine J.norm rfl ?_
      refine J.blk_n ?_
      refine J.then_n ?_
      refine J.region ?_
      refine J.q rfl rfl (Q.mv rfl) ?_
      refine J.q rfl rfl (Q.add64 rfl rfl (by omega)) ?_
      refine J.q rfl rfl (Q.asg rfl) ?_
      refine J.nil ?_
      refine J.addone (f := RFile.asn) (l := z.1) 2 3 ⟨x.f, p35, c35⟩ rfl ?_
      refine J.keep [2, 8, 0, 3, 4, 5, 6] rfl ?_
      have e1 : (z.1 ++ [(⟨x.f, p35, c35⟩ : RFile)]).length = z.1.length + 1 := by simp
      have e2 : (z.1 ++ [(⟨x.f, p35, c35⟩ : RFile)]).flatMap RFile.cells = z.1.flatMap RFile.cells ++ RFile.cells ⟨x.f, p35, c35⟩ := by simp
      refine J.again (z.1 ++ [⟨x.f, p35, c35⟩], p44, c44) ⟨by rw [e1]; omega, by
        rw [e1, fms, List.map_append]
        obtain ⟨g1, g2⟩ := List.getElem?_eq_some_iff.1 hxr
        rw [List.take_succ_eq_append_getElem g1, g2, ← hgs]; rfl⟩ (by show fs.length - (z.1 ++ [(⟨x.f, p35, c35⟩ : RFile)]).length < fs.length - z.1.length; rw [e1]; omega) ⟨rfl, rfl, congrArg some (congrArg (Value.int .i64) (by show _ = ((z.1 ++ [(⟨x.f, p35, c35⟩ : RFile)]).length : Int); rw [e1]; omega)), trivial⟩
        (by dsimp only; rw [e1, e2]; rfl)
  ·
    first | replace hc22 := X.tt_dec hc22 | replace hc22 := X.tt_not hc22 | replace hc22 := X.ff_dec hc22 | replace hc22 := X.ff_not hc22 | skip
    refine J.exit ?_
    refine J.then_x ?_
    refine J.lp_x ?_
    refine J.blk_x ?_
    refine J.then_n ?_
    refine J.seq ?_
    refine J.region ?_
    refine J.q rfl rfl (Q.mv rfl) ?_
    refine J.q rfl rfl (Q.asg rfl) ?_
    refine J.nil ?_
    refine J.then_n ?_
    refine J.cret ?_
    have hge : z.1.length = fs.length := by omega
    rw [hge] at hgs
    have hgs' : fms z.1 = r.files := by rw [hgs, List.take_of_length_le (by omega)]
    refine J.shut [3, 4, 5] (RefAt q r) rfl (fun h s => RefAt.mk (z := (p, c)) hfs s) ?_
    refine J.shut [1, 2, 3] (RefAt b15 r) rfl (fun h s => RefAt.mk (z := z.2) hgs' s) ?_
    refine J.ret1 (B := [RefAt b15 r, RefAt q r]) rfl rfl ⟨b15, rfl, rfl⟩ rfl

end Go.Proofs.Ytkekcdcmmggbaaa
