/-
  The disk's Twin.
-/
import Derived.Test.YtkekcdcmmggbaaaDiskI
namespace Go.Proofs.Ytkekcdcmmggbaaa
open Go.X

structure TwinOf (d e : DM) : Prop where
  size : e.size = d.size
  born : e.born = d.born
  files : e.files.Perm d.files

theorem lenSum_perm {l m : List FM} (h : l.Perm m) : lenSum l = lenSum m := by
  induction h with
  | nil => rfl
  | cons x _ ih => simp [lenSum, ih]
  | swap x y l => simp only [lenSum]; omega
  | trans _ _ ih1 ih2 => exact ih1.trans ih2

structure TwI (d : DM) (fs : List FW) (seen : List Nat) (gs : List FW) : Prop where
  done : (gs.map (·.f)).Perm ((doneOf fs seen).map (·.f))
  born : gs.map (·.born) = List.range gs.length

theorem name_inj {fs : List FW} (h : (fs.map (·.f.name)).Nodup) {y z : FW} (hy : y ∈ fs) (hz : z ∈ fs) (e : z.f.name = y.f.name) : z = y := by
  induction fs with
  | nil => cases hy
  | cons x fs ih =>
    simp only [List.map_cons, List.nodup_cons] at h
    rcases List.mem_cons.1 hy with rfl | hy'
    · rcases List.mem_cons.1 hz with rfl | hz'
      · rfl
      · exact absurd (by rw [← e]; exact List.mem_map_of_mem hz') h.1
    · rcases List.mem_cons.1 hz with rfl | hz'
      · exact absurd (by rw [e]; exact List.mem_map_of_mem hy') h.1
      · exact ih h.2 hy' hz'

theorem TwI.fresh {d : DM} {fs : List FW} {seen : List Nat} {gs : List FW} (h : TwI d fs seen gs) (hn : (fs.map (·.f.name)).Nodup) {y : FW} (hy : y ∈ leftOf fs seen) : mget y.f.name (gs.map FW.ent) = none := by
  obtain ⟨hyf, hys⟩ := List.mem_filter.1 hy
  rcases look y.f.name gs with ⟨h1, _⟩ | ⟨i, x, hx⟩
  · exact h1
  · exfalso
    have hxm : x ∈ gs := List.mem_of_getElem? hx.1
    have hxf : x.f ∈ (doneOf fs seen).map (·.f) := h.done.mem_iff.1 (List.mem_map_of_mem hxm)
    obtain ⟨z, hz, hzf⟩ := List.mem_map.1 hxf
    obtain ⟨hz1, hz2⟩ := List.mem_filter.1 hz
    have hzy : z = y := name_inj hn hyf hz1 (by rw [hzf]; exact hx.2.1)
    rw [hzy] at hz2
    rw [hz2] at hys
    exact absurd hys (by decide)

theorem TwI.step {d : DM} {fs : List FW} {seen : List Nat} {gs : List FW} (h : TwI d fs seen gs) (hn : (fs.map (·.born)).Nodup) {y y2 : FW} (hy : y ∈ leftOf fs seen) (hf : y2.f = y.f) (hb : y2.born = gs.length) : TwI d fs (seen ++ [y.born]) (gs ++ [y2]) := by
  refine ⟨?_, ?_⟩
  · rw [List.map_append, List.map_cons, List.map_nil, hf]
    refine (List.perm_append_singleton _ _).trans ?_
    exact (h.done.cons _).trans ((done_step hn hy).1.map _).symm
  · rw [List.map_append, h.born, List.length_append, List.map_cons, List.map_nil, hb, List.length_singleton, List.range_succ]

theorem twin_spec (p : Nat) (d : DM) (hd : d.wf) : FSpec Try.prog 20 [.pointer (some ⟨p, 0, none⟩)] [DiskAt p d] (fun v B => ∃ p2 d2, v = .pointer (some ⟨p2, 0, none⟩) ∧ TwinOf d d2 ∧ B = [DiskAt p2 d2, DiskAt p d]) := by
  refine FSpec.of Try.func20 rfl Try.ntmps20 rfl fun W0 F => ?_
  refine J.seq ?_
  refine J.region ?_
  refine J.q rfl rfl (Q.asg rfl) ?_
  refine J.nil ?_
  refine J.then_n ?_
  refine J.seq ?_
  refine J.open_ 0 rfl rfl DiskAt.open_ fun x hx => ?_
  refine J.norm rfl ?_
  have hnm : (x.fs.map (·.f.name)).Nodup := by
    have := hd.names
    rw [← hx.files, List.map_map] at this; exact this
  refine J.draw [12, 14, 15] Try.mixed (by kernel_rfl) fun hR => ?_
  refine RG.q 0 hR rfl rfl rfl rfl rfl rfl (Q.mv rfl) ?_
  refine RG.q 1 hR rfl rfl rfl rfl rfl rfl (Q.nil_ rfl) ?_
  refine RG.q 2 hR rfl rfl rfl rfl rfl rfl (Q.fa (n := 0) Try.runUnderlying67 rfl rfl Try.sizeOf3 rfl) ?_
  refine RG.q 3 hR rfl rfl rfl rfl rfl rfl (Q.ld Try.isAgg3 rfl (by first | exact Reads.pt 0 rfl rfl | exact Reads.pt 1 rfl rfl | exact Reads.pt 2 rfl rfl | exact Reads.pt 3 rfl rfl | exact Reads.pt 4 rfl rfl | exact Reads.pt 5 rfl rfl | exact Reads.pt 6 rfl rfl | exact Reads.pt 7 rfl rfl)) ?_
  refine RG.q 4 hR rfl rfl rfl rfl rfl rfl (Q.mv rfl) ?_
  refine RG.q 5 hR rfl rfl rfl rfl rfl rfl (Q.nil_ rfl) ?_
  refine RG.q 6 hR rfl rfl rfl rfl rfl rfl (Q.fa (n := 1) Try.runUnderlying67 rfl rfl Try.sizeOf3 rfl) ?_
  refine RG.q 7 hR rfl rfl rfl rfl rfl rfl (Q.ld Try.isAgg3 rfl (by first | exact Reads.pt 0 rfl rfl | exact Reads.pt 1 rfl rfl | exact Reads.pt 2 rfl rfl | exact Reads.pt 3 rfl rfl | exact Reads.pt 4 rfl rfl | exact Reads.pt 5 rfl rfl | exact Reads.pt 6 rfl rfl | exact Reads.pt 7 rfl rfl)) ?_
  refine RG.q 8 hR rfl rfl rfl rfl rfl rfl (Q.mv rfl) ?_
  refine RG.q 9 hR rfl rfl rfl rfl rfl rfl (Q.nil_ rfl) ?_
  refine RG.q 10 hR rfl rfl rfl rfl rfl rfl (Q.fa (n := 2) Try.runUnderlying67 rfl rfl Try.sizeOf3 rfl) ?_
  refine RG.q 11 hR rfl rfl rfl rfl rfl rfl (Q.ld Try.isAgg3 rfl (by first | exact Reads.pt 0 rfl rfl | exact Reads.pt 1 rfl rfl | exact Reads.pt 2 rfl rfl | exact Reads.pt 3 rfl rfl | exact Reads.pt 4 rfl rfl | exact Reads.pt 5 rfl rfl | exact Reads.pt 6 rfl rfl | exact Reads.pt 7 rfl rfl)) ?_
  refine RG.made 12 hR rfl rfl rfl rfl rfl C.mkMap ?_
  rintro b18
  refine RG.q 13 hR rfl rfl rfl rfl rfl rfl (Q.bld (l := [_, _, _, _]) Try.runUnderlying67 Try.zeroValue67 Try.places67 rfl rfl) ?_
  refine RG.bar 14 hR rfl rfl rfl rfl rfl rfl (C.box (l := [_, _, _, _]) rfl rfl) ?_
  rintro _ _ ⟨b20, rfl, rfl⟩
  refine RG.norm rfl ?_
  refine RG.bar 15 hR rfl rfl rfl rfl rfl rfl (Q.asg rfl).toC ?_
  rintro _ _ ⟨rfl, rfl⟩
  refine RG.norm rfl ?_
  refine RG.fin hR rfl ?_
  refine J.norm rfl ?_
  refine J.then_n ?_
  refine J.seq ?_
  refine J.seq ?_
  refine J.region ?_
  refine J.q rfl rfl (Q.mv rfl) ?_
  refine J.q rfl rfl (Q.nil_ rfl) ?_
  refine J.q rfl rfl (Q.fa (n := 3) Try.runUnderlying67 rfl rfl Try.sizeOf65 rfl) ?_
  refine J.q rfl rfl (Q.ld Try.isAgg65 rfl (by first | exact Reads.pt 0 rfl rfl | exact Reads.pt 1 rfl rfl | exact Reads.pt 2 rfl rfl | exact Reads.pt 3 rfl rfl | exact Reads.pt 4 rfl rfl | exact Reads.pt 5 rfl rfl | exact Reads.pt 6 rfl rfl | exact Reads.pt 7 rfl rfl)) ?_
  refine J.c rfl rfl (C.range (i := 2) Try.runUnderlying65 rfl rfl) ?_
  rintro _ _ ⟨b25, rfl, rfl⟩
  refine J.norm rfl ?_
  refine J.nil ?_
  refine J.then_n ?_
  refine J.block ?_
  have hnd : ((x.fs.map FW.ent).map (·.born)).Nodup := by rw [List.map_map]; exact hx.nodup
  have hbn : ∀ e, e ∈ x.fs.map FW.ent → e.born < x.c := by
    intro e he
    simp only [List.mem_map] at he
    obtain ⟨y, hy, rfl⟩ := he
    exact hx.born y hy
  refine J.give (X := star (([] : List FW).map FW.asn)) trivial ?_
  refine J.pick [1, 3, 4, 5, 2, 7, 0, 6] rfl ?_
  refine J.norm rfl ?_
  refine J.loop (fun z : List Nat × List FW => TwI d x.fs z.1 z.2) (fun z => (leftOf x.fs z.1).length) (fun _ => [(0, .pointer (some ⟨p, 0, none⟩)), (3, .pointer (some ⟨b20, 0, none⟩)), (25, .pointer (some ⟨b25, 0, none⟩))])
    (fun z => [pt b25 (miter x.r x.c z.1), pt p (.cells [.int .i64 d.size, .int .i64 d.used, .int .i64 d.born, .map (some x.r)].toArray 67 (0, 0)), pt x.r (mobj (x.fs.map FW.ent) x.c), star (x.fs.map FW.asn), pt b20 (.cells [.int .i64 d.size, .int .i64 d.used, .int .i64 d.born, .map (some b18)].toArray 67 (0, 0)), pt b18 (mobj (z.2.map FW.ent) z.2.length), star (z.2.map FW.asn), F])
    ([], []) ⟨by simp [doneOf], rfl⟩ ⟨rfl, rfl, rfl, trivial⟩ rfl fun z hz => ?_
  refine J.seq ?_
  refine J.region ?_
  refine J.c rfl rfl (C.next1 (i := 0) (j := 2) rfl rfl rfl hbn) ?_
  rintro _ _ ⟨t, rest, seen', rfl, rfl, hst⟩
  refine J.norm rfl ?_
  refine J.q rfl rfl (Q.ext rfl rfl) ?_
  refine J.nil ?_
  refine J.then_n ?_
  refine J.seq ?_
  refine J.cond rfl (fun hc27 => ?_) (fun hc27 => ?_)
  ·
    first | replace hc27 := X.tt_dec hc27 | replace hc27 := X.tt_not hc27 | replace hc27 := X.ff_dec hc27 | replace hc27 := X.ff_not hc27 | skip
    obtain ⟨e, he, rfl⟩ : ∃ e, e ∈ mleft (x.fs.map FW.ent) z.1 ∧ seen' = z.1 ++ [e.born] := by rcases hst with ⟨h, _⟩ | ⟨_, h⟩; exact absurd hc27 (by rw [h]; decide); exact h
    refine J.cskip ?_
    refine J.then_n ?_
    refine J.block ?_
    refine J.seq ?_
    refine J.region ?_
    rw [mleft_fs] at he
    simp only [List.mem_map] at he
    obtain ⟨y, hy, rfl⟩ := he
    have hym : y ∈ x.fs := (List.mem_filter.1 hy).1
    refine J.q rfl rfl (Q.entry (i := 0) (j := 2) rfl rfl rfl (List.mem_map_of_mem hym) hnd) ?_
    refine J.q rfl rfl (Q.ext rfl rfl) ?_
    refine J.q rfl rfl (Q.ext rfl rfl) ?_
    refine J.q rfl rfl (Q.asg rfl) ?_
    refine J.q rfl rfl (Q.asg rfl) ?_
    refine J.nil ?_
    refine J.then_n ?_
    obtain ⟨j, hj⟩ := List.getElem?_of_mem hym
    have hyf : y.f ∈ d.files := by rw [← hx.files]; exact List.mem_map_of_mem hym
    have hyl : y.f.bs.length ≤ d.size := Nat.le_trans (lenSum_mem hyf) hd.used
    have hsz := hd.size
    refine J.focus 3 j rfl hj ?_
    refine J.unpack 0 rfl rfl ?_
    refine J.slr1 1 rfl fun hys => ?_
    refine J.draw [9, 15, 16] Try.mixed (by kernel_rfl) fun hR => ?_
    refine RG.q 0 hR rfl rfl rfl rfl rfl rfl (Q.mv rfl) ?_
    refine RG.q 1 hR rfl rfl rfl rfl rfl rfl (Q.nil_ rfl) ?_
    refine RG.q 2 hR rfl rfl rfl rfl rfl rfl (Q.fa (n := 3) Try.runUnderlying67 rfl rfl Try.sizeOf65 rfl) ?_
    refine RG.q 3 hR rfl rfl rfl rfl rfl rfl (Q.ld Try.isAgg65 rfl (by first | exact Reads.pt 0 rfl rfl | exact Reads.pt 1 rfl rfl | exact Reads.pt 2 rfl rfl | exact Reads.pt 3 rfl rfl | exact Reads.pt 4 rfl rfl | exact Reads.pt 5 rfl rfl | exact Reads.pt 6 rfl rfl | exact Reads.pt 7 rfl rfl)) ?_
    refine RG.q 4 hR rfl rfl rfl rfl rfl rfl (Q.mv rfl) ?_
    refine RG.q 5 hR rfl rfl rfl rfl rfl rfl (Q.mv rfl) ?_
    refine RG.q 6 hR rfl rfl rfl rfl rfl rfl (Q.nil_ rfl) ?_
    refine RG.q 7 hR rfl rfl rfl rfl rfl rfl (Q.fa (n := 0) Try.runUnderlying71 rfl rfl Try.sizeOf30 rfl) ?_
    refine RG.q 8 hR rfl rfl rfl rfl rfl rfl (Q.ld Try.isAgg30 rfl (by first | exact Reads.pt 0 rfl rfl | exact Reads.pt 1 rfl rfl | exact Reads.pt 2 rfl rfl | exact Reads.pt 3 rfl rfl | exact Reads.pt 4 rfl rfl | exact Reads.pt 5 rfl rfl | exact Reads.pt 6 rfl rfl | exact Reads.pt 7 rfl rfl)) ?_
    refine RG.q 10 hR rfl rfl rfl rfl rfl rfl (Q.mv rfl) ?_
    refine RG.q 11 hR rfl rfl rfl rfl rfl rfl (Q.nil_ rfl) ?_
    refine RG.q 12 hR rfl rfl rfl rfl rfl rfl (Q.fa (n := 1) Try.runUnderlying71 rfl rfl Try.sizeOf3 rfl) ?_
    refine RG.q 13 hR rfl rfl rfl rfl rfl rfl (Q.ld Try.isAgg3 rfl (by first | exact Reads.pt 0 rfl rfl | exact Reads.pt 1 rfl rfl | exact Reads.pt 2 rfl rfl | exact Reads.pt 3 rfl rfl | exact Reads.pt 4 rfl rfl | exact Reads.pt 5 rfl rfl | exact Reads.pt 6 rfl rfl | exact Reads.pt 7 rfl rfl)) ?_
    refine RG.callk 9 hR rfl rfl rfl rfl rfl Try.call33 (clone_spec (own 5 1 y.sl (bytesV y.f.bs)) y.sp y.sc y.f.bs hys (by omega)) [1] rfl rfl ?_
    rintro _ _ ⟨p40, c40, rfl, rfl⟩
    refine ⟨_, X.pick_perm (is := [2, 1, 3, 4, 5, 6, 7, 8, 9, 10]) rfl, ?_⟩
    refine RG.q 14 hR rfl rfl rfl rfl rfl rfl (Q.bld (l := [_, _]) Try.runUnderlying71 Try.zeroValue71 Try.places71 rfl rfl) ?_
    refine RG.made 15 hR rfl rfl rfl rfl rfl (C.box (l := [_, _]) rfl rfl) ?_
    rintro b46
    refine RG.bar 16 hR rfl rfl rfl rfl rfl rfl (C.mput (i := 7) Try.runUnderlying65 Try.runUnderlying9 rfl rfl rfl rfl) ?_
    rintro _ _ ⟨rfl, rfl⟩
    refine RG.norm rfl ?_
    refine RG.fin hR rfl ?_
    refine J.norm rfl ?_
    refine J.blk_n ?_
    have hmp : mput y.ent.key (Value.pointer (some ⟨b46, 0, none⟩)) (z.2.map FW.ent) z.2.length = ((z.2 ++ [(⟨y.f, b46, p40, c40, z.2.length⟩ : FW)]).map FW.ent, z.2.length + 1) := by
      show mput y.f.name _ _ _ = _
      unfold mput; rw [hz.fresh hnm hy]; simp [FW.ent, FW.ptr]
    obtain ⟨y2, hy2⟩ : ∃ y2 : FW, y2 = ⟨y.f, b46, p40, c40, z.2.length⟩ := ⟨_, rfl⟩
    rw [hmp, ← hy2]
    refine J.pack [0, 1] rfl ?_
    refine J.conv (Y := FW.asn y) 0 rfl (fun _ h => h) ?_
    refine J.refocus 0 1 j y rfl hj ?_
    refine J.pack [8, 9] rfl ?_
    refine J.conv (Y := FW.asn y2) 0 rfl (fun _ h => by rw [hy2]; exact h) ?_
    refine J.addone (f := FW.asn) (l := z.2) 0 7 y2 rfl ?_
    refine J.pick [2, 3, 4, 1, 5, 6, 0, 7] rfl ?_
    refine J.norm rfl ?_
    refine J.again (z.1 ++ [y.born], z.2 ++ [y2]) (hz.step hx.nodup hy (by rw [hy2]) (by rw [hy2])) (done_step hx.nodup hy).2 ⟨rfl, rfl, rfl, trivial⟩ (by dsimp only; rw [show (z.2 ++ [y2]).length = z.2.length + 1 from by simp]; rfl)
  ·
    first | replace hc27 := X.tt_dec hc27 | replace hc27 := X.tt_not hc27 | replace hc27 := X.ff_dec hc27 | replace hc27 := X.ff_not hc27 | skip
    obtain ⟨hml, rfl⟩ : mleft (x.fs.map FW.ent) z.1 = [] ∧ seen' = z.1 := by rcases hst with ⟨_, h⟩ | ⟨h, _⟩; exact h; exact absurd hc27 (by rw [h]; decide)
    refine J.exit ?_
    refine J.then_x ?_
    refine J.lp_x ?_
    refine J.blk_x ?_
    refine J.then_n ?_
    refine J.seq ?_
    refine J.region ?_
    refine J.q rfl rfl (Q.mv rfl) ?_
    refine J.q rfl rfl (Q.asg rfl) ?_
    refine J.nil ?_
    refine J.then_n ?_
    refine J.cret ?_
    rw [mleft_fs] at hml
    have hdone := acc_all hml
    have hpm := hz.done
    rw [hdone, hx.files] at hpm
    have hus : d.used = (⟨d.size, d.born, z.2.map (·.f)⟩ : DM).used := (lenSum_perm hpm).symm
    refine J.shut [1, 2, 3] (DiskAt p d) rfl (fun h s => ⟨x, hx, s⟩) ?_
    refine J.shut [2, 3, 4] (DiskAt b20 ⟨d.size, d.born, z.2.map (·.f)⟩) rfl (fun h s => ⟨⟨b18, z.2.length, z.2⟩, ⟨rfl, by rw [hz.born]; exact List.nodup_range, fun g hg => by
      have : g.born ∈ z.2.map (·.born) := List.mem_map_of_mem hg
      rw [hz.born, List.mem_range] at this; exact this⟩, by unfold DW.asns; rw [← hus]; exact s⟩) ?_
    refine J.keep [0, 1, 3] rfl ?_
    refine J.ret1 (B := [DiskAt b20 ⟨d.size, d.born, z.2.map (·.f)⟩, DiskAt p d]) rfl rfl ⟨b20, ⟨d.size, d.born, z.2.map (·.f)⟩, rfl, ⟨rfl, rfl, hpm⟩, rfl⟩ rfl

end Go.Proofs.Ytkekcdcmmggbaaa
