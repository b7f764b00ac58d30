/-
  What the proof of the last of these texts leans on: part 4 of 5.
-/
import Derived.KernelRfl
import Derived.Test.YtgdmfagmpfalbaaUb3
set_option linter.unusedSectionVars false
set_option linter.unusedVariables false
set_option linter.unusedSimpArgs false
namespace Go.Proofs.Ytgdmfagmpfalbaa
open Go.Proofs.Try
open Go.X
open Go.Rf (Rec XM Ms Nd lastT)

theorem hears_none (p : Nat) (s : Nd) (src k : Nat) (ok : Bool) (hl : s.lead = none) : FSpec Try.prog 37 [.pointer (some ⟨p, 0, none⟩), .int .i64 src, .agg #[.bool ok, .int .i64 k]] [NodeAt p s] (fun u B => ∃ q d, u = .slice q (s.hears src ok k).2.length d ∧ B = [MsgsAt q d (s.hears src ok k).2, NodeAt p (s.hears src ok k).1]) := by
  have e : s.hears src ok k = (s, []) := by unfold Rf.Nd.hears; rw [hl]
  rw [e]
  refine openNode fun c lv lp lc vp vc => ?_
  rw [nodeL_lead hl]
  refine FSpec.of func37 rfl ntmps37 rfl fun W0 F => ?_
  refine J.norm rfl ?_
  refine J.noLead c lv fun hlv => ?_
  subst hlv
  refine J.seq <| J.region ?_
  refine J.c rfl rfl (C.box (l := [_, _]) rfl rfl) ?_
  rintro _ _ ⟨b5, rfl, rfl⟩
  refine J.norm rfl <| J.p rfl (Q.asg rfl) <| J.nil <| J.then_n <| J.seq <| J.region <| J.m rfl <| J.p rfl (Q.nil_ rfl) <| J.p rfl (Q.fa (n := 1) runUnderlying68 rfl rfl sizeOf66 rfl) ?_
  refine J.p rfl (Q.ldI isAgg66 rfl) ?_
  refine J.p rfl (Q.asg rfl) <| J.nil <| J.then_n <| J.seq <| J.seq ?_
  refine J.draw [] Try.mixed (by kernel_rfl) fun hR => ?_
  refine RG.p 0 hR rfl (Q.mv rfl) <| RG.p 1 hR rfl (Q.eqlp runUnderlying66 rfl rfl) <| RG.p 2 hR rfl (Q.mv rfl) ?_
  refine RG.cases 14 rfl (fun hb14 => ?_) (fun hb14 => ?_)
  ·
   replace hb14 := X.nm hb14
   refine RG.k 3 hR rfl <| RG.k 4 hR rfl <| RG.k 5 hR rfl <| RG.p 6 hR rfl (Q.pick_t rfl rfl) <| RG.p 7 hR rfl (Q.mv rfl) <| RG.k 8 hR rfl <| RG.k 9 hR rfl <| RG.k 10 hR rfl <| RG.k 11 hR rfl <| RG.k 12 hR rfl ?_
   refine RG.k 13 hR rfl <| RG.k 14 hR rfl <| RG.k 15 hR rfl <| RG.k 16 hR rfl <| RG.k 17 hR rfl <| RG.k 18 hR rfl <| RG.k 19 hR rfl <| RG.p 20 hR rfl (Q.pick_t rfl rfl) ?_
   refine RG.fin hR rfl ?_
   refine J.norm rfl <| J.then_n <| J.cond_t rfl <| J.seq <| J.region <| J.p rfl (Q.asg rfl) <| J.nil <| J.then_n <| J.cret <| J.then_r ?_
   rw [← hl]
   refine J.shutI (nodeL p c (.pointer none) lp lc vp vc s) (NodeAt p s) NodeAt.shut ?_
   refine J.give (X := MsgsAt none 0 []) MsgsAt.nil ?_
   refine J.ret1I [MsgsAt none 0 [], NodeAt p s] rfl rfl ⟨none, 0, rfl, rfl⟩
  replace hb14 := X.nm hb14
  cases hb14
theorem hears_some (p : Nat) (s : Nd) (src k : Nat) (ok : Bool) (nx mt : List Nat) (hl : s.lead = some (nx, mt)) (hf : NFit s) (hs : src < s.n) (hk : k ≤ 1048576) : FSpec Try.prog 37 [.pointer (some ⟨p, 0, none⟩), .int .i64 src, .agg #[.bool ok, .int .i64 k]] [NodeAt p s] (fun u B => ∃ q d, u = .slice q (s.hears src ok k).2.length d ∧ B = [MsgsAt q d (s.hears src ok k).2, NodeAt p (s.hears src ok k).1]) := by
  have hn := hf.n
  have hid := hf.id
  have hterm := hf.term
  have hlg := hf.len
  have hc := hf.com
  obtain ⟨hnl, hml, hmv, hnv⟩ := hf.lead nx mt hl
  obtain ⟨v0, hv0⟩ : ∃ v, nx[src]? = some v := ⟨_, List.getElem?_eq_getElem (by omega)⟩
  obtain ⟨v1, hv1⟩ : ∃ v, mt[src]? = some v := ⟨_, List.getElem?_eq_getElem (by omega)⟩
  have hg0 : nx.getD src 0 = v0 := Rf.getD_some hv0
  have hg1 : mt.getD src 0 = v1 := Rf.getD_some hv1
  have hb0 := hnv v0 (List.mem_of_getElem? hv0)
  have hb1 := hmv v1 (List.mem_of_getElem? hv1)
  refine openNode fun c lv lp lc vp vc => ?_
  rw [nodeL_lead hl]
  refine FSpec.of func37 rfl ntmps37 rfl fun W0 F => ?_
  refine J.norm rfl ?_
  refine J.openLead c lv nx mt fun l np nc mp mc hlv => ?_
  subst hlv
  refine J.norm rfl ?_
  refine J.slrI (E0 := 3) (sz := 1) (p := np) (n := nx.length) (c := nc) (xs := nx.map intV) fun hnp => ?_
  obtain ⟨bn, on, rfl, hrn⟩ := hnp.some_ (by omega)
  refine J.slrI (E0 := 3) (sz := 1) (p := mp) (n := mt.length) (c := mc) (xs := mt.map intV) fun hmp => ?_
  obtain ⟨bm, om, rfl, hrm⟩ := hmp.some_ (by omega)
  refine J.seq <| J.region ?_
  refine J.c rfl rfl (C.box (l := [_, _]) rfl rfl) ?_
  rintro _ _ ⟨b5, rfl, rfl⟩
  refine J.norm rfl <| J.p rfl (Q.asg rfl) <| J.nil <| J.then_n <| J.seq <| J.region <| J.m rfl <| J.p rfl (Q.nil_ rfl) <| J.p rfl (Q.fa (n := 1) runUnderlying68 rfl rfl sizeOf66 rfl) ?_
  refine J.p rfl (Q.ldI isAgg66 rfl) ?_
  refine J.p rfl (Q.asg rfl) <| J.nil <| J.then_n <| J.seq <| J.seq ?_
  refine J.draw [] Try.mixed (by kernel_rfl) fun hR => ?_
  refine RG.p 0 hR rfl (Q.mv rfl) <| RG.p 1 hR rfl (Q.eqlp runUnderlying66 rfl rfl) <| RG.p 2 hR rfl (Q.mv rfl) ?_
  refine RG.cases 14 rfl (fun hb14 => ?_) (fun hb14 => ?_)
  ·
   cases hb14
  replace hb14 := X.nm hb14
  refine RG.p 3 hR rfl (Q.fa (n := 1) runUnderlying95 rfl rfl sizeOf3 rfl) ?_
  refine RG.p 4 hR rfl (Q.ldI isAgg3 rfl) ?_
  refine RG.p 5 hR rfl (Q.lss rfl rfl) <| RG.p 6 hR rfl (Q.pick_f rfl rfl) <| RG.p 7 hR rfl (Q.mv rfl) ?_
  refine RG.cases 19 rfl (fun hb19 => ?_) (fun hb19 => ?_)
  ·
   replace hb19 := X.nm hb19; exfalso; omega
  replace hb19 := X.nm hb19
  refine RG.p 8 hR rfl (Q.fa (n := 1) runUnderlying95 rfl rfl sizeOf3 rfl) ?_
  refine RG.p 9 hR rfl (Q.ldI isAgg3 rfl) ?_
  refine RG.p 10 hR rfl (Q.mv rfl) <| RG.p 11 hR rfl (Q.nil_ rfl) <| RG.p 12 hR rfl (Q.fa (n := 0) runUnderlying68 rfl rfl sizeOf65 rfl) ?_
  refine RG.p 13 hR rfl (Q.ldI isAgg65 rfl) ?_
  refine RG.p 14 hR rfl (Q.nil_ rfl) <| RG.p 15 hR rfl (Q.fa (n := 2) runUnderlying70 rfl rfl sizeOf64 rfl) <| RG.p 16 hR rfl (Q.fa (n := 2) runUnderlying64 rfl rfl sizeOf62 rfl) ?_
  refine RG.p 17 hR rfl (Q.ldI isAgg62 rfl) ?_
  refine RG.p 18 hR rfl (Q.lenSl runUnderlying62 rfl) <| RG.p 19 hR rfl (Q.gtr rfl rfl) <| RG.p 20 hR rfl (Q.pick_f rfl rfl) ?_
  refine RG.fin hR rfl ?_
  refine J.norm rfl <| J.then_n ?_
  refine J.kases 32 rfl (fun hc32 => ?_) (fun hc32 => ?_)
  ·
   refine J.cond_t rfl <| J.seq <| J.region <| J.p rfl (Q.asg rfl) <| J.nil <| J.then_n <| J.cret <| J.then_r ?_
   have e : s.hears src ok k = (s, []) := by unfold Rf.Nd.hears; rw [hl]; simp only; rw [if_pos (by omega)]
   rw [e]
   refine J.shutI (leadL l c (some ⟨bn, on, none⟩) nc (some ⟨bm, om, none⟩) mc nx mt) (LeadAt c (.pointer (some ⟨l, 0, none⟩)) (some (nx, mt))) LeadAt.shut ?_
   rw [← hl]
   refine J.shutI (nodeL p c (.pointer (some ⟨l, 0, none⟩)) lp lc vp vc s) (NodeAt p s) NodeAt.shut ?_
   refine J.give (X := MsgsAt none 0 []) MsgsAt.nil ?_
   refine J.ret1I [MsgsAt none 0 [], NodeAt p s] rfl rfl ⟨none, 0, rfl, rfl⟩
  refine J.cond_f rfl <| J.cskip <| J.then_n <| J.seq <| J.seq <| J.region <| J.p rfl (Q.fa (n := 0) runUnderlying95 rfl rfl sizeOf4 rfl) ?_
  refine J.p rfl (Q.ldI isAgg4 rfl) ?_
  refine J.nil <| J.then_n ?_
  refine J.kases 34 rfl (fun hc34 => ?_) (fun hc34 => ?_)
  ·
   refine J.cond_t rfl <| J.seq ?_
   have hok : ok = true := by cases ok <;> simp_all
   obtain ⟨mm, hmm⟩ : ∃ mm, mm = max v1 k := ⟨_, rfl⟩
   obtain ⟨mt1, hmt1⟩ : ∃ m, m = mt.set src mm := ⟨_, rfl⟩
   have hm1l : mt1.length = mt.length := by rw [hmt1, List.length_set]
   refine J.draw [16] Try.mixed (by kernel_rfl) fun hR => ?_
   refine RG.p 0 hR rfl (Q.mv rfl) <| RG.p 1 hR rfl (Q.nil_ rfl) <| RG.p 2 hR rfl (Q.fa (n := 2) runUnderlying103 rfl rfl sizeOf22 rfl) ?_
   refine RG.p 3 hR rfl (Q.ldI isAgg22 rfl) ?_
   refine RG.p 4 hR rfl (Q.mv rfl) <| RG.p 5 hR rfl (Q.mv rfl) <| RG.p 6 hR rfl (Q.nil_ rfl) <| RG.p 7 hR rfl (Q.fa (n := 2) runUnderlying103 rfl rfl sizeOf22 rfl) ?_
   refine RG.p 8 hR rfl (Q.ldI isAgg22 rfl) ?_
   refine RG.p 9 hR rfl (Q.mv rfl) <| RG.p 10 hR rfl (Q.ia runUnderlying22 sizeOf3 rfl rfl (by omega) (by omega)) <| RG.p 11 hR rfl (Q.ld isAgg3 rfl (((hrm src (.int .i64 (v1 : Nat)) (by simp [hv1, intV])).inI).cast (by simp))) <| RG.p 12 hR rfl (Q.fa (n := 1) runUnderlying95 rfl rfl sizeOf3 rfl) ?_
   refine RG.p 13 hR rfl (Q.ldI isAgg3 rfl) ?_
   refine RG.p 14 hR rfl (Q.maxI rfl) ?_
   refine RG.slot 49 (.int .i64 (mm : Nat)) rfl (by congr 1; rw [hmm]; split <;> omega) ?_
   refine RG.p 15 hR rfl (Q.ia runUnderlying22 sizeOf3 rfl rfl (by omega) (by omega)) ?_
   refine RG.bar 16 hR rfl rfl rfl rfl rfl rfl (C.st1O src sizeOf3 rfl rfl rfl (by omega) (by rw [List.length_map]; omega)) ?_
   rintro _ _ ⟨rfl, rfl⟩
   refine RG.norm rfl ?_
   refine RG.fin hR rfl ?_
   refine J.norm rfl <| J.then_n <| J.seq ?_
   have em : (mt.map intV).set src (.int .i64 (mm : Nat)) = mt1.map intV := by rw [hmt1, List.map_set]; rfl
   rw [em]
   have hv2 : mt1[src]? = some mm := by rw [hmt1, List.getElem?_set_self (by omega)]
   obtain ⟨nn, hnn⟩ : ∃ nn, nn = max v0 (mm + 1) := ⟨_, rfl⟩
   obtain ⟨nx1, hnx1⟩ : ∃ m, m = nx.set src nn := ⟨_, rfl⟩
   have hn1l : nx1.length = nx.length := by rw [hnx1, List.length_set]
   refine J.slrI (E0 := 3) (sz := 1) (p := some ⟨bm, om, none⟩) (n := mt.length) (c := mc) (xs := mt1.map intV) fun hmp2 => ?_
   obtain ⟨bm2, om2, hq2, hrm2⟩ := hmp2.some_ (by omega)
   simp only [Option.some.injEq, Addr.mk.injEq, and_true] at hq2
   obtain ⟨rfl, rfl⟩ := hq2
   refine J.draw [22] Try.mixed (by kernel_rfl) fun hR => ?_
   refine RG.p 0 hR rfl (Q.mv rfl) <| RG.p 1 hR rfl (Q.nil_ rfl) <| RG.p 2 hR rfl (Q.fa (n := 1) runUnderlying103 rfl rfl sizeOf22 rfl) ?_
   refine RG.p 3 hR rfl (Q.ldI isAgg22 rfl) ?_
   refine RG.p 4 hR rfl (Q.mv rfl) <| RG.p 5 hR rfl (Q.mv rfl) <| RG.p 6 hR rfl (Q.nil_ rfl) <| RG.p 7 hR rfl (Q.fa (n := 1) runUnderlying103 rfl rfl sizeOf22 rfl) ?_
   refine RG.p 8 hR rfl (Q.ldI isAgg22 rfl) ?_
   refine RG.p 9 hR rfl (Q.mv rfl) <| RG.p 10 hR rfl (Q.ia runUnderlying22 sizeOf3 rfl rfl (by omega) (by omega)) <| RG.p 11 hR rfl (Q.ld isAgg3 rfl (((hrn src (.int .i64 (v0 : Nat)) (by simp [hv0, intV])).inI).cast (by simp))) <| RG.p 12 hR rfl (Q.mv rfl) <| RG.p 13 hR rfl (Q.nil_ rfl) <| RG.p 14 hR rfl (Q.fa (n := 2) runUnderlying103 rfl rfl sizeOf22 rfl) ?_
   refine RG.p 15 hR rfl (Q.ldI isAgg22 rfl) ?_
   refine RG.p 16 hR rfl (Q.mv rfl) <| RG.p 17 hR rfl (Q.ia runUnderlying22 sizeOf3 rfl rfl (by omega) (by omega)) <| RG.p 18 hR rfl (Q.ld isAgg3 rfl (((hrm2 src (.int .i64 (mm : Nat)) (by simp [hv2, intV])).inI).cast (by simp))) <| RG.p 19 hR rfl (Q.add64 rfl rfl (by omega)) <| RG.p 20 hR rfl (Q.maxI rfl) ?_
   refine RG.slot 71 (.int .i64 (nn : Nat)) rfl (by congr 1; rw [hnn]; split <;> omega) ?_
   refine RG.p 21 hR rfl (Q.ia runUnderlying22 sizeOf3 rfl rfl (by omega) (by omega)) ?_
   refine RG.bar 22 hR rfl rfl rfl rfl rfl rfl (C.st1O src sizeOf3 rfl rfl rfl (by omega) (by rw [List.length_map]; omega)) ?_
   rintro _ _ ⟨rfl, rfl⟩
   refine RG.norm rfl ?_
   refine RG.fin hR rfl ?_
   refine J.norm rfl <| J.then_n <| J.seq <| J.region <| J.m rfl ?_
   have en : (nx.map intV).set src (.int .i64 (nn : Nat)) = nx1.map intV := by rw [hnx1, List.map_set]; rfl
   rw [en, ← hm1l, ← hn1l]
   refine J.convPt l (.cells [Value.pointer (some ⟨c, 0, none⟩), .slice (some ⟨bn, on, none⟩) nx1.length nc, .slice (some ⟨bm, om, none⟩) mt1.length mc].toArray 103 (0, 0)) rfl ?_
   refine J.callI call43 (count_spec l c (some ⟨bn, on, none⟩) nc (some ⟨bm, om, none⟩) mc nx1 mt1 s lp lc vp vc (by omega) hn (by omega) (fun m hm0 => by rw [hmt1] at hm0; exact (List.mem_or_eq_of_mem_set hm0).elim (fun x => hmv m x) (fun x => by omega)) (by omega)) rfl rfl rfl ?_
   rintro _ _ ⟨rfl, rfl⟩
   refine J.norm rfl <| J.nil <| J.then_n <| J.seq <| J.region <| J.p rfl (Q.asg rfl) <| J.nil <| J.then_n <| J.cret <| J.then_r ?_
   have e : s.hears src ok k = (s.count nx1 mt1, []) := by unfold Rf.Nd.hears; rw [hl]; simp only; rw [if_neg (by omega), if_pos hok, hg0, hg1, ← hmm, ← hnn, ← hmt1, ← hnx1]
   rw [e]
   refine J.shutI (leadL l c (some ⟨bn, on, none⟩) nc (some ⟨bm, om, none⟩) mc nx1 mt1) (LeadAt c (.pointer (some ⟨l, 0, none⟩)) (some (nx1, mt1))) LeadAt.shut ?_
   refine J.shutI (nodeL p c (.pointer (some ⟨l, 0, none⟩)) lp lc vp vc { s with lead := some (nx1, mt1), commit := s.cnt mt1 }) (NodeAt p { s with lead := some (nx1, mt1), commit := s.cnt mt1 }) NodeAt.shut ?_
   refine J.give (X := MsgsAt none 0 []) MsgsAt.nil ?_
   refine J.ret1I [MsgsAt none 0 [], NodeAt p { s with lead := some (nx1, mt1), commit := s.cnt mt1 }] rfl rfl ⟨none, 0, rfl, rfl⟩
  refine J.cond_f rfl <| J.cskip <| J.then_n <| J.seq <| J.seq ?_
  refine J.draw [] Try.mixed (by kernel_rfl) fun hR => ?_
  refine RG.p 0 hR rfl (Q.mv rfl) <| RG.p 1 hR rfl (Q.nil_ rfl) <| RG.p 2 hR rfl (Q.fa (n := 1) runUnderlying103 rfl rfl sizeOf22 rfl) ?_
  refine RG.p 3 hR rfl (Q.ldI isAgg22 rfl) ?_
  refine RG.p 4 hR rfl (Q.mv rfl) <| RG.p 5 hR rfl (Q.ia runUnderlying22 sizeOf3 rfl rfl (by omega) (by omega)) <| RG.p 6 hR rfl (Q.ld isAgg3 rfl (((hrn src (.int .i64 (v0 : Nat)) (by simp [hv0, intV])).inI).cast (by simp))) <| RG.p 7 hR rfl (Q.fa (n := 1) runUnderlying95 rfl rfl sizeOf3 rfl) ?_
  refine RG.p 8 hR rfl (Q.ldI isAgg3 rfl) ?_
  refine RG.p 9 hR rfl (Q.add64 rfl rfl (by omega)) <| RG.p 10 hR rfl (Q.leq rfl rfl) <| RG.p 11 hR rfl (Q.mv rfl) ?_
  refine RG.cases 86 rfl (fun hb86 => ?_) (fun hb86 => ?_)
  ·
   replace hb86 := X.nm hb86
   refine RG.k 12 hR rfl <| RG.k 13 hR rfl <| RG.k 14 hR rfl <| RG.k 15 hR rfl <| RG.k 16 hR rfl <| RG.k 17 hR rfl <| RG.k 18 hR rfl <| RG.k 19 hR rfl <| RG.k 20 hR rfl <| RG.k 21 hR rfl ?_
   refine RG.k 22 hR rfl <| RG.k 23 hR rfl <| RG.k 24 hR rfl <| RG.k 25 hR rfl <| RG.k 26 hR rfl <| RG.k 27 hR rfl <| RG.p 28 hR rfl (Q.pick_t rfl rfl) ?_
   refine RG.fin hR rfl ?_
   refine J.norm rfl <| J.then_n <| J.cond_t rfl <| J.seq <| J.region <| J.p rfl (Q.asg rfl) <| J.nil <| J.then_n <| J.cret <| J.then_r ?_
   have hok : ok = false := by cases ok <;> simp_all
   have e : s.hears src ok k = (s, []) := by unfold Rf.Nd.hears; rw [hl]; simp only; rw [if_neg (by omega), hok, if_neg (by simp), hg0, hg1, if_pos (by omega)]
   rw [e]
   refine J.shutI (leadL l c (some ⟨bn, on, none⟩) nc (some ⟨bm, om, none⟩) mc nx mt) (LeadAt c (.pointer (some ⟨l, 0, none⟩)) (some (nx, mt))) LeadAt.shut ?_
   rw [← hl]
   refine J.shutI (nodeL p c (.pointer (some ⟨l, 0, none⟩)) lp lc vp vc s) (NodeAt p s) NodeAt.shut ?_
   refine J.give (X := MsgsAt none 0 []) MsgsAt.nil ?_
   refine J.ret1I [MsgsAt none 0 [], NodeAt p s] rfl rfl ⟨none, 0, rfl, rfl⟩
  replace hb86 := X.nm hb86
  refine RG.p 12 hR rfl (Q.mv rfl) <| RG.p 13 hR rfl (Q.nil_ rfl) <| RG.p 14 hR rfl (Q.fa (n := 1) runUnderlying103 rfl rfl sizeOf22 rfl) ?_
  refine RG.p 15 hR rfl (Q.ldI isAgg22 rfl) ?_
  refine RG.p 16 hR rfl (Q.mv rfl) <| RG.p 17 hR rfl (Q.ia runUnderlying22 sizeOf3 rfl rfl (by omega) (by omega)) <| RG.p 18 hR rfl (Q.ld isAgg3 rfl (((hrn src (.int .i64 (v0 : Nat)) (by simp [hv0, intV])).inI).cast (by simp))) <| RG.p 19 hR rfl (Q.mv rfl) <| RG.p 20 hR rfl (Q.nil_ rfl) <| RG.p 21 hR rfl (Q.fa (n := 2) runUnderlying103 rfl rfl sizeOf22 rfl) ?_
  refine RG.p 22 hR rfl (Q.ldI isAgg22 rfl) ?_
  refine RG.p 23 hR rfl (Q.mv rfl) <| RG.p 24 hR rfl (Q.ia runUnderlying22 sizeOf3 rfl rfl (by omega) (by omega)) <| RG.p 25 hR rfl (Q.ld isAgg3 rfl (((hrm src (.int .i64 (v1 : Nat)) (by simp [hv1, intV])).inI).cast (by simp))) <| RG.p 26 hR rfl (Q.add64 rfl rfl (by omega)) <| RG.p 27 hR rfl (Q.leq rfl rfl) ?_
  refine RG.p 28 hR rfl (Q.pick_f rfl rfl) ?_
  refine RG.fin hR rfl ?_
  refine J.norm rfl <| J.then_n ?_
  refine J.kases 103 rfl (fun hc103 => ?_) (fun hc103 => ?_)
  ·
   refine J.cond_t rfl <| J.seq <| J.region <| J.p rfl (Q.asg rfl) <| J.nil <| J.then_n <| J.cret <| J.then_r ?_
   have hok : ok = false := by cases ok <;> simp_all
   have e : s.hears src ok k = (s, []) := by unfold Rf.Nd.hears; rw [hl]; simp only; rw [if_neg (by omega), hok, if_neg (by simp), hg0, hg1, if_pos (by omega)]
   rw [e]
   refine J.shutI (leadL l c (some ⟨bn, on, none⟩) nc (some ⟨bm, om, none⟩) mc nx mt) (LeadAt c (.pointer (some ⟨l, 0, none⟩)) (some (nx, mt))) LeadAt.shut ?_
   rw [← hl]
   refine J.shutI (nodeL p c (.pointer (some ⟨l, 0, none⟩)) lp lc vp vc s) (NodeAt p s) NodeAt.shut ?_
   refine J.give (X := MsgsAt none 0 []) MsgsAt.nil ?_
   refine J.ret1I [MsgsAt none 0 [], NodeAt p s] rfl rfl ⟨none, 0, rfl, rfl⟩
  refine J.cond_f rfl <| J.cskip <| J.then_n <| J.seq ?_
  have hok : ok = false := by cases ok <;> simp_all
  obtain ⟨nn, hnn⟩ : ∃ nn, nn = max v1 k + 1 := ⟨_, rfl⟩
  obtain ⟨nx1, hnx1⟩ : ∃ m, m = nx.set src nn := ⟨_, rfl⟩
  have hn1l : nx1.length = nx.length := by rw [hnx1, List.length_set]
  refine J.draw [17] Try.mixed (by kernel_rfl) fun hR => ?_
  refine RG.p 0 hR rfl (Q.mv rfl) <| RG.p 1 hR rfl (Q.nil_ rfl) <| RG.p 2 hR rfl (Q.fa (n := 1) runUnderlying103 rfl rfl sizeOf22 rfl) ?_
  refine RG.p 3 hR rfl (Q.ldI isAgg22 rfl) ?_
  refine RG.p 4 hR rfl (Q.mv rfl) <| RG.p 5 hR rfl (Q.mv rfl) <| RG.p 6 hR rfl (Q.nil_ rfl) <| RG.p 7 hR rfl (Q.fa (n := 2) runUnderlying103 rfl rfl sizeOf22 rfl) ?_
  refine RG.p 8 hR rfl (Q.ldI isAgg22 rfl) ?_
  refine RG.p 9 hR rfl (Q.mv rfl) <| RG.p 10 hR rfl (Q.ia runUnderlying22 sizeOf3 rfl rfl (by omega) (by omega)) <| RG.p 11 hR rfl (Q.ld isAgg3 rfl (((hrm src (.int .i64 (v1 : Nat)) (by simp [hv1, intV])).inI).cast (by simp))) <| RG.p 12 hR rfl (Q.fa (n := 1) runUnderlying95 rfl rfl sizeOf3 rfl) ?_
  refine RG.p 13 hR rfl (Q.ldI isAgg3 rfl) ?_
  refine RG.p 14 hR rfl (Q.maxI rfl) ?_
  refine RG.slot 118 (.int .i64 ((max v1 k : Nat) : Int)) rfl (by congr 1; split <;> omega) ?_
  refine RG.p 15 hR rfl (Q.add64 rfl rfl (by omega)) ?_
  refine RG.slot 119 (.int .i64 (nn : Nat)) rfl (by rw [hnn, Int.natCast_add]; rfl) ?_
  refine RG.p 16 hR rfl (Q.ia runUnderlying22 sizeOf3 rfl rfl (by omega) (by omega)) ?_
  refine RG.bar 17 hR rfl rfl rfl rfl rfl rfl (C.st1O src sizeOf3 rfl rfl rfl (by omega) (by rw [List.length_map]; omega)) ?_
  rintro _ _ ⟨rfl, rfl⟩
  refine RG.norm rfl ?_
  refine RG.fin hR rfl ?_
  refine J.norm rfl <| J.then_n <| J.seq <| J.region <| J.m rfl <| J.m rfl ?_
  have en : (nx.map intV).set src (.int .i64 (nn : Nat)) = nx1.map intV := by rw [hnx1, List.map_set]; rfl
  rw [en, ← hn1l]
  refine J.convPt l (.cells [Value.pointer (some ⟨c, 0, none⟩), .slice (some ⟨bn, on, none⟩) nx1.length nc, .slice (some ⟨bm, om, none⟩) mt.length mc].toArray 103 (0, 0)) rfl ?_
  refine J.callI call30 (feed_spec l c (some ⟨bn, on, none⟩) nc (some ⟨bm, om, none⟩) mc nx1 mt s lp lc vp vc src (by omega) (by omega) (by omega) (fun m hm0 => by rw [hnx1] at hm0; exact (List.mem_or_eq_of_mem_set hm0).elim (fun x => hnv m x) (fun x => by omega)) (by omega) (by omega) hc) rfl rfl rfl ?_
  rintro _ _ ⟨q93, d93, rfl, rfl⟩
  refine J.norm rfl ?_
  refine J.c rfl rfl (C.bslG (l := [_, _, _]) runUnderlying28 sizeOf53 zeroValue53 (by decide) rfl rfl rfl rfl rfl) ?_
  rintro _ _ ⟨b124, rfl, rfl⟩
  refine J.norm rfl <| J.p rfl (Q.asg rfl) <| J.nil <| J.then_n <| J.cret ?_
  have e : s.hears src ok k = ({ s with lead := some (nx1, mt) }, [s.feed nx1 src]) := by unfold Rf.Nd.hears; rw [hl]; simp only; rw [if_neg (by omega), hok, if_neg (by simp), hg0, hg1, if_neg (by omega), ← hnn, ← hnx1]
  rw [e]
  refine J.shutI (leadL l c (some ⟨bn, on, none⟩) nc (some ⟨bm, om, none⟩) mc nx1 mt) (LeadAt c (.pointer (some ⟨l, 0, none⟩)) (some (nx1, mt))) LeadAt.shut ?_
  refine J.shutI (nodeL p c (.pointer (some ⟨l, 0, none⟩)) lp lc vp vc { s with lead := some (nx1, mt) }) (NodeAt p { s with lead := some (nx1, mt) }) NodeAt.shut ?_
  refine J.convPt b124 (.cells (MsgW.cells ⟨s.feed nx1 src, q93, d93⟩).toArray 53 (0, 0)) rfl ?_
  refine J.shutI [pt b124 (.cells (MsgW.cells ⟨s.feed nx1 src, q93, d93⟩).toArray 53 (0, 0)), own 5 1 (.slice q93 (msgB (s.feed nx1 src)).length d93) (bytesV (msgB (s.feed nx1 src)))] (MsgsAt (some ⟨b124, 0, none⟩) 1 [s.feed nx1 src]) MsgsAt.one ?_
  refine J.ret1I [MsgsAt (some ⟨b124, 0, none⟩) 1 [s.feed nx1 src], NodeAt p { s with lead := some (nx1, mt) }] rfl rfl ⟨some ⟨b124, 0, none⟩, 1, rfl, rfl⟩
theorem hears_spec (p : Nat) (s : Nd) (src k : Nat) (ok : Bool) (hf : NFit s) (hs : src < s.n) (hk : k ≤ 1048576) : FSpec Try.prog 37 [.pointer (some ⟨p, 0, none⟩), .int .i64 src, .agg #[.bool ok, .int .i64 k]] [NodeAt p s] (fun u B => ∃ q d, u = .slice q (s.hears src ok k).2.length d ∧ B = [MsgsAt q d (s.hears src ok k).2, NodeAt p (s.hears src ok k).1]) := by
  cases hl : s.lead with
  | none => exact hears_none p s src k ok hl
  | some x => exact hears_some p s src k ok x.1 x.2 hl hf hs hk

theorem recsB_len : ∀ (l : List Rec), (∀ w, w ∈ l → w.bs.length ≤ 65536 ∧ w.term ≤ 1048576) → (l.flatMap recB).length ≤ 65556 * l.length
  | [], _ => by simp
  | w :: l, h => by
    have h1 := recsB_len l fun x hx => h x (List.mem_cons_of_mem _ hx)
    have h2 := h w List.mem_cons_self
    have h3 := recB_len w h2.1 h2.2
    rw [List.flatMap_cons, List.length_append, List.length_cons]; omega
theorem msgB_len {m : Ms} (h : MFit m) : (msgB m).length ≤ 1099511627776 := by
  obtain ⟨src, dst, term, x⟩ := m
  have h1 := h.src
  have h2 := h.dst
  have h3 := h.term
  have hx := h.x
  dsimp only at h1 h2 h3 hx
  have hh := head_len h1 h2 h3
  have n1 : ∀ k : Nat, k ≤ 1048576 → (numB k).length ≤ 10 := fun k hk => numB_len k (by omega)
  unfold msgB
  rw [List.length_append]
  have key : (xB x).length ≤ 100000000000 := by
    cases x with
    | ask t n => have := n1 1 (by omega); have := n1 t hx.1; have := n1 n hx.2; simp [xB]; omega
    | vote g => have := n1 2 (by omega); have := n1 (flagN g) (by have := flagN_le g; omega); simp [xB]; omega
    | take a lt c rs =>
      obtain ⟨a1, a2, a3, a4, a5⟩ := hx
      have := n1 3 (by omega); have := n1 a a1; have := n1 lt a2; have := n1 c a3; have := n1 rs.length a4.len
      have hr := recsB_len rs a4.r
      have hl := a4.len
      have e : (recsB rs).length = (numB rs.length).length + (rs.flatMap recB).length := by rw [recsB, List.length_append]
      simp [xB]; omega
    | took ok n => have := n1 4 (by omega); have := n1 (flagN ok) (by have := flagN_le ok; omega); have h0 : n ≤ 1048576 := hx; have := n1 n h0; simp [xB]; omega
    | older => have := n1 5 (by omega); simp [xB]; omega
  show ([src, dst, term].flatMap numB).length + (xB x).length ≤ _
  omega
def XFit2 : XM → Prop
  | .take a _ _ rs => a + rs.length ≤ 1047900
  | _ => True
theorem NFit.follow {s : Nd} (h : NFit s) {t : Nat} (ht : t ≤ 1048500) : NFit (s.follow t) where
  n := h.n
  id := h.id
  term := by show (if s.term < t then t else s.term) ≤ _; have := h.term; split <;> omega
  len := h.len
  last := h.last
  com := h.com
  vote := by show (if s.term < t then 0 else s.vote) ≤ 9; have := h.vote; split <;> omega
  votes := fun e => by have : (1 : Nat) = 2 := e; omega
  lead := fun nx mt e => by cases e
theorem gives_id {s : Nd} {to lt k : Nat} : (s.gives to lt k).id = s.id ∧ (s.gives to lt k).term = s.term ∧ (s.gives to lt k).log = s.log ∧ (s.gives to lt k).votes = s.votes ∧ (s.gives to lt k).lead = s.lead := by
  unfold Rf.Nd.gives; split <;> exact ⟨rfl, rfl, rfl, rfl, rfl⟩

theorem receive_spec (p : Nat) (s : Nd) (M : Assn) (mp : Option Addr) (mc : Nat) (src dst term : Nat) (x : XM) (hf : NFit s) (hm : MFit ⟨src, dst, term, x⟩) (hterm : term ≤ 1048500) (hd : dst = s.id) (hs : src < s.n) (hsd : src ≠ s.id) (hx : XFit2 x)
    (hr : SlR [M] 1 (.slice mp (msgB ⟨src, dst, term, x⟩).length mc) (bytesV (msgB ⟨src, dst, term, x⟩))) (hmc : (msgB ⟨src, dst, term, x⟩).length ≤ mc) :
    FSpec Try.prog 21 [.pointer (some ⟨p, 0, none⟩), .agg #[.int .i64 src, .int .i64 dst, .slice mp (msgB ⟨src, dst, term, x⟩).length mc]] [NodeAt p s, M]
    (fun u B => ∃ q d, u = .slice q (s.receive ⟨src, dst, term, x⟩).2.length d ∧ B = [MsgsAt q d (s.receive ⟨src, dst, term, x⟩).2, NodeAt p (s.receive ⟨src, dst, term, x⟩).1, M]) := by
  have hn := hf.n
  have hid := hf.id
  have hterm0 := hf.term
  refine FSpec.of func21 rfl ntmps21 rfl fun W0 F => ?_
  refine J.seq <| J.region ?_
  refine J.c rfl rfl (C.box (l := [_, _, _]) rfl rfl) ?_
  rintro _ _ ⟨b3, rfl, rfl⟩
  refine J.norm rfl <| J.p rfl (Q.asg rfl) <| J.nil <| J.then_n <| J.seq <| J.region <| J.p rfl (Q.fa (n := 2) runUnderlying53 rfl rfl sizeOf41 rfl) ?_
  refine J.p rfl (Q.ldI isAgg41 rfl) ?_
  refine J.callI call33 (read_spec M mp (msgB ⟨src, dst, term, x⟩).length mc src dst term x hr (msgB_len hm) hmc hm) rfl rfl rfl ?_
  rintro _ _ ⟨xv, E, hX, rfl, rfl⟩
  refine J.norm rfl <| J.m rfl <| J.p rfl (Q.ext rfl rfl) <| J.p rfl (Q.ext rfl rfl) <| J.p rfl (Q.ext rfl rfl) <| J.p rfl (Q.ext rfl rfl) <| J.p rfl (Q.ext rfl rfl) <| J.p rfl (Q.asg rfl) <| J.p rfl (Q.asg rfl) <| J.p rfl (Q.asg rfl) <| J.p rfl (Q.asg rfl) <| J.p rfl (Q.asg rfl) <| J.nil <| J.then_n <| J.seq <| J.seq ?_
  refine J.openNode p s fun c lv lp lc vp vc => ?_
  refine J.norm rfl <| J.region <| J.m rfl <| J.p rfl (Q.not rfl) <| J.m rfl ?_
  refine J.cases 25 rfl (fun hb25 => ?_) (fun hb25 => ?_)
  ·
   cases hb25
  replace hb25 := X.nm hb25
  refine J.m rfl <| J.p rfl (Q.fa (n := 0) runUnderlying53 rfl rfl sizeOf3 rfl) ?_
  refine J.p rfl (Q.ldI isAgg3 rfl) ?_
  refine J.p rfl (Q.neq rfl rfl) <| J.p rfl (Q.pick_f rfl rfl) <| J.m rfl ?_
  refine J.cases 31 rfl (fun hb31 => ?_) (fun hb31 => ?_)
  ·
   replace hb31 := X.nm hb31; exfalso; omega
  replace hb31 := X.nm hb31
  refine J.m rfl <| J.p rfl (Q.fa (n := 1) runUnderlying53 rfl rfl sizeOf3 rfl) ?_
  refine J.p rfl (Q.ldI isAgg3 rfl) ?_
  refine J.p rfl (Q.neq rfl rfl) <| J.p rfl (Q.pick_f rfl rfl) <| J.m rfl ?_
  refine J.cases 37 rfl (fun hb37 => ?_) (fun hb37 => ?_)
  ·
   replace hb37 := X.nm hb37; exfalso; omega
  replace hb37 := X.nm hb37
  refine J.m rfl <| J.m rfl <| J.p rfl (Q.nil_ rfl) <| J.p rfl (Q.fa (n := 0) runUnderlying68 rfl rfl sizeOf65 rfl) ?_
  refine J.p rfl (Q.ldI isAgg65 rfl) ?_
  refine J.p rfl (Q.nil_ rfl) <| J.p rfl (Q.fa (n := 0) runUnderlying70 rfl rfl sizeOf3 rfl) ?_
  refine J.p rfl (Q.ldI isAgg3 rfl) ?_
  refine J.p rfl (Q.neq rfl rfl) <| J.p rfl (Q.pick_f rfl rfl) <| J.m rfl ?_
  refine J.cases 48 rfl (fun hb48 => ?_) (fun hb48 => ?_)
  ·
   replace hb48 := X.nm hb48; exfalso; omega
  replace hb48 := X.nm hb48
  refine J.m rfl <| J.m rfl <| J.p rfl (Q.nil_ rfl) <| J.p rfl (Q.fa (n := 0) runUnderlying68 rfl rfl sizeOf65 rfl) ?_
  refine J.p rfl (Q.ldI isAgg65 rfl) ?_
  refine J.p rfl (Q.nil_ rfl) <| J.p rfl (Q.fa (n := 0) runUnderlying70 rfl rfl sizeOf3 rfl) ?_
  refine J.p rfl (Q.ldI isAgg3 rfl) ?_
  refine J.p rfl (Q.eql rfl rfl) <| J.p rfl (Q.pick_f rfl rfl) <| J.m rfl ?_
  refine J.cases 59 rfl (fun hb59 => ?_) (fun hb59 => ?_)
  ·
   replace hb59 := X.nm hb59; exfalso; omega
  replace hb59 := X.nm hb59
  refine J.m rfl <| J.p rfl (Q.lss rfl rfl) <| J.p rfl (Q.pick_f rfl rfl) <| J.m rfl ?_
  refine J.cases 63 rfl (fun hb63 => ?_) (fun hb63 => ?_)
  ·
   replace hb63 := X.nm hb63; exfalso; omega
  replace hb63 := X.nm hb63
  refine J.m rfl <| J.m rfl <| J.p rfl (Q.nil_ rfl) <| J.p rfl (Q.fa (n := 0) runUnderlying68 rfl rfl sizeOf65 rfl) ?_
  refine J.p rfl (Q.ldI isAgg65 rfl) ?_
  refine J.p rfl (Q.nil_ rfl) <| J.p rfl (Q.fa (n := 1) runUnderlying70 rfl rfl sizeOf3 rfl) ?_
  refine J.p rfl (Q.ldI isAgg3 rfl) ?_
  refine J.p rfl (Q.geq rfl rfl) <| J.p rfl (Q.pick_f rfl rfl) <| J.nil <| J.then_n ?_
  refine J.cases 73 rfl (fun hc73 => ?_) (fun hc73 => ?_)
  ·
   replace hc73 := X.nm hc73; exfalso; omega
  replace hc73 := X.nm hc73
  refine J.cond_f rfl <| J.cskip <| J.then_n <| J.seq <| J.seq <| J.region <| J.m rfl <| J.m rfl <| J.p rfl (Q.nil_ rfl) <| J.p rfl (Q.fa (n := 0) runUnderlying68 rfl rfl sizeOf65 rfl) ?_
  refine J.p rfl (Q.ldI isAgg65 rfl) ?_
  refine J.p rfl (Q.nil_ rfl) <| J.p rfl (Q.fa (n := 2) runUnderlying70 rfl rfl sizeOf64 rfl) <| J.p rfl (Q.fa (n := 0) runUnderlying64 rfl rfl sizeOf56 rfl) ?_
  refine J.p rfl (Q.ldI isAgg56 rfl) ?_
  refine J.p rfl (Q.lss rfl rfl) <| J.nil <| J.then_n ?_
  refine J.kases 83 rfl (fun hc83 => ?_) (fun hc83 => ?_)
  ·
   refine J.cond_t rfl <| J.seq ?_
   refine J.give (X := star []) trivial ?_
   refine J.region <| J.m rfl <| J.p rfl (Q.nil_ rfl) <| J.p rfl (Q.fa (n := 0) runUnderlying68 rfl rfl sizeOf65 rfl) ?_
   refine J.p rfl (Q.ldI isAgg65 rfl) ?_
   refine J.m rfl <| J.p rfl (Q.bld (l := []) runUnderlying86 zeroValue86 places86 rfl (by kernel_rfl)) <| J.p rfl (Q.mkif runUnderlying86 (by intro m h; cases h) rfl) ?_
   refine J.callI call29 (send_spec c s lp lc vp vc (star []) XM.vOlder .older write_older.one src (by omega) (by omega) (by omega)) rfl rfl rfl ?_
   rintro _ _ ⟨q93, d93, rfl, rfl⟩
   refine J.norm rfl ?_
   refine J.c rfl rfl (C.bslG (l := [_, _, _]) runUnderlying28 sizeOf53 zeroValue53 (by decide) rfl rfl rfl rfl rfl) ?_
   rintro _ _ ⟨b92, rfl, rfl⟩
   refine J.norm rfl <| J.p rfl (Q.asg rfl) <| J.nil <| J.then_n <| J.cret <| J.then_r ?_
   have e : s.receive ⟨src, dst, term, x⟩ = (s, [s.msg src .older]) := by unfold Rf.Nd.receive; rw [if_pos (by show term < s.term; omega)]
   rw [e]
   refine J.shutI (nodeL p c lv lp lc vp vc s) (NodeAt p s) NodeAt.shut ?_
   refine J.shutI [pt b92 (.cells (MsgW.cells ⟨s.msg src .older, q93, d93⟩).toArray 53 (0, 0)), own 5 1 (.slice q93 (msgB (s.msg src .older)).length d93) (bytesV (msgB (s.msg src .older)))] (MsgsAt (some ⟨b92, 0, none⟩) 1 [s.msg src .older]) MsgsAt.one ?_
   refine J.ret1I [MsgsAt (some ⟨b92, 0, none⟩) 1 [s.msg src .older], NodeAt p s, M] rfl rfl ⟨some ⟨b92, 0, none⟩, 1, rfl, rfl⟩
  refine J.cond_f rfl <| J.cskip <| J.then_n ?_
  have hge : ¬ term < s.term := by omega
  obtain ⟨s2, hs2⟩ : ∃ s2 : Nd, s2 = (if s.term < term then s.follow term else s) := ⟨_, rfl⟩
  have hf2 : NFit s2 := by rw [hs2]; split; exact hf.follow hterm; exact hf
  have hn2 : s2.n = s.n := by rw [hs2]; split <;> rfl
  have hi2 : s2.id = s.id := by rw [hs2]; split <;> rfl
  have hrc : s.receive ⟨src, dst, term, x⟩ = s2.hear ⟨src, dst, term, x⟩ := by unfold Rf.Nd.receive; rw [if_neg hge, hs2]
  rw [hrc]
  refine J.cut (fun _ : Unit => True) (fun _ => [(0, .pointer (some ⟨p, 0, none⟩)), (5, .int .i64 (src : Nat)), (8, xv)]) (fun _ => [NodeAt p s2, E, M, F]) ?_ fun _ _ => ?_
  ·
   refine J.seq <| J.region <| J.m rfl <| J.m rfl <| J.p rfl (Q.nil_ rfl) <| J.p rfl (Q.fa (n := 0) runUnderlying68 rfl rfl sizeOf65 rfl) ?_
   refine J.p rfl (Q.ldI isAgg65 rfl) ?_
   refine J.p rfl (Q.nil_ rfl) <| J.p rfl (Q.fa (n := 2) runUnderlying70 rfl rfl sizeOf64 rfl) <| J.p rfl (Q.fa (n := 0) runUnderlying64 rfl rfl sizeOf56 rfl) ?_
   refine J.p rfl (Q.ldI isAgg56 rfl) ?_
   refine J.p rfl (Q.gtr rfl rfl) <| J.nil <| J.then_n ?_
   refine J.kases 102 rfl (fun hc102 => ?_) (fun hc102 => ?_)
   ·
    refine J.cond_t rfl <| J.region <| J.m rfl <| J.m rfl ?_
    refine J.shutI (nodeL p c lv lp lc vp vc s) (NodeAt p s) NodeAt.shut ?_
    refine J.callI call25 (follow_spec p s term) rfl rfl rfl ?_
    rintro _ _ ⟨rfl, rfl⟩
    refine J.norm rfl <| J.nil ?_
    have e : s2 = s.follow term := by rw [hs2, if_pos (by omega)]
    rw [← e]
    exact J.meetI () trivial ⟨rfl, rfl, rfl, trivial⟩
   refine J.cond_f rfl <| J.cskip ?_
   have e : s2 = s := by rw [hs2, if_neg (by omega)]
   rw [← e]
   refine J.shutI (nodeL p c lv lp lc vp vc s2) (NodeAt p s2) NodeAt.shut ?_
   exact J.meetI () trivial ⟨rfl, rfl, rfl, trivial⟩
  rcases x with ⟨at_, an⟩ | vg | ⟨ta, tl, tc, rs⟩ | ⟨ko, kn⟩ | _
  ·
   refine J.seq <| J.seq ?_
   obtain ⟨rfl, rfl⟩ := hX
   refine J.region <| J.m rfl <| J.nil <| J.then_n <| J.block <| J.seq <| J.region <| J.p rfl (Q.asYes runUnderlying77 (by intro m h; cases h) rfl) <| J.p rfl (Q.ext rfl rfl) <| J.p rfl (Q.ext rfl rfl) <| J.nil <| J.then_n ?_
   refine J.cases 108 rfl (fun hc108 => ?_) (fun hc108 => ?_)
   ·
    replace hc108 := X.nm hc108
    skip
    refine J.cond_t rfl <| J.seq <| J.region ?_
    refine J.c rfl rfl (C.alloc (l := [_, _]) zeroValue77 rfl) ?_
    rintro _ _ ⟨b10, rfl, rfl⟩
    refine J.norm rfl ?_
    refine J.stAJ (vs := [_, _]) rfl sizeOf77 rfl rfl ?_
    refine J.nil <| J.then_n <| J.seq ?_
    refine J.openNode p s2 fun c lv lp lc vp vc => ?_
    refine J.norm rfl ?_
    refine J.give (X := star []) trivial ?_
    obtain ⟨g1, g2, g3, g4, g5⟩ := gives_id (s := s2) (to := src) (lt := at_) (k := an)
    have hgm : (s2.gives src at_ an).msg src (.vote (!s2.refuses src at_ an)) = s2.msg src (.vote (!s2.refuses src at_ an)) := by unfold Rf.Nd.msg; rw [g1, g2]
    have hl2 := hf2.len
    have ht2 := hf2.term
    refine J.pickI [pt p (.cells [Value.pointer (some ⟨c, 0, none⟩), lv].toArray 68 (0, 0)), pt b10 (.cells [Value.int .u64 at_, .int .i64 an].toArray 77 (0, 0))] ?_
    refine J.norm rfl ?_
    refine J.drawE [8, 11, 12, 13] 2 Try.mixed (by kernel_rfl) rfl rfl fun hR => ?_
    refine RG.p 0 hR rfl (Q.mv rfl) <| RG.p 1 hR rfl (Q.nil_ rfl) <| RG.p 2 hR rfl (Q.fa (n := 0) runUnderlying68 rfl rfl sizeOf65 rfl) ?_
    refine RG.p 3 hR rfl (Q.ldI isAgg65 rfl) ?_
    refine RG.p 4 hR rfl (Q.mv rfl) <| RG.p 5 hR rfl (Q.mv rfl) <| RG.p 6 hR rfl (Q.mv rfl) ?_
    refine RG.p 7 hR rfl (Q.ldN (vs := [_, _]) isAgg77 sizeOf77 rfl rnI) ?_
    refine RG.callkR 8 hR rfl rfl rfl rfl rfl call34 (gives_spec p c lv lp lc vp vc s2 src at_ an (by omega) (by omega)) rfl ?_
    rintro _ _ ⟨rfl, rfl⟩
    refine ⟨_, inferInstance, ?_⟩
    refine RG.normE rfl <| RG.p 9 hR rfl (Q.bld (l := [.bool (!s2.refuses src at_ an)]) runUnderlying89 zeroValue89 places89 rfl (by kernel_rfl)) <| RG.p 10 hR rfl (Q.mkif runUnderlying89 (by intro m h; cases h) rfl) ?_
    refine RG.callI 11 hR rfl rfl rfl rfl rfl rfl call29 (send_spec c (s2.gives src at_ an) lp lc vp vc (star []) (XM.vVote (!s2.refuses src at_ an)) (.vote (!s2.refuses src at_ an)) (write_vote _).one src (by omega) (by omega) (by omega)) rfl ?_
    rintro _ _ ⟨q93, d93, rfl, rfl⟩
    refine RG.norm rfl ?_
    rw [hgm]
    refine RG.bar 12 hR rfl rfl rfl rfl rfl rfl (C.bslG (l := [_, _, _]) runUnderlying28 sizeOf53 zeroValue53 (by decide) rfl rfl rfl rfl rfl) ?_
    rintro _ _ ⟨b122, rfl, rfl⟩
    refine RG.norm rfl ?_
    refine RG.bar 13 hR rfl rfl rfl rfl rfl rfl (Q.asg rfl).toC ?_
    rintro _ _ ⟨rfl, rfl⟩
    refine RG.norm rfl ?_
    refine RG.fin hR rfl ?_
    refine J.norm rfl <| J.then_n <| J.cret <| J.blk_r <| J.then_r ?_
    have e : s2.hear ⟨src, dst, term, .ask at_ an⟩ = (s2.gives src at_ an, [s2.msg src (.vote (!s2.refuses src at_ an))]) := rfl
    rw [e]
    refine J.convPt b122 (.cells (MsgW.cells ⟨s2.msg src (.vote (!s2.refuses src at_ an)), q93, d93⟩).toArray 53 (0, 0)) (by rw [g1]) ?_
    refine J.shutI [pt b122 (.cells (MsgW.cells ⟨s2.msg src (.vote (!s2.refuses src at_ an)), q93, d93⟩).toArray 53 (0, 0)), own 5 1 (.slice q93 (msgB (s2.msg src (.vote (!s2.refuses src at_ an)))).length d93) (bytesV (msgB (s2.msg src (.vote (!s2.refuses src at_ an)))))] (MsgsAt (some ⟨b122, 0, none⟩) 1 [s2.msg src (.vote (!s2.refuses src at_ an))]) MsgsAt.one ?_
    rw [← g3, ← g4, ← g5]
    refine J.shutI (nodeL p c lv lp lc vp vc (s2.gives src at_ an)) (NodeAt p (s2.gives src at_ an)) NodeAt.shut ?_
    refine J.ret1I [MsgsAt (some ⟨b122, 0, none⟩) 1 [s2.msg src (.vote (!s2.refuses src at_ an))], NodeAt p (s2.gives src at_ an), M] rfl rfl ⟨some ⟨b122, 0, none⟩, 1, rfl, rfl⟩
   cases hc108
  ·
   refine J.seq <| J.seq ?_
   obtain ⟨rfl, rfl⟩ := hX
   refine J.region <| J.m rfl <| J.nil <| J.then_n <| J.block <| J.seq <| J.region <| J.p rfl (Q.asNo runUnderlying77 (by intro m h; cases h) zeroValue77 (by decide) rfl) <| J.p rfl (Q.ext rfl rfl) <| J.p rfl (Q.ext rfl rfl) <| J.nil <| J.then_n ?_
   refine J.cases 108 rfl (fun hc108 => ?_) (fun hc108 => ?_)
   ·
    cases hc108
   replace hc108 := X.nm hc108
   refine J.cond_f rfl <| J.seq <| J.region <| J.p rfl (Q.asYes runUnderlying89 (by intro m h; cases h) rfl) <| J.p rfl (Q.ext rfl rfl) <| J.p rfl (Q.ext rfl rfl) <| J.nil <| J.then_n ?_
   refine J.cases 124 rfl (fun hc124 => ?_) (fun hc124 => ?_)
   ·
    replace hc124 := X.nm hc124
    skip
    refine J.cond_t rfl <| J.seq <| J.region ?_
    refine J.c rfl rfl (C.alloc (l := [_]) zeroValue89 rfl) ?_
    rintro _ _ ⟨b11, rfl, rfl⟩
    refine J.norm rfl ?_
    refine J.stAJ (vs := [_]) rfl sizeOf89 rfl rfl ?_
    refine J.nil <| J.then_n <| J.seq <| J.region <| J.m rfl <| J.m rfl ?_
    refine J.p rfl (Q.ldN (vs := [_]) isAgg89 sizeOf89 rfl rnI) ?_
    refine J.callI call35 (counts_spec p s2 src vg hf2 (by omega)) rfl rfl rfl ?_
    rintro _ _ ⟨q93, d93, rfl, rfl⟩
    refine J.norm rfl <| J.p rfl (Q.asg rfl) <| J.nil <| J.then_n <| J.cret <| J.blk_r <| J.then_r ?_
    refine J.ret1I [MsgsAt q93 d93 (s2.counts src vg).2, NodeAt p (s2.counts src vg).1, M] rfl rfl ⟨q93, d93, rfl, rfl⟩
   cases hc124
  ·
   refine J.seq <| J.seq ?_
   obtain ⟨q45, d45, rfl, rfl⟩ := hX
   refine J.region <| J.m rfl <| J.nil <| J.then_n <| J.block <| J.seq <| J.region <| J.p rfl (Q.asNo runUnderlying77 (by intro m h; cases h) zeroValue77 (by decide) rfl) <| J.p rfl (Q.ext rfl rfl) <| J.p rfl (Q.ext rfl rfl) <| J.nil <| J.then_n ?_
   refine J.cases 108 rfl (fun hc108 => ?_) (fun hc108 => ?_)
   ·
    cases hc108
   replace hc108 := X.nm hc108
   refine J.cond_f rfl <| J.seq <| J.region <| J.p rfl (Q.asNo runUnderlying89 (by intro m h; cases h) zeroValue89 (by decide) rfl) <| J.p rfl (Q.ext rfl rfl) <| J.p rfl (Q.ext rfl rfl) <| J.nil <| J.then_n ?_
   refine J.cases 124 rfl (fun hc124 => ?_) (fun hc124 => ?_)
   ·
    cases hc124
   replace hc124 := X.nm hc124
   refine J.cond_f rfl <| J.seq <| J.region <| J.p rfl (Q.asYes runUnderlying92 (by intro m h; cases h) rfl) <| J.p rfl (Q.ext rfl rfl) <| J.p rfl (Q.ext rfl rfl) <| J.nil <| J.then_n ?_
   refine J.cases 131 rfl (fun hc131 => ?_) (fun hc131 => ?_)
   ·
    replace hc131 := X.nm hc131
    skip
    refine J.cond_t rfl <| J.seq <| J.region ?_
    refine J.c rfl rfl (C.alloc (l := [_, _, _, _]) zeroValue92 rfl) ?_
    rintro _ _ ⟨b12, rfl, rfl⟩
    refine J.norm rfl ?_
    refine J.stAJ (vs := [_, _, _, _]) rfl sizeOf92 rfl rfl ?_
    refine J.nil <| J.then_n <| J.seq <| J.region <| J.m rfl <| J.m rfl ?_
    refine J.p rfl (Q.ldN (vs := [_, _, _, _]) isAgg92 sizeOf92 rfl rnI) ?_
    refine J.callI call36 (takes_spec p s2 src ta tl tc q45 d45 rs hf2 (by omega) hx (by have := hm.x; exact this.2.2.1)) rfl rfl rfl ?_
    rintro _ _ ⟨q93, d93, rfl, rfl⟩
    refine J.norm rfl <| J.p rfl (Q.asg rfl) <| J.nil <| J.then_n <| J.cret <| J.blk_r <| J.then_r ?_
    refine J.ret1I [MsgsAt q93 d93 (s2.takes src ta tl tc rs).2, NodeAt p (s2.takes src ta tl tc rs).1, M] rfl rfl ⟨q93, d93, rfl, rfl⟩
   cases hc131
  ·
   refine J.seq <| J.seq ?_
   obtain ⟨rfl, rfl⟩ := hX
   refine J.region <| J.m rfl <| J.nil <| J.then_n <| J.block <| J.seq <| J.region <| J.p rfl (Q.asNo runUnderlying77 (by intro m h; cases h) zeroValue77 (by decide) rfl) <| J.p rfl (Q.ext rfl rfl) <| J.p rfl (Q.ext rfl rfl) <| J.nil <| J.then_n ?_
   refine J.cases 108 rfl (fun hc108 => ?_) (fun hc108 => ?_)
   ·
    cases hc108
   replace hc108 := X.nm hc108
   refine J.cond_f rfl <| J.seq <| J.region <| J.p rfl (Q.asNo runUnderlying89 (by intro m h; cases h) zeroValue89 (by decide) rfl) <| J.p rfl (Q.ext rfl rfl) <| J.p rfl (Q.ext rfl rfl) <| J.nil <| J.then_n ?_
   refine J.cases 124 rfl (fun hc124 => ?_) (fun hc124 => ?_)
   ·
    cases hc124
   replace hc124 := X.nm hc124
   refine J.cond_f rfl <| J.seq <| J.region <| J.p rfl (Q.asNo runUnderlying92 (by intro m h; cases h) zeroValue92 (by decide) rfl) <| J.p rfl (Q.ext rfl rfl) <| J.p rfl (Q.ext rfl rfl) <| J.nil <| J.then_n ?_
   refine J.cases 131 rfl (fun hc131 => ?_) (fun hc131 => ?_)
   ·
    cases hc131
   replace hc131 := X.nm hc131
   refine J.cond_f rfl <| J.seq <| J.region <| J.p rfl (Q.asYes runUnderlying95 (by intro m h; cases h) rfl) <| J.p rfl (Q.ext rfl rfl) <| J.p rfl (Q.ext rfl rfl) <| J.nil <| J.then_n ?_
   refine J.cases 138 rfl (fun hc138 => ?_) (fun hc138 => ?_)
   ·
    replace hc138 := X.nm hc138
    skip
    refine J.cond_t rfl <| J.seq <| J.region ?_
    refine J.c rfl rfl (C.alloc (l := [_, _]) zeroValue95 rfl) ?_
    rintro _ _ ⟨b13, rfl, rfl⟩
    refine J.norm rfl ?_
    refine J.stAJ (vs := [_, _]) rfl sizeOf95 rfl rfl ?_
    refine J.nil <| J.then_n <| J.seq <| J.region <| J.m rfl <| J.m rfl ?_
    refine J.p rfl (Q.ldN (vs := [_, _]) isAgg95 sizeOf95 rfl rnI) ?_
    refine J.callI call37 (hears_spec p s2 src kn ko hf2 (by omega) (by have := hm.x; exact this)) rfl rfl rfl ?_
    rintro _ _ ⟨q93, d93, rfl, rfl⟩
    refine J.norm rfl <| J.p rfl (Q.asg rfl) <| J.nil <| J.then_n <| J.cret <| J.blk_r <| J.then_r ?_
    refine J.ret1I [MsgsAt q93 d93 (s2.hears src ko kn).2, NodeAt p (s2.hears src ko kn).1, M] rfl rfl ⟨q93, d93, rfl, rfl⟩
   cases hc138
  ·
   refine J.seq <| J.seq ?_
   obtain ⟨rfl, rfl⟩ := hX
   refine J.region <| J.m rfl <| J.nil <| J.then_n <| J.block <| J.seq <| J.region <| J.p rfl (Q.asNo runUnderlying77 (by intro m h; cases h) zeroValue77 (by decide) rfl) <| J.p rfl (Q.ext rfl rfl) <| J.p rfl (Q.ext rfl rfl) <| J.nil <| J.then_n ?_
   refine J.cases 108 rfl (fun hc108 => ?_) (fun hc108 => ?_)
   ·
    cases hc108
   replace hc108 := X.nm hc108
   refine J.cond_f rfl <| J.seq <| J.region <| J.p rfl (Q.asNo runUnderlying89 (by intro m h; cases h) zeroValue89 (by decide) rfl) <| J.p rfl (Q.ext rfl rfl) <| J.p rfl (Q.ext rfl rfl) <| J.nil <| J.then_n ?_
   refine J.cases 124 rfl (fun hc124 => ?_) (fun hc124 => ?_)
   ·
    cases hc124
   replace hc124 := X.nm hc124
   refine J.cond_f rfl <| J.seq <| J.region <| J.p rfl (Q.asNo runUnderlying92 (by intro m h; cases h) zeroValue92 (by decide) rfl) <| J.p rfl (Q.ext rfl rfl) <| J.p rfl (Q.ext rfl rfl) <| J.nil <| J.then_n ?_
   refine J.cases 131 rfl (fun hc131 => ?_) (fun hc131 => ?_)
   ·
    cases hc131
   replace hc131 := X.nm hc131
   refine J.cond_f rfl <| J.seq <| J.region <| J.p rfl (Q.asNo runUnderlying95 (by intro m h; cases h) zeroValue95 (by decide) rfl) <| J.p rfl (Q.ext rfl rfl) <| J.p rfl (Q.ext rfl rfl) <| J.nil <| J.then_n ?_
   refine J.cases 138 rfl (fun hc138 => ?_) (fun hc138 => ?_)
   ·
    cases hc138
   replace hc138 := X.nm hc138
   refine J.cond_f rfl <| J.cskip <| J.blk_n <| J.then_n <| J.seq <| J.region <| J.p rfl (Q.asg rfl) <| J.nil <| J.then_n <| J.cret ?_
   refine J.give (X := MsgsAt none 0 []) MsgsAt.nil ?_
   refine J.ret1I [MsgsAt none 0 [], NodeAt p s2, M] rfl rfl ⟨none, 0, rfl, rfl⟩

theorem state_spec (p : Nat) (s : Nd) : FSpec Try.prog 22 [.pointer (some ⟨p, 0, none⟩)] [NodeAt p s] (fun u B => u = .tuple #[.int .i64 (s.role : Nat), .int .u64 (s.term : Nat), .int .i64 (s.leader : Nat)] ∧ B = [NodeAt p s]) := by
  refine openNode fun c lv lp lc vp vc => ?_
  refine FSpec.of func22 rfl ntmps22 rfl fun W0 F => ?_
  refine J.norm rfl <| J.seq <| J.region <| J.p rfl (Q.asg rfl) <| J.p rfl (Q.asg rfl) <| J.p rfl (Q.asg rfl) <| J.nil <| J.then_n <| J.seq ?_
  refine J.draw [22, 23, 24] Try.mixed (by kernel_rfl) fun hR => ?_
  refine RG.p 0 hR rfl (Q.mv rfl) <| RG.p 1 hR rfl (Q.nil_ rfl) <| RG.p 2 hR rfl (Q.fa (n := 0) runUnderlying68 rfl rfl sizeOf65 rfl) ?_
  refine RG.p 3 hR rfl (Q.ldI isAgg65 rfl) ?_
  refine RG.p 4 hR rfl (Q.nil_ rfl) <| RG.p 5 hR rfl (Q.fa (n := 6) runUnderlying70 rfl rfl sizeOf3 rfl) ?_
  refine RG.p 6 hR rfl (Q.ldI isAgg3 rfl) ?_
  refine RG.p 7 hR rfl (Q.mv rfl) <| RG.p 8 hR rfl (Q.nil_ rfl) <| RG.p 9 hR rfl (Q.fa (n := 0) runUnderlying68 rfl rfl sizeOf65 rfl) ?_
  refine RG.p 10 hR rfl (Q.ldI isAgg65 rfl) ?_
  refine RG.p 11 hR rfl (Q.nil_ rfl) <| RG.p 12 hR rfl (Q.fa (n := 2) runUnderlying70 rfl rfl sizeOf64 rfl) <| RG.p 13 hR rfl (Q.fa (n := 0) runUnderlying64 rfl rfl sizeOf56 rfl) ?_
  refine RG.p 14 hR rfl (Q.ldI isAgg56 rfl) ?_
  refine RG.p 15 hR rfl (Q.mv rfl) <| RG.p 16 hR rfl (Q.nil_ rfl) <| RG.p 17 hR rfl (Q.fa (n := 0) runUnderlying68 rfl rfl sizeOf65 rfl) ?_
  refine RG.p 18 hR rfl (Q.ldI isAgg65 rfl) ?_
  refine RG.p 19 hR rfl (Q.nil_ rfl) <| RG.p 20 hR rfl (Q.fa (n := 7) runUnderlying70 rfl rfl sizeOf3 rfl) ?_
  refine RG.p 21 hR rfl (Q.ldI isAgg3 rfl) ?_
  refine RG.keep 22 hR rfl rfl rfl rfl rfl (Q.asg rfl) ?_
  refine RG.keep 23 hR rfl rfl rfl rfl rfl (Q.asg rfl) ?_
  refine RG.bar 24 hR rfl rfl rfl rfl rfl rfl (Q.asg rfl).toC ?_
  rintro _ _ ⟨rfl, rfl⟩
  refine RG.norm rfl ?_
  refine RG.fin hR rfl ?_
  refine J.norm rfl <| J.then_n <| J.cret ?_
  refine J.shutI (nodeL p c lv lp lc vp vc s) (NodeAt p s) NodeAt.shut ?_
  refine J.keepI ([NodeAt p s] ++ [F]) ?_
  refine J.ret3 (B := [NodeAt p s]) rfl rfl rfl rfl ⟨rfl, rfl⟩ rfl
theorem committed_spec (p : Nat) (s : Nd) : FSpec Try.prog 13 [.pointer (some ⟨p, 0, none⟩)] [NodeAt p s] (fun u B => u = .int .i64 (s.commit : Nat) ∧ B = [NodeAt p s]) := by
  refine openNode fun c lv lp lc vp vc => ?_
  refine FSpec.of func13 rfl ntmps13 rfl fun W0 F => ?_
  refine J.norm rfl <| J.seq <| J.region <| J.p rfl (Q.asg rfl) <| J.nil <| J.then_n <| J.seq <| J.region <| J.m rfl <| J.p rfl (Q.nil_ rfl) <| J.p rfl (Q.fa (n := 0) runUnderlying68 rfl rfl sizeOf65 rfl) ?_
  refine J.p rfl (Q.ldI isAgg65 rfl) ?_
  refine J.p rfl (Q.nil_ rfl) <| J.p rfl (Q.fa (n := 5) runUnderlying70 rfl rfl sizeOf3 rfl) ?_
  refine J.p rfl (Q.ldI isAgg3 rfl) ?_
  refine J.p rfl (Q.asg rfl) <| J.nil <| J.then_n <| J.cret ?_
  refine J.shutI (nodeL p c lv lp lc vp vc s) (NodeAt p s) NodeAt.shut ?_
  refine J.ret1I [NodeAt p s] rfl rfl ⟨rfl, rfl⟩

structure BW where
  bs : List UInt8
  p : Option Addr
  c : Nat
abbrev BW.cells (w : BW) : List Value := [.slice w.p w.bs.length w.c]
theorem BW.len (w : BW) : w.cells.length = 1 := rfl
theorem BW.one (x : BW) : ∀ v, v ∈ x.cells → oneC v = true := by
  intro v hv
  simp only [BW.cells, List.mem_cons, List.not_mem_nil, or_false] at hv
  subst hv; rfl
structure BW.ok (G : Assn) (w : BW) : Prop where
  rd : SlR [G] 1 (.slice w.p w.bs.length w.c) (bytesV w.bs)
theorem BW.ok.mono {G H : Assn} {w : BW} (h : w.ok G) (f : ∀ k, H k → ∃ j, G j ∧ Sub j k) : w.ok H := ⟨SlR.mono1 h.rd f⟩
def BssAt (q : Option Addr) (d : Nat) (l : List (List UInt8)) : Assn := fun h => ∃ z : List BW × Assn, (z.1.map BW.bs = l ∧ ∀ w, w ∈ z.1 → w.ok z.2) ∧ HSat h [own 41 1 (.slice q l.length d) (z.1.flatMap BW.cells), z.2]
theorem BssAt.nil : BssAt none 0 [] (fun _ => none) := ⟨([], fact True), ⟨rfl, fun _ h => by cases h⟩, ⟨fun _ => none, fun _ => none, own.nil _ _ _, ⟨fun _ => none, fun _ => none, trivial, trivial, fun b => .inr rfl, Sub.refl _, Sub.refl _⟩, fun b => .inr rfl, Sub.refl _, Sub.refl _⟩⟩
theorem BssAt.snoc {y : List BW × Assn} {l : List (List UInt8)} {x : List UInt8} {p q : Option Addr} {c d : Nat} (hy : y.1.map BW.bs = l ∧ ∀ w, w ∈ y.1 → w.ok y.2) :
    ∀ h, HSat h [own 41 1 (.slice p (l.length + 1) c) (y.1.flatMap BW.cells ++ [.slice q x.length d]), y.2, own 5 1 (.slice q x.length d) (bytesV x)] → BssAt p c (l ++ [x]) h := by
  intro h s
  obtain ⟨k, hk⟩ : ∃ k, HSat k [own 5 1 (.slice q x.length d) (bytesV x)] := by
    obtain ⟨_, h2, _, ⟨_, h4, _, b, _⟩, _⟩ := s
    exact ⟨_, b⟩
  have hs := own.slr (D := [own 5 1 (.slice q x.length d) (bytesV x)]) (i := 0) rfl ⟨k, hk⟩
  refine ⟨(y.1 ++ [⟨x, q, d⟩], star [y.2, own 5 1 (.slice q x.length d) (bytesV x)]), ⟨by rw [List.map_append, hy.1]; rfl, fun w hw => ?_⟩, ?_⟩
  · rcases List.mem_append.1 hw with e | e
    · exact (hy.2 w e).mono star_fst
    · obtain rfl := List.mem_singleton.1 e
      exact ⟨hs.into 1 rfl⟩
  · have := s.under fun _ s => HSat.pack (As := [y.2, own 5 1 (.slice q x.length d) (bytesV x)]) (Bs := []) s
    rw [List.length_append, List.flatMap_append]
    exact this

def entsFrom (s : Nd) (f k : Nat) : List (List UInt8) := ((s.log.take k).drop (f - 1)).map Rec.bs
theorem entries_spec (p : Nat) (s : Nd) (f : Nat) (hf1 : 1 ≤ f) (hf : f ≤ 1048576) (hc : s.commit ≤ s.log.length) (hl : s.log.length ≤ 1048576) : FSpec Try.prog 16 [.pointer (some ⟨p, 0, none⟩), .int .i64 f] [NodeAt p s] (fun u B => ∃ q d, u = .slice q (entsFrom s f s.commit).length d ∧ B = [BssAt q d (entsFrom s f s.commit), NodeAt p s]) := by
  refine openNode fun c lv lp lc vp vc => ?_
  refine FSpec.of func16 rfl ntmps16 rfl fun W0 F => ?_
  refine J.norm rfl <| J.seq <| J.region <| J.p rfl (Q.asg rfl) <| J.nil <| J.then_n <| J.seq <| J.region <| J.p rfl (Q.asg rfl) <| J.nil <| J.then_n <| J.seq <| J.seq <| J.region <| J.m rfl <| J.p rfl (Q.maxI rfl) ?_
  refine J.slot 8 (.int .i64 ((f - 1 + 1 : Nat) : Int)) rfl (by congr 1; split <;> omega) ?_
  refine J.p rfl (Q.asg rfl) <| J.nil <| J.then_n <| J.block ?_
  refine J.openI (RecsAt lp lc s.log) (fun _ h => h) fun z hz => ?_
  refine J.norm rfl ?_
  have hzl : z.1.length = s.log.length := by rw [← hz.1, List.length_map]
  refine J.slrI (E0 := 81) (sz := 2) (p := lp) (n := s.log.length) (c := lc) (xs := z.1.flatMap RecW.cells) fun hsl => ?_
  have e0 : entsFrom s f (f - 1) = [] := by unfold entsFrom; rw [List.drop_eq_nil_of_le (by rw [List.length_take]; omega)]; rfl
  refine J.give (X := BssAt none 0 []) BssAt.nil ?_
  refine J.keepI [BssAt none 0 [], pt p (.cells [Value.pointer (some ⟨c, 0, none⟩), lv].toArray 68 (0, 0)), coreA c s lp lc vp vc, own 81 2 (.slice lp s.log.length lc) (z.1.flatMap RecW.cells), z.2, own 4 1 (.slice vp s.votes.length vc) (s.votes.map Value.bool), LeadAt c lv s.lead, F] ?_
  refine J.loop3 (fun (i : Nat) (_ : Option Addr) (_ : Nat) => f - 1 ≤ i ∧ (i ≤ s.commit ∨ i = f - 1)) (fun i _ _ => s.commit - i) (fun i q d => [(0, .pointer (some ⟨p, 0, none⟩)), (5, .slice q (entsFrom s f i).length d), (6, .int .i64 ((i + 1 : Nat) : Int))]) (fun i q d => [BssAt q d (entsFrom s f i), pt p (.cells [Value.pointer (some ⟨c, 0, none⟩), lv].toArray 68 (0, 0)), coreA c s lp lc vp vc, own 81 2 (.slice lp s.log.length lc) (z.1.flatMap RecW.cells), z.2, own 4 1 (.slice vp s.votes.length vc) (s.votes.map Value.bool), LeadAt c lv s.lead, F]) (f - 1) none 0 ⟨Nat.le_refl _, .inr rfl⟩ ⟨rfl, (by rw [e0]; rfl), rfl, trivial⟩ (by rw [e0]) fun i q d hi => ?_
  obtain ⟨hi1, hi2⟩ := hi
  refine J.seq <| J.seq <| J.region <| J.m rfl <| J.m rfl <| J.p rfl (Q.nil_ rfl) <| J.p rfl (Q.fa (n := 0) runUnderlying68 rfl rfl sizeOf65 rfl) ?_
  refine J.p rfl (Q.ldI isAgg65 rfl) ?_
  refine J.p rfl (Q.nil_ rfl) <| J.p rfl (Q.fa (n := 5) runUnderlying70 rfl rfl sizeOf3 rfl) ?_
  refine J.p rfl (Q.ldI isAgg3 rfl) ?_
  refine J.p rfl (Q.leq rfl rfl) <| J.nil <| J.then_n ?_
  refine J.kases 17 rfl (fun hc17 => ?_) (fun hc17 => ?_)
  ·
   refine J.cond_t rfl <| J.cskip <| J.then_n <| J.seq <| J.block ?_
   obtain ⟨b, off, hqb, hrd⟩ := hsl.some_ (by omega)
   obtain ⟨w, hw⟩ : ∃ w, z.1[i]? = some w := ⟨_, List.getElem?_eq_getElem (by omega)⟩
   have hwl : s.log[i]? = some w.r := by rw [← hz.1, List.getElem?_map, hw]; rfl
   have hwk := hz.2 w (List.mem_of_getElem? hw)
   have hel : (entsFrom s f i).length ≤ 1048576 := by unfold entsFrom; rw [List.length_map, List.length_drop, List.length_take]; omega
   refine J.region <| J.m rfl <| J.m rfl <| J.p rfl (Q.nil_ rfl) <| J.p rfl (Q.fa (n := 0) runUnderlying68 rfl rfl sizeOf65 rfl) ?_
   refine J.p rfl (Q.ldI isAgg65 rfl) ?_
   refine J.p rfl (Q.nil_ rfl) <| J.p rfl (Q.fa (n := 2) runUnderlying70 rfl rfl sizeOf64 rfl) <| J.p rfl (Q.fa (n := 2) runUnderlying64 rfl rfl sizeOf62 rfl) ?_
   refine J.p rfl (Q.ldI isAgg62 rfl) ?_
   refine J.slot 28 (.slice (some ⟨b, off, none⟩) s.log.length lc) rfl (by rw [hqb]) ?_
   refine J.m rfl <| J.p rfl (Q.sub64 rfl rfl (by omega)) ?_
   refine J.slot 30 (.int .i64 (i : Nat)) rfl (by congr 1; omega) ?_
   refine J.p rfl (Q.ia runUnderlying62 sizeOf81 rfl rfl (by omega) (by omega)) <| J.p rfl (Q.fa (n := 1) runUnderlying81 rfl rfl sizeOf41 rfl) <| J.p rfl (Q.ld isAgg41 rfl ((rd_field RecW.len hrd hw (k := 1) (u := .slice w.p w.r.bs.length w.c) rfl (by omega)).inI)) ?_
   refine J.callI call32 (clone_spec z.2 w.p w.c w.r.bs hwk.rd (by have := hwk.n; omega)) rfl rfl rfl ?_
   rintro _ _ ⟨q34, d34, rfl, rfl⟩
   refine J.norm rfl ?_
   refine J.c rfl rfl (C.bslG (l := [_]) runUnderlying32 sizeOf41 zeroValue41 (by decide) rfl rfl rfl rfl rfl) ?_
   rintro _ _ ⟨b35, rfl, rfl⟩
   refine J.norm rfl ?_
   refine J.openI (BssAt q d (entsFrom s f i)) (fun _ h => h) fun y hy => ?_
   refine J.norm rfl ?_
   refine J.c rfl rfl (C.appI runUnderlying32 runUnderlying32 typeInfo41 sizeOf41 zeroValue41 rfl rfl (SlR.ptI rfl) (BW.one ⟨w.r.bs, q34, d34⟩) (by simp [Try.t41] <;> omega) (by decide)) ?_
   rintro _ _ ⟨p36, c36, rfl, rfl⟩
   refine J.norm rfl ?_
   refine J.shutI [own 41 1 (.slice p36 ((entsFrom s f i).length + 1) c36) (y.1.flatMap BW.cells ++ [.slice q34 w.r.bs.length d34]), y.2, own 5 1 (.slice q34 w.r.bs.length d34) (bytesV w.r.bs)] (BssAt p36 c36 (entsFrom s f i ++ [w.r.bs])) (BssAt.snoc hy) ?_
   refine J.p rfl (Q.asg rfl) <| J.nil <| J.blk_n <| J.then_n <| J.region <| J.m rfl <| J.p rfl (Q.add64 rfl rfl (by omega)) <| J.p rfl (Q.asg rfl) <| J.nil ?_
   have e1 : entsFrom s f (i + 1) = entsFrom s f i ++ [w.r.bs] := by
    unfold entsFrom
    rw [Rf.take_more hwl, List.drop_append_of_le_length (by rw [List.length_take]; omega), List.map_append]; rfl
   have e2 : (entsFrom s f i).length + 1 = (entsFrom s f (i + 1)).length := by rw [e1, List.length_append]; rfl
   rw [← e1]
   refine J.againI (i + 1, p36, c36) ⟨by show f - 1 ≤ i + 1; omega, .inl (by show i + 1 ≤ s.commit; omega)⟩ (by show s.commit - (i + 1) < s.commit - i; omega) ⟨rfl, (by show some (Value.slice p36 ((entsFrom s f i).length + 1) c36) = _; rw [e2]), rfl, trivial⟩
  refine J.cond_f rfl <| J.exit <| J.then_x <| J.lp_x <| J.blk_x <| J.then_n <| J.seq <| J.region <| J.m rfl <| J.p rfl (Q.asg rfl) <| J.nil <| J.then_n <| J.cret ?_
  have e1 : entsFrom s f i = entsFrom s f s.commit := by
   rcases hi2 with h | h
   · have : i = s.commit := by omega
     rw [this]
   · unfold entsFrom
     rw [h, List.drop_eq_nil_of_le (by rw [List.length_take]; omega), List.drop_eq_nil_of_le (by rw [List.length_take]; omega)]
  rw [e1]
  refine J.shutI [own 81 2 (.slice lp s.log.length lc) (z.1.flatMap RecW.cells), z.2] (RecsAt lp lc s.log) (fun h hh => ⟨z, hz, hh⟩) ?_
  refine J.shutI (nodeL p c lv lp lc vp vc s) (NodeAt p s) NodeAt.shut ?_
  refine J.ret1I [BssAt q d (entsFrom s f s.commit), NodeAt p s] rfl rfl ⟨q, d, rfl, rfl⟩

theorem propose_none (p : Nat) (s : Nd) (bp : Option Addr) (bc : Nat) (bs : List UInt8) (hl : s.lead = none) : FSpec Try.prog 14 [.pointer (some ⟨p, 0, none⟩), .slice bp bs.length bc] [NodeAt p s] (fun u B => u = .tuple #[.int .i64 0, .int .i64 22] ∧ B = [NodeAt p s]) := by
  refine openNode fun c lv lp lc vp vc => ?_
  rw [nodeL_lead hl]
  refine FSpec.of func14 rfl ntmps14 rfl fun W0 F => ?_
  refine J.norm rfl ?_
  refine J.noLead c lv fun hlv => ?_
  subst hlv
  refine J.seq <| J.region <| J.p rfl (Q.asg rfl) <| J.p rfl (Q.asg rfl) <| J.nil <| J.then_n <| J.seq <| J.block <| J.seq <| J.region <| J.m rfl <| J.p rfl (Q.nil_ rfl) <| J.p rfl (Q.fa (n := 1) runUnderlying68 rfl rfl sizeOf66 rfl) ?_
  refine J.p rfl (Q.ldI isAgg66 rfl) ?_
  refine J.p rfl (Q.eqlp runUnderlying66 rfl rfl) <| J.p rfl (Q.asg rfl) <| J.nil <| J.then_n ?_
  refine J.cases 6 rfl (fun hc6 => ?_) (fun hc6 => ?_)
  ·
   replace hc6 := X.nm hc6
   skip
   refine J.cond_t rfl <| J.seq <| J.region <| J.p rfl (Q.asg rfl) <| J.p rfl (Q.asg rfl) <| J.nil <| J.then_n <| J.cret <| J.blk_r <| J.then_r ?_
   rw [← hl]
   refine J.shutI (nodeL p c (.pointer none) lp lc vp vc s) (NodeAt p s) NodeAt.shut ?_
   refine J.ret2I [NodeAt p s] rfl rfl rfl ⟨rfl, rfl⟩
  cases hc6
theorem propose_some (p : Nat) (s : Nd) (Gb : Assn) (bp : Option Addr) (bc : Nat) (bs : List UInt8) (hb : SlR [Gb] 1 (.slice bp bs.length bc) (bytesV bs)) (hbl : bs.length ≤ 65536) (nx mt : List Nat) (hl : s.lead = some (nx, mt)) (hf : NFit s) : FSpec Try.prog 14 [.pointer (some ⟨p, 0, none⟩), .slice bp bs.length bc] [NodeAt p s, Gb] (fun u B => u = .tuple #[.int .i64 ((s.log.length + 1 : Nat) : Int), .int .i64 0] ∧ B = [NodeAt p (s.add nx mt bs), Gb]) := by
  have hn := hf.n
  have hid := hf.id
  have hterm := hf.term
  have hlg := hf.len
  obtain ⟨hnl, hml, hmv, hnv⟩ := hf.lead nx mt hl
  refine openNode fun c lv lp lc vp vc => ?_
  rw [nodeL_lead hl]
  refine FSpec.of func14 rfl ntmps14 rfl fun W0 F => ?_
  refine J.norm rfl ?_
  refine J.openLead c lv nx mt fun l np nc mp mc hlv => ?_
  subst hlv
  refine J.norm rfl <| J.seq <| J.region <| J.p rfl (Q.asg rfl) <| J.p rfl (Q.asg rfl) <| J.nil <| J.then_n <| J.seq <| J.block <| J.seq <| J.region <| J.m rfl <| J.p rfl (Q.nil_ rfl) <| J.p rfl (Q.fa (n := 1) runUnderlying68 rfl rfl sizeOf66 rfl) ?_
  refine J.p rfl (Q.ldI isAgg66 rfl) ?_
  refine J.p rfl (Q.eqlp runUnderlying66 rfl rfl) <| J.p rfl (Q.asg rfl) <| J.nil <| J.then_n ?_
  refine J.cases 6 rfl (fun hc6 => ?_) (fun hc6 => ?_)
  ·
   cases hc6
  replace hc6 := X.nm hc6
  refine J.cond_f rfl <| J.seq <| J.region <| J.m rfl <| J.p rfl (Q.lenSl runUnderlying41 rfl) <| J.p rfl (Q.gtr rfl rfl) <| J.p rfl (Q.asg rfl) <| J.nil <| J.then_n ?_
  refine J.cases 12 rfl (fun hc12 => ?_) (fun hc12 => ?_)
  ·
   replace hc12 := X.nm hc12; exfalso; omega
  replace hc12 := X.nm hc12
  refine J.cond_f rfl <| J.cskip <| J.blk_n <| J.then_n <| J.seq <| J.region <| J.m rfl <| J.p rfl (Q.nil_ rfl) <| J.p rfl (Q.fa (n := 1) runUnderlying68 rfl rfl sizeOf66 rfl) ?_
  refine J.p rfl (Q.ldI isAgg66 rfl) ?_
  refine J.m rfl ?_
  refine J.callI call31 (add_spec l c np nc mp mc nx mt s lp lc vp vc hn hid hml hmv (by omega) (by omega) Gb bp bc bs hb hbl) rfl rfl rfl ?_
  rintro _ _ ⟨lp', lc', rfl, rfl⟩
  refine J.norm rfl <| J.p rfl (Q.asg rfl) <| J.p rfl (Q.asg rfl) <| J.nil <| J.then_n <| J.cret ?_
  have hal : (s.add nx mt bs).lead = some (nx, mt.set s.id (s.log.length + 1)) := rfl
  refine J.shutI (leadL l c np nc mp mc nx (mt.set s.id (s.log.length + 1))) (LeadAt c (.pointer (some ⟨l, 0, none⟩)) (some (nx, mt.set s.id (s.log.length + 1)))) LeadAt.shut ?_
  rw [← hal]
  refine J.convI (own 4 1 (.slice vp s.votes.length vc) (s.votes.map Value.bool)) (own 4 1 (.slice vp (s.add nx mt bs).votes.length vc) ((s.add nx mt bs).votes.map Value.bool)) (fun _ h => h) ?_
  refine J.shutI (nodeL p c (.pointer (some ⟨l, 0, none⟩)) lp' lc' vp vc (s.add nx mt bs)) (NodeAt p (s.add nx mt bs)) NodeAt.shut ?_
  refine J.ret2I [NodeAt p (s.add nx mt bs), Gb] rfl rfl rfl ⟨rfl, rfl⟩

theorem copied_spec (q : Option Addr) (d : Nat) (rs : List Rec) (hl : rs.length ≤ 1048576) : FSpec Try.prog 41 [.slice q rs.length d] [RecsAt q d rs] (fun u B => ∃ q' d', u = .slice q' rs.length d' ∧ B = [RecsAt q' d' rs, RecsAt q d rs]) := by
  refine FSpec.of func41 rfl ntmps41 rfl fun W0 F => ?_
  refine J.seq <| J.region <| J.p rfl (Q.asg rfl) <| J.nil <| J.then_n <| J.seq <| J.region <| J.p rfl (Q.asg rfl) <| J.nil <| J.then_n <| J.seq <| J.seq <| J.region <| J.m rfl <| J.p rfl (Q.lenSl runUnderlying62 rfl) <| J.m rfl <| J.nil <| J.then_n <| J.block ?_
  refine J.openI (RecsAt q d rs) (fun _ h => h) fun z hz => ?_
  refine J.norm rfl ?_
  have hzl : z.1.length = rs.length := by rw [← hz.1, List.length_map]
  refine J.slrI (E0 := 81) (sz := 2) (p := q) (n := rs.length) (c := d) (xs := z.1.flatMap RecW.cells) fun hsl => ?_
  refine J.give (X := RecsAt none 0 []) RecsAt.nil ?_
  refine J.keepI [RecsAt none 0 [], own 81 2 (.slice q rs.length d) (z.1.flatMap RecW.cells), z.2, F] ?_
  refine J.loop3 (fun (i : Nat) (_ : Option Addr) (_ : Nat) => i ≤ rs.length) (fun i _ _ => rs.length - i) (fun i q' d' => [(3, .slice q' (rs.take i).length d'), (6, .slice q rs.length d), (7, .int .i64 (rs.length : Nat)), (8, .int .i64 (i : Nat))]) (fun i q' d' => [RecsAt q' d' (rs.take i), own 81 2 (.slice q rs.length d) (z.1.flatMap RecW.cells), z.2, F]) 0 none 0 (Nat.zero_le _) ⟨rfl, rfl, rfl, rfl, trivial⟩ rfl fun i q' d' hi => ?_
  refine J.seq <| J.region <| J.p rfl (Q.lss rfl rfl) <| J.nil <| J.then_n <| J.seq ?_
  refine J.kases 9 rfl (fun hc9 => ?_) (fun hc9 => ?_)
  ·
   refine J.cond_t rfl <| J.cskip <| J.then_n <| J.seq <| J.block <| J.seq ?_
   obtain ⟨b, off, hqb, hrd⟩ := hsl.some_ (by omega)
   obtain ⟨w, hw⟩ : ∃ w, z.1[i]? = some w := ⟨_, List.getElem?_eq_getElem (by omega)⟩
   have hwl : rs[i]? = some w.r := by rw [← hz.1, List.getElem?_map, hw]; rfl
   have hwk := hz.2 w (List.mem_of_getElem? hw)
   have htl : (rs.take i).length ≤ 1048576 := by rw [List.length_take]; omega
   refine J.slot 6 (.slice (some ⟨b, off, none⟩) rs.length d) rfl (by rw [hqb]) ?_
   refine J.region <| J.p rfl (Q.ia runUnderlying62 sizeOf81 rfl rfl (by omega) (by omega)) <| J.p rfl (Q.ldN (vs := [_, _]) isAgg81 sizeOf81 rfl ((rd_elem RecW.len hrd hw (by simp)).inI)) ?_
   refine J.c rfl rfl (C.alloc (l := [_, _]) zeroValue81 rfl) ?_
   rintro _ _ ⟨b5, rfl, rfl⟩
   refine J.norm rfl ?_
   refine J.stAJ (vs := [_, _]) rfl sizeOf81 rfl rfl ?_
   refine J.nil <| J.then_n ?_
   refine J.openI (RecsAt q' d' (rs.take i)) (fun _ h => h) fun y hy => ?_
   refine J.norm rfl ?_
   refine J.pickI [pt b5 (.cells w.cells.toArray 81 (0, 0))] ?_
   refine J.norm rfl ?_
   refine J.drawE [5, 7, 8, 9] 1 Try.mixed (by kernel_rfl) rfl rfl fun hR => ?_
   refine RG.p 0 hR rfl (Q.mv rfl) <| RG.p 1 hR rfl (Q.fa (n := 0) runUnderlying81 rfl rfl sizeOf56 rfl) ?_
   refine RG.p 2 hR rfl (Q.ldI isAgg56 rfl) ?_
   refine RG.p 3 hR rfl (Q.fa (n := 1) runUnderlying81 rfl rfl sizeOf41 rfl) ?_
   refine RG.p 4 hR rfl (Q.ldI isAgg41 rfl) ?_
   refine RG.callkI 5 hR rfl rfl rfl rfl rfl call32 (clone_spec z.2 w.p w.c w.r.bs hwk.rd (by have := hwk.n; omega)) rfl ?_
   rintro _ _ ⟨q17, d17, rfl, rfl⟩
   refine RG.normE rfl <| RG.p 6 hR rfl (Q.bld (l := [.int .u64 (w.r.term : Nat), .slice q17 w.r.bs.length d17]) runUnderlying81 zeroValue81 places81 rfl (by kernel_rfl)) ?_
   refine RG.made 7 hR rfl rfl rfl rfl rfl (C.bslG (l := [_, _]) runUnderlying62 sizeOf81 zeroValue81 (by decide) rfl rfl rfl rfl rfl) ?_
   rintro b19
   refine RG.many hR 8 [] rfl ⟨?_, trivial⟩
   ·
    refine RGi.appI rfl rfl rfl rfl runUnderlying62 runUnderlying62 typeInfo81 sizeOf81 zeroValue81 rfl rfl (SlR.ptI rfl) (RecW.one ⟨w.r, q17, d17⟩) (by simp [Try.t81] <;> omega) (by decide) ?_
    rintro p20 c20
    refine RG.normE rfl ?_
    refine RG.bar 9 hR rfl rfl rfl rfl rfl rfl (Q.asg rfl).toC ?_
    rintro _ _ ⟨rfl, rfl⟩
    refine RG.norm rfl ?_
    refine RG.fin hR rfl ?_
    refine J.norm rfl <| J.blk_n <| J.then_n <| J.region <| J.p rfl (Q.add64 rfl rfl (by omega)) <| J.m rfl <| J.nil ?_
    refine J.shutI [own 81 2 (.slice p20 ((rs.take i).length + 1) c20) (y.1.flatMap RecW.cells ++ RecW.cells ⟨w.r, q17, d17⟩), y.2, own 5 1 (.slice q17 w.r.bs.length d17) (bytesV w.r.bs)] (RecsAt p20 c20 (rs.take i ++ [w.r])) (RecsAt.snoc (x := w.r) hy hwk.n hwk.t) ?_
    have hl1 := Rf.take_more hwl
    have e1 : (rs.take i).length + 1 = (rs.take (i + 1)).length := by rw [hl1, List.length_append]; rfl
    rw [← hl1]
    refine J.againI (i + 1, p20, c20) (by show i + 1 ≤ rs.length; omega) (by show rs.length - (i + 1) < rs.length - i; omega) ⟨(by show some (Value.slice p20 ((rs.take i).length + 1) c20) = _; rw [e1]), (by show _ = some (Value.slice q rs.length d); rw [hqb]; rfl), rfl, rfl, trivial⟩
  refine J.cond_f rfl <| J.exit <| J.then_x <| J.lp_x <| J.blk_x <| J.then_n <| J.seq <| J.region <| J.m rfl <| J.p rfl (Q.asg rfl) <| J.nil <| J.then_n <| J.cret ?_
  have hin : rs.take i = rs := List.take_of_length_le (by omega)
  rw [hin]
  refine J.shutI [own 81 2 (.slice q rs.length d) (z.1.flatMap RecW.cells), z.2] (RecsAt q d rs) (fun h hh => ⟨z, hz, hh⟩) ?_
  refine J.ret1I [RecsAt q' d' rs, RecsAt q d rs] rfl rfl ⟨q', d', rfl, rfl⟩

theorem new_spec (i n term vote : Nat) (q : Option Addr) (d : Nat) (rs : List Rec) (hn1 : 1 ≤ n) (hn : n ≤ 9) (hi : i < n) (hv : vote ≤ n) (hl : rs.length ≤ 1048576) (hr : Rises rs 0 term) : FSpec Try.prog 24 [.int .i64 i, .int .i64 n, .agg #[.int .u64 term, .int .i64 vote, .slice q rs.length d]] [RecsAt q d rs]
    (fun u B => ∃ p, u = .tuple #[.pointer (some ⟨p, 0, none⟩), .int .i64 0] ∧ B = [NodeAt p ⟨i, n, term, vote, rs, 0, 1, 0, [], none⟩]) := by
  refine FSpec.of func24 rfl ntmps24 rfl fun W0 F => ?_
  refine J.seq <| J.region ?_
  refine J.c rfl rfl (C.box (l := [_, _, _]) rfl rfl) ?_
  rintro _ _ ⟨b5, rfl, rfl⟩
  refine J.norm rfl <| J.p rfl (Q.asg rfl) <| J.p rfl (Q.asg rfl) <| J.nil <| J.then_n <| J.seq <| J.seq <| J.region <| J.m rfl <| J.p rfl (Q.lss rfl rfl) <| J.m rfl ?_
  refine J.cases 12 rfl (fun hb12 => ?_) (fun hb12 => ?_)
  ·
   replace hb12 := X.nm hb12; exfalso; omega
  replace hb12 := X.nm hb12
  refine J.m rfl <| J.p rfl (Q.gtr rfl rfl) <| J.p rfl (Q.pick_f rfl rfl) <| J.m rfl ?_
  refine J.cases 16 rfl (fun hb16 => ?_) (fun hb16 => ?_)
  ·
   replace hb16 := X.nm hb16; exfalso; omega
  replace hb16 := X.nm hb16
  refine J.m rfl <| J.p rfl (Q.lss rfl rfl) <| J.p rfl (Q.pick_f rfl rfl) <| J.m rfl ?_
  refine J.cases 20 rfl (fun hb20 => ?_) (fun hb20 => ?_)
  ·
   replace hb20 := X.nm hb20; exfalso; omega
  replace hb20 := X.nm hb20
  refine J.m rfl <| J.m rfl <| J.p rfl (Q.geq rfl rfl) <| J.p rfl (Q.pick_f rfl rfl) <| J.m rfl ?_
  refine J.cases 25 rfl (fun hb25 => ?_) (fun hb25 => ?_)
  ·
   replace hb25 := X.nm hb25; exfalso; omega
  replace hb25 := X.nm hb25
  refine J.p rfl (Q.fa (n := 1) runUnderlying64 rfl rfl sizeOf3 rfl) ?_
  refine J.p rfl (Q.ldI isAgg3 rfl) ?_
  refine J.p rfl (Q.lss rfl rfl) <| J.p rfl (Q.pick_f rfl rfl) <| J.m rfl ?_
  refine J.cases 30 rfl (fun hb30 => ?_) (fun hb30 => ?_)
  ·
   replace hb30 := X.nm hb30; exfalso; omega
  replace hb30 := X.nm hb30
  refine J.p rfl (Q.fa (n := 1) runUnderlying64 rfl rfl sizeOf3 rfl) ?_
  refine J.p rfl (Q.ldI isAgg3 rfl) ?_
  refine J.m rfl <| J.p rfl (Q.gtr rfl rfl) <| J.p rfl (Q.pick_f rfl rfl) <| J.nil <| J.then_n ?_
  refine J.cases 35 rfl (fun hc35 => ?_) (fun hc35 => ?_)
  ·
   replace hc35 := X.nm hc35; exfalso; omega
  replace hc35 := X.nm hc35
  refine J.cond_f rfl <| J.cskip <| J.then_n <| J.seq <| J.seq ?_
  refine J.openI (RecsAt q d rs) (fun _ h => h) fun z hz => ?_
  refine J.norm rfl ?_
  have hzl : z.1.length = rs.length := by rw [← hz.1, List.length_map]
  refine J.slrI (E0 := 81) (sz := 2) (p := q) (n := rs.length) (c := d) (xs := z.1.flatMap RecW.cells) fun hsl => ?_
  refine J.region <| J.p rfl (Q.fa (n := 2) runUnderlying64 rfl rfl sizeOf62 rfl) ?_
  refine J.p rfl (Q.ldI isAgg62 rfl) ?_
  refine J.p rfl (Q.lenSl runUnderlying62 rfl) <| J.m rfl <| J.nil <| J.then_n <| J.block ?_
  refine J.keepI [own 81 2 (.slice q rs.length d) (z.1.flatMap RecW.cells), z.2, pt b5 (.cells [Value.int .u64 term, .int .i64 vote, .slice q rs.length d].toArray 64 (0, 0)), F] ?_
  refine J.loop (fun k : Nat => k ≤ rs.length) (fun k => rs.length - k) (fun k => [(0, .int .i64 (i : Nat)), (1, .int .i64 (n : Nat)), (5, .pointer (some ⟨b5, 0, none⟩)), (37, .slice q rs.length d), (38, .int .i64 (rs.length : Nat)), (39, .int .i64 (k : Nat))]) (fun k => [own 81 2 (.slice q rs.length d) (z.1.flatMap RecW.cells), z.2, pt b5 (.cells [Value.int .u64 term, .int .i64 vote, .slice q rs.length d].toArray 64 (0, 0)), F]) 0 (Nat.zero_le _) ⟨rfl, rfl, rfl, rfl, rfl, rfl, trivial⟩ rfl fun k hk => ?_
  refine J.seq <| J.region <| J.p rfl (Q.lss rfl rfl) <| J.nil <| J.then_n <| J.seq ?_
  refine J.kases 40 rfl (fun hc40 => ?_) (fun hc40 => ?_)
  ·
   refine J.cond_t rfl <| J.cskip <| J.then_n <| J.seq <| J.block <| J.seq ?_
   obtain ⟨b, off, hqb, hrd⟩ := hsl.some_ (by omega)
   obtain ⟨w, hw⟩ : ∃ w, z.1[k]? = some w := ⟨_, List.getElem?_eq_getElem (by omega)⟩
   have hwl : rs[k]? = some w.r := by rw [← hz.1, List.getElem?_map, hw]; rfl
   have hwr := hr.r w.r (List.mem_of_getElem? hwl)
   refine J.slot 37 (.slice (some ⟨b, off, none⟩) rs.length d) rfl (by rw [hqb]) ?_
   refine J.region <| J.m rfl <| J.p rfl (Q.ia runUnderlying62 sizeOf81 rfl rfl (by omega) (by omega)) <| J.p rfl (Q.ldN (vs := [_, _]) isAgg81 sizeOf81 rfl ((rd_elem RecW.len hrd hw (by simp)).inI)) ?_
   refine J.c rfl rfl (C.alloc (l := [_, _]) zeroValue81 rfl) ?_
   rintro _ _ ⟨b9, rfl, rfl⟩
   refine J.norm rfl <| J.p rfl (Q.asg rfl) ?_
   refine J.stAJ (vs := [_, _]) rfl sizeOf81 rfl rfl ?_
   refine J.nil <| J.then_n <| J.seq ?_
   refine J.draw [] Try.mixed (by kernel_rfl) fun hR => ?_
   refine RG.p 0 hR rfl (Q.fa (n := 0) runUnderlying81 rfl rfl sizeOf56 rfl) ?_
   refine RG.p 1 hR rfl (Q.ldI isAgg56 rfl) ?_
   refine RG.p 2 hR rfl (Q.fa (n := 0) runUnderlying64 rfl rfl sizeOf56 rfl) ?_
   refine RG.p 3 hR rfl (Q.ldI isAgg56 rfl) ?_
   refine RG.p 4 hR rfl (Q.gtr rfl rfl) <| RG.p 5 hR rfl (Q.mv rfl) ?_
   refine RG.cases 49 rfl (fun hb49 => ?_) (fun hb49 => ?_)
   ·
    replace hb49 := X.nm hb49; exfalso; omega
   replace hb49 := X.nm hb49
   refine RG.p 6 hR rfl (Q.fa (n := 0) runUnderlying81 rfl rfl sizeOf56 rfl) ?_
   refine RG.p 7 hR rfl (Q.ldI isAgg56 rfl) ?_
   refine RG.p 8 hR rfl (Q.eql rfl rfl) <| RG.p 9 hR rfl (Q.pick_f rfl rfl) <| RG.p 10 hR rfl (Q.mv rfl) ?_
   refine RG.cases 54 rfl (fun hb54 => ?_) (fun hb54 => ?_)
   ·
    replace hb54 := X.nm hb54; exfalso; omega
   replace hb54 := X.nm hb54
   refine RG.p 11 hR rfl (Q.mv rfl) <| RG.p 12 hR rfl (Q.gtr rfl rfl) <| RG.p 13 hR rfl (Q.mv rfl) ?_
   refine RG.cases 57 rfl (fun hb57 => ?_) (fun hb57 => ?_)
   ·
    replace hb57 := X.nm hb57; obtain ⟨w2, hw2⟩ : ∃ w, z.1[k - 1]? = some w := ⟨_, List.getElem?_eq_getElem (by omega)⟩; have hwl2 : rs[k - 1]? = some w2.r := by rw [← hz.1, List.getElem?_map, hw2]; rfl
    refine RG.p 14 hR rfl (Q.fa (n := 0) runUnderlying81 rfl rfl sizeOf56 rfl) ?_
    refine RG.p 15 hR rfl (Q.ldI isAgg56 rfl) ?_
    refine RG.p 16 hR rfl (Q.fa (n := 2) runUnderlying64 rfl rfl sizeOf62 rfl) ?_
    refine RG.p 17 hR rfl (Q.ldI isAgg62 rfl) ?_
    have hle : w2.r.term ≤ w.r.term := Rf.Srt.get ⟨hr.srt, fun x hx => (hr.r x hx).1⟩ hwl2 hwl (by omega)
    refine RG.slot 61 (.slice (some ⟨b, off, none⟩) rs.length d) rfl (by rw [hqb]) ?_
    refine RG.p 18 hR rfl (Q.mv rfl) <| RG.p 19 hR rfl (Q.sub64 rfl rfl (by omega)) <| RG.p 20 hR rfl (Q.ia runUnderlying62 sizeOf81 rfl rfl (by omega) (by omega)) <| RG.p 21 hR rfl (Q.fa (n := 0) runUnderlying81 rfl rfl sizeOf56 rfl) <| RG.p 22 hR rfl (Q.ld isAgg56 rfl ((rd_field RecW.len hrd hw2 (k := 0) (u := .int .u64 w2.r.term) rfl (by omega)).inI)) ?_
    refine RG.p 23 hR rfl (Q.lss rfl rfl) <| RG.p 24 hR rfl (Q.pick_t rfl rfl) <| RG.p 25 hR rfl (Q.pick_f rfl rfl) ?_
    refine RG.fin hR rfl ?_
    refine J.norm rfl <| J.then_n ?_
    refine J.cases 69 rfl (fun hc69 => ?_) (fun hc69 => ?_)
    ·
     replace hc69 := X.nm hc69; exfalso; omega
    replace hc69 := X.nm hc69
    refine J.cond_f rfl <| J.cskip <| J.blk_n <| J.then_n <| J.region <| J.p rfl (Q.add64 rfl rfl (by omega)) <| J.m rfl <| J.nil ?_
    refine J.againI (k + 1) (by show k + 1 ≤ rs.length; omega) (by show rs.length - (k + 1) < rs.length - k; omega) ⟨rfl, rfl, rfl, (by show _ = some (Value.slice q rs.length d); rw [hqb]; rfl), rfl, rfl, trivial⟩
   replace hb57 := X.nm hb57
   refine RG.k 14 hR rfl <| RG.k 15 hR rfl <| RG.k 16 hR rfl <| RG.k 17 hR rfl <| RG.k 18 hR rfl <| RG.k 19 hR rfl <| RG.k 20 hR rfl <| RG.k 21 hR rfl <| RG.k 22 hR rfl <| RG.k 23 hR rfl ?_
   refine RG.p 24 hR rfl (Q.pick_f rfl rfl) <| RG.p 25 hR rfl (Q.pick_f rfl rfl) ?_
   refine RG.fin hR rfl ?_
   refine J.norm rfl <| J.then_n <| J.cond_f rfl <| J.cskip <| J.blk_n <| J.then_n <| J.region <| J.p rfl (Q.add64 rfl rfl (by omega)) <| J.m rfl <| J.nil ?_
   refine J.againI (k + 1) (by show k + 1 ≤ rs.length; omega) (by show rs.length - (k + 1) < rs.length - k; omega) ⟨rfl, rfl, rfl, (by show _ = some (Value.slice q rs.length d); rw [hqb]; rfl), rfl, rfl, trivial⟩
  refine J.cond_f rfl <| J.exit <| J.then_x <| J.lp_x <| J.blk_x <| J.then_n <| J.seq <| J.region <| J.p rfl (Q.fa (n := 2) runUnderlying64 rfl rfl sizeOf62 rfl) ?_
  refine J.p rfl (Q.ldI isAgg62 rfl) ?_
  refine J.shutI [own 81 2 (.slice q rs.length d) (z.1.flatMap RecW.cells), z.2] (RecsAt q d rs) (fun h hh => ⟨z, hz, hh⟩) ?_
  refine J.callI call41 (copied_spec q d rs hl) rfl rfl rfl ?_
  rintro _ _ ⟨q2, d2, rfl, rfl⟩
  refine J.norm rfl <| J.p rfl (Q.fa (n := 2) runUnderlying64 rfl rfl sizeOf62 rfl) ?_
  refine J.stJ rfl sizeOf62 rfl rfl rfl ?_
  refine J.nil <| J.then_n <| J.seq <| J.region <| J.m rfl <| J.m rfl ?_
  refine J.p rfl (Q.ldN (vs := [_, _, _]) isAgg64 sizeOf64 rfl rnI) ?_
  refine J.p rfl (Q.bld (l := [.int .i64 i, .int .i64 n, .int .u64 term, .int .i64 vote, .slice q2 rs.length d2, .int .i64 0, .int .i64 1, .int .i64 0, .slice none 0 0]) runUnderlying70 zeroValue70 places70 rfl (by kernel_rfl)) ?_
  refine J.c rfl rfl (C.box (l := [_, _, _, _, _, _, _, _, _]) rfl rfl) ?_
  rintro _ _ ⟨b79, rfl, rfl⟩
  refine J.norm rfl <| J.p rfl (Q.bld (l := [.pointer (some ⟨b79, 0, none⟩), .pointer none]) runUnderlying68 zeroValue68 places68 rfl (by kernel_rfl)) ?_
  refine J.c rfl rfl (C.box (l := [_, _]) rfl rfl) ?_
  rintro _ _ ⟨b81, rfl, rfl⟩
  refine J.norm rfl <| J.p rfl (Q.asg rfl) <| J.p rfl (Q.asg rfl) <| J.nil <| J.then_n <| J.cret ?_
  refine J.convPt b79 (.cells (coreCells ⟨i, n, term, vote, rs, 0, 1, 0, [], none⟩ q2 d2 none 0).toArray 70 (0, 0)) rfl ?_
  refine J.give (X := LeadAt b79 (.pointer none) none) LeadAt.nil ?_
  refine J.give (noBits _) ?_
  refine J.shutI (nodeL b81 b79 (.pointer none) q2 d2 none 0 ⟨i, n, term, vote, rs, 0, 1, 0, [], none⟩) (NodeAt b81 ⟨i, n, term, vote, rs, 0, 1, 0, [], none⟩) NodeAt.shut ?_
  refine J.ret2I [NodeAt b81 ⟨i, n, term, vote, rs, 0, 1, 0, [], none⟩] rfl rfl rfl ⟨b81, rfl, rfl⟩
end Go.Proofs.Ytgdmfagmpfalbaa
namespace Go.Rf

structure NSz (n T K i : Nat) (s : Nd) : Prop where
  isid : s.id = i
  isn : s.n = n
  term : s.term ≤ T
  len : s.log.length ≤ T
  r : ∀ r, r ∈ s.log → 1 ≤ r.term ∧ r.term ≤ s.term ∧ r.bs.length ≤ K
  srt : s.log.Pairwise fun a b => a.term ≤ b.term
  com : s.commit ≤ s.log.length
  vote : s.vote ≤ n
  ldr : s.leader ≤ n
  votes : s.role = 2 → s.votes.length = n
  role : s.role = 1 ∨ s.role = 2 ∨ s.role = 3
  lead : ∀ nx mt, s.lead = some (nx, mt) → s.role = 3 ∧ nx.length = n ∧ mt.length = n ∧ (∀ m, m ∈ mt → m ≤ s.log.length) ∧ ∀ m, m ∈ nx → 1 ≤ m ∧ m ≤ s.log.length + 1
  nolead : s.lead = none → s.role ≠ 3
def XSz (T K term : Nat) : XM → Prop
  | .ask t k => t ≤ T ∧ k ≤ T
  | .take a lt c rs => a + rs.length ≤ T ∧ lt ≤ T ∧ c ≤ T ∧ (∀ r, r ∈ rs → 1 ≤ r.term ∧ lt ≤ r.term ∧ r.term ≤ term ∧ r.bs.length ≤ K) ∧ rs.Pairwise fun a b => a.term ≤ b.term
  | .took _ k => k ≤ T
  | _ => True
structure MSz (n T K : Nat) (m : Ms) : Prop where
  src : m.src < n
  dst : m.dst < n
  ne : m.src ≠ m.dst
  term : m.term ≤ T
  x : XSz T K m.term m.x

section
variable {g : Gh} {n T K : Nat} {nodes : List Nd} {bag : List Ms}
theorem Grp.good (h : Grp g n T K nodes bag) {l : List Rec} (hl : Good g l) : l.length ≤ T ∧ ∀ r, r ∈ l → r.bs.length ≤ K := by
  refine ⟨Nat.le_trans (hl.len h.gok) h.mT, fun r hr => ?_⟩
  obtain ⟨k, hk⟩ := List.getElem?_of_mem hr
  exact h.mK _ (hl.made h.gok k r hk)
theorem Grp.sz (h : Grp g n T K nodes bag) {i : Nat} {s : Nd} (e : nodes[i]? = some s) : NSz n T K i s := by
  obtain ⟨a, b, c⟩ := h.node i s e
  have hg := h.good a.good
  have hl := a.lead
  unfold LeadOK at hl
  refine ⟨a.isid, a.isn, c, hg.1, fun r hr => ⟨a.srt.2 r hr, a.top r hr, hg.2 r hr⟩, a.srt.1, a.com.1, a.voten, a.ldr, fun q => (a.cand q).2.2.1, a.role, fun nx mt q => ?_, fun q => ?_⟩
  · rw [q] at hl
    obtain ⟨l1, l2, l3, l4, l5, l6, l7⟩ := hl
    refine ⟨l1, l2, l3, fun m hm => ?_, fun m hm => ?_⟩
    · obtain ⟨j, hj⟩ := List.getElem?_of_mem hm; exact (l6 j m hj).2
    · obtain ⟨j, hj⟩ := List.getElem?_of_mem hm; exact l7 j m hj
  · rw [q] at hl; exact hl
theorem Grp.msz (h : Grp g n T K nodes bag) {m : Ms} (hm : m ∈ bag) : MSz n T K m := by
  obtain ⟨⟨a, b, c, d⟩, t⟩ := h.bag m hm
  refine ⟨a, b, c, t, ?_⟩
  cases e : m.x with
  | ask lt k =>
    rw [e] at d
    obtain ⟨d1, d2, d3⟩ := d
    obtain ⟨c1, c2, c3, c4⟩ := h.gok.clok _ _ d1
    refine ⟨?_, ?_⟩
    · rw [d2]; exact Nat.le_trans (lastT_le (t := m.term) fun r hr => Nat.le_of_lt (c4 r hr)) t
    · rw [d3]; exact (h.good c2).1
  | vote b => trivial
  | take a lt c rs =>
    rw [e] at d
    have d : TakeOK g n m.src m.term a lt c rs := d
    obtain ⟨L1, L2, L3⟩ := h.gok.L m.term
    have hL := h.good L1
    have hf := d.fits
    have hrs : ∀ r, r ∈ rs → ∃ j, a ≤ j ∧ (g.L m.term)[j]? = some r := by
      intro r hr
      obtain ⟨j, hj⟩ := List.getElem?_of_mem hr
      refine ⟨a + j, by omega, ?_⟩
      rw [d.isrs, List.getElem?_take] at hj
      split at hj
      · rw [List.getElem?_drop] at hj; exact hj
      · cases hj
    have hlt : ∀ r, r ∈ rs → lt ≤ r.term := by
      intro r hr
      obtain ⟨j, hj, ej⟩ := hrs r hr
      have := d.islt
      by_cases z : a = 0
      · rw [if_pos z] at this; omega
      · rw [if_neg z] at this
        cases q : (g.L m.term)[a - 1]? with
        | none => rw [q] at this; simp only [Option.elim] at this; omega
        | some x =>
          rw [q] at this
          have h2 := L2.get q ej (by omega)
          simp only [Option.elim] at this; omega
    refine ⟨by omega, ?_, by have := d.isc.1; omega, fun r hr => ?_, ?_⟩
    · have := d.islt
      by_cases z : a = 0
      · rw [if_pos z] at this; omega
      · rw [if_neg z] at this
        cases q : (g.L m.term)[a - 1]? with
        | none => rw [q] at this; simp only [Option.elim] at this; omega
        | some x =>
          rw [q] at this
          have h2 := L3 x (List.mem_of_getElem? q)
          simp only [Option.elim] at this; omega
    · obtain ⟨j, hj, ej⟩ := hrs r hr
      exact ⟨L2.pos ej, hlt r hr, L3 r (List.mem_of_getElem? ej), hL.2 r (List.mem_of_getElem? ej)⟩
    · rw [d.isrs]
      exact (L2.1.sublist (List.drop_sublist _ _)).sublist (List.take_sublist _ _)
  | took ok k => rw [e] at d; exact Nat.le_trans d.2 h.mT
  | older => trivial
variable {ldm : Nat → Option Nat} {row : List (List UInt8)} {pr : List UInt8 → Nat}
theorem Stat.sz (h : Stat n T K nodes bag ldm row pr) {i : Nat} {s : Nd} (e : nodes[i]? = some s) : NSz n T K i s := by
  obtain ⟨g, hg, _⟩ := h; exact hg.sz e
theorem Stat.msz (h : Stat n T K nodes bag ldm row pr) {m : Ms} (hm : m ∈ bag) : MSz n T K m := by
  obtain ⟨g, hg, _⟩ := h; exact hg.msz hm
theorem Stat.len (h : Stat n T K nodes bag ldm row pr) : nodes.length = n := by
  obtain ⟨g, hg, _⟩ := h; exact hg.len
end
end Go.Rf
namespace Go.Proofs.Ytgdmfagmpfalbaa
open Go.Proofs.Try
open Go.X
open Go.Rf (Rec XM Ms Nd lastT)
open Go.X.G (MapAt valRep)

def encU (n : Nat) : Value := .int .u64 n
def ptrV (p : Nat) : Value := .pointer (some ⟨p, 0, none⟩)
def nodeA (x : Nat × Nd) : Assn := NodeAt x.1 x.2
abbrev groupC (rp : Option Addr) (rc : Nat) (ps : List Nat) (bp : Option Addr) (bc : Nat) (mw : List MsgW) (lm : Nat) (wp : Option Addr) (wc : Nat) (pm : Nat) (row : List (List UInt8)) : List Value := [.slice rp ps.length rc, .slice bp mw.length bc, .map (some lm), .slice wp row.length wc, .map (some pm)]
abbrev groupL (g : Nat) (rp : Option Addr) (rc : Nat) (ps : List Nat) (bp : Option Addr) (bc : Nat) (mw : List MsgW) (lm : Nat) (wp : Option Addr) (wc : Nat) (pm : Nat) (nodes : List Nd) (LD : List (Nat × Nat)) (row : List (List UInt8)) (PR : List (ByteArray × Nat)) : List Assn :=
  [pt g (.cells (groupC rp rc ps bp bc mw lm wp wc pm row).toArray 35 (0, 0)), own 29 1 (.slice rp ps.length rc) (ps.map ptrV), star ((ps.zip nodes).map nodeA), own 53 3 (.slice bp mw.length bc) (mw.flatMap MsgW.cells), MapAt encU (valRep intV) lm LD, BssAt wp wc row, MapAt Value.string (valRep intV) pm PR]
def GroupIn (M : Assn) (g : Nat) (nodes : List Nd) (ms : List Ms) (LD : List (Nat × Nat)) (row : List (List UInt8)) (PR : List (ByteArray × Nat)) : Assn := fun h => ∃ (rp : Option Addr) (rc : Nat) (ps : List Nat) (bp : Option Addr) (bc : Nat) (mw : List MsgW) (lm : Nat) (wp : Option Addr) (wc : Nat) (pm : Nat),
  (ps.length = nodes.length ∧ mw.map MsgW.m = ms ∧ ∀ w, w ∈ mw → w.ok M) ∧ HSat h (groupL g rp rc ps bp bc mw lm wp wc pm nodes LD row PR)
def GroupAt (g : Nat) (nodes : List Nd) (ms : List Ms) (LD : List (Nat × Nat)) (row : List (List UInt8)) (PR : List (ByteArray × Nat)) : Assn := fun h => ∃ M : Assn, HSat h [GroupIn M g nodes ms LD row PR, M]
section
variable {g : Nat} {nodes : List Nd} {ms : List Ms} {LD : List (Nat × Nat)} {row : List (List UInt8)} {PR : List (ByteArray × Nat)} {M : Assn}
theorem GroupIn.shut {rp : Option Addr} {rc : Nat} {ps : List Nat} {bp : Option Addr} {bc : Nat} {mw : List MsgW} {lm : Nat} {wp : Option Addr} {wc : Nat} {pm : Nat} (h1 : ps.length = nodes.length) (h2 : mw.map MsgW.m = ms) (h3 : ∀ w, w ∈ mw → w.ok M) : ∀ h, HSat h (groupL g rp rc ps bp bc mw lm wp wc pm nodes LD row PR) → GroupIn M g nodes ms LD row PR h :=
  fun _ h => ⟨rp, rc, ps, bp, bc, mw, lm, wp, wc, pm, ⟨h1, h2, h3⟩, h⟩
theorem GroupAt.shut : ∀ h, HSat h [GroupIn M g nodes ms LD row PR, M] → GroupAt g nodes ms LD row PR h := fun _ h => ⟨M, h⟩
theorem openGroup {P : Program} {f : FuncId} {args : List Value} {R : Value → List Assn → Prop} {As : List Assn} (k : ∀ M, FSpec P f args ([GroupIn M g nodes ms LD row PR, M] ++ As) R) : FSpec P f args (GroupAt g nodes ms LD row PR :: As) R :=
  openHd (α := Assn) (p := fun _ => True) (Bs := fun M => [GroupIn M g nodes ms LD row PR, M]) (fun h ⟨M, hh⟩ => ⟨M, trivial, hh⟩) fun M _ => k M
theorem openGroupIn {P : Program} {f : FuncId} {args : List Value} {R : Value → List Assn → Prop} {As : List Assn} (k : ∀ rp rc ps bp bc mw lm wp wc pm, ps.length = nodes.length → mw.map MsgW.m = ms → (∀ w, w ∈ mw → w.ok M) → FSpec P f args (groupL g rp rc ps bp bc mw lm wp wc pm nodes LD row PR ++ As) R) : FSpec P f args (GroupIn M g nodes ms LD row PR :: As) R :=
  openHd (α := Option Addr × Nat × List Nat × Option Addr × Nat × List MsgW × Nat × Option Addr × Nat × Nat) (p := fun z => z.2.2.1.length = nodes.length ∧ z.2.2.2.2.2.1.map MsgW.m = ms ∧ ∀ w, w ∈ z.2.2.2.2.2.1 → w.ok M) (Bs := fun z => groupL g z.1 z.2.1 z.2.2.1 z.2.2.2.1 z.2.2.2.2.1 z.2.2.2.2.2.1 z.2.2.2.2.2.2.1 z.2.2.2.2.2.2.2.1 z.2.2.2.2.2.2.2.2.1 z.2.2.2.2.2.2.2.2.2 nodes LD row PR)
    (fun h ⟨rp, rc, ps, bp, bc, mw, lm, wp, wc, pm, e, hh⟩ => ⟨(rp, rc, ps, bp, bc, mw, lm, wp, wc, pm), e, hh⟩) fun z e => k _ _ _ _ _ _ _ _ _ _ e.1 e.2.1 e.2.2
theorem J.openGroup {W0 : World} {N : Nat} {L : Slots} {A D : List Assn} {G : Act → World → Prop} (g : Nat) (nodes : List Nd) (ms : List Ms) (LD : List (Nat × Nat)) (row : List (List UInt8)) (PR : List (ByteArray × Nat)) [h : PickO A (GroupAt g nodes ms LD row PR) D] (j : ∀ M, J W0 N L ([GroupIn M g nodes ms LD row PR, M] ++ D) G) : J W0 N L A G :=
  J.openI (α := Assn) (p := fun _ => True) (Bs := fun M => [GroupIn M g nodes ms LD row PR, M]) (GroupAt g nodes ms LD row PR) (fun h ⟨M, hh⟩ => ⟨M, trivial, hh⟩) fun M _ => j M
theorem J.openGroupIn {W0 : World} {N : Nat} {L : Slots} {A D : List Assn} {G : Act → World → Prop} (M : Assn) (g : Nat) (nodes : List Nd) (ms : List Ms) (LD : List (Nat × Nat)) (row : List (List UInt8)) (PR : List (ByteArray × Nat)) [h : PickO A (GroupIn M g nodes ms LD row PR) D]
    (j : ∀ rp rc ps bp bc mw lm wp wc pm, ps.length = nodes.length → mw.map MsgW.m = ms → (∀ w, w ∈ mw → w.ok M) → J W0 N L (groupL g rp rc ps bp bc mw lm wp wc pm nodes LD row PR ++ D) G) : J W0 N L A G :=
  J.openI (α := Option Addr × Nat × List Nat × Option Addr × Nat × List MsgW × Nat × Option Addr × Nat × Nat) (p := fun z => z.2.2.1.length = nodes.length ∧ z.2.2.2.2.2.1.map MsgW.m = ms ∧ ∀ w, w ∈ z.2.2.2.2.2.1 → w.ok M) (Bs := fun z => groupL g z.1 z.2.1 z.2.2.1 z.2.2.2.1 z.2.2.2.2.1 z.2.2.2.2.2.1 z.2.2.2.2.2.2.1 z.2.2.2.2.2.2.2.1 z.2.2.2.2.2.2.2.2.1 z.2.2.2.2.2.2.2.2.2 nodes LD row PR)
    (GroupIn M g nodes ms LD row PR) (fun h ⟨rp, rc, ps, bp, bc, mw, lm, wp, wc, pm, e, hh⟩ => ⟨(rp, rc, ps, bp, bc, mw, lm, wp, wc, pm), e, hh⟩) fun z e => j _ _ _ _ _ _ _ _ _ _ e.1 e.2.1 e.2.2
end

theorem zip_get {ps : List Nat} {nodes : List Nd} {i p : Nat} {s : Nd} (h1 : ps[i]? = some p) (h2 : nodes[i]? = some s) : (ps.zip nodes)[i]? = some (p, s) := by
  exact (List.getElem?_zip_eq_some (z := (p, s))).2 ⟨h1, h2⟩
theorem zip_set {ps : List Nat} {nodes : List Nd} {i p : Nat} {s : Nd} (h1 : ps[i]? = some p) : (ps.zip nodes).set i (p, s) = ps.zip (nodes.set i s) := by
  refine List.ext_getElem? fun j => ?_
  rw [List.getElem?_set]
  by_cases e : i = j
  · subst e
    rw [if_pos rfl]
    by_cases q : i < (ps.zip nodes).length
    · rw [if_pos q]
      have := List.length_zip (l₁ := ps) (l₂ := nodes)
      rw [(List.getElem?_zip_eq_some (z := (p, s))).2 ⟨h1, by rw [List.getElem?_set_self (by omega)]⟩]
    · rw [if_neg q, List.getElem?_eq_none]
      have := List.length_zip (l₁ := ps) (l₂ := nodes.set i s)
      have h2 := List.length_zip (l₁ := ps) (l₂ := nodes)
      rw [List.length_set] at this
      omega
  · rw [if_neg e]
    simp only [List.zip, List.getElem?_zipWith, List.getElem?_set, if_neg e]

theorem begun_spec (n : Nat) (h1 : 1 ≤ n) (h7 : n ≤ 7) : FSpec Try.prog 8 [.int .i64 n] [] (fun u B => ∃ g, u = .pointer (some ⟨g, 0, none⟩) ∧ B = [GroupAt g ((List.range n).map fun i => Nd.new i n) [] [] [] []]) := by
  refine FSpec.of func8 rfl ntmps8 rfl fun W0 F => ?_
  refine J.seq <| J.region <| J.p rfl (Q.asg rfl) <| J.nil <| J.then_n <| J.seq <| J.region ?_
  refine J.c rfl rfl C.mkMap ?_
  rintro _ _ ⟨b7, rfl, rfl⟩
  refine J.norm rfl ?_
  refine J.c rfl rfl C.mkMap ?_
  rintro _ _ ⟨b8, rfl, rfl⟩
  refine J.norm rfl <| J.p rfl (Q.bld (l := [.slice none 0 0, .slice none 0 0, .map (some b7), .slice none 0 0, .map (some b8)]) runUnderlying35 zeroValue35 places35 rfl (by kernel_rfl)) ?_
  refine J.c rfl rfl (C.box (l := [_, _, _, _, _]) rfl rfl) ?_
  rintro _ _ ⟨b10, rfl, rfl⟩
  refine J.norm rfl <| J.p rfl (Q.asg rfl) <| J.nil <| J.then_n <| J.seq <| J.seq <| J.region <| J.p rfl (Q.asg rfl) <| J.nil <| J.then_n <| J.block ?_
  refine J.convI (pt b7 (.map #[] 0)) (MapAt encU (valRep intV) b7 ([] : List (Nat × Nat))) X.G.MapAt.new ?_
  refine J.convI (pt b8 (.map #[] 0)) (MapAt Value.string (valRep intV) b8 ([] : List (ByteArray × Nat))) X.G.MapAt.new ?_
  refine J.give (own.nil 29 1 _) ?_
  refine J.give (X := star (([] : List (Nat × Nd)).map nodeA)) trivial ?_
  refine J.keepI [pt b10 (.cells [Value.slice none 0 0, .slice none 0 0, .map (some b7), .slice none 0 0, .map (some b8)].toArray 35 (0, 0)), own 29 1 (.slice none 0 0) [], star (([] : List (Nat × Nd)).map nodeA), MapAt encU (valRep intV) b7 ([] : List (Nat × Nat)), MapAt Value.string (valRep intV) b8 ([] : List (ByteArray × Nat)), F] ?_
  refine J.loop4 (fun (i : Nat) (ps : List Nat) (_ : Option Addr) (_ : Nat) => i ≤ n ∧ ps.length = i) (fun i _ _ _ => n - i) (fun i ps rp rc => [(0, .int .i64 (n : Nat)), (3, .pointer (some ⟨b10, 0, none⟩)), (4, .int .i64 (i : Nat))]) (fun i ps rp rc => [pt b10 (.cells [Value.slice rp ps.length rc, .slice none 0 0, .map (some b7), .slice none 0 0, .map (some b8)].toArray 35 (0, 0)), own 29 1 (.slice rp ps.length rc) (ps.map ptrV), star ((ps.zip ((List.range i).map fun i => Nd.new i n)).map nodeA), MapAt encU (valRep intV) b7 ([] : List (Nat × Nat)), MapAt Value.string (valRep intV) b8 ([] : List (ByteArray × Nat)), F]) 0 [] none 0 ⟨Nat.zero_le _, rfl⟩ ⟨rfl, rfl, rfl, trivial⟩ rfl fun i ps rp rc hi => ?_
  obtain ⟨hi, hpl⟩ := hi
  refine J.seq <| J.seq <| J.region <| J.m rfl <| J.m rfl <| J.p rfl (Q.lss rfl rfl) <| J.nil <| J.then_n ?_
  refine J.kases 13 rfl (fun hc13 => ?_) (fun hc13 => ?_)
  ·
   refine J.cond_t rfl <| J.cskip <| J.then_n <| J.seq <| J.block <| J.seq <| J.region <| J.m rfl <| J.m rfl <| J.p rfl (Q.bld (l := [.int .u64 0, .int .i64 0, .slice none 0 0]) runUnderlying64 zeroValue64 places64 rfl (by kernel_rfl)) ?_
   refine J.give (X := RecsAt none 0 []) RecsAt.nil ?_
   refine J.callI call24 (new_spec i n 0 0 none 0 [] h1 (by omega) (by omega) (Nat.zero_le _) (by decide) ⟨List.Pairwise.nil, fun x hx => by cases hx⟩) rfl rfl rfl ?_
   rintro _ _ ⟨p, rfl, rfl⟩
   refine J.norm rfl <| J.m rfl <| J.p rfl (Q.ext rfl rfl) <| J.p rfl (Q.ext rfl rfl) <| J.p rfl (Q.asg rfl) <| J.p rfl (Q.asg rfl) <| J.nil <| J.then_n <| J.seq <| J.seq <| J.region <| J.m rfl <| J.p rfl (Q.neq rfl rfl) <| J.m rfl ?_
   refine J.cases 25 rfl (fun hb25 => ?_) (fun hb25 => ?_)
   ·
    cases hb25
   replace hb25 := X.nm hb25
   refine J.m rfl <| J.p rfl (Q.eqlp runUnderlying29 rfl rfl) <| J.p rfl (Q.pick_f rfl rfl) <| J.nil <| J.then_n ?_
   refine J.cases 28 rfl (fun hc28 => ?_) (fun hc28 => ?_)
   ·
    cases hc28
   replace hc28 := X.nm hc28
   refine J.cond_f rfl <| J.cskip <| J.then_n <| J.region <| J.m rfl <| J.m rfl <| J.p rfl (Q.nil_ rfl) <| J.p rfl (Q.fa (n := 0) runUnderlying35 rfl rfl sizeOf30 rfl) ?_
   refine J.p rfl (Q.ldI isAgg30 rfl) ?_
   refine J.m rfl ?_
   refine J.c rfl rfl (C.bslG (l := [_]) runUnderlying30 sizeOf29 zeroValue29 (by decide) rfl rfl rfl rfl rfl) ?_
   rintro _ _ ⟨b35, rfl, rfl⟩
   refine J.norm rfl ?_
   refine J.c rfl rfl (C.appI runUnderlying30 runUnderlying30 typeInfo29 sizeOf29 zeroValue29 rfl rfl (SlR.ptI rfl) (by intro v hv; obtain rfl := List.mem_singleton.1 hv; rfl) (by simp [Try.t29] <;> omega) (by decide)) ?_
   rintro _ _ ⟨p36, c36, rfl, rfl⟩
   refine J.norm rfl <| J.p rfl (Q.nil_ rfl) <| J.p rfl (Q.fa (n := 0) runUnderlying35 rfl rfl sizeOf30 rfl) ?_
   refine J.stJ rfl sizeOf30 rfl rfl rfl ?_
   refine J.nil <| J.blk_n <| J.then_n <| J.region <| J.m rfl <| J.p rfl (Q.add64 rfl rfl (by omega)) <| J.p rfl (Q.asg rfl) <| J.nil ?_
   have e1 : ps.length + 1 = (ps ++ [p]).length := by simp
   have e2 : ps.map ptrV ++ [.pointer (some ⟨p, 0, none⟩)] = (ps ++ [p]).map ptrV := by rw [List.map_append]; rfl
   have e3 : (ps.zip ((List.range i).map fun i => Nd.new i n)) ++ [(p, Nd.new i n)] = (ps ++ [p]).zip ((List.range (i + 1)).map fun i => Nd.new i n) := by
    rw [List.range_succ, List.map_append, List.zip_append (by simp [hpl])]; rfl
   refine J.convI (NodeAt p ⟨i, n, 0, 0, [], 0, 1, 0, [], none⟩) (nodeA (p, Nd.new i n)) (fun _ h => h) ?_
   refine J.shutI [nodeA (p, Nd.new i n), star ((ps.zip ((List.range i).map fun i => Nd.new i n)).map nodeA)] (star (((ps.zip ((List.range i).map fun i => Nd.new i n)) ++ [(p, Nd.new i n)]).map nodeA)) (star_snoc _) ?_
   rw [e1, e2, e3]
   refine J.againI (i + 1, ps ++ [p], p36, c36) ⟨by show i + 1 ≤ n; omega, by show (ps ++ [p]).length = i + 1; rw [← e1, hpl]⟩ (by show n - (i + 1) < n - i; omega) ⟨rfl, rfl, rfl, trivial⟩
  refine J.cond_f rfl <| J.exit <| J.then_x <| J.lp_x <| J.blk_x <| J.then_n <| J.seq <| J.region <| J.m rfl <| J.p rfl (Q.asg rfl) <| J.nil <| J.then_n <| J.cret ?_
  have hin : i = n := by omega
  subst hin
  refine J.give (X := own 53 3 (.slice none ([] : List MsgW).length 0) (([] : List MsgW).flatMap MsgW.cells)) (own.nil _ _ _) ?_
  refine J.convPt b10 (.cells (groupC rp rc ps none 0 [] b7 none 0 b8 []).toArray 35 (0, 0)) rfl ?_
  refine J.give (X := BssAt none 0 []) BssAt.nil ?_
  refine J.give (X := fact True) trivial ?_
  refine J.shutI (groupL b10 rp rc ps none 0 [] b7 none 0 b8 ((List.range i).map fun k => Nd.new k i) [] [] []) (GroupIn (fact True) b10 ((List.range i).map fun k => Nd.new k i) [] [] [] []) (GroupIn.shut (by rw [hpl]; simp) rfl (fun w hw => by cases hw)) ?_
  refine J.shutI [GroupIn (fact True) b10 ((List.range i).map fun k => Nd.new k i) [] [] [] [], fact True] (GroupAt b10 ((List.range i).map fun k => Nd.new k i) [] [] [] []) GroupAt.shut ?_
  refine J.ret1I [GroupAt b10 ((List.range i).map fun k => Nd.new k i) [] [] [] []] rfl rfl ⟨b10, rfl, rfl⟩

def addBag (ms out : List Ms) : List Ms := out.foldl (fun b m => if b.length < 300 then b ++ [m] else b) ms
theorem addBag_mem : ∀ (out ms : List Ms) (m : Ms), m ∈ addBag ms out → m ∈ ms ∨ m ∈ out
  | [], ms, m, h => .inl h
  | x :: out, ms, m, h => by
    have h : m ∈ addBag (if ms.length < 300 then ms ++ [x] else ms) out := h
    rcases addBag_mem out _ m h with q | q
    · split at q
      · rcases List.mem_append.1 q with y | y
        · exact .inl y
        · simp at y; subst y; exact .inr List.mem_cons_self
      · exact .inl q
    · exact .inr (List.mem_cons_of_mem _ q)
theorem addBag_snoc (ms out : List Ms) (m : Ms) : addBag ms (out ++ [m]) = if (addBag ms out).length < 300 then addBag ms out ++ [m] else addBag ms out := by
  unfold addBag; rw [List.foldl_append]; rfl
theorem addBag_len : ∀ (out ms : List Ms), (addBag ms out).length ≤ max ms.length 300
  | [], ms => Nat.le_max_left _ _
  | x :: out, ms => by
    have h := addBag_len out (if ms.length < 300 then ms ++ [x] else ms)
    have e : addBag ms (x :: out) = addBag (if ms.length < 300 then ms ++ [x] else ms) out := rfl
    rw [e]
    split at h
    · rename_i q; rw [if_pos q]; simp at h ⊢; omega
    · rename_i q; rw [if_neg q]; exact h

section
variable (g : Nat) (nodes : List Nd) (ms : List Ms) (LD : List (Nat × Nat)) (row : List (List UInt8)) (PR : List (ByteArray × Nat))
theorem gsend_spec (src : Nat) (q : Option Addr) (d : Nat) (out : List Ms) (ho : ∀ m, m ∈ out → m.src = src ∧ m.dst < nodes.length ∧ m.dst ≠ src) (hl : out.length ≤ 1048576) (hb : ms.length ≤ 1048576) :
    FSpec Try.prog 9 [.pointer (some ⟨g, 0, none⟩), .int .i64 src, .slice q out.length d] [GroupAt g nodes ms LD row PR, MsgsAt q d out] (fun u B => u = .bool true ∧ B = [GroupAt g nodes (addBag ms out) LD row PR]) := by
  refine openGroup fun M => ?_
  refine openGroupIn fun rp rc ps bp bc mw lm wp wc pm hps hmw hok => ?_
  refine FSpec.of func9 rfl ntmps9 rfl fun W0 F => ?_
  refine J.norm rfl ?_
  refine J.openI (MsgsAt q d out) (fun _ h => h) fun z hz => ?_
  refine J.norm rfl ?_
  have hzl : z.1.length = out.length := by rw [← hz.1, List.length_map]
  refine J.slrI (E0 := 53) (sz := 3) (p := q) (n := out.length) (c := d) (xs := z.1.flatMap MsgW.cells) fun hsl => ?_
  refine J.shutI [M, z.2] (star [M, z.2]) (fun _ h => h) ?_
  obtain ⟨MM, hMM⟩ : ∃ MM, MM = star [M, z.2] := ⟨_, rfl⟩
  have hzok : ∀ w, w ∈ z.1 → w.ok MM := fun w hw => by rw [hMM]; exact (hz.2 w hw).mono star_snd
  have hmok : ∀ w, w ∈ mw → w.ok MM := fun w hw => by rw [hMM]; exact (hok w hw).mono star_fst
  rw [← hMM]
  refine J.seq <| J.region <| J.p rfl (Q.asg rfl) <| J.nil <| J.then_n <| J.seq <| J.seq <| J.region <| J.p rfl (Q.asg rfl) <| J.nil <| J.then_n <| J.block ?_
  refine J.keepI [pt g (.cells (groupC rp rc ps bp bc mw lm wp wc pm row).toArray 35 (0, 0)), own 53 3 (.slice q out.length d) (z.1.flatMap MsgW.cells), own 29 1 (.slice rp ps.length rc) (ps.map ptrV), star ((ps.zip nodes).map nodeA), own 53 3 (.slice bp mw.length bc) (mw.flatMap MsgW.cells), MapAt encU (valRep intV) lm LD, BssAt wp wc row, MapAt Value.string (valRep intV) pm PR, MM, F] ?_
  refine J.loop4 (fun (i : Nat) (mw : List MsgW) (_ : Option Addr) (_ : Nat) => i ≤ out.length ∧ mw.map MsgW.m = addBag ms (out.take i) ∧ ∀ w, w ∈ mw → w.ok MM) (fun i _ _ _ => out.length - i) (fun i mw bp bc => [(0, .pointer (some ⟨g, 0, none⟩)), (1, .int .i64 (src : Nat)), (2, .slice q out.length d), (7, .int .i64 (i : Nat))]) (fun i mw bp bc => [pt g (.cells (groupC rp rc ps bp bc mw lm wp wc pm row).toArray 35 (0, 0)), own 53 3 (.slice q out.length d) (z.1.flatMap MsgW.cells), own 29 1 (.slice rp ps.length rc) (ps.map ptrV), star ((ps.zip nodes).map nodeA), own 53 3 (.slice bp mw.length bc) (mw.flatMap MsgW.cells), MapAt encU (valRep intV) lm LD, BssAt wp wc row, MapAt Value.string (valRep intV) pm PR, MM, F])
   0 mw bp bc ⟨Nat.zero_le _, hmw, hmok⟩ ⟨rfl, rfl, rfl, rfl, trivial⟩ rfl fun i mw bp bc hi => ?_
  obtain ⟨hi, hmw, hmok⟩ := hi
  refine J.seq <| J.seq <| J.region <| J.m rfl <| J.m rfl <| J.p rfl (Q.lenSl runUnderlying28 rfl) <| J.p rfl (Q.lss rfl rfl) <| J.nil <| J.then_n ?_
  refine J.kases 11 rfl (fun hc11 => ?_) (fun hc11 => ?_)
  ·
   refine J.cond_t rfl <| J.cskip <| J.then_n <| J.seq <| J.block <| J.seq <| J.seq ?_
   obtain ⟨b, off, hqb, hrd⟩ := hsl.some_ (by omega)
   obtain ⟨w, hw⟩ : ∃ w, z.1[i]? = some w := ⟨_, List.getElem?_eq_getElem (by omega)⟩
   have hwo : out[i]? = some w.m := by rw [← hz.1, List.getElem?_map, hw]; rfl
   have hwm := ho w.m (List.mem_of_getElem? hwo)
   have hab := addBag_snoc ms (out.take i) w.m
   rw [← Rf.take_more hwo, ← hmw, List.length_map] at hab
   refine J.slot 2 (.slice (some ⟨b, off, none⟩) out.length d) rfl (by rw [hqb]) ?_
   refine J.draw [] Try.mixed (by kernel_rfl) fun hR => ?_
   refine RG.p 0 hR rfl (Q.mv rfl) <| RG.p 1 hR rfl (Q.mv rfl) <| RG.p 2 hR rfl (Q.ia runUnderlying28 sizeOf53 rfl rfl (by omega) (by omega)) <| RG.p 3 hR rfl (Q.fa (n := 0) runUnderlying53 rfl rfl sizeOf3 rfl) <| RG.p 4 hR rfl (Q.ld isAgg3 rfl ((rd_field MsgW.len hrd hw (k := 0) (u := .int .i64 w.m.src) rfl (by omega)).inI)) ?_
   refine RG.p 5 hR rfl (Q.mv rfl) <| RG.p 6 hR rfl (Q.neq rfl rfl) <| RG.p 7 hR rfl (Q.mv rfl) ?_
   refine RG.cases 21 rfl (fun hb21 => ?_) (fun hb21 => ?_)
   ·
    replace hb21 := X.nm hb21; exfalso; omega
   replace hb21 := X.nm hb21
   refine RG.p 8 hR rfl (Q.mv rfl) <| RG.p 9 hR rfl (Q.mv rfl) <| RG.p 10 hR rfl (Q.ia runUnderlying28 sizeOf53 rfl rfl (by omega) (by omega)) <| RG.p 11 hR rfl (Q.fa (n := 1) runUnderlying53 rfl rfl sizeOf3 rfl) <| RG.p 12 hR rfl (Q.ld isAgg3 rfl ((rd_field MsgW.len hrd hw (k := 1) (u := .int .i64 w.m.dst) rfl (by omega)).inI)) ?_
   refine RG.p 13 hR rfl (Q.lss rfl rfl) <| RG.p 14 hR rfl (Q.pick_f rfl rfl) <| RG.p 15 hR rfl (Q.mv rfl) ?_
   refine RG.cases 29 rfl (fun hb29 => ?_) (fun hb29 => ?_)
   ·
    replace hb29 := X.nm hb29; exfalso; omega
   replace hb29 := X.nm hb29
   refine RG.p 16 hR rfl (Q.mv rfl) <| RG.p 17 hR rfl (Q.mv rfl) <| RG.p 18 hR rfl (Q.ia runUnderlying28 sizeOf53 rfl rfl (by omega) (by omega)) <| RG.p 19 hR rfl (Q.fa (n := 1) runUnderlying53 rfl rfl sizeOf3 rfl) <| RG.p 20 hR rfl (Q.ld isAgg3 rfl ((rd_field MsgW.len hrd hw (k := 1) (u := .int .i64 w.m.dst) rfl (by omega)).inI)) ?_
   refine RG.p 21 hR rfl (Q.mv rfl) <| RG.p 22 hR rfl (Q.nil_ rfl) <| RG.p 23 hR rfl (Q.fa (n := 0) runUnderlying35 rfl rfl sizeOf30 rfl) ?_
   refine RG.p 24 hR rfl (Q.ldI isAgg30 rfl) ?_
   refine RG.p 25 hR rfl (Q.lenSl runUnderlying30 rfl) <| RG.p 26 hR rfl (Q.geq rfl rfl) <| RG.p 27 hR rfl (Q.pick_f rfl rfl) <| RG.p 28 hR rfl (Q.mv rfl) ?_
   refine RG.cases 42 rfl (fun hb42 => ?_) (fun hb42 => ?_)
   ·
    replace hb42 := X.nm hb42; exfalso; omega
   replace hb42 := X.nm hb42
   refine RG.p 29 hR rfl (Q.mv rfl) <| RG.p 30 hR rfl (Q.mv rfl) <| RG.p 31 hR rfl (Q.ia runUnderlying28 sizeOf53 rfl rfl (by omega) (by omega)) <| RG.p 32 hR rfl (Q.fa (n := 1) runUnderlying53 rfl rfl sizeOf3 rfl) <| RG.p 33 hR rfl (Q.ld isAgg3 rfl ((rd_field MsgW.len hrd hw (k := 1) (u := .int .i64 w.m.dst) rfl (by omega)).inI)) ?_
   refine RG.p 34 hR rfl (Q.mv rfl) <| RG.p 35 hR rfl (Q.eql rfl rfl) <| RG.p 36 hR rfl (Q.pick_f rfl rfl) ?_
   refine RG.fin hR rfl ?_
   refine J.norm rfl <| J.then_n ?_
   refine J.cases 50 rfl (fun hc50 => ?_) (fun hc50 => ?_)
   ·
    replace hc50 := X.nm hc50; exfalso; omega
   replace hc50 := X.nm hc50
   refine J.cond_f rfl <| J.cskip <| J.then_n <| J.seq <| J.region <| J.m rfl <| J.p rfl (Q.nil_ rfl) <| J.p rfl (Q.fa (n := 1) runUnderlying35 rfl rfl sizeOf28 rfl) ?_
   refine J.p rfl (Q.ldI isAgg28 rfl) ?_
   refine J.p rfl (Q.lenSl runUnderlying28 rfl) <| J.p rfl (Q.lss rfl rfl) <| J.nil <| J.then_n ?_
   refine J.kases 56 rfl (fun hc56 => ?_) (fun hc56 => ?_)
   ·
    refine J.cond_t rfl ?_
    refine J.pickI [pt g (.cells (groupC rp rc ps bp bc mw lm wp wc pm row).toArray 35 (0, 0)), own 53 3 (.slice q out.length d) (z.1.flatMap MsgW.cells)] ?_
    refine J.norm rfl ?_
    refine J.drawE [9, 10, 13] 2 Try.mixed (by kernel_rfl) rfl rfl fun hR => ?_
    refine RG.p 0 hR rfl (Q.mv rfl) <| RG.p 1 hR rfl (Q.mv rfl) <| RG.p 2 hR rfl (Q.nil_ rfl) <| RG.p 3 hR rfl (Q.fa (n := 1) runUnderlying35 rfl rfl sizeOf28 rfl) ?_
    refine RG.p 4 hR rfl (Q.ldI isAgg28 rfl) ?_
    refine RG.p 5 hR rfl (Q.mv rfl) <| RG.p 6 hR rfl (Q.mv rfl) <| RG.p 7 hR rfl (Q.ia runUnderlying28 sizeOf53 rfl rfl (by omega) (by omega)) <| RG.p 8 hR rfl (Q.ldN (vs := [_, _, _]) isAgg53 sizeOf53 rfl ((rd_elem MsgW.len hrd hw (by simp)).inI)) ?_
    refine RG.made 9 hR rfl rfl rfl rfl rfl (C.bslG (l := [_, _, _]) runUnderlying28 sizeOf53 zeroValue53 (by decide) rfl rfl rfl rfl rfl) ?_
    rintro b66
    refine RG.many hR 10 [] rfl ⟨?_, trivial⟩
    ·
     refine RGi.appI rfl rfl rfl rfl runUnderlying28 runUnderlying28 typeInfo53 sizeOf53 zeroValue53 rfl rfl (SlR.ptI rfl) (MsgW.one w) (by simp [Try.t53] <;> omega) (by decide) ?_
     rintro p67 c67
     refine RG.normE rfl <| RG.p 11 hR rfl (Q.nil_ rfl) <| RG.p 12 hR rfl (Q.fa (n := 1) runUnderlying35 rfl rfl sizeOf28 rfl) ?_
     refine RG.stI 13 hR rfl rfl rfl rfl rfl sizeOf28 rfl rfl rfl (by exact rfl) (by exact rfl) (by exact rfl) ?_
     refine RG.fin hR rfl ?_
     refine J.norm rfl <| J.blk_n <| J.then_n <| J.region <| J.m rfl <| J.p rfl (Q.add64 rfl rfl (by omega)) <| J.p rfl (Q.asg rfl) <| J.nil ?_
     rw [if_pos (by omega)] at hab
     have e1 : (mw ++ [w]).length = mw.length + 1 := by simp
     have e2 : mw.flatMap MsgW.cells ++ w.cells = (mw ++ [w]).flatMap MsgW.cells := by simp
     refine J.convPt g (.cells (groupC rp rc ps p67 c67 (mw ++ [w]) lm wp wc pm row).toArray 35 (0, 0)) (by unfold groupC; rw [e1]) ?_
     rw [e2, ← e1]
     refine J.againI (i + 1, mw ++ [w], p67, c67) ⟨by show i + 1 ≤ out.length; omega, by show (mw ++ [w]).map MsgW.m = _; rw [hab, List.map_append]; rfl, fun x hx => (List.mem_append.1 hx).elim (hmok x) (fun y => by obtain rfl := List.mem_singleton.1 y; exact hzok _ (List.mem_of_getElem? hw))⟩ (by show out.length - (i + 1) < out.length - i; omega) ⟨rfl, rfl, (by show _ = some (Value.slice q out.length d); rw [hqb]; rfl), rfl, trivial⟩
   refine J.cond_f rfl <| J.cskip <| J.blk_n <| J.then_n <| J.region <| J.m rfl <| J.p rfl (Q.add64 rfl rfl (by omega)) <| J.p rfl (Q.asg rfl) <| J.nil ?_
   rw [if_neg (by omega)] at hab
   refine J.againI (i + 1, mw, bp, bc) ⟨by show i + 1 ≤ out.length; omega, by show mw.map MsgW.m = _; rw [hab], hmok⟩ (by show out.length - (i + 1) < out.length - i; omega) ⟨rfl, rfl, (by show _ = some (Value.slice q out.length d); rw [hqb]; rfl), rfl, trivial⟩
  refine J.cond_f rfl <| J.exit <| J.then_x <| J.lp_x <| J.blk_x <| J.then_n <| J.seq <| J.region <| J.p rfl (Q.asg rfl) <| J.nil <| J.then_n <| J.cret ?_
  have hin : out.take i = out := List.take_of_length_le (by omega)
  rw [hin] at hmw
  refine J.shutI (groupL g rp rc ps bp bc mw lm wp wc pm nodes LD row PR) (GroupIn MM g nodes (addBag ms out) LD row PR) (GroupIn.shut hps hmw hmok) ?_
  refine J.shutI [GroupIn MM g nodes (addBag ms out) LD row PR, MM] (GroupAt g nodes (addBag ms out) LD row PR) GroupAt.shut ?_
  refine J.ret1I [GroupAt g nodes (addBag ms out) LD row PR] rfl rfl ⟨rfl, rfl⟩

theorem gtake_spec (k : Nat) (m : Ms) (hk : ms[k]? = some m) (hb : ms.length ≤ 1048576) :
    FSpec Try.prog 20 [.pointer (some ⟨g, 0, none⟩), .int .i64 k] [GroupAt g nodes ms LD row PR] (fun u B => ∃ (M : Assn) (w : MsgW), w.m = m ∧ w.ok M ∧ u = .agg w.cells.toArray ∧ B = [GroupIn M g nodes (ms.eraseIdx k) LD row PR, M]) := by
  refine openGroup fun M => ?_
  refine openGroupIn fun rp rc ps bp bc mw lm wp wc pm hps hmw hok => ?_
  have hml : mw.length = ms.length := by rw [← hmw, List.length_map]
  have hkl := Rf.get_lt hk
  obtain ⟨w, hw⟩ : ∃ w, mw[k]? = some w := ⟨_, List.getElem?_eq_getElem (by omega)⟩
  have hwm : w.m = m := by rw [← hmw, List.getElem?_map, hw] at hk; exact Option.some.inj hk
  refine FSpec.of func20 rfl ntmps20 rfl fun W0 F => ?_
  refine J.norm rfl ?_
  refine J.slrI (E0 := 53) (sz := 3) (p := bp) (n := mw.length) (c := bc) (xs := mw.flatMap MsgW.cells) fun hsl => ?_
  refine J.tellsI (own 53 3 (.slice bp mw.length bc) (mw.flatMap MsgW.cells)) own.len fun hlc => ?_
  obtain ⟨b, off, rfl, hrd⟩ := hsl.some_ (by omega)
  obtain ⟨hq20, hr20⟩ := slH_ (P := Try.prog) (T := 28) runUnderlying28 sizeOf53 hsl (hi := k) (by omega) hlc.2
  obtain ⟨p28, c28, hq28, hr28⟩ := slL_ (P := Try.prog) (T := 28) runUnderlying28 sizeOf53 hsl (lo := k + 1) (by omega) hlc.2
  refine J.seq <| J.region ?_
  refine J.c rfl rfl (C.alloc (l := [_, _, _]) zeroValue53 rfl) ?_
  rintro _ _ ⟨b4, rfl, rfl⟩
  refine J.norm rfl <| J.nil <| J.then_n <| J.seq <| J.region <| J.m rfl <| J.p rfl (Q.nil_ rfl) <| J.p rfl (Q.fa (n := 1) runUnderlying35 rfl rfl sizeOf28 rfl) ?_
  refine J.p rfl (Q.ldI isAgg28 rfl) ?_
  refine J.m rfl <| J.p rfl (Q.ia runUnderlying28 sizeOf53 rfl rfl (by omega) (by omega)) <| J.p rfl (Q.ldN (vs := [_, _, _]) isAgg53 sizeOf53 rfl ((rd_elem MsgW.len hrd hw (by simp)).inI)) ?_
  refine J.c rfl rfl (C.alloc (l := [_, _, _]) zeroValue53 rfl) ?_
  rintro _ _ ⟨b5, rfl, rfl⟩
  refine J.norm rfl ?_
  refine J.stAJ (vs := [_, _, _]) rfl sizeOf53 rfl rfl ?_
  refine J.nil <| J.then_n <| J.seq ?_
  refine J.pickI [pt g (.cells (groupC rp rc ps (some ⟨b, off, none⟩) bc mw lm wp wc pm row).toArray 35 (0, 0)), own 53 3 (.slice (some ⟨b, off, none⟩) mw.length bc) (mw.flatMap MsgW.cells)] ?_
  refine J.norm rfl ?_
  refine J.drawE [1, 8, 16, 19] 2 Try.mixed (by kernel_rfl) rfl rfl fun hR => ?_
  refine RG.p 0 hR rfl (Q.mv rfl) <| RG.p 2 hR rfl (Q.mv rfl) <| RG.p 3 hR rfl (Q.nil_ rfl) <| RG.p 4 hR rfl (Q.fa (n := 1) runUnderlying35 rfl rfl sizeOf28 rfl) ?_
  refine RG.p 5 hR rfl (Q.ldI isAgg28 rfl) ?_
  refine RG.p 6 hR rfl (Q.mv rfl) ?_
  refine RG.p 7 hR rfl (hq20 _ _ _ _ _ _ rfl rfl) ?_
  refine RG.p 9 hR rfl (Q.mv rfl) <| RG.p 10 hR rfl (Q.nil_ rfl) <| RG.p 11 hR rfl (Q.fa (n := 1) runUnderlying35 rfl rfl sizeOf28 rfl) ?_
  refine RG.p 12 hR rfl (Q.ldI isAgg28 rfl) ?_
  refine RG.p 13 hR rfl (Q.mv rfl) <| RG.p 14 hR rfl (Q.add64 rfl rfl (by omega)) ?_
  refine RG.slot 27 (.int .i64 ((k + 1 : Nat) : Int)) rfl rfl ?_
  refine RG.p 15 hR rfl (hq28 _ _ _ _ _ _ rfl rfl) ?_
  refine RG.made 1 hR rfl rfl rfl rfl rfl (C.bslG (l := []) runUnderlying28 sizeOf53 zeroValue53 (by decide) rfl rfl rfl rfl rfl) ?_
  rintro b14
  refine RG.many hR 8 [] rfl ⟨?_, trivial⟩
  ·
   refine RGi.appI rfl rfl rfl rfl runUnderlying28 runUnderlying28 typeInfo53 sizeOf53 zeroValue53 rfl rfl (hr20.inI) (take_one (flat_one MsgW.one)) (by simp [Try.t53] <;> omega) (by decide) ?_
   rintro p21 c21
   refine RG.normE rfl ?_
   refine RG.many hR 16 [] rfl ⟨?_, trivial⟩
   ·
    refine RGi.appI rfl rfl rfl rfl runUnderlying28 runUnderlying28 typeInfo53 sizeOf53 zeroValue53 rfl rfl (hr28.inI) (drop_one (flat_one MsgW.one)) (by simp [Try.t53] <;> omega) (by decide) ?_
    rintro p29 c29
    refine RG.normE rfl <| RG.p 17 hR rfl (Q.nil_ rfl) <| RG.p 18 hR rfl (Q.fa (n := 1) runUnderlying35 rfl rfl sizeOf28 rfl) ?_
    refine RG.stI 19 hR rfl rfl rfl rfl rfl sizeOf28 rfl rfl rfl (by exact rfl) (by exact rfl) (by exact rfl) ?_
    refine RG.fin hR rfl ?_
    refine J.norm rfl <| J.then_n <| J.seq <| J.region ?_
    refine J.p rfl (Q.ldN (vs := [_, _, _]) isAgg53 sizeOf53 rfl rnI) ?_
    refine J.stAJ (vs := [_, _, _]) rfl sizeOf53 rfl rfl ?_
    refine J.nil <| J.then_n <| J.cret ?_
    have e0 : mw.eraseIdx k = mw.take k ++ mw.drop (k + 1) := List.eraseIdx_eq_take_drop_succ ..
    have e1 : 0 + k + (mw.length - (k + 1)) = (mw.eraseIdx k).length := by rw [e0, List.length_append, List.length_take, List.length_drop]; omega
    have e2 : [] ++ (mw.flatMap MsgW.cells).take (k * 3) ++ (mw.flatMap MsgW.cells).drop ((k + 1) * 3) = (mw.eraseIdx k).flatMap MsgW.cells := by
     rw [e0, List.flatMap_append, ← flat_take MsgW.len, ← flat_drop MsgW.len]; rfl
    have e3 : (mw.eraseIdx k).map MsgW.m = ms.eraseIdx k := by rw [← hmw]; simp [List.eraseIdx_eq_take_drop_succ, List.map_take, List.map_drop]
    have hok2 : ∀ x, x ∈ mw.eraseIdx k → x.ok M := fun x hx => hok x (List.mem_of_mem_eraseIdx hx)
    refine J.convPt g (.cells (groupC rp rc ps p29 c29 (mw.eraseIdx k) lm wp wc pm row).toArray 35 (0, 0)) (by unfold groupC; rw [← e1]) ?_
    rw [e1, e2]
    refine J.shutI (groupL g rp rc ps p29 c29 (mw.eraseIdx k) lm wp wc pm nodes LD row PR) (GroupIn M g nodes (ms.eraseIdx k) LD row PR) (GroupIn.shut hps e3 hok2) ?_
    refine J.retCI [GroupIn M g nodes (ms.eraseIdx k) LD row PR, M] (vs := w.cells) rfl rfl isAgg53 sizeOf53 rnI ⟨M, w, hwm, hok w (List.mem_of_getElem? hw), rfl, rfl⟩
end

def placeN (z : Int) (m : Nat) : Nat := (z % (m : Int)).toNat
theorem placeN_lt {z : Int} {m : Nat} (h : 1 ≤ m) : placeN z m < m := by
  unfold placeN
  have h1 := Int.emod_nonneg z (show (m : Int) ≠ 0 by omega)
  have h2 := Int.emod_lt_of_pos z (show (0 : Int) < m by omega)
  omega
theorem tmod_bd (z : Int) {m : Nat} (h : 1 ≤ m) : -(m : Int) < z.tmod m ∧ z.tmod m < m ∧ (z.tmod m < 0 → (placeN z m : Int) = z.tmod m + m) ∧ (¬ z.tmod m < 0 → (placeN z m : Int) = z.tmod m) := by
  unfold placeN
  have h1 := Int.emod_nonneg z (show (m : Int) ≠ 0 by omega)
  have h2 := Int.emod_lt_of_pos z (show (0 : Int) < m by omega)
  have h3 : (m : Int).natAbs = m := by omega
  have e := Int.tmod_eq_emod (a := z) (b := (m : Int))
  rw [h3] at e
  split at e <;> omega
theorem place_spec (z : Int) (m : Nat) (h1 : 1 ≤ m) (h2 : m ≤ 1048576) : FSpec Try.prog 7 [.int .i64 z, .int .i64 m] [] (fun u B => u = .int .i64 (placeN z m : Nat) ∧ B = []) := by
  obtain ⟨t1, t2, t3, t4⟩ := tmod_bd z h1
  refine FSpec.of func7 rfl ntmps7 rfl fun W0 F => ?_
  refine J.seq <| J.region <| J.p rfl (Q.asg rfl) <| J.nil <| J.then_n <| J.seq <| J.region <| J.m rfl <| J.m rfl <| J.p rfl (Q.rem rfl rfl (by omega)) <| J.p rfl (Q.asg rfl) <| J.nil <| J.then_n <| J.seq <| J.seq <| J.region <| J.m rfl <| J.p rfl (Q.lss rfl rfl) <| J.nil <| J.then_n ?_
  refine J.kases 9 rfl (fun hc9 => ?_) (fun hc9 => ?_)
  ·
   refine J.cond_t rfl <| J.region <| J.m rfl <| J.m rfl <| J.p rfl (Q.add64 rfl rfl (by omega)) <| J.p rfl (Q.asg rfl) <| J.nil <| J.then_n <| J.seq <| J.region <| J.m rfl <| J.p rfl (Q.asg rfl) <| J.nil <| J.then_n <| J.cret ?_
   first
    | (have e := t3 (by omega)
       refine J.slot 4 (.int .i64 (placeN z m : Nat)) rfl (by rw [e]) ?_
       refine J.ret1I [] rfl rfl ⟨rfl, rfl⟩)
    | (have e := t4 (by omega)
       refine J.slot 4 (.int .i64 (placeN z m : Nat)) rfl (by rw [e]) ?_
       refine J.ret1I [] rfl rfl ⟨rfl, rfl⟩)
  refine J.cond_f rfl <| J.cskip <| J.then_n <| J.seq <| J.region <| J.m rfl <| J.p rfl (Q.asg rfl) <| J.nil <| J.then_n <| J.cret ?_
  first
   | (have e := t3 (by omega)
      refine J.slot 4 (.int .i64 (placeN z m : Nat)) rfl (by rw [e]) ?_
      refine J.ret1I [] rfl rfl ⟨rfl, rfl⟩)
   | (have e := t4 (by omega)
      refine J.slot 4 (.int .i64 (placeN z m : Nat)) rfl (by rw [e]) ?_
      refine J.ret1I [] rfl rfl ⟨rfl, rfl⟩)

end Go.Proofs.Ytgdmfagmpfalbaa
namespace Go.Proofs.Ytgdmfagmpfalbaa
open Go.Proofs.Try
open Go.X
open Go.Rf (Rec XM Ms Nd lastT)

def kn1 : Nd := (Nd.new 0 1).elect.1
theorem kn1_lead : kn1.lead = some ([1], [1]) := rfl
def kn2 : Nd := kn1.add [1] [1] [120]
theorem NFit.new {i n : Nat} (h : i < n) (h9 : n ≤ 9) : NFit (Nd.new i n) := ⟨h9, h, Nat.zero_le _, Nat.zero_le _, Nat.zero_le _, Nat.zero_le _, Nat.zero_le _, fun e => (by cases e), fun nx mt e => (by cases e)⟩
theorem kn1_fit : NFit kn1 := ⟨by decide, by decide, by decide, by decide, by decide, by decide, by decide, fun e => (by cases e), fun nx mt e => by
  rw [kn1_lead] at e
  simp only [Option.some.injEq, Prod.mk.injEq] at e
  obtain ⟨rfl, rfl⟩ := e
  exact ⟨rfl, rfl, by decide, by decide⟩⟩
theorem kn2_ents : entsFrom kn2 1 kn2.commit = [[], [120]] := rfl

theorem known_spec : FSpec Try.prog 6 [] [] (fun u B => u = .bool true ∧ B = []) := by
  refine FSpec.of func6 rfl ntmps6 rfl fun W0 F => ?_
  refine J.seq <| J.region <| J.p rfl (Q.asg rfl) <| J.nil <| J.then_n <| J.seq <| J.region <| J.p rfl (Q.bld (l := [.int .u64 0, .int .i64 0, .slice none 0 0]) runUnderlying64 zeroValue64 places64 rfl (by kernel_rfl)) ?_
  refine J.give (X := RecsAt none 0 []) RecsAt.nil ?_
  refine J.callI call24 (new_spec 0 1 0 0 none 0 [] (by decide) (by decide) (by decide) (by decide) (by decide) ⟨List.Pairwise.nil, fun x hx => by cases hx⟩) rfl rfl rfl ?_
  rintro _ _ ⟨p, rfl, rfl⟩
  refine J.norm rfl ?_
  refine J.convI (NodeAt p ⟨0, 1, 0, 0, [], 0, 1, 0, [], none⟩) (NodeAt p (Nd.new 0 1)) (fun _ h => h) ?_
  refine J.m rfl <| J.p rfl (Q.ext rfl rfl) <| J.p rfl (Q.ext rfl rfl) <| J.p rfl (Q.asg rfl) <| J.p rfl (Q.asg rfl) <| J.nil <| J.then_n <| J.seq <| J.seq <| J.region <| J.m rfl <| J.p rfl (Q.neq rfl rfl) <| J.m rfl ?_
  refine J.cases 16 rfl (fun hb16 => ?_) (fun hb16 => ?_)
  ·
   cases hb16
  replace hb16 := X.nm hb16
  refine J.m rfl <| J.p rfl (Q.eqlp runUnderlying29 rfl rfl) <| J.p rfl (Q.pick_f rfl rfl) <| J.nil <| J.then_n ?_
  refine J.cases 19 rfl (fun hc19 => ?_) (fun hc19 => ?_)
  ·
   cases hc19
  replace hc19 := X.nm hc19
  refine J.cond_f rfl <| J.cskip <| J.then_n <| J.seq <| J.region <| J.m rfl ?_
  refine J.callI call10 (elect_spec p (Nd.new 0 1) (NFit.new (by decide) (by decide))) rfl rfl rfl ?_
  rintro _ _ ⟨q21, d21, rfl, rfl⟩
  refine J.norm rfl ?_
  refine J.convI (NodeAt p (Nd.new 0 1).elect.1) (NodeAt p kn1) (fun _ h => h) ?_
  refine J.nil <| J.then_n <| J.seq <| J.region <| J.m rfl ?_
  refine J.c rfl rfl (C.bslG (l := [_]) runUnderlying41 sizeOf5 zeroValue5 (by decide) rfl rfl rfl rfl rfl) ?_
  rintro _ _ ⟨b24, rfl, rfl⟩
  refine J.norm rfl ?_
  refine J.c rfl rfl (C.stringish (i := 0) runUnderlying41 runUnderlying5 rfl rfl rfl) ?_
  rintro _ _ ⟨rfl, rfl⟩
  refine J.norm rfl ?_
  refine J.callI call14 (propose_some p kn1 (pt b24 (.cells [Value.int .u8 120].toArray 5 (1, 2))) (some ⟨b24, 0, none⟩) 1 [120] (SlR.pt (D := [pt b24 (.cells [Value.int .u8 120].toArray 5 (1, 2))]) 0 rfl rfl (fun j u h => by rw [Nat.zero_add]; exact h)) (by decide) [1] [1] kn1_lead kn1_fit) rfl rfl rfl ?_
  rintro _ _ ⟨rfl, rfl⟩
  refine J.norm rfl ?_
  refine J.convI (NodeAt p (kn1.add [1] [1] [120])) (NodeAt p kn2) (fun _ h => h) ?_
  refine J.m rfl <| J.p rfl (Q.ext rfl rfl) ?_
  refine J.slot 27 (.int .i64 2) rfl rfl ?_
  refine J.p rfl (Q.ext rfl rfl) <| J.p rfl (Q.asg rfl) <| J.p rfl (Q.asg rfl) <| J.nil <| J.then_n <| J.seq <| J.region <| J.m rfl ?_
  refine J.callI call22 (state_spec p kn2) rfl rfl rfl ?_
  rintro _ _ ⟨rfl, rfl⟩
  refine J.norm rfl <| J.m rfl <| J.p rfl (Q.ext rfl rfl) ?_
  refine J.slot 32 (.int .i64 3) rfl rfl ?_
  refine J.p rfl (Q.ext rfl rfl) ?_
  refine J.slot 33 (.int .u64 1) rfl rfl ?_
  refine J.p rfl (Q.ext rfl rfl) ?_
  refine J.slot 34 (.int .i64 1) rfl rfl ?_
  refine J.p rfl (Q.asg rfl) <| J.p rfl (Q.asg rfl) <| J.p rfl (Q.asg rfl) <| J.nil <| J.then_n <| J.seq <| J.region <| J.m rfl ?_
  refine J.callI call16 (entries_spec p kn2 1 (by decide) (by decide) (by decide) (by decide)) rfl rfl rfl ?_
  rintro _ _ ⟨q36, d36, rfl, rfl⟩
  refine J.norm rfl <| J.p rfl (Q.asg rfl) <| J.nil <| J.then_n <| J.seq ?_
  refine J.slot 8 (.slice q36 2 d36) rfl rfl ?_
  refine J.convI (BssAt q36 d36 (entsFrom kn2 1 kn2.commit)) (BssAt q36 d36 [[], [120]]) (by rw [kn2_ents]; exact fun _ h => h) ?_
  refine J.openI (BssAt q36 d36 [[], [120]]) (fun _ h => h) fun z hz => ?_
  refine J.norm rfl ?_
  obtain ⟨w0, w1, hzz⟩ : ∃ w0 w1, z.1 = [w0, w1] := by
   have := hz.1
   match z.1, this with
   | [a, b], _ => exact ⟨a, b, rfl⟩
   | [], h => simp at h
   | [a], h => simp at h
   | a :: b :: c :: r, h => simp at h
  have hm := hz.1
  rw [hzz] at hm
  simp only [List.map_cons, List.map_nil, List.cons.injEq, and_true] at hm
  obtain ⟨hw0, hw1⟩ := hm
  have hok1 := hz.2 w1 (by rw [hzz]; simp)
  refine J.slrI (E0 := 41) (sz := 1) (p := q36) (n := 2) (c := d36) (xs := z.1.flatMap BW.cells) fun hsl => ?_
  obtain ⟨b, off, hqb, hrd⟩ := hsl.some_ (by decide)
  refine J.slot 8 (.slice (some ⟨b, off, none⟩) 2 d36) rfl (by rw [hqb]) ?_
  refine J.region <| J.m rfl <| J.p rfl (Q.eql rfl rfl) <| J.m rfl ?_
  refine J.kases 39 rfl (fun hb39 => ?_) (fun hb39 => ?_)
  ·
   refine J.m rfl <| J.p rfl (Q.eql rfl rfl) <| J.p rfl (Q.pick_t rfl rfl) <| J.m rfl ?_
   refine J.kases 43 rfl (fun hb43 => ?_) (fun hb43 => ?_)
   ·
    refine J.m rfl <| J.p rfl (Q.eql rfl rfl) <| J.p rfl (Q.pick_t rfl rfl) <| J.m rfl ?_
    refine J.kases 47 rfl (fun hb47 => ?_) (fun hb47 => ?_)
    ·
     refine J.m rfl <| J.p rfl (Q.eql rfl rfl) <| J.p rfl (Q.pick_t rfl rfl) <| J.m rfl ?_
     refine J.kases 51 rfl (fun hb51 => ?_) (fun hb51 => ?_)
     ·
      refine J.m rfl <| J.p rfl (Q.eql rfl rfl) <| J.p rfl (Q.pick_t rfl rfl) <| J.m rfl ?_
      refine J.kases 55 rfl (fun hb55 => ?_) (fun hb55 => ?_)
      ·
       refine J.m rfl ?_
       refine J.callI call13 (committed_spec p kn2) rfl rfl rfl ?_
       rintro _ _ ⟨rfl, rfl⟩
       refine J.norm rfl ?_
       refine J.slot 57 (.int .i64 2) rfl rfl ?_
       refine J.p rfl (Q.eql rfl rfl) <| J.p rfl (Q.pick_t rfl rfl) <| J.m rfl ?_
       refine J.kases 60 rfl (fun hb60 => ?_) (fun hb60 => ?_)
       ·
        refine J.m rfl <| J.p rfl (Q.lenSl runUnderlying32 rfl) <| J.p rfl (Q.eql rfl rfl) <| J.p rfl (Q.pick_t rfl rfl) <| J.m rfl ?_
        refine J.kases 65 rfl (fun hb65 => ?_) (fun hb65 => ?_)
        ·
         refine J.m rfl <| J.p rfl (Q.ia runUnderlying32 sizeOf41 rfl rfl (by omega) (by omega)) ?_
         refine J.p rfl (Q.ld isAgg41 rfl ((rd_field BW.len hrd (i := 0) (x := w0) (by rw [hzz]; rfl) (k := 0) (u := .slice w0.p w0.bs.length w0.c) rfl (by omega)).inI)) ?_
         refine J.p rfl (Q.lenSl runUnderlying41 rfl) ?_
         refine J.slot 69 (.int .i64 0) rfl (by rw [hw0]; rfl) ?_
         refine J.p rfl (Q.eql rfl rfl) <| J.p rfl (Q.pick_t rfl rfl) <| J.m rfl ?_
         refine J.kases 72 rfl (fun hb72 => ?_) (fun hb72 => ?_)
         ·
          refine J.m rfl <| J.p rfl (Q.ia runUnderlying32 sizeOf41 rfl rfl (by omega) (by omega)) ?_
          refine J.p rfl (Q.ld isAgg41 rfl ((rd_field BW.len hrd (i := 1) (x := w1) (by rw [hzz]; rfl) (k := 0) (u := .slice w1.p w1.bs.length w1.c) rfl (by omega)).inI)) ?_
          refine J.p rfl (Q.b2s (bs := w1.bs) runUnderlying41 runUnderlying9 runUnderlying5 rfl hok1.rd.inI) <| J.p rfl (Q.eqls rfl rfl) ?_
          refine J.slot 77 (.bool true) rfl (by rw [hw1]; rfl) ?_
          refine J.p rfl (Q.pick_t rfl rfl) <| J.p rfl (Q.asg rfl) <| J.nil <| J.then_n <| J.cret ?_
          refine J.ret1I [] rfl rfl ⟨rfl, rfl⟩
         simp at hb72
        simp at hb65
       simp at hb60
      simp at hb55
     simp at hb51
    simp at hb47
   simp at hb43
  simp at hb39
end Go.Proofs.Ytgdmfagmpfalbaa
namespace Go.Proofs.Ytgdmfagmpfalbaa
open Go.Proofs.Try
open Go.X
open Go.Rf (Rec XM Ms Nd lastT)
open Go.X.G (MapAt valRep)

section
variable {n T K : Nat} {nodes : List Nd} {ms : List Ms} {LD : List (Nat × Nat)} {row : List (List UInt8)} {PR : List (ByteArray × Nat)} {i : Nat} {s : Nd}
end
theorem set_same {α : Type} {l : List α} {i : Nat} {x : α} (h : l[i]? = some x) : l.set i x = l := by
  refine List.ext_getElem? fun j => ?_
  rw [List.getElem?_set]
  by_cases e : i = j
  · subst e; rw [if_pos rfl, if_pos (Rf.get_lt h), h]
  · rw [if_neg e]
end Go.Proofs.Ytgdmfagmpfalbaa
namespace Go.Proofs.Ytgdmfagmpfalbaa
open Go.X
open Go.Rf (Rec XM Ms Nd lastT)
open Go.X.G (MapAt valRep)

theorem NSz.fit {n T K i : Nat} {s : Nd} (h : Rf.NSz n T K i s) (hi : i < n) (hn : n ≤ 9) (hT : T ≤ 1047900) : NFit s where
  n := by rw [h.isn]; exact hn
  id := by rw [h.isid, h.isn]; exact hi
  term := by have := h.term; omega
  len := by have := h.len; omega
  last := by
    refine Nat.le_trans (Rf.lastT_le (t := s.term) fun r hr => (h.r r hr).2.1) ?_
    have := h.term; omega
  com := h.com
  vote := by have := h.vote; omega
  votes := fun e => by rw [h.isn]; exact h.votes e
  lead := fun nx mt e => by
    obtain ⟨_, a, b, c, d⟩ := h.lead nx mt e
    rw [h.isn]; exact ⟨a, b, c, d⟩
theorem MSz.fit {n T K : Nat} {m : Ms} (h : Rf.MSz n T K m) (hn : n ≤ 9) (hT : T ≤ 1047900) (hK : K ≤ 65536) : MFit m ∧ XFit2 m.x := by
  have h1 := h.src
  have h2 := h.dst
  have h3 := h.term
  have hx := h.x
  have key : XFit m.term m.x ∧ XFit2 m.x := by
    cases e : m.x with
    | ask t k => rw [e] at hx; have a := hx.1; have b := hx.2; exact ⟨⟨by omega, by omega⟩, trivial⟩
    | vote b => exact ⟨trivial, trivial⟩
    | take a lt c rs =>
      rw [e] at hx
      obtain ⟨x1, x2, x3, x4, x5⟩ := hx
      refine ⟨⟨by omega, by omega, by omega, ⟨by omega, fun r hr => ?_⟩, ⟨x5, fun r hr => ?_⟩⟩, by show a + rs.length ≤ _; omega⟩
      · have := x4 r hr; exact ⟨by omega, by omega⟩
      · have := x4 r hr; exact ⟨this.1, this.2.1, this.2.2.1⟩
    | took ok k => rw [e] at hx; have a : k ≤ T := hx; exact ⟨by show k ≤ _; omega, trivial⟩
    | older => exact ⟨trivial, trivial⟩
  exact ⟨⟨by omega, by omega, by omega, key.1⟩, key.2⟩

section
variable {n T K : Nat} {nodes : List Nd} {ms : List Ms} {LD : List (Nat × Nat)} {row : List (List UInt8)} {PR : List (ByteArray × Nat)} {i : Nat} {s : Nd}
end


def prop (s : Nd) (bs : List UInt8) : Nd := match s.lead with
  | none => s
  | some (nx, mt) => s.add nx mt bs
def errN (s : Nd) : Nat := if s.lead.isSome then 0 else 22
theorem propose_spec (p : Nat) (s : Nd) (Gb : Assn) (bp : Option Addr) (bc : Nat) (bs : List UInt8) (hb : SlR [Gb] 1 (.slice bp bs.length bc) (bytesV bs)) (hbl : bs.length ≤ 65536) (hf : NFit s) : FSpec Try.prog 14 [.pointer (some ⟨p, 0, none⟩), .slice bp bs.length bc] [NodeAt p s, Gb]
    (fun u B => ∃ k : Int, u = .tuple #[.int .i64 k, .int .i64 (errN s : Nat)] ∧ B = [NodeAt p (prop s bs), Gb]) := by
  cases hl : s.lead with
  | none =>
    have e1 : errN s = 22 := by unfold errN; rw [hl]; rfl
    have e2 : prop s bs = s := by unfold prop; rw [hl]
    rw [e1, e2]
    refine ((propose_none p s bp bc bs hl).frame [Gb]).mono ?_
    rintro _ _ ⟨B1, ⟨rfl, rfl⟩, rfl⟩
    exact ⟨0, rfl, rfl⟩
  | some x =>
    obtain ⟨nx, mt⟩ := x
    have e1 : errN s = 0 := by unfold errN; rw [hl]; rfl
    have e2 : prop s bs = s.add nx mt bs := by unfold prop; rw [hl]
    rw [e1, e2]
    refine (propose_some p s Gb bp bc bs hb hbl nx mt hl hf).mono ?_
    rintro _ _ ⟨rfl, rfl⟩
    exact ⟨_, rfl, rfl⟩

theorem pack_group {g : Nat} {rp : Option Addr} {rc : Nat} {ps : List Nat} {bp : Option Addr} {bc : Nat} {mw : List MsgW} {lm : Nat} {wp : Option Addr} {wc : Nat} {pm : Nat} {nodes : List Nd} {ms : List Ms} {LD : List (Nat × Nat)} {row : List (List UInt8)} {PR : List (ByteArray × Nat)} {M : Assn} {i p : Nat} {s' : Nd} {Fs : List Assn}
    (hps : ps.length = nodes.length) (hmw : mw.map MsgW.m = ms) (hok : ∀ w, w ∈ mw → w.ok M) (hp : ps[i]? = some p) : ∀ h, HSat h (NodeAt p s' :: star (((ps.zip nodes).eraseIdx i).map nodeA) :: M :: pt g (.cells (groupC rp rc ps bp bc mw lm wp wc pm row).toArray 35 (0, 0)) :: own 29 1 (.slice rp ps.length rc) (ps.map ptrV) ::
      own 53 3 (.slice bp mw.length bc) (mw.flatMap MsgW.cells) :: MapAt encU (valRep intV) lm LD :: BssAt wp wc row :: MapAt Value.string (valRep intV) pm PR :: Fs) → HSat h (GroupAt g (nodes.set i s') ms LD row PR :: Fs) := by
  intro h s
  have hil := Rf.get_lt hp
  obtain ⟨h1, h2, a, ⟨h3, h4, b, c, d1, u1, v1⟩, d, u, v⟩ := s
  have hst : HSat h (star ((ps.zip (nodes.set i s')).map nodeA) :: M :: pt g (.cells (groupC rp rc ps bp bc mw lm wp wc pm row).toArray 35 (0, 0)) :: own 29 1 (.slice rp ps.length rc) (ps.map ptrV) ::
      own 53 3 (.slice bp mw.length bc) (mw.flatMap MsgW.cells) :: MapAt encU (valRep intV) lm LD :: BssAt wp wc row :: MapAt Value.string (valRep intV) pm PR :: Fs) := by
    refine ⟨join h1 h3, h4, ?_, c, join_dis (d.mono (Sub.refl _) v1) d1, join_sub u (u1.trans v), v1.trans v⟩
    have hx : HSat (join h1 h3) [nodeA (p, s'), star (((ps.zip nodes).eraseIdx i).map nodeA)] := ⟨h1, h3, a, HSat.mono (X.G.HSat.one b) (Sub.refl _), d.mono (Sub.refl _) u1, join_left _ _, join_right (d.mono (Sub.refl _) u1)⟩
    have hz : HSat (join h1 h3) ((nodeA (p, s')) :: ((ps.zip nodes).eraseIdx i).map nodeA) := HSat.under hx fun _ s => by simpa using HSat.unpack (Bs := []) s
    rw [← zip_set (nodes := nodes) (s := s') hp]
    have hpm := perm_unfocus nodeA (l := ps.zip nodes) (k := i) (x := (p, s')) (by rw [List.length_zip]; omega)
    exact hz.perm hpm
  obtain ⟨k1, k2, q1, q2, d2, u2, v2⟩ := HSat.append (As := [star ((ps.zip (nodes.set i s')).map nodeA), M, pt g (.cells (groupC rp rc ps bp bc mw lm wp wc pm row).toArray 35 (0, 0)), own 29 1 (.slice rp ps.length rc) (ps.map ptrV),
      own 53 3 (.slice bp mw.length bc) (mw.flatMap MsgW.cells), MapAt encU (valRep intV) lm LD, BssAt wp wc row, MapAt Value.string (valRep intV) pm PR]) (Bs := Fs) hst
  have hfin : HSat k1 (groupL g rp rc ps bp bc mw lm wp wc pm (nodes.set i s') LD row PR ++ [M]) := HSat.keepI q1
  obtain ⟨j1, j2, r1, r2, e2, w2, x2⟩ := HSat.append hfin
  have hG : HSat k1 [GroupAt g (nodes.set i s') ms LD row PR] := X.G.HSat.one ⟨M, j1, j2, GroupIn.shut (by rw [List.length_set]; exact hps) hmw hok j1 r1, r2, e2, w2, x2⟩
  exact HSat.of_append hG q2 d2 u2 v2
end Go.Proofs.Ytgdmfagmpfalbaa
namespace Go.Proofs.Ytgdmfagmpfalbaa
open Go.Proofs.Try
open Go.X
open Go.Rf (Rec XM Ms Nd lastT)
open Go.X.G (MapAt valRep)

theorem beat_spec (p : Nat) (s : Nd) (hf : NFit s) : FSpec Try.prog 12 [.pointer (some ⟨p, 0, none⟩)] [NodeAt p s] (fun u B => ∃ q d, u = .slice q s.beat.length d ∧ B = [MsgsAt q d s.beat, NodeAt p s]) := by
  cases hl : s.lead with
  | none => exact beat_none p s hl
  | some x =>
    obtain ⟨nx, mt⟩ := x
    obtain ⟨h1, h2, h3, h4⟩ := hf.lead nx mt hl
    have := hf.term
    have := hf.len
    exact beat_some p s nx mt hl hf.n hf.id h1 h4 (by omega) (by omega) hf.com

theorem others_len (s : Nd) : s.others.length ≤ s.n := by unfold Rf.Nd.others; exact Nat.le_trans (List.length_filter_le _ _) (by simp)
theorem beat_len (s : Nd) : s.beat.length ≤ s.n := by
  unfold Rf.Nd.beat
  split
  · exact Nat.zero_le _
  · rw [List.length_map]; exact others_len s
theorem elect_len (s : Nd) : s.elect.2.length ≤ s.n := by
  unfold Rf.Nd.elect
  split
  · exact Nat.zero_le _
  · split
    · exact beat_len s.stand.win
    · show (List.map _ _).length ≤ _
      rw [List.length_map]; exact others_len s.stand
theorem hear_len (s : Nd) (m : Ms) : (s.hear m).2.length ≤ s.n + 1 := by
  unfold Rf.Nd.hear
  cases m.x with
  | ask lt k => exact Nat.le_add_left 1 _
  | vote b =>
    simp only; unfold Rf.Nd.counts; split
    · exact Nat.zero_le _
    · simp only; split
      · exact Nat.zero_le _
      · exact Nat.le_succ_of_le (beat_len ({ s with votes := s.votes.set m.src true } : Nd).win)
  | take a lt c rs =>
    simp only; unfold Rf.Nd.takes; split
    · exact Nat.zero_le _
    · simp only; split
      · exact Nat.le_add_left 1 _
      · split
        · exact Nat.le_add_left 1 _
        · exact Nat.zero_le _
  | took ok k =>
    simp only; unfold Rf.Nd.hears
    cases s.lead with
    | none => exact Nat.zero_le _
    | some p =>
      simp only; split
      · exact Nat.zero_le _
      · split
        · exact Nat.zero_le _
        · split
          · exact Nat.zero_le _
          · exact Nat.le_add_left 1 _
  | older => exact Nat.zero_le _
theorem recv_len (s : Nd) (m : Ms) : (s.receive m).2.length ≤ s.n + 1 := by
  unfold Rf.Nd.receive
  split
  · exact Nat.le_add_left 1 _
  · split
    · exact hear_len (s.follow m.term) m
    · exact hear_len s m

theorem gsend_parts {g : Nat} {rp : Option Addr} {rc : Nat} {ps : List Nat} {bp : Option Addr} {bc : Nat} {mw : List MsgW} {lm : Nat} {wp : Option Addr} {wc : Nat} {pm : Nat} {nodes : List Nd} {ms : List Ms} {LD : List (Nat × Nat)} {row : List (List UInt8)} {PR : List (ByteArray × Nat)} {M : Assn} {i p : Nat} {s' : Nd}
    (hps : ps.length = nodes.length) (hmw : mw.map MsgW.m = ms) (hok : ∀ w, w ∈ mw → w.ok M) (hp : ps[i]? = some p) (src : Nat) (q : Option Addr) (d : Nat) (out : List Ms) (ho : ∀ m, m ∈ out → m.src = src ∧ m.dst < nodes.length ∧ m.dst ≠ src) (hl : out.length ≤ 1048576) (hb : ms.length ≤ 1048576) :
    FSpec Try.prog 9 [.pointer (some ⟨g, 0, none⟩), .int .i64 src, .slice q out.length d] (NodeAt p s' :: star (((ps.zip nodes).eraseIdx i).map nodeA) :: M :: pt g (.cells (groupC rp rc ps bp bc mw lm wp wc pm row).toArray 35 (0, 0)) :: own 29 1 (.slice rp ps.length rc) (ps.map ptrV) ::
      own 53 3 (.slice bp mw.length bc) (mw.flatMap MsgW.cells) :: MapAt encU (valRep intV) lm LD :: BssAt wp wc row :: MapAt Value.string (valRep intV) pm PR :: [MsgsAt q d out]) (fun u B => u = .bool true ∧ B = [GroupAt g (nodes.set i s') (addBag ms out) LD row PR]) :=
  (gsend_spec g (nodes.set i s') ms LD row PR src q d out (by rw [List.length_set]; exact ho) hl hb).conv (pack_group hps hmw hok hp) fun _ B h => ⟨B, h, fun _ h => h⟩

end Go.Proofs.Ytgdmfagmpfalbaa
namespace Go.Proofs.Ytgdmfagmpfalbaa
open Go.X
open Go.Rf (Rec XM Ms Nd lastT)

abbrev GS := List Nd × List Ms
def qElect (S : GS) (i : Nat) : GS := match S.1[i]? with
  | some s => (S.1.set i s.elect.1, addBag S.2 s.elect.2)
  | none => S
def qBeat (S : GS) (i : Nat) : GS := match S.1[i]? with
  | some s => (S.1, addBag S.2 s.beat)
  | none => S
def qProp (S : GS) (i : Nat) (b : List UInt8) : GS := match S.1[i]? with
  | some s => (S.1.set i (prop s b), S.2)
  | none => S
def qTake (nodes : List Nd) (m : Ms) (rest : List Ms) : GS := match nodes[m.dst]? with
  | some s => (nodes.set m.dst (s.receive m).1, addBag rest (s.receive m).2)
  | none => (nodes, rest)
def qRun (cross : Ms → Bool) : Nat → List Nd → List Ms → GS
  | 0, nodes, ms => (nodes, ms)
  | _ + 1, nodes, [] => (nodes, [])
  | f + 1, nodes, m :: rest => if cross m then qRun cross f nodes rest else qRun cross f (qTake nodes m rest).1 (qTake nodes m rest).2
def noneB (_ : Ms) : Bool := false
def crossB (few : Nat) (m : Ms) : Bool := decide (m.src < few) != decide (m.dst < few)
def qAll (S : GS) : GS := qRun noneB 5000 S.1 S.2
def qPart (few : Nat) (S : GS) : GS := qRun (crossB few) 5000 S.1 S.2
def q0 (n : Nat) : GS := ((List.range n).map fun i => Nd.new i n, [])
def q1 (n : Nat) : GS := qAll (qElect (q0 n) 0)
def q2 (n : Nat) : GS := qAll (qBeat (q1 n) 0)
def qStep (few : Nat) (S : GS) (b : List UInt8) : GS := qPart few (qBeat (qProp S 0 b) 0)
def newB : List UInt8 := [110, 101, 119]
def q3 (n few : Nat) (S : GS) : GS := qPart few (qElect S (n - 1))
def q4 (n few : Nat) (S : GS) : GS := qPart few (qBeat (qProp S (n - 1) newB) (n - 1))
def q5 (n : Nat) : Nat → GS → GS
  | 0, S => S
  | k + 1, S => qAll (qBeat (q5 n k S) (n - 1))

def recsK (k : Nat) (f : Nat → List UInt8) : List Rec := ⟨1, []⟩ :: (List.range k).map fun i => ⟨1, f i⟩
def nodeK (n few k : Nat) (f : Nat → List UInt8) (i : Nat) : Nd :=
  if i = 0 then ⟨0, n, 1, 1, recsK k f, 1, 3, 1, [], some (1 :: (List.replicate (few - 1) (k + 2) ++ List.replicate (n - few) 2), List.replicate few (k + 1) ++ List.replicate (n - few) 1)⟩
  else if i < few then ⟨i, n, 1, 1, recsK k f, 1, 1, 1, [], none⟩ else ⟨i, n, 1, 1, [⟨1, []⟩], 1, 1, 1, [], none⟩
def SK (n few k : Nat) (f : Nat → List UInt8) : GS := ((List.range n).map (nodeK n few k f), [])

def newL (s : Nd) : Bool := match (entsFrom s 3 s.commit).head? with
  | some b => b == newB
  | none => false
def finB (n few : Nat) (S : GS) : Bool :=
  (q3 n few S).2.isEmpty && ((q3 n few S).1[n - 1]?).elim false (fun s => s.lead.isSome && Nat.beq s.log.length 2) && (q4 n few (q3 n few S)).2.isEmpty && ((q4 n few (q3 n few S)).1[n - 1]?).elim false (fun s => Nat.ble 3 s.commit)
    && (q5 n 1 (q4 n few (q3 n few S))).2.isEmpty && (q5 n 2 (q4 n few (q3 n few S))).2.isEmpty && (q5 n 3 (q4 n few (q3 n few S))).2.isEmpty && (q5 n 3 (q4 n few (q3 n few S))).1.all newL
structure QOK (n few : Nat) : Prop where
  e1 : (q1 n).2 = []
  e2 : ∀ f, q2 n = SK n few 0 f
  step : ∀ f k, k < 30 → qStep few (SK n few k f) (f k) = SK n few (k + 1) f
  fin : ∀ f k, k ≤ 30 → finB n few (SK n few k f) = true
theorem QOK.mk2 {n few : Nat} (e1 : (q1 n).2 = []) (e2 : ∀ f, q2 n = SK n few 0 f) (step : ∀ f, (List.range 30).map (fun k => qStep few (SK n few k f) (f k)) = (List.range 30).map (fun k => SK n few (k + 1) f))
    (fin : ∀ f, ((List.range 31).all fun k => finB n few (SK n few k f)) = true) : QOK n few :=
  ⟨e1, e2, fun f k hk => List.map_inj_left.1 (step f) k (List.mem_range.2 hk), fun f k hk => List.all_eq_true.1 (fin f) k (List.mem_range.2 (by omega))⟩
theorem qok31 : QOK 3 1 := .mk2 (by kernel_rfl) (fun f => by kernel_rfl) (fun f => by kernel_rfl) (fun f => by kernel_rfl)
theorem qok41 : QOK 4 1 := .mk2 (by kernel_rfl) (fun f => by kernel_rfl) (fun f => by kernel_rfl) (fun f => by kernel_rfl)
theorem qok51 : QOK 5 1 := .mk2 (by kernel_rfl) (fun f => by kernel_rfl) (fun f => by kernel_rfl) (fun f => by kernel_rfl)
theorem qok52 : QOK 5 2 := .mk2 (by kernel_rfl) (fun f => by kernel_rfl) (fun f => by kernel_rfl) (fun f => by kernel_rfl)
theorem qok61 : QOK 6 1 := .mk2 (by kernel_rfl) (fun f => by kernel_rfl) (fun f => by kernel_rfl) (fun f => by kernel_rfl)
theorem qok62 : QOK 6 2 := .mk2 (by kernel_rfl) (fun f => by kernel_rfl) (fun f => by kernel_rfl) (fun f => by kernel_rfl)
theorem qok71 : QOK 7 1 := .mk2 (by kernel_rfl) (fun f => by kernel_rfl) (fun f => by kernel_rfl) (fun f => by kernel_rfl)
theorem qok72 : QOK 7 2 := .mk2 (by kernel_rfl) (fun f => by kernel_rfl) (fun f => by kernel_rfl) (fun f => by kernel_rfl)
theorem qok73 : QOK 7 3 := .mk2 (by kernel_rfl) (fun f => by kernel_rfl) (fun f => by kernel_rfl) (fun f => by kernel_rfl)
theorem qok (n few : Nat) (h1 : 3 ≤ n) (h2 : n ≤ 7) (h3 : 1 ≤ few) (h4 : few ≤ (n - 1) / 2) : QOK n few := by
  have : n = 3 ∨ n = 4 ∨ n = 5 ∨ n = 6 ∨ n = 7 := by omega
  rcases this with rfl | rfl | rfl | rfl | rfl
  · obtain rfl : few = 1 := by omega
    exact qok31
  · obtain rfl : few = 1 := by omega
    exact qok41
  · have : few = 1 ∨ few = 2 := by omega
    rcases this with rfl | rfl
    · exact qok51
    · exact qok52
  · have : few = 1 ∨ few = 2 := by omega
    rcases this with rfl | rfl
    · exact qok61
    · exact qok62
  · have : few = 1 ∨ few = 2 ∨ few = 3 := by omega
    rcases this with rfl | rfl | rfl
    · exact qok71
    · exact qok72
    · exact qok73
theorem SK_get {n few k i : Nat} {f : Nat → List UInt8} (h : i < n) : (SK n few k f).1[i]? = some (nodeK n few k f i) := by
  show ((List.range n).map (nodeK n few k f))[i]? = _
  rw [List.getElem?_map, List.getElem?_range h]; rfl
theorem nodeK_commit {n few k i : Nat} {f : Nat → List UInt8} : (nodeK n few k f i).commit = 1 := by
  unfold nodeK; split
  · rfl
  · split <;> rfl
structure Fin (n : Nat) (few : Nat) (S : GS) : Prop where
  e3 : (q3 n few S).2 = []
  l3 : ∃ s nx mt, (q3 n few S).1[n - 1]? = some s ∧ s.lead = some (nx, mt) ∧ s.log.length = 2
  e4 : (q4 n few (q3 n few S)).2 = []
  c4 : ∃ s, (q4 n few (q3 n few S)).1[n - 1]? = some s ∧ 3 ≤ s.commit
  e5 : ∀ k, k < 3 → (q5 n (k + 1) (q4 n few (q3 n few S))).2 = []
  l5 : ∀ s, s ∈ (q5 n 3 (q4 n few (q3 n few S))).1 → ∃ l, entsFrom s 3 s.commit = newB :: l
theorem newL_head {s : Nd} (h : newL s = true) : ∃ l, entsFrom s 3 s.commit = newB :: l := by
  unfold newL at h
  cases e : entsFrom s 3 s.commit with
  | nil => rw [e] at h; cases h
  | cons b l =>
    rw [e] at h
    exact ⟨l, by rw [eq_of_beq h]⟩
theorem fin_of {n few : Nat} {S : GS} (h : finB n few S = true) : Fin n few S := by
  unfold finB at h
  simp only [Bool.and_eq_true, List.isEmpty_iff] at h
  obtain ⟨⟨⟨⟨⟨⟨⟨h1, h2⟩, h3⟩, h4⟩, h5⟩, h6⟩, h7⟩, h8⟩ := h
  refine ⟨h1, ?_, h3, ?_, fun k hk => ?_, fun s hs => newL_head (List.all_eq_true.1 h8 s hs)⟩
  · cases e : (q3 n few S).1[n - 1]? with
    | none => rw [e] at h2; cases h2
    | some s =>
      rw [e] at h2
      simp only [Option.elim, Bool.and_eq_true] at h2
      obtain ⟨x, hx⟩ := Option.isSome_iff_exists.1 h2.1
      exact ⟨s, x.1, x.2, rfl, hx, Nat.eq_of_beq_eq_true h2.2⟩
  · cases e : (q4 n few (q3 n few S)).1[n - 1]? with
    | none => rw [e] at h4; cases h4
    | some s =>
      rw [e] at h4
      exact ⟨s, rfl, Nat.le_of_ble_eq_true h4⟩
  · have : k = 0 ∨ k = 1 ∨ k = 2 := by omega
    rcases this with rfl | rfl | rfl
    · exact h5
    · exact h6
    · exact h7
end Go.Proofs.Ytgdmfagmpfalbaa
namespace Go.Proofs.Ytgdmfagmpfalbaa
open Go.Proofs.Try
open Go.X
open Go.Rf (Rec XM Ms Nd lastT)
open Go.X.G (MapAt valRep)

section
variable {n T K : Nat} {nodes : List Nd} {ms : List Ms} {ldm : Nat → Option Nat} {row : List (List UInt8)} {pr : List UInt8 → Nat} {i : Nat} {s : Nd}
theorem stat_outs (h : Rf.Stat n T K nodes ms ldm row pr) {s' : Nd} {out : List Ms} {mk : List (Nat × Nat × List UInt8)} {g : Rf.Gh} (hx : Rf.Next g n i s' out mk) : ∀ m, m ∈ out → m.src = i ∧ m.dst < nodes.length ∧ m.dst ≠ i := by
  obtain ⟨g', _, _, _, ho, _⟩ := hx
  intro m hm
  obtain ⟨⟨a, b, c, _⟩, d, _⟩ := ho m hm
  exact ⟨d, by rw [h.len]; exact b, fun e => c (by rw [d, e])⟩
theorem stat_elect_out (h : Rf.Stat n T K nodes ms ldm row pr) (e : nodes[i]? = some s) : ∀ m, m ∈ s.elect.2 → m.src = i ∧ m.dst < nodes.length ∧ m.dst ≠ i := by
  have hi := h.lt e
  have h0 := h
  obtain ⟨g, hg, _⟩ := h
  obtain ⟨a, b, _⟩ := hg.node i s e
  obtain ⟨mk, _, _, m3, _⟩ := a.elect hg.gok hi b
  exact stat_outs h0 m3
theorem stat_beat_out (h : Rf.Stat n T K nodes ms ldm row pr) (e : nodes[i]? = some s) : ∀ m, m ∈ s.beat → m.src = i ∧ m.dst < nodes.length ∧ m.dst ≠ i := by
  have hi := h.lt e
  have hl := h.len
  obtain ⟨g, hg, _⟩ := h
  obtain ⟨a, b, _⟩ := hg.node i s e
  intro m hm
  obtain ⟨⟨x1, x2, x3, _⟩, d, _⟩ := a.beat hg.gok hi b m hm
  exact ⟨d, by rw [hl]; exact x2, fun e => x3 (by rw [d, e])⟩
theorem stat_receive_out (h : Rf.Stat n T K nodes ms ldm row pr) {m : Ms} (hm : m ∈ ms) (e : nodes[m.dst]? = some s) : ∀ x, x ∈ (s.receive m).2 → x.src = m.dst ∧ x.dst < nodes.length ∧ x.dst ≠ m.dst := by
  have hi := h.lt e
  have h0 := h
  obtain ⟨g, hg, _⟩ := h
  obtain ⟨a, b, _⟩ := hg.node _ s e
  obtain ⟨mk, _, _, m3, _⟩ := a.receive hg.gok hi (hg.bag m hm).1 rfl b
  exact stat_outs h0 m3
end

structure StatQ (n T : Nat) (S : GS) : Prop where
  st : ∃ pr, Rf.Stat n T 3 S.1 S.2 (fun _ => none) [] pr
  bag : S.2.length ≤ 300
section
variable {n T : Nat} {S : GS} {i : Nat} {s : Nd}
theorem qElect_eq (hs : S.1[i]? = some s) : qElect S i = (S.1.set i s.elect.1, addBag S.2 s.elect.2) := by unfold qElect; rw [hs]
theorem qBeat_eq (hs : S.1[i]? = some s) : qBeat S i = (S.1, addBag S.2 s.beat) := by unfold qBeat; rw [hs]
theorem qProp_eq {b : List UInt8} (hs : S.1[i]? = some s) : qProp S i b = (S.1.set i (prop s b), S.2) := by unfold qProp; rw [hs]
theorem qTake_eq {nodes : List Nd} {m : Ms} {rest : List Ms} (hs : nodes[m.dst]? = some s) : qTake nodes m rest = (nodes.set m.dst (s.receive m).1, addBag rest (s.receive m).2) := by unfold qTake; rw [hs]
theorem StatQ.len (h : StatQ n T S) : S.1.length = n := by obtain ⟨⟨pr, h⟩, _⟩ := h; exact h.len
theorem StatQ.up (h : StatQ n T S) {T' : Nat} (hT : T ≤ T') : StatQ n T' S := by obtain ⟨⟨pr, a⟩, b⟩ := h; exact ⟨⟨pr, a.up hT⟩, b⟩
theorem StatQ.begun (h1 : 1 ≤ n) : StatQ n 0 (q0 n) :=
  ⟨⟨_, _, Rf.begun_grp n 3 h1, Rf.begun_obs n⟩, Nat.zero_le _⟩
theorem bag_max {ms out : List Ms} (h : ms.length ≤ 300) : (addBag ms out).length ≤ 300 := by have := addBag_len out ms; omega
theorem StatQ.elect (h : StatQ n T S) : StatQ n (T + 1) (qElect S i) := by
  cases e : S.1[i]? with
  | none => unfold qElect; rw [e]; exact h.up (by omega)
  | some s =>
    rw [qElect_eq e]
    obtain ⟨⟨pr, a⟩, b⟩ := h
    exact ⟨⟨pr, a.elect e fun m hm => addBag_mem _ _ m hm⟩, bag_max b⟩
theorem StatQ.beat (h : StatQ n T S) : StatQ n T (qBeat S i) := by
  cases e : S.1[i]? with
  | none => unfold qBeat; rw [e]; exact h
  | some s =>
    rw [qBeat_eq e]
    obtain ⟨⟨pr, a⟩, b⟩ := h
    exact ⟨⟨pr, a.beat e fun m hm => addBag_mem _ _ m hm⟩, bag_max b⟩
theorem StatQ.prop (h : StatQ n T S) {bs : List UInt8} (hb : bs.length ≤ 3) : StatQ n (T + 1) (qProp S i bs) := by
  cases e : S.1[i]? with
  | none => unfold qProp; rw [e]; exact h.up (by omega)
  | some s =>
    rw [qProp_eq e]
    obtain ⟨⟨pr, a⟩, b⟩ := h
    refine ⟨?_, b⟩
    cases hl : s.lead with
    | none =>
      have : Go.Proofs.Ytgdmfagmpfalbaa.prop s bs = s := by unfold Go.Proofs.Ytgdmfagmpfalbaa.prop; rw [hl]
      rw [this, set_same e]
      exact ⟨pr, a.up (by omega)⟩
    | some x =>
      obtain ⟨nx, mt⟩ := x
      have : Go.Proofs.Ytgdmfagmpfalbaa.prop s bs = s.add nx mt bs := by unfold Go.Proofs.Ytgdmfagmpfalbaa.prop; rw [hl]
      rw [this]
      exact ⟨fun x => pr x + (if x = bs then 1 else 0), a.propose e hl hb fun x _ => Nat.le_refl _⟩
theorem StatQ.drop {nodes : List Nd} {m : Ms} {rest : List Ms} (h : StatQ n T (nodes, m :: rest)) : StatQ n T (nodes, rest) := by
  obtain ⟨⟨pr, a⟩, b⟩ := h
  exact ⟨⟨pr, a.sub fun x hx => List.mem_cons_of_mem _ hx⟩, by simp only [List.length_cons] at b ⊢; omega⟩
theorem StatQ.take {nodes : List Nd} {m : Ms} {rest : List Ms} (h : StatQ n T (nodes, m :: rest)) : StatQ n (T + 1) (qTake nodes m rest) := by
  cases e : nodes[m.dst]? with
  | none => unfold qTake; rw [e]; exact h.drop.up (by omega)
  | some s =>
    rw [qTake_eq e]
    obtain ⟨⟨pr, a⟩, b⟩ := h
    exact ⟨⟨pr, a.receive List.mem_cons_self e fun x hx => (addBag_mem _ _ x hx).imp (fun y => List.mem_cons_of_mem _ y) id⟩, bag_max (by simp only [List.length_cons] at b; omega)⟩
theorem StatQ.run {c : Ms → Bool} : ∀ (f : Nat) {T : Nat} {nodes : List Nd} {ms : List Ms}, StatQ n T (nodes, ms) → StatQ n (T + f) (qRun c f nodes ms)
  | 0, _, _, _, h => h
  | f + 1, _, _, [], h => h.up (by omega)
  | f + 1, T, nodes, m :: rest, h => by
    unfold qRun
    split
    · exact (StatQ.run f h.drop).up (by omega)
    · exact (StatQ.run f h.take).up (by omega)
theorem StatQ.all (h : StatQ n T S) : StatQ n (T + 5000) (qAll S) := StatQ.run 5000 h
theorem StatQ.part {few : Nat} (h : StatQ n T S) : StatQ n (T + 5000) (qPart few S) := StatQ.run 5000 h
theorem StatQ.fit (h : StatQ n T S) (hs : S.1[i]? = some s) (hi : i < n) (hn : n ≤ 9) (hT : T ≤ 1047900) : NFit s := by
  obtain ⟨⟨pr, a⟩, _⟩ := h
  exact NSz.fit (a.sz hs) hi hn hT
end
theorem q5_succ (n k : Nat) (S : GS) : q5 n (k + 1) S = qAll (qBeat (q5 n k S) (n - 1)) := rfl
theorem qRun_nil {c : Ms → Bool} {f : Nat} {nodes : List Nd} : qRun c f nodes [] = (nodes, []) := by cases f <;> rfl

theorem qRun_t {c : Ms → Bool} {f : Nat} {nodes : List Nd} {m : Ms} {rest : List Ms} (h : c m = true) : qRun c (f + 1) nodes (m :: rest) = qRun c f nodes rest := by
  show (if c m then _ else _) = _
  rw [if_pos h]
theorem qRun_f {c : Ms → Bool} {f : Nat} {nodes : List Nd} {m : Ms} {rest : List Ms} (h : ¬ c m = true) : qRun c (f + 1) nodes (m :: rest) = qRun c f (qTake nodes m rest).1 (qTake nodes m rest).2 := by
  show (if c m then _ else _) = _
  rw [if_neg h]

theorem gtake0_spec (g : Nat) (nodes : List Nd) (m : Ms) (rest : List Ms) (LD : List (Nat × Nat)) (row : List (List UInt8)) (PR : List (ByteArray × Nat)) (hb : (m :: rest).length ≤ 1048576) :
    FSpec Try.prog 20 [.pointer (some ⟨g, 0, none⟩), .int .i64 0] [GroupAt g nodes (m :: rest) LD row PR] (fun u B => ∃ (M : Assn) (w : MsgW), w.m = m ∧ w.ok M ∧ u = .agg w.cells.toArray ∧ B = [GroupIn M g nodes rest LD row PR, M]) :=
  gtake_spec g nodes (m :: rest) LD row PR 0 m rfl hb

theorem settle_spec (g n T : Nat) (S : GS) (h : StatQ n T S) (hn : n ≤ 7) (hT : T ≤ 1000000) (hq : (qAll S).2 = []) :
    FSpec Try.prog 11 [.pointer (some ⟨g, 0, none⟩)] [GroupAt g S.1 S.2 [] [] []] (fun u B => u = .bool true ∧ B = [GroupAt g (qAll S).1 [] [] [] []]) := by
  refine FSpec.of func11 rfl ntmps11 rfl fun W0 F => ?_
  refine J.seq <| J.region <| J.p rfl (Q.asg rfl) <| J.nil <| J.then_n <| J.seq <| J.seq <| J.region <| J.p rfl (Q.asg rfl) <| J.nil <| J.then_n <| J.block ?_
  refine J.loop2 (fun (i : Nat) (Z : GS) => i ≤ 5000 ∧ qRun noneB (5000 - i) Z.1 Z.2 = qAll S ∧ StatQ n (T + i) Z) (fun i _ => 5000 - i) (fun i Z => [(0, .pointer (some ⟨g, 0, none⟩)), (3, .int .i64 (i : Nat))]) (fun i Z => [GroupAt g Z.1 Z.2 [] [] [], F]) 0 S ⟨Nat.zero_le _, rfl, h⟩ ⟨rfl, rfl, trivial⟩ rfl fun i Z hi => ?_
  obtain ⟨nodes, ms⟩ := Z
  obtain ⟨hi, hrun, hst⟩ := hi
  dsimp only at hrun ⊢
  have hlen := hst.len
  have hbag := hst.bag
  dsimp only at hlen hbag
  refine J.openGroup g nodes ms [] [] [] fun M => ?_
  refine J.norm rfl ?_
  refine J.openGroupIn M g nodes ms [] [] [] fun rp rc ps bp bc mw lm wp wc pm hps hmw hok => ?_
  refine J.norm rfl ?_
  have hmwl : mw.length = ms.length := by rw [← hmw, List.length_map]
  refine J.seq <| J.seq <| J.region <| J.m rfl <| J.p rfl (Q.lss rfl rfl) <| J.m rfl ?_
  refine J.kases 7 rfl (fun hb7 => ?_) (fun hb7 => ?_)
  ·
   refine J.m rfl <| J.p rfl (Q.nil_ rfl) <| J.p rfl (Q.fa (n := 1) runUnderlying35 rfl rfl sizeOf28 rfl) ?_
   refine J.p rfl (Q.ldI isAgg28 rfl) ?_
   refine J.p rfl (Q.lenSl runUnderlying28 rfl) <| J.p rfl (Q.gtr rfl rfl) <| J.p rfl (Q.pick_t rfl rfl) <| J.nil <| J.then_n ?_
   refine J.kases 14 rfl (fun hc14 => ?_) (fun hc14 => ?_)
   ·
    refine J.cond_t rfl <| J.cskip <| J.then_n <| J.seq <| J.block <| J.seq ?_
    refine J.shutI (groupL g rp rc ps bp bc mw lm wp wc pm nodes [] [] []) (GroupIn M g nodes ms [] [] []) (GroupIn.shut hps hmw hok) ?_
    refine J.shutI [GroupIn M g nodes ms [] [] [], M] (GroupAt g nodes ms [] [] []) GroupAt.shut ?_
    obtain ⟨m0, rest, rfl⟩ : ∃ m0 rest, ms = m0 :: rest := by cases ms with | nil => (simp only [List.length_nil] at hmwl; exfalso; omega) | cons a b => exact ⟨a, b, rfl⟩
    have hf1 : 5000 - i = (5000 - (i + 1)) + 1 := by omega
    rw [hf1] at hrun
    obtain ⟨⟨pr, hst0⟩, _⟩ := hst
    have hst : StatQ n (T + i) (nodes, m0 :: rest) := ⟨⟨pr, hst0⟩, hbag⟩
    have hms := hst0.msz (m := m0) List.mem_cons_self
    have hd := hms.dst
    simp only [List.length_cons] at hbag
    refine J.region <| J.m rfl ?_
    refine J.callI call20 (gtake0_spec g nodes m0 rest [] [] [] (by simp only [List.length_cons]; omega)) rfl rfl rfl ?_
    rintro _ _ ⟨M2, w, hwm, hwok, rfl, rfl⟩
    refine J.norm rfl ?_
    refine J.c rfl rfl (C.alloc (l := [_, _, _]) zeroValue53 rfl) ?_
    rintro _ _ ⟨b4, rfl, rfl⟩
    refine J.norm rfl ?_
    refine J.stAJ (vs := [_, _, _]) rfl sizeOf53 rfl rfl ?_
    refine J.nil <| J.then_n <| J.seq ?_
    obtain ⟨⟨src, dst, term, x⟩, wp1, wc1⟩ := w
    dsimp only at hwm
    subst hwm
    obtain ⟨s2, hs2⟩ : ∃ s2, nodes[dst]? = some s2 := ⟨_, List.getElem?_eq_getElem (by dsimp only at hd; omega)⟩
    have hsz2 := hst0.sz hs2
    have hst2 := hst.take
    have hqt := qTake_eq (nodes := nodes) (m := ⟨src, dst, term, x⟩) (rest := rest) hs2
    rw [hqt] at hst2
    have hrun2 : qRun noneB (5000 - (i + 1)) (nodes.set dst (s2.receive ⟨src, dst, term, x⟩).1) (addBag rest (s2.receive ⟨src, dst, term, x⟩).2) = qAll S := by rw [qRun_f (by intro h; cases h), hqt] at hrun; exact hrun
    have hout := stat_receive_out hst0 (m := ⟨src, dst, term, x⟩) List.mem_cons_self hs2
    dsimp only at hd hst2 hout
    have hfit2 := NSz.fit hsz2 hd (by omega) (by omega)
    obtain ⟨hmf, hmx⟩ := MSz.fit hms (by omega) (by omega) (by omega)
    have hol := recv_len s2 ⟨src, dst, term, x⟩
    have hsn2 := hsz2.isn
    have hsi2 := hsz2.isid
    dsimp only at hmx
    have hsrc := hms.src
    have hne := hms.ne
    have hterm := hms.term
    dsimp only at hsrc hne hterm
    have hwrd := hwok.rd
    have hwc := hwok.c
    dsimp only at hwrd hwc
    clear hps hmw hok hmwl
    refine J.openGroupIn M2 g nodes rest [] [] [] fun rp rc ps bp bc mw lm wp wc pm hps hmw hok => ?_
    refine J.norm rfl ?_
    obtain ⟨p, hp⟩ : ∃ p, ps[dst]? = some p := ⟨_, List.getElem?_eq_getElem (by omega)⟩
    refine J.slrI (E0 := 29) (sz := 1) (p := rp) (n := ps.length) (c := rc) (xs := ps.map ptrV) fun hsl => ?_
    obtain ⟨b, off, rfl, hrd⟩ := hsl.some_ (by omega)
    refine J.focusI (f := nodeA) (l := ps.zip nodes) dst (x := (p, s2)) (zip_get hp hs2) ?_
    refine J.convI (nodeA (p, s2)) (NodeAt p s2) (fun _ h => h) ?_
    refine J.pickI [pt b4 (.cells (MsgW.cells ⟨⟨src, dst, term, x⟩, wp1, wc1⟩).toArray 53 (0, 0)), pt g (.cells (groupC (some ⟨b, off, none⟩) rc ps bp bc mw lm wp wc pm []).toArray 35 (0, 0)), own 29 1 (.slice (some ⟨b, off, none⟩) ps.length rc) (ps.map ptrV)] ?_
    refine J.norm rfl ?_
    refine J.drawE [12, 13] 3 Try.mixed (by kernel_rfl) rfl rfl fun hR => ?_
    refine RG.p 0 hR rfl (Q.mv rfl) <| RG.p 1 hR rfl (Q.fa (n := 1) runUnderlying53 rfl rfl sizeOf3 rfl) ?_
    refine RG.p 2 hR rfl (Q.ldI isAgg3 rfl) ?_
    refine RG.p 3 hR rfl (Q.mv rfl) <| RG.p 4 hR rfl (Q.nil_ rfl) <| RG.p 5 hR rfl (Q.fa (n := 0) runUnderlying35 rfl rfl sizeOf30 rfl) ?_
    refine RG.p 6 hR rfl (Q.ldI isAgg30 rfl) ?_
    refine RG.p 7 hR rfl (Q.fa (n := 1) runUnderlying53 rfl rfl sizeOf3 rfl) ?_
    refine RG.p 8 hR rfl (Q.ldI isAgg3 rfl) ?_
    refine RG.slot 27 (.int .i64 (dst : Nat)) rfl rfl ?_
    refine RG.p 9 hR rfl (Q.ia runUnderlying30 sizeOf29 rfl rfl (by omega) (by omega)) <| RG.p 10 hR rfl (Q.ld isAgg29 rfl (((hrd dst (ptrV p) (by simp [hp])).inI).cast (by simp))) ?_
    refine RG.p 11 hR rfl (Q.ldN (vs := [_, _, _]) isAgg53 sizeOf53 rfl rnI) ?_
    refine RG.callkI 12 hR rfl rfl rfl rfl rfl call21 (receive_spec p s2 M2 wp1 wc1 src dst term x hfit2 hmf (by omega) hsi2.symm (by omega) (by omega) hmx hwrd hwc) rfl ?_
    rintro _ _ ⟨q98, d98, rfl, rfl⟩
    refine RG.normE rfl ?_
    refine RG.callI 13 hR rfl rfl rfl rfl rfl rfl call9 (gsend_parts (g := g) (rp := some ⟨b, off, none⟩) (rc := rc) (bp := bp) (bc := bc) (lm := lm) (wp := wp) (wc := wc) (pm := pm) (LD := []) (row := []) (PR := []) (s' := (s2.receive ⟨src, dst, term, x⟩).1) hps hmw hok hp dst q98 d98 (s2.receive ⟨src, dst, term, x⟩).2 hout (by omega) (by omega)) rfl ?_
    rintro _ _ ⟨rfl, rfl⟩
    refine RG.norm rfl <| RG.p 14 hR rfl (Q.not rfl) ?_
    refine RG.fin hR rfl ?_
    refine J.norm rfl <| J.then_n ?_
    refine J.cases 33 rfl (fun hc33 => ?_) (fun hc33 => ?_)
    ·
     cases hc33
    replace hc33 := X.nm hc33
    refine J.cond_f rfl <| J.cskip <| J.blk_n <| J.then_n <| J.region <| J.m rfl <| J.p rfl (Q.add64 rfl rfl (by omega)) <| J.p rfl (Q.asg rfl) <| J.nil ?_
    refine J.againI (i + 1, (nodes.set dst (s2.receive ⟨src, dst, term, x⟩).1, addBag rest (s2.receive ⟨src, dst, term, x⟩).2)) ⟨by show i + 1 ≤ 5000; omega, hrun2, hst2⟩ (by show 5000 - (i + 1) < 5000 - i; omega) ⟨rfl, rfl, trivial⟩
   refine J.cond_f rfl <| J.exit <| J.then_x <| J.lp_x <| J.blk_x <| J.then_n <| J.seq ?_
   have hfin : (nodes, ms) = qAll S := by
    rw [← hrun]
    by_cases q : i = 5000
    · rw [q]; rfl
    · have : ms = [] := List.eq_nil_of_length_eq_zero (by omega)
      rw [this, qRun_nil]
   have hms0 : ms = [] := by rw [← hfin] at hq; exact hq
   have hnodes : nodes = (qAll S).1 := by rw [← hfin]
   refine J.region <| J.m rfl <| J.p rfl (Q.nil_ rfl) <| J.p rfl (Q.fa (n := 1) runUnderlying35 rfl rfl sizeOf28 rfl) ?_
   refine J.p rfl (Q.ldI isAgg28 rfl) ?_
   refine J.p rfl (Q.lenSl runUnderlying28 rfl) <| J.p rfl (Q.eql rfl rfl) <| J.p rfl (Q.asg rfl) <| J.nil <| J.then_n <| J.cret ?_
   refine J.shutI (groupL g rp rc ps bp bc mw lm wp wc pm nodes [] [] []) (GroupIn M g nodes ms [] [] []) (GroupIn.shut hps hmw hok) ?_
   refine J.shutI [GroupIn M g nodes ms [] [] [], M] (GroupAt g nodes ms [] [] []) GroupAt.shut ?_
   rw [hmwl, hnodes, hms0]
   refine J.ret1I [GroupAt g (qAll S).1 [] [] [] []] rfl rfl ⟨rfl, rfl⟩
  refine J.k rfl <| J.k rfl <| J.k rfl <| J.k rfl <| J.k rfl <| J.k rfl <| J.p rfl (Q.pick_f rfl rfl) <| J.nil <| J.then_n <| J.cond_f rfl <| J.exit <| J.then_x <| J.lp_x <| J.blk_x <| J.then_n <| J.seq ?_
  have hfin : (nodes, ms) = qAll S := by
   rw [← hrun]
   by_cases q : i = 5000
   · rw [q]; rfl
   · have : ms = [] := List.eq_nil_of_length_eq_zero (by omega)
     rw [this, qRun_nil]
  have hms0 : ms = [] := by rw [← hfin] at hq; exact hq
  have hnodes : nodes = (qAll S).1 := by rw [← hfin]
  refine J.region <| J.m rfl <| J.p rfl (Q.nil_ rfl) <| J.p rfl (Q.fa (n := 1) runUnderlying35 rfl rfl sizeOf28 rfl) ?_
  refine J.p rfl (Q.ldI isAgg28 rfl) ?_
  refine J.p rfl (Q.lenSl runUnderlying28 rfl) <| J.p rfl (Q.eql rfl rfl) <| J.p rfl (Q.asg rfl) <| J.nil <| J.then_n <| J.cret ?_
  refine J.shutI (groupL g rp rc ps bp bc mw lm wp wc pm nodes [] [] []) (GroupIn M g nodes ms [] [] []) (GroupIn.shut hps hmw hok) ?_
  refine J.shutI [GroupIn M g nodes ms [] [] [], M] (GroupAt g nodes ms [] [] []) GroupAt.shut ?_
  rw [hmwl, hnodes, hms0]
  refine J.ret1I [GroupAt g (qAll S).1 [] [] [] []] rfl rfl ⟨rfl, rfl⟩


theorem crossB_int {few : Nat} {m : Ms} : (!(decide ((m.src : Int) < (few : Int)) == decide ((m.dst : Int) < (few : Int)))) = crossB few m := by
  unfold crossB
  rw [decide_eq_decide.2 (Int.ofNat_lt (n := m.src) (m := few)), decide_eq_decide.2 (Int.ofNat_lt (n := m.dst) (m := few))]
  rfl

theorem part_spec (g n T few : Nat) (S : GS) (h : StatQ n T S) (hn : n ≤ 7) (hT : T ≤ 1000000) (hq : (qPart few S).2 = []) :
    FSpec Try.prog 15 [.pointer (some ⟨g, 0, none⟩), .int .i64 few] [GroupAt g S.1 S.2 [] [] []] (fun u B => u = .bool true ∧ B = [GroupAt g (qPart few S).1 [] [] [] []]) := by
  refine FSpec.of func15 rfl ntmps15 rfl fun W0 F => ?_
  refine J.seq <| J.region <| J.p rfl (Q.asg rfl) <| J.nil <| J.then_n <| J.seq <| J.seq <| J.region <| J.p rfl (Q.asg rfl) <| J.nil <| J.then_n <| J.block ?_
  refine J.loop2 (fun (i : Nat) (Z : GS) => i ≤ 5000 ∧ qRun (crossB few) (5000 - i) Z.1 Z.2 = qPart few S ∧ StatQ n (T + i) Z) (fun i _ => 5000 - i) (fun i Z => [(0, .pointer (some ⟨g, 0, none⟩)), (1, .int .i64 (few : Nat)), (5, .int .i64 (i : Nat))]) (fun i Z => [GroupAt g Z.1 Z.2 [] [] [], F]) 0 S ⟨Nat.zero_le _, rfl, h⟩ ⟨rfl, rfl, rfl, trivial⟩ rfl fun i Z hi => ?_
  obtain ⟨nodes, ms⟩ := Z
  obtain ⟨hi, hrun, hst⟩ := hi
  dsimp only at hrun ⊢
  have hlen := hst.len
  have hbag := hst.bag
  dsimp only at hlen hbag
  refine J.openGroup g nodes ms [] [] [] fun M => ?_
  refine J.norm rfl ?_
  refine J.openGroupIn M g nodes ms [] [] [] fun rp rc ps bp bc mw lm wp wc pm hps hmw hok => ?_
  refine J.norm rfl ?_
  have hmwl : mw.length = ms.length := by rw [← hmw, List.length_map]
  refine J.seq <| J.seq <| J.region <| J.m rfl <| J.p rfl (Q.lss rfl rfl) <| J.m rfl ?_
  refine J.kases 9 rfl (fun hb9 => ?_) (fun hb9 => ?_)
  ·
   refine J.m rfl <| J.p rfl (Q.nil_ rfl) <| J.p rfl (Q.fa (n := 1) runUnderlying35 rfl rfl sizeOf28 rfl) ?_
   refine J.p rfl (Q.ldI isAgg28 rfl) ?_
   refine J.p rfl (Q.lenSl runUnderlying28 rfl) <| J.p rfl (Q.gtr rfl rfl) <| J.p rfl (Q.pick_t rfl rfl) <| J.nil <| J.then_n ?_
   refine J.kases 16 rfl (fun hc16 => ?_) (fun hc16 => ?_)
   ·
    refine J.cond_t rfl <| J.cskip <| J.then_n <| J.seq <| J.block <| J.seq ?_
    refine J.shutI (groupL g rp rc ps bp bc mw lm wp wc pm nodes [] [] []) (GroupIn M g nodes ms [] [] []) (GroupIn.shut hps hmw hok) ?_
    refine J.shutI [GroupIn M g nodes ms [] [] [], M] (GroupAt g nodes ms [] [] []) GroupAt.shut ?_
    obtain ⟨m0, rest, rfl⟩ : ∃ m0 rest, ms = m0 :: rest := by cases ms with | nil => (simp only [List.length_nil] at hmwl; exfalso; omega) | cons a b => exact ⟨a, b, rfl⟩
    have hf1 : 5000 - i = (5000 - (i + 1)) + 1 := by omega
    rw [hf1] at hrun
    obtain ⟨⟨pr, hst0⟩, _⟩ := hst
    have hst : StatQ n (T + i) (nodes, m0 :: rest) := ⟨⟨pr, hst0⟩, hbag⟩
    have hms := hst0.msz (m := m0) List.mem_cons_self
    have hd := hms.dst
    simp only [List.length_cons] at hbag
    refine J.region <| J.m rfl ?_
    refine J.callI call20 (gtake0_spec g nodes m0 rest [] [] [] (by simp only [List.length_cons]; omega)) rfl rfl rfl ?_
    rintro _ _ ⟨M2, w, hwm, hwok, rfl, rfl⟩
    refine J.norm rfl ?_
    refine J.c rfl rfl (C.alloc (l := [_, _, _]) zeroValue53 rfl) ?_
    rintro _ _ ⟨b6, rfl, rfl⟩
    refine J.norm rfl ?_
    refine J.stAJ (vs := [_, _, _]) rfl sizeOf53 rfl rfl ?_
    refine J.nil <| J.then_n <| J.seq <| J.seq ?_
    obtain ⟨⟨src, dst, term, x⟩, wp1, wc1⟩ := w
    dsimp only at hwm
    subst hwm
    refine J.region <| J.p rfl (Q.fa (n := 0) runUnderlying53 rfl rfl sizeOf3 rfl) ?_
    refine J.p rfl (Q.ldI isAgg3 rfl) ?_
    refine J.m rfl <| J.p rfl (Q.lss rfl rfl) <| J.p rfl (Q.fa (n := 1) runUnderlying53 rfl rfl sizeOf3 rfl) ?_
    refine J.p rfl (Q.ldI isAgg3 rfl) ?_
    refine J.m rfl <| J.p rfl (Q.lss rfl rfl) <| J.p rfl (Q.neqb runUnderlying4 rfl rfl) <| J.nil <| J.then_n ?_
    refine J.kases 29 rfl (fun hc29 => ?_) (fun hc29 => ?_)
    ·
     refine J.cond_t rfl <| J.exit <| J.then_x <| J.blk_x <| J.then_n <| J.region <| J.m rfl <| J.p rfl (Q.add64 rfl rfl (by omega)) <| J.p rfl (Q.asg rfl) <| J.nil ?_
     have hcr : crossB few ⟨src, dst, term, x⟩ = true := (by rw [← crossB_int]; exact hc29)
     have hrun2 : qRun (crossB few) (5000 - (i + 1)) nodes rest = qPart few S := by rw [qRun_t hcr] at hrun; exact hrun
     refine J.shutI [GroupIn M2 g nodes rest [] [] [], M2] (GroupAt g nodes rest [] [] []) GroupAt.shut ?_
     refine J.againI (i + 1, (nodes, rest)) ⟨by show i + 1 ≤ 5000; omega, hrun2, hst.drop.up (by omega)⟩ (by show 5000 - (i + 1) < 5000 - i; omega) ⟨rfl, rfl, rfl, trivial⟩
    refine J.cond_f rfl <| J.cskip <| J.then_n <| J.seq ?_
    have hcr : ¬ crossB few ⟨src, dst, term, x⟩ = true := (by have e : crossB few ⟨src, dst, term, x⟩ = false := (by rw [← crossB_int]; exact hc29); rw [e]; exact Bool.false_ne_true)
    obtain ⟨s2, hs2⟩ : ∃ s2, nodes[dst]? = some s2 := ⟨_, List.getElem?_eq_getElem (by dsimp only at hd; omega)⟩
    have hsz2 := hst0.sz hs2
    have hst2 := hst.take
    have hqt := qTake_eq (nodes := nodes) (m := ⟨src, dst, term, x⟩) (rest := rest) hs2
    rw [hqt] at hst2
    have hrun2 : qRun (crossB few) (5000 - (i + 1)) (nodes.set dst (s2.receive ⟨src, dst, term, x⟩).1) (addBag rest (s2.receive ⟨src, dst, term, x⟩).2) = qPart few S := by rw [qRun_f hcr, hqt] at hrun; exact hrun
    have hout := stat_receive_out hst0 (m := ⟨src, dst, term, x⟩) List.mem_cons_self hs2
    dsimp only at hd hst2 hout
    have hfit2 := NSz.fit hsz2 hd (by omega) (by omega)
    obtain ⟨hmf, hmx⟩ := MSz.fit hms (by omega) (by omega) (by omega)
    have hol := recv_len s2 ⟨src, dst, term, x⟩
    have hsn2 := hsz2.isn
    have hsi2 := hsz2.isid
    dsimp only at hmx
    have hsrc := hms.src
    have hne := hms.ne
    have hterm := hms.term
    dsimp only at hsrc hne hterm
    have hwrd := hwok.rd
    have hwc := hwok.c
    dsimp only at hwrd hwc
    clear hps hmw hok hmwl
    refine J.openGroupIn M2 g nodes rest [] [] [] fun rp rc ps bp bc mw lm wp wc pm hps hmw hok => ?_
    refine J.norm rfl ?_
    obtain ⟨p, hp⟩ : ∃ p, ps[dst]? = some p := ⟨_, List.getElem?_eq_getElem (by omega)⟩
    refine J.slrI (E0 := 29) (sz := 1) (p := rp) (n := ps.length) (c := rc) (xs := ps.map ptrV) fun hsl => ?_
    obtain ⟨b, off, rfl, hrd⟩ := hsl.some_ (by omega)
    refine J.focusI (f := nodeA) (l := ps.zip nodes) dst (x := (p, s2)) (zip_get hp hs2) ?_
    refine J.convI (nodeA (p, s2)) (NodeAt p s2) (fun _ h => h) ?_
    refine J.pickI [pt b6 (.cells (MsgW.cells ⟨⟨src, dst, term, x⟩, wp1, wc1⟩).toArray 53 (0, 0)), pt g (.cells (groupC (some ⟨b, off, none⟩) rc ps bp bc mw lm wp wc pm []).toArray 35 (0, 0)), own 29 1 (.slice (some ⟨b, off, none⟩) ps.length rc) (ps.map ptrV)] ?_
    refine J.norm rfl ?_
    refine J.drawE [12, 13] 3 Try.mixed (by kernel_rfl) rfl rfl fun hR => ?_
    refine RG.p 0 hR rfl (Q.mv rfl) <| RG.p 1 hR rfl (Q.fa (n := 1) runUnderlying53 rfl rfl sizeOf3 rfl) ?_
    refine RG.p 2 hR rfl (Q.ldI isAgg3 rfl) ?_
    refine RG.p 3 hR rfl (Q.mv rfl) <| RG.p 4 hR rfl (Q.nil_ rfl) <| RG.p 5 hR rfl (Q.fa (n := 0) runUnderlying35 rfl rfl sizeOf30 rfl) ?_
    refine RG.p 6 hR rfl (Q.ldI isAgg30 rfl) ?_
    refine RG.p 7 hR rfl (Q.fa (n := 1) runUnderlying53 rfl rfl sizeOf3 rfl) ?_
    refine RG.p 8 hR rfl (Q.ldI isAgg3 rfl) ?_
    refine RG.slot 38 (.int .i64 (dst : Nat)) rfl rfl ?_
    refine RG.p 9 hR rfl (Q.ia runUnderlying30 sizeOf29 rfl rfl (by omega) (by omega)) <| RG.p 10 hR rfl (Q.ld isAgg29 rfl (((hrd dst (ptrV p) (by simp [hp])).inI).cast (by simp))) ?_
    refine RG.p 11 hR rfl (Q.ldN (vs := [_, _, _]) isAgg53 sizeOf53 rfl rnI) ?_
    refine RG.callkI 12 hR rfl rfl rfl rfl rfl call21 (receive_spec p s2 M2 wp1 wc1 src dst term x hfit2 hmf (by omega) hsi2.symm (by omega) (by omega) hmx hwrd hwc) rfl ?_
    rintro _ _ ⟨q98, d98, rfl, rfl⟩
    refine RG.normE rfl ?_
    refine RG.callI 13 hR rfl rfl rfl rfl rfl rfl call9 (gsend_parts (g := g) (rp := some ⟨b, off, none⟩) (rc := rc) (bp := bp) (bc := bc) (lm := lm) (wp := wp) (wc := wc) (pm := pm) (LD := []) (row := []) (PR := []) (s' := (s2.receive ⟨src, dst, term, x⟩).1) hps hmw hok hp dst q98 d98 (s2.receive ⟨src, dst, term, x⟩).2 hout (by omega) (by omega)) rfl ?_
    rintro _ _ ⟨rfl, rfl⟩
    refine RG.norm rfl <| RG.p 14 hR rfl (Q.not rfl) ?_
    refine RG.fin hR rfl ?_
    refine J.norm rfl <| J.then_n ?_
    refine J.cases 44 rfl (fun hc44 => ?_) (fun hc44 => ?_)
    ·
     cases hc44
    replace hc44 := X.nm hc44
    refine J.cond_f rfl <| J.cskip <| J.blk_n <| J.then_n <| J.region <| J.m rfl <| J.p rfl (Q.add64 rfl rfl (by omega)) <| J.p rfl (Q.asg rfl) <| J.nil ?_
    refine J.againI (i + 1, (nodes.set dst (s2.receive ⟨src, dst, term, x⟩).1, addBag rest (s2.receive ⟨src, dst, term, x⟩).2)) ⟨by show i + 1 ≤ 5000; omega, hrun2, hst2⟩ (by show 5000 - (i + 1) < 5000 - i; omega) ⟨rfl, rfl, rfl, trivial⟩
   refine J.cond_f rfl <| J.exit <| J.then_x <| J.lp_x <| J.blk_x <| J.then_n <| J.seq ?_
   have hfin : (nodes, ms) = qPart few S := by
    rw [← hrun]
    by_cases q : i = 5000
    · rw [q]; rfl
    · have : ms = [] := List.eq_nil_of_length_eq_zero (by omega)
      rw [this, qRun_nil]
   have hms0 : ms = [] := by rw [← hfin] at hq; exact hq
   have hnodes : nodes = (qPart few S).1 := by rw [← hfin]
   refine J.region <| J.m rfl <| J.p rfl (Q.nil_ rfl) <| J.p rfl (Q.fa (n := 1) runUnderlying35 rfl rfl sizeOf28 rfl) ?_
   refine J.p rfl (Q.ldI isAgg28 rfl) ?_
   refine J.p rfl (Q.lenSl runUnderlying28 rfl) <| J.p rfl (Q.eql rfl rfl) <| J.p rfl (Q.asg rfl) <| J.nil <| J.then_n <| J.cret ?_
   refine J.shutI (groupL g rp rc ps bp bc mw lm wp wc pm nodes [] [] []) (GroupIn M g nodes ms [] [] []) (GroupIn.shut hps hmw hok) ?_
   refine J.shutI [GroupIn M g nodes ms [] [] [], M] (GroupAt g nodes ms [] [] []) GroupAt.shut ?_
   rw [hmwl, hnodes, hms0]
   refine J.ret1I [GroupAt g (qPart few S).1 [] [] [] []] rfl rfl ⟨rfl, rfl⟩
  refine J.k rfl <| J.k rfl <| J.k rfl <| J.k rfl <| J.k rfl <| J.k rfl <| J.p rfl (Q.pick_f rfl rfl) <| J.nil <| J.then_n <| J.cond_f rfl <| J.exit <| J.then_x <| J.lp_x <| J.blk_x <| J.then_n <| J.seq ?_
  have hfin : (nodes, ms) = qPart few S := by
   rw [← hrun]
   by_cases q : i = 5000
   · rw [q]; rfl
   · have : ms = [] := List.eq_nil_of_length_eq_zero (by omega)
     rw [this, qRun_nil]
  have hms0 : ms = [] := by rw [← hfin] at hq; exact hq
  have hnodes : nodes = (qPart few S).1 := by rw [← hfin]
  refine J.region <| J.m rfl <| J.p rfl (Q.nil_ rfl) <| J.p rfl (Q.fa (n := 1) runUnderlying35 rfl rfl sizeOf28 rfl) ?_
  refine J.p rfl (Q.ldI isAgg28 rfl) ?_
  refine J.p rfl (Q.lenSl runUnderlying28 rfl) <| J.p rfl (Q.eql rfl rfl) <| J.p rfl (Q.asg rfl) <| J.nil <| J.then_n <| J.cret ?_
  refine J.shutI (groupL g rp rc ps bp bc mw lm wp wc pm nodes [] [] []) (GroupIn M g nodes ms [] [] []) (GroupIn.shut hps hmw hok) ?_
  refine J.shutI [GroupIn M g nodes ms [] [] [], M] (GroupAt g nodes ms [] [] []) GroupAt.shut ?_
  rw [hmwl, hnodes, hms0]
  refine J.ret1I [GroupAt g (qPart few S).1 [] [] [] []] rfl rfl ⟨rfl, rfl⟩
end Go.Proofs.Ytgdmfagmpfalbaa

