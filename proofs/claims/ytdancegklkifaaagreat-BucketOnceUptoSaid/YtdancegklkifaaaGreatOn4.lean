/-
  What the proof of the last of these texts leans on: part 4 of 6.
-/
import Derived.Test.YtdancegklkifaaaGreatRows
import Derived.KernelRfl
import Derived.RangeFuncRecord
import Derived.RangeFuncIn
import Derived.RangeFuncLeaves
import Derived.RangeFuncSeq
import Derived.TacticsIn
import Derived.Shelf.SortM.Plain
import Derived.Shelf.SortM.SortNone
import Derived.Ground.SlgmProg
import Derived.Sort.AssemblyPlain
import Derived.Test.YtdancegklkifaaaGreatOn3
namespace Go.Proofs.YtdancegklkifaaaGreat
set_option linter.unusedSectionVars false
set_option linter.unusedSimpArgs false
set_option linter.unusedVariables false
open Go.X
open Go.X.G (Ord3 ord3_nat ord3_int ord3_str ltB sget sput sdel Srtd MapAt MapHole plainRep)

theorem check_yes (G : Assn) (x : OW) (hx : x.ok G) (hc : x.o.chkB = true) : FSpec Tryz.prog 12 [.agg x.cells.toArray] [G] (fun v B => v = .int .i64 0 ∧ B = [G]) := by
  have := check_spec G x hx
  rw [hc] at this; exact this
theorem check_no (G : Assn) (x : OW) (hx : x.ok G) (hc : x.o.chkB = false) : FSpec Tryz.prog 12 [.agg x.cells.toArray] [G] (fun v B => v = .int .i64 1 ∧ B = [G]) := by
  have := check_spec G x hx
  rw [hc] at this; exact this
theorem reads_at {n : Int} {b : Bool} (h : readsK n = b) : FSpec Tryz.prog 11 [.int .i64 n] [] (fun v B => v = .bool b ∧ B = []) := by
  subst h; exact reads_spec n

/-- What a result that is its holder's own reads as. -/
theorem asn_ok {x : RW} (hs : x.r.keys.length ≤ 1099511627776 ∧ x.r.data.length ≤ 1099511627776) : ∀ h, x.asn h → x.ok x.asn := by
  intro h hh
  have hh' : HSat h x.asns := hh
  obtain ⟨h1, h2, a, ⟨k1, k2, b, _, _, _, _⟩, _, _, _⟩ := hh'
  exact ⟨(own.slr (i := 0) rfl ⟨h1, X.G.HSat.one a⟩ : SlR [own 9 1 _ _] 1 _ _).into 0 rfl, (own.slr (i := 0) rfl ⟨k1, X.G.HSat.one b⟩ : SlR [own 5 1 _ _] 1 _ _).into 1 rfl, hs⟩

theorem tab_srt (m : Nat) : Srtd ltI (tabM m) := by simp [Srtd, tabM]

/-- The function of an op's kind, with its contract. -/
def HasAct (m : Nat) (M : BM) (x : OW) (G : Assn) : Prop := ∃ fid, sget x.o.kind (tabM m) = some (.func (.func fid) ([.pointer (some ⟨m, 0, none⟩)] : List Value).toArray ([] : List Value).toArray) ∧ (∀ (args : Array Value) (w : World), (callFunc fid args).run Tryz.prog w = .ok (.enter fid args) w) ∧
  FSpec Tryz.prog fid ([.pointer (some ⟨m, 0, none⟩)] ++ [.agg x.cells.toArray] ++ []) [BktAt m M, G] (ActR m G (M.act x.o))

section
variable {k : Nat} (m : Nat) (M : BM) (hM : M.ok k) (x : OW) (G : Assn) (hx : x.ok G)
include hM hx

theorem do_bad (hc : x.o.chkB = false) : FSpec Tryz.prog 10 [.pointer (some ⟨m, 0, none⟩), .agg x.cells.toArray] [BktAt m M, G] (ActR m G (st 400, M)) := by
  refine FSpec.of Tryz.func10 rfl Tryz.ntmps10 rfl fun W0 F => ?_
  refine J.seq ?_
  refine J.region ?_
  refine J.c rfl rfl (C.box (l := [_, _, _, _, _, _, _, _, _]) rfl rfl) ?_
  rintro _ _ ⟨b3, rfl, rfl⟩
  refine J.norm rfl ?_
  refine J.c rfl rfl (C.alloc (l := [_, _, _, _, _]) Tryz.zeroValue37 rfl) ?_
  rintro _ _ ⟨b4, rfl, rfl⟩
  refine J.norm rfl ?_
  refine J.nil ?_
  refine J.then_n ?_
  refine J.seq ?_
  refine J.seq ?_
  refine J.region ?_
  refine J.q rfl rfl (Q.ldN (vs := [_, _, _, _, _, _, _, _, _]) Tryz.isAgg27 Tryz.sizeOf27 rfl rnI) ?_
  refine J.call Tryz.call12 ((by first | exact check_yes G x hx hc | exact check_no G x hx hc)) [3] rfl rfl rfl rfl ?_
  rintro _ _ ⟨rfl, rfl⟩
  refine J.norm rfl ?_
  refine J.q rfl rfl (Q.neq rfl rfl) ?_
  refine J.nil ?_
  refine J.then_n ?_
  refine J.cases 10 rfl (fun hc10 => ?_) (fun hc10 => ?_)
  ·
   replace hc10 := X.nm hc10
   try (first | (cases hc10; done) | (exfalso; simp at hc10; done))
   all_goals
    refine J.cond_t rfl ?_
    refine J.seq ?_
    refine J.region ?_
    refine J.call Tryz.call28 (status_spec 400) [] rfl rfl rfl rfl ?_
    rintro _ _ ⟨y, rfl, hy, rfl⟩
    refine J.norm rfl ?_
    refine J.stAI (vs := [_, _, _, _, _]) rfl Tryz.sizeOf37 rfl rfl (by exact rfl) (by exact rfl) (by exact rfl) ?_
    refine J.nil ?_
    refine J.then_n ?_
    refine J.cret ?_
    refine J.then_r ?_
    refine J.retC [4, 0, 1, 5] (vs := [_, _, _, _, _]) rfl rfl Tryz.isAgg37 Tryz.sizeOf37 (ReadsN.pt 2 rfl) rfl (B := [_, _, _]) ⟨_, rfl, hy, rfl⟩
  replace hc10 := X.nm hc10
  try (first | (cases hc10; done) | (exfalso; simp at hc10; done))
  all_goals
   refine J.cond_f rfl ?_
   refine J.cskip ?_
   refine J.then_n ?_
   refine J.cut (fun _ : Unit => False) (fun _ => []) (fun _ => []) ?_ fun _ hF => ?_
   ·
    refine J.seq ?_
    refine J.open1 3 rfl (fun _ h => h) fun z => ?_
    refine J.norm rfl ?_
    first
      | (refine J.mapFocus 3 hD rfl fun val => ?_
         refine J.norm rfl ?_
         refine J.open_ 0 rfl rfl (fun _ h => h) fun y0 hy0 => ?_
         obtain ⟨hyr, hyv⟩ := hy0
         subst hyv
         subst hyr
         refine J.norm rfl ?_
         have hrs := hM.rs _ _ hD
         refine J.tells 0 rfl (asn_ok ⟨by omega, by omega⟩) fun hy0 => ?_)
      | skip
    refine J.draw [10, 11, 12] Tryz.mixed (by kernel_rfl) fun hR => ?_
    refine RG.q 0 hR rfl rfl rfl rfl rfl rfl (Q.mv rfl) ?_
    refine RG.q 1 hR rfl rfl rfl rfl rfl rfl (Q.nil_ rfl) ?_
    refine RG.q 2 hR rfl rfl rfl rfl rfl rfl (Q.fa (n := 2) Tryz.runUnderlying51 rfl rfl Tryz.sizeOf49 rfl) ?_
    refine RG.q 3 hR rfl rfl rfl rfl rfl rfl (Q.ld Tryz.isAgg49 rfl (rdI (by exact rfl))) ?_
    refine RG.q 4 hR rfl rfl rfl rfl rfl rfl (Q.fa (n := 0) Tryz.runUnderlying27 rfl rfl Tryz.sizeOf23 rfl) ?_
    refine RG.q 5 hR rfl rfl rfl rfl rfl rfl (Q.ld Tryz.isAgg23 rfl (rdI (by exact rfl))) ?_
    refine RG.q 6 hR rfl rfl rfl rfl rfl rfl (by first | exact X.G.Q.lk2No (i := 3) Tryz.runUnderlying49 keyU Tryz.zeroValue37 rfl rfl rfl hD | exact X.G.Q.lk2Yes (i := 1) Tryz.runUnderlying49 keyU Tryz.zeroValue37 rfl rfl rfl) ?_
    refine RG.q 7 hR rfl rfl rfl rfl rfl rfl (Q.mv rfl) ?_
    refine RG.q 8 hR rfl rfl rfl rfl rfl rfl (Q.ext rfl rfl) ?_
    refine RG.q 9 hR rfl rfl rfl rfl rfl rfl (Q.ext rfl rfl) ?_
    refine RG.made 10 hR rfl rfl rfl rfl rfl (C.alloc (l := [_, _, _, _, _]) Tryz.zeroValue37 rfl) ?_
    rintro b5
    refine RG.stAkI (vs := [_, _, _, _, _]) 11 hR rfl rfl rfl rfl Tryz.sizeOf37 rfl rfl (by exact rfl) (by exact rfl) (by exact rfl) ?_
    refine RG.bar 12 hR rfl rfl rfl rfl rfl rfl (Q.asg rfl).toC ?_
    rintro _ _ ⟨rfl, rfl⟩
    refine RG.norm rfl ?_
    refine RG.fin hR rfl ?_
    refine J.norm rfl ?_
    refine J.then_n ?_
    refine J.seq ?_
    refine J.region ?_
    refine J.q rfl rfl (Q.mv rfl) ?_
    refine J.q rfl rfl (Q.mv rfl) ?_
    refine J.cases 23 rfl (fun hb23 => ?_) (fun hb23 => ?_)
    ·
     replace hb23 := X.nm hb23
     try (first | (cases hb23; done) | (exfalso; simp at hb23; done))
     all_goals
      refine J.q rfl rfl (Q.fa (n := 1) Tryz.runUnderlying27 rfl rfl Tryz.sizeOf3 rfl) ?_
      refine J.q rfl rfl (Q.ld Tryz.isAgg3 rfl (rdI (by exact rfl))) ?_
      refine J.call Tryz.call11 (reads_at hrd) [] rfl rfl rfl rfl ?_
      rintro _ _ ⟨rfl, rfl⟩
      refine J.norm rfl ?_
      refine J.q rfl rfl (Q.not rfl) ?_
      refine J.q rfl rfl (Q.pick_t rfl rfl) ?_
      refine J.nil ?_
      refine J.then_n ?_
      refine J.cases 28 rfl (fun hc28 => ?_) (fun hc28 => ?_)
      ·
       replace hc28 := X.nm hc28
       try (first | (cases hc28; done) | (exfalso; simp at hc28; done))
       all_goals
        refine J.cond_t rfl ?_
        refine J.seq ?_
        refine J.region ?_
        refine J.q rfl rfl (Q.ldN (vs := [_, _, _, _, _]) Tryz.isAgg37 Tryz.sizeOf37 rfl rnI) ?_
        refine J.call Tryz.call29 (apart_spec y0.asn y0 hy0) [0] rfl rfl rfl rfl ?_
        rintro _ _ ⟨y, rfl, hy, rfl⟩
        refine J.norm rfl ?_
        refine J.stAI (vs := [_, _, _, _, _]) rfl Tryz.sizeOf37 rfl rfl (by exact rfl) (by exact rfl) (by exact rfl) ?_
        refine J.nil ?_
        refine J.then_n ?_
        refine J.cret ?_
        refine J.cut_r ?_
        refine J.shut [1] (dRep x.o.id y0.r (.agg y0.cells.toArray)) rfl (fun h s => ⟨y0, ⟨rfl, rfl⟩, s⟩) ?_
        refine J.mapSame 0 2 ord3_nat hM.ds hD rfl ?_
        refine J.shut [2, 3, 4, 0] (BktAt m M) rfl (fun h s => ⟨z, s⟩) ?_
        refine J.retC [0, 1, 2, 5] (vs := [_, _, _, _, _]) rfl rfl Tryz.isAgg37 Tryz.sizeOf37 (ReadsN.pt 3 rfl) rfl (B := [_, _, _]) ⟨_, rfl, hy, rfl⟩
      replace hc28 := X.nm hc28
      try (first | (cases hc28; done) | (exfalso; simp at hc28; done))
      all_goals
       refine J.cond_f rfl ?_
       refine J.cskip ?_
       skip
    replace hb23 := X.nm hb23
    try (first | (cases hb23; done) | (exfalso; simp at hb23; done))
    all_goals
     refine J.skip rfl rfl ?_
     refine J.skip rfl rfl ?_
     refine J.skip rfl rfl ?_
     refine J.skip rfl rfl ?_
     refine J.q rfl rfl (Q.pick_f rfl rfl) ?_
     refine J.nil ?_
     refine J.then_n ?_
     refine J.cond_f rfl ?_
     refine J.cskip ?_
     skip
   exact hF.elim
theorem do_kept (hc : x.o.chkB = true) {r : RM} (hD : sget x.o.id M.done = some r) (hrd : readsK x.o.kind = false) : FSpec Tryz.prog 10 [.pointer (some ⟨m, 0, none⟩), .agg x.cells.toArray] [BktAt m M, G] (ActR m G (r, M)) := by
  refine FSpec.of Tryz.func10 rfl Tryz.ntmps10 rfl fun W0 F => ?_
  refine J.seq ?_
  refine J.region ?_
  refine J.c rfl rfl (C.box (l := [_, _, _, _, _, _, _, _, _]) rfl rfl) ?_
  rintro _ _ ⟨b3, rfl, rfl⟩
  refine J.norm rfl ?_
  refine J.c rfl rfl (C.alloc (l := [_, _, _, _, _]) Tryz.zeroValue37 rfl) ?_
  rintro _ _ ⟨b4, rfl, rfl⟩
  refine J.norm rfl ?_
  refine J.nil ?_
  refine J.then_n ?_
  refine J.seq ?_
  refine J.seq ?_
  refine J.region ?_
  refine J.q rfl rfl (Q.ldN (vs := [_, _, _, _, _, _, _, _, _]) Tryz.isAgg27 Tryz.sizeOf27 rfl rnI) ?_
  refine J.call Tryz.call12 ((by first | exact check_yes G x hx hc | exact check_no G x hx hc)) [3] rfl rfl rfl rfl ?_
  rintro _ _ ⟨rfl, rfl⟩
  refine J.norm rfl ?_
  refine J.q rfl rfl (Q.neq rfl rfl) ?_
  refine J.nil ?_
  refine J.then_n ?_
  refine J.cases 10 rfl (fun hc10 => ?_) (fun hc10 => ?_)
  ·
   replace hc10 := X.nm hc10
   try (first | (cases hc10; done) | (exfalso; simp at hc10; done))
   all_goals
    refine J.cond_t rfl ?_
    refine J.seq ?_
    refine J.region ?_
    refine J.call Tryz.call28 (status_spec 400) [] rfl rfl rfl rfl ?_
    rintro _ _ ⟨y, rfl, hy, rfl⟩
    refine J.norm rfl ?_
    refine J.stAI (vs := [_, _, _, _, _]) rfl Tryz.sizeOf37 rfl rfl (by exact rfl) (by exact rfl) (by exact rfl) ?_
    refine J.nil ?_
    refine J.then_n ?_
    refine J.cret ?_
    refine J.then_r ?_
    refine J.retC [4, 0, 1, 5] (vs := [_, _, _, _, _]) rfl rfl Tryz.isAgg37 Tryz.sizeOf37 (ReadsN.pt 2 rfl) rfl (B := [_, _, _]) ⟨_, rfl, hy, rfl⟩
  replace hc10 := X.nm hc10
  try (first | (cases hc10; done) | (exfalso; simp at hc10; done))
  all_goals
   refine J.cond_f rfl ?_
   refine J.cskip ?_
   refine J.then_n ?_
   refine J.cut (fun _ : Unit => False) (fun _ => []) (fun _ => []) ?_ fun _ hF => ?_
   ·
    refine J.seq ?_
    refine J.open1 3 rfl (fun _ h => h) fun z => ?_
    refine J.norm rfl ?_
    first
      | (refine J.mapFocus 3 hD rfl fun val => ?_
         refine J.norm rfl ?_
         refine J.open_ 0 rfl rfl (fun _ h => h) fun y0 hy0 => ?_
         obtain ⟨hyr, hyv⟩ := hy0
         subst hyv
         subst hyr
         refine J.norm rfl ?_
         have hrs := hM.rs _ _ hD
         refine J.tells 0 rfl (asn_ok ⟨by omega, by omega⟩) fun hy0 => ?_)
      | skip
    refine J.draw [10, 11, 12] Tryz.mixed (by kernel_rfl) fun hR => ?_
    refine RG.q 0 hR rfl rfl rfl rfl rfl rfl (Q.mv rfl) ?_
    refine RG.q 1 hR rfl rfl rfl rfl rfl rfl (Q.nil_ rfl) ?_
    refine RG.q 2 hR rfl rfl rfl rfl rfl rfl (Q.fa (n := 2) Tryz.runUnderlying51 rfl rfl Tryz.sizeOf49 rfl) ?_
    refine RG.q 3 hR rfl rfl rfl rfl rfl rfl (Q.ld Tryz.isAgg49 rfl (rdI (by exact rfl))) ?_
    refine RG.q 4 hR rfl rfl rfl rfl rfl rfl (Q.fa (n := 0) Tryz.runUnderlying27 rfl rfl Tryz.sizeOf23 rfl) ?_
    refine RG.q 5 hR rfl rfl rfl rfl rfl rfl (Q.ld Tryz.isAgg23 rfl (rdI (by exact rfl))) ?_
    refine RG.q 6 hR rfl rfl rfl rfl rfl rfl (by first | exact X.G.Q.lk2No (i := 3) Tryz.runUnderlying49 keyU Tryz.zeroValue37 rfl rfl rfl hD | exact X.G.Q.lk2Yes (i := 1) Tryz.runUnderlying49 keyU Tryz.zeroValue37 rfl rfl rfl) ?_
    refine RG.q 7 hR rfl rfl rfl rfl rfl rfl (Q.mv rfl) ?_
    refine RG.q 8 hR rfl rfl rfl rfl rfl rfl (Q.ext rfl rfl) ?_
    refine RG.q 9 hR rfl rfl rfl rfl rfl rfl (Q.ext rfl rfl) ?_
    refine RG.made 10 hR rfl rfl rfl rfl rfl (C.alloc (l := [_, _, _, _, _]) Tryz.zeroValue37 rfl) ?_
    rintro b5
    refine RG.stAkI (vs := [_, _, _, _, _]) 11 hR rfl rfl rfl rfl Tryz.sizeOf37 rfl rfl (by exact rfl) (by exact rfl) (by exact rfl) ?_
    refine RG.bar 12 hR rfl rfl rfl rfl rfl rfl (Q.asg rfl).toC ?_
    rintro _ _ ⟨rfl, rfl⟩
    refine RG.norm rfl ?_
    refine RG.fin hR rfl ?_
    refine J.norm rfl ?_
    refine J.then_n ?_
    refine J.seq ?_
    refine J.region ?_
    refine J.q rfl rfl (Q.mv rfl) ?_
    refine J.q rfl rfl (Q.mv rfl) ?_
    refine J.cases 23 rfl (fun hb23 => ?_) (fun hb23 => ?_)
    ·
     replace hb23 := X.nm hb23
     try (first | (cases hb23; done) | (exfalso; simp at hb23; done))
     all_goals
      refine J.q rfl rfl (Q.fa (n := 1) Tryz.runUnderlying27 rfl rfl Tryz.sizeOf3 rfl) ?_
      refine J.q rfl rfl (Q.ld Tryz.isAgg3 rfl (rdI (by exact rfl))) ?_
      refine J.call Tryz.call11 (reads_at hrd) [] rfl rfl rfl rfl ?_
      rintro _ _ ⟨rfl, rfl⟩
      refine J.norm rfl ?_
      refine J.q rfl rfl (Q.not rfl) ?_
      refine J.q rfl rfl (Q.pick_t rfl rfl) ?_
      refine J.nil ?_
      refine J.then_n ?_
      refine J.cases 28 rfl (fun hc28 => ?_) (fun hc28 => ?_)
      ·
       replace hc28 := X.nm hc28
       try (first | (cases hc28; done) | (exfalso; simp at hc28; done))
       all_goals
        refine J.cond_t rfl ?_
        refine J.seq ?_
        refine J.region ?_
        refine J.q rfl rfl (Q.ldN (vs := [_, _, _, _, _]) Tryz.isAgg37 Tryz.sizeOf37 rfl rnI) ?_
        refine J.call Tryz.call29 (apart_spec y0.asn y0 hy0) [0] rfl rfl rfl rfl ?_
        rintro _ _ ⟨y, rfl, hy, rfl⟩
        refine J.norm rfl ?_
        refine J.stAI (vs := [_, _, _, _, _]) rfl Tryz.sizeOf37 rfl rfl (by exact rfl) (by exact rfl) (by exact rfl) ?_
        refine J.nil ?_
        refine J.then_n ?_
        refine J.cret ?_
        refine J.cut_r ?_
        refine J.shut [1] (dRep x.o.id y0.r (.agg y0.cells.toArray)) rfl (fun h s => ⟨y0, ⟨rfl, rfl⟩, s⟩) ?_
        refine J.mapSame 0 2 ord3_nat hM.ds hD rfl ?_
        refine J.shut [2, 3, 4, 0] (BktAt m M) rfl (fun h s => ⟨z, s⟩) ?_
        refine J.retC [0, 1, 2, 5] (vs := [_, _, _, _, _]) rfl rfl Tryz.isAgg37 Tryz.sizeOf37 (ReadsN.pt 3 rfl) rfl (B := [_, _, _]) ⟨_, rfl, hy, rfl⟩
      replace hc28 := X.nm hc28
      try (first | (cases hc28; done) | (exfalso; simp at hc28; done))
      all_goals
       refine J.cond_f rfl ?_
       refine J.cskip ?_
       skip
    replace hb23 := X.nm hb23
    try (first | (cases hb23; done) | (exfalso; simp at hb23; done))
    all_goals
     refine J.skip rfl rfl ?_
     refine J.skip rfl rfl ?_
     refine J.skip rfl rfl ?_
     refine J.skip rfl rfl ?_
     refine J.q rfl rfl (Q.pick_f rfl rfl) ?_
     refine J.nil ?_
     refine J.then_n ?_
     refine J.cond_f rfl ?_
     refine J.cskip ?_
     skip
   exact hF.elim
theorem do_read0 (hA : HasAct m M x G) (hc : x.o.chkB = true) (hD : sget x.o.id M.done = none) (hrd : readsK x.o.kind = true) : FSpec Tryz.prog 10 [.pointer (some ⟨m, 0, none⟩), .agg x.cells.toArray] [BktAt m M, G] (ActR m G (M.act x.o)) := by
  refine FSpec.of Tryz.func10 rfl Tryz.ntmps10 rfl fun W0 F => ?_
  refine J.seq ?_
  refine J.region ?_
  refine J.c rfl rfl (C.box (l := [_, _, _, _, _, _, _, _, _]) rfl rfl) ?_
  rintro _ _ ⟨b3, rfl, rfl⟩
  refine J.norm rfl ?_
  refine J.c rfl rfl (C.alloc (l := [_, _, _, _, _]) Tryz.zeroValue37 rfl) ?_
  rintro _ _ ⟨b4, rfl, rfl⟩
  refine J.norm rfl ?_
  refine J.nil ?_
  refine J.then_n ?_
  refine J.seq ?_
  refine J.seq ?_
  refine J.region ?_
  refine J.q rfl rfl (Q.ldN (vs := [_, _, _, _, _, _, _, _, _]) Tryz.isAgg27 Tryz.sizeOf27 rfl rnI) ?_
  refine J.call Tryz.call12 ((by first | exact check_yes G x hx hc | exact check_no G x hx hc)) [3] rfl rfl rfl rfl ?_
  rintro _ _ ⟨rfl, rfl⟩
  refine J.norm rfl ?_
  refine J.q rfl rfl (Q.neq rfl rfl) ?_
  refine J.nil ?_
  refine J.then_n ?_
  refine J.cases 10 rfl (fun hc10 => ?_) (fun hc10 => ?_)
  ·
   replace hc10 := X.nm hc10
   try (first | (cases hc10; done) | (exfalso; simp at hc10; done))
   all_goals
    refine J.cond_t rfl ?_
    refine J.seq ?_
    refine J.region ?_
    refine J.call Tryz.call28 (status_spec 400) [] rfl rfl rfl rfl ?_
    rintro _ _ ⟨y, rfl, hy, rfl⟩
    refine J.norm rfl ?_
    refine J.stAI (vs := [_, _, _, _, _]) rfl Tryz.sizeOf37 rfl rfl (by exact rfl) (by exact rfl) (by exact rfl) ?_
    refine J.nil ?_
    refine J.then_n ?_
    refine J.cret ?_
    refine J.then_r ?_
    refine J.retC [4, 0, 1, 5] (vs := [_, _, _, _, _]) rfl rfl Tryz.isAgg37 Tryz.sizeOf37 (ReadsN.pt 2 rfl) rfl (B := [_, _, _]) ⟨_, rfl, hy, rfl⟩
  replace hc10 := X.nm hc10
  try (first | (cases hc10; done) | (exfalso; simp at hc10; done))
  all_goals
   refine J.cond_f rfl ?_
   refine J.cskip ?_
   refine J.then_n ?_
   refine J.cut (fun _ : Unit => True) (fun _ => [(0, .pointer (some ⟨m, 0, none⟩)), (3, .pointer (some ⟨b3, 0, none⟩)), (4, .pointer (some ⟨b4, 0, none⟩))]) (fun _ => [pt b3 (.cells x.cells.toArray 27 (0, 0)), BktAt m M, G, pt b4 (.cells [Value.int .i64 0, .int .u64 0, .slice none 0 0, .bool false, .slice none 0 0].toArray 37 (0, 0)), F]) ?_ fun _ _ => ?_
   ·
    refine J.seq ?_
    refine J.open1 3 rfl (fun _ h => h) fun z => ?_
    refine J.norm rfl ?_
    first
      | (refine J.mapFocus 3 hD rfl fun val => ?_
         refine J.norm rfl ?_
         refine J.open_ 0 rfl rfl (fun _ h => h) fun y0 hy0 => ?_
         obtain ⟨hyr, hyv⟩ := hy0
         subst hyv
         subst hyr
         refine J.norm rfl ?_
         have hrs := hM.rs _ _ hD
         refine J.tells 0 rfl (asn_ok ⟨by omega, by omega⟩) fun hy0 => ?_)
      | skip
    refine J.draw [10, 11, 12] Tryz.mixed (by kernel_rfl) fun hR => ?_
    refine RG.q 0 hR rfl rfl rfl rfl rfl rfl (Q.mv rfl) ?_
    refine RG.q 1 hR rfl rfl rfl rfl rfl rfl (Q.nil_ rfl) ?_
    refine RG.q 2 hR rfl rfl rfl rfl rfl rfl (Q.fa (n := 2) Tryz.runUnderlying51 rfl rfl Tryz.sizeOf49 rfl) ?_
    refine RG.q 3 hR rfl rfl rfl rfl rfl rfl (Q.ld Tryz.isAgg49 rfl (rdI (by exact rfl))) ?_
    refine RG.q 4 hR rfl rfl rfl rfl rfl rfl (Q.fa (n := 0) Tryz.runUnderlying27 rfl rfl Tryz.sizeOf23 rfl) ?_
    refine RG.q 5 hR rfl rfl rfl rfl rfl rfl (Q.ld Tryz.isAgg23 rfl (rdI (by exact rfl))) ?_
    refine RG.q 6 hR rfl rfl rfl rfl rfl rfl (by first | exact X.G.Q.lk2No (i := 3) Tryz.runUnderlying49 keyU Tryz.zeroValue37 rfl rfl rfl hD | exact X.G.Q.lk2Yes (i := 1) Tryz.runUnderlying49 keyU Tryz.zeroValue37 rfl rfl rfl) ?_
    refine RG.q 7 hR rfl rfl rfl rfl rfl rfl (Q.mv rfl) ?_
    refine RG.q 8 hR rfl rfl rfl rfl rfl rfl (Q.ext rfl rfl) ?_
    refine RG.q 9 hR rfl rfl rfl rfl rfl rfl (Q.ext rfl rfl) ?_
    refine RG.made 10 hR rfl rfl rfl rfl rfl (C.alloc (l := [_, _, _, _, _]) Tryz.zeroValue37 rfl) ?_
    rintro b5
    refine RG.stAkI (vs := [_, _, _, _, _]) 11 hR rfl rfl rfl rfl Tryz.sizeOf37 rfl rfl (by exact rfl) (by exact rfl) (by exact rfl) ?_
    refine RG.bar 12 hR rfl rfl rfl rfl rfl rfl (Q.asg rfl).toC ?_
    rintro _ _ ⟨rfl, rfl⟩
    refine RG.norm rfl ?_
    refine RG.fin hR rfl ?_
    refine J.norm rfl ?_
    refine J.then_n ?_
    refine J.seq ?_
    refine J.region ?_
    refine J.q rfl rfl (Q.mv rfl) ?_
    refine J.q rfl rfl (Q.mv rfl) ?_
    refine J.cases 23 rfl (fun hb23 => ?_) (fun hb23 => ?_)
    ·
     replace hb23 := X.nm hb23
     try (first | (cases hb23; done) | (exfalso; simp at hb23; done))
     all_goals
      refine J.q rfl rfl (Q.fa (n := 1) Tryz.runUnderlying27 rfl rfl Tryz.sizeOf3 rfl) ?_
      refine J.q rfl rfl (Q.ld Tryz.isAgg3 rfl (rdI (by exact rfl))) ?_
      refine J.call Tryz.call11 (reads_at hrd) [] rfl rfl rfl rfl ?_
      rintro _ _ ⟨rfl, rfl⟩
      refine J.norm rfl ?_
      refine J.q rfl rfl (Q.not rfl) ?_
      refine J.q rfl rfl (Q.pick_t rfl rfl) ?_
      refine J.nil ?_
      refine J.then_n ?_
      refine J.cases 28 rfl (fun hc28 => ?_) (fun hc28 => ?_)
      ·
       replace hc28 := X.nm hc28
       try (first | (cases hc28; done) | (exfalso; simp at hc28; done))
       all_goals
        refine J.cond_t rfl ?_
        refine J.seq ?_
        refine J.region ?_
        refine J.q rfl rfl (Q.ldN (vs := [_, _, _, _, _]) Tryz.isAgg37 Tryz.sizeOf37 rfl rnI) ?_
        refine J.call Tryz.call29 (apart_spec y0.asn y0 hy0) [0] rfl rfl rfl rfl ?_
        rintro _ _ ⟨y, rfl, hy, rfl⟩
        refine J.norm rfl ?_
        refine J.stAI (vs := [_, _, _, _, _]) rfl Tryz.sizeOf37 rfl rfl (by exact rfl) (by exact rfl) (by exact rfl) ?_
        refine J.nil ?_
        refine J.then_n ?_
        refine J.cret ?_
        refine J.cut_r ?_
        refine J.shut [1] (dRep x.o.id y0.r (.agg y0.cells.toArray)) rfl (fun h s => ⟨y0, ⟨rfl, rfl⟩, s⟩) ?_
        refine J.mapSame 0 2 ord3_nat hM.ds hD rfl ?_
        refine J.shut [2, 3, 4, 0] (BktAt m M) rfl (fun h s => ⟨z, s⟩) ?_
        refine J.retC [0, 1, 2, 5] (vs := [_, _, _, _, _]) rfl rfl Tryz.isAgg37 Tryz.sizeOf37 (ReadsN.pt 3 rfl) rfl (B := [_, _, _]) ⟨_, rfl, hy, rfl⟩
      replace hc28 := X.nm hc28
      try (first | (cases hc28; done) | (exfalso; simp at hc28; done))
      all_goals
       refine J.cond_f rfl ?_
       refine J.cskip ?_
       first
         | (refine J.shut [0] (dRep x.o.id y0.r (.agg y0.cells.toArray)) rfl (fun h s => ⟨y0, ⟨rfl, rfl⟩, s⟩) ?_
            refine J.mapSame 0 1 ord3_nat hM.ds hD rfl ?_
            refine J.shut [1, 2, 3, 0] (BktAt m M) rfl (fun h s => ⟨z, s⟩) ?_)
         | refine J.shut [0, 1, 2, 3] (BktAt m M) rfl (fun h s => ⟨z, s⟩) ?_
       refine J.keep [3, 0, 1, 2, 4] rfl ?_
       refine J.meet () trivial ⟨rfl, rfl, rfl, trivial⟩ rfl
    replace hb23 := X.nm hb23
    try (first | (cases hb23; done) | (exfalso; simp at hb23; done))
    all_goals
     refine J.skip rfl rfl ?_
     refine J.skip rfl rfl ?_
     refine J.skip rfl rfl ?_
     refine J.skip rfl rfl ?_
     refine J.q rfl rfl (Q.pick_f rfl rfl) ?_
     refine J.nil ?_
     refine J.then_n ?_
     refine J.cond_f rfl ?_
     refine J.cskip ?_
     first
       | (refine J.shut [0] (dRep x.o.id y0.r (.agg y0.cells.toArray)) rfl (fun h s => ⟨y0, ⟨rfl, rfl⟩, s⟩) ?_
          refine J.mapSame 0 1 ord3_nat hM.ds hD rfl ?_
          refine J.shut [1, 2, 3, 0] (BktAt m M) rfl (fun h s => ⟨z, s⟩) ?_)
       | refine J.shut [0, 1, 2, 3] (BktAt m M) rfl (fun h s => ⟨z, s⟩) ?_
     refine J.keep [3, 0, 1, 2, 4] rfl ?_
     refine J.meet () trivial ⟨rfl, rfl, rfl, trivial⟩ rfl
   refine J.cut (fun w : Nat × RW => w.2.r = (M.act x.o).1) (fun w => [(0, .pointer (some ⟨m, 0, none⟩)), (3, .pointer (some ⟨b3, 0, none⟩)), (4, .pointer (some ⟨b4, 0, none⟩)), (7, .pointer (some ⟨w.1, 0, none⟩))]) (fun w => [pt b3 (.cells x.cells.toArray 27 (0, 0)), BktAt m (M.act x.o).2, w.2.asn, G, pt b4 (.cells [Value.int .i64 0, .int .u64 0, .slice none 0 0, .bool false, .slice none 0 0].toArray 37 (0, 0)), F, pt w.1 (.cells w.2.cells.toArray 37 (0, 0))]) ?_ fun w hw => ?_
   ·
    obtain ⟨fid, hf1, hf2, hf3⟩ := hA
    refine J.drawE [1, 6, 7, 8] 1 Tryz.mixed (by kernel_rfl) rfl rfl fun hR => ?_
    refine RG.q 0 hR rfl rfl rfl rfl rfl rfl (Q.mv rfl) ?_
    refine RG.q 2 hR rfl rfl rfl rfl rfl rfl (Q.fa (n := 1) Tryz.runUnderlying27 rfl rfl Tryz.sizeOf3 rfl) ?_
    refine RG.q 3 hR rfl rfl rfl rfl rfl rfl (Q.ld Tryz.isAgg3 rfl (rdI (by exact rfl))) ?_
    refine RG.q 5 hR rfl rfl rfl rfl rfl rfl (Q.ldN (vs := [_, _, _, _, _, _, _, _, _]) Tryz.isAgg27 Tryz.sizeOf27 rfl rnI) ?_
    refine RG.many hR 1 [7] rfl ⟨?_, ⟨?_, trivial⟩⟩
    ·
     refine RGi.callk rfl rfl rfl rfl Tryz.call30 (table_spec m) [] rfl rfl ?_
     rintro _ _ ⟨rt, rfl, rfl⟩
     refine ⟨_, X.pick_perm (is := [1]) rfl, ?_⟩
     refine RG.hold ?_
     refine RG.norm rfl ?_
     refine RG.q 4 hR rfl rfl rfl rfl rfl rfl (X.G.Q.lkPlain (i := 1) ord3_int (tab_srt m) Tryz.runUnderlying77 keyI Tryz.zeroValue38 rfl rfl rfl hf1) ?_
     refine RG.many hR 6 [7] rfl ⟨?_, ⟨?_, trivial⟩⟩
     ·
      refine RGi.one rfl rfl rfl rfl (OpC.callv hf2 rfl rfl hf3 [2, 3] rfl) ?_
      rintro _ _ ⟨_, ⟨y, rfl, hy, rfl⟩, rfl⟩
      refine ⟨_, X.pick_perm (is := [3, 4]) rfl, ?_⟩
      refine RG.made 7 hR rfl rfl rfl rfl rfl (C.alloc (l := [_, _, _, _, _]) Tryz.zeroValue37 rfl) ?_
      rintro b7
      refine RG.rot ?_
      refine RG.normE rfl ?_
      refine RG.stAI (vs := [_, _, _, _, _]) 8 hR rfl rfl rfl rfl rfl Tryz.sizeOf37 rfl rfl (by exact rfl) (by exact rfl) (by exact rfl) ?_
      refine RG.fin hR rfl ?_
      refine J.norm rfl ?_
      refine J.keep [0, 2, 3, 4, 5, 6, 7] rfl ?_
      refine J.meet (b7, y) hy ⟨rfl, rfl, rfl, rfl, trivial⟩ rfl
     ·
      refine RGi.made rfl rfl rfl rfl (C.alloc (l := [_, _, _, _, _]) Tryz.zeroValue37 rfl) ?_
      rintro b7
      refine RG.rot ?_
      refine RG.normE rfl ?_
      refine RG.many hR 6 [] rfl ⟨?_, trivial⟩
      ·
       refine RGi.one rfl rfl rfl rfl (OpC.callv hf2 rfl rfl hf3 [2, 3] rfl) ?_
       rintro _ _ ⟨_, ⟨y, rfl, hy, rfl⟩, rfl⟩
       refine ⟨_, X.pick_perm (is := [3, 4]) rfl, ?_⟩
       refine RG.stAI (vs := [_, _, _, _, _]) 8 hR rfl rfl rfl rfl rfl Tryz.sizeOf37 rfl rfl (by exact rfl) (by exact rfl) (by exact rfl) ?_
       refine RG.fin hR rfl ?_
       refine J.norm rfl ?_
       refine J.keep [0, 2, 3, 4, 5, 6, 7] rfl ?_
       refine J.meet (b7, y) hy ⟨rfl, rfl, rfl, rfl, trivial⟩ rfl
    ·
     refine RGi.made rfl rfl rfl rfl (C.alloc (l := [_, _, _, _, _]) Tryz.zeroValue37 rfl) ?_
     rintro b7
     refine RG.rot ?_
     refine RG.normE rfl ?_
     refine RG.callk 1 hR rfl rfl rfl rfl rfl Tryz.call30 (table_spec m) [] rfl rfl ?_
     rintro _ _ ⟨rt, rfl, rfl⟩
     refine ⟨_, X.pick_perm (is := [1]) rfl, ?_⟩
     refine RG.hold ?_
     refine RG.norm rfl ?_
     refine RG.q 4 hR rfl rfl rfl rfl rfl rfl (X.G.Q.lkPlain (i := 1) ord3_int (tab_srt m) Tryz.runUnderlying77 keyI Tryz.zeroValue38 rfl rfl rfl hf1) ?_
     refine RG.many hR 6 [] rfl ⟨?_, trivial⟩
     ·
      refine RGi.one rfl rfl rfl rfl (OpC.callv hf2 rfl rfl hf3 [2, 3] rfl) ?_
      rintro _ _ ⟨_, ⟨y, rfl, hy, rfl⟩, rfl⟩
      refine ⟨_, X.pick_perm (is := [3, 4]) rfl, ?_⟩
      refine RG.stAI (vs := [_, _, _, _, _]) 8 hR rfl rfl rfl rfl rfl Tryz.sizeOf37 rfl rfl (by exact rfl) (by exact rfl) (by exact rfl) ?_
      refine RG.fin hR rfl ?_
      refine J.norm rfl ?_
      refine J.keep [0, 2, 3, 4, 5, 6, 7] rfl ?_
      refine J.meet (b7, y) hy ⟨rfl, rfl, rfl, rfl, trivial⟩ rfl
   obtain ⟨b7, y⟩ := w
   dsimp only at hw
   have hys : y.r.keys.length ≤ 1099511627776 ∧ y.r.data.length ≤ 1099511627776 := by rw [hw]; have := act_small hM hc; omega
   refine J.tells 2 rfl (asn_ok hys) fun hyo => ?_
   refine J.seq ?_
   refine J.seq ?_
   refine J.region ?_
   refine J.q rfl rfl (Q.fa (n := 1) Tryz.runUnderlying27 rfl rfl Tryz.sizeOf3 rfl) ?_
   refine J.q rfl rfl (Q.ld Tryz.isAgg3 rfl (rdI (by exact rfl))) ?_
   refine J.call Tryz.call11 (reads_at hrd) [] rfl rfl rfl rfl ?_
   rintro _ _ ⟨rfl, rfl⟩
   refine J.norm rfl ?_
   refine J.q rfl rfl (Q.not rfl) ?_
   refine J.nil ?_
   refine J.then_n ?_
   refine J.cases 41 rfl (fun hc41 => ?_) (fun hc41 => ?_)
   ·
    replace hc41 := X.nm hc41
    try (first | (cases hc41; done) | (exfalso; simp at hc41; done))
    all_goals
     refine J.cond_t rfl ?_
     refine J.open1 1 rfl (fun _ h => h) fun z => ?_
     refine J.norm rfl ?_
     refine J.keep [0, 4, 9, 1, 2, 3, 5, 6, 7, 8] rfl ?_
     refine J.drawE [7, 8] 3 Tryz.mixed (by kernel_rfl) rfl rfl fun hR => ?_
     refine RG.q 0 hR rfl rfl rfl rfl rfl rfl (Q.mv rfl) ?_
     refine RG.q 1 hR rfl rfl rfl rfl rfl rfl (Q.nil_ rfl) ?_
     refine RG.q 2 hR rfl rfl rfl rfl rfl rfl (Q.fa (n := 2) Tryz.runUnderlying51 rfl rfl Tryz.sizeOf49 rfl) ?_
     refine RG.q 3 hR rfl rfl rfl rfl rfl rfl (Q.ld Tryz.isAgg49 rfl (rdI (by exact rfl))) ?_
     refine RG.q 4 hR rfl rfl rfl rfl rfl rfl (Q.fa (n := 0) Tryz.runUnderlying27 rfl rfl Tryz.sizeOf23 rfl) ?_
     refine RG.q 5 hR rfl rfl rfl rfl rfl rfl (Q.ld Tryz.isAgg23 rfl (rdI (by exact rfl))) ?_
     refine RG.q 6 hR rfl rfl rfl rfl rfl rfl (Q.ldN (vs := [_, _, _, _, _]) Tryz.isAgg37 Tryz.sizeOf37 rfl rnI) ?_
     refine RG.callk 7 hR rfl rfl rfl rfl rfl Tryz.call29 (apart_spec y.asn y hyo) [6] rfl rfl ?_
     rintro _ _ ⟨y2, rfl, hy2, rfl⟩
     refine ⟨_, X.pick_perm (is := [2, 3, 4]) rfl, ?_⟩
     refine RG.bar 8 hR rfl rfl rfl rfl rfl rfl (X.G.C.mapPut (rep := dRep) 7 (M.act x.o).1 ord3_nat (by rw [act_done]; exact hM.ds) Tryz.runUnderlying49 keyU rfl rfl rfl rfl) ?_
     rintro _ _ ⟨rfl, rfl⟩
     refine RG.norm rfl ?_
     refine RG.fin hR rfl ?_
     refine J.norm rfl ?_
     refine J.then_n ?_
     refine J.seq ?_
     refine J.region ?_
     refine J.q rfl rfl (Q.ldN (vs := [_, _, _, _, _]) Tryz.isAgg37 Tryz.sizeOf37 rfl rnI) ?_
     refine J.stAI (vs := [_, _, _, _, _]) rfl Tryz.sizeOf37 rfl rfl (by exact rfl) (by exact rfl) (by exact rfl) ?_
     refine J.nil ?_
     refine J.then_n ?_
     refine J.cret ?_
     refine J.shut [3] (dRep x.o.id (M.act x.o).1 (.agg y2.cells.toArray)) rfl (fun h s => ⟨y2, ⟨hy2.trans hw, rfl⟩, s⟩) ?_
     refine J.mapBack (lt := ltN) 0 7 (M.act x.o).1 ord3_nat (X.G.srtd_put ord3_nat (by rw [act_done]; exact hM.ds) _ _) rfl ?_
     rw [X.G.sput_put ord3_nat (by rw [act_done]; exact hM.ds), act_done]
     refine J.shut [1, 5, 6, 0] (BktAt m { (M.act x.o).2 with done := sput ltN x.o.id (M.act x.o).1 M.done }) rfl (fun h s => ⟨z, s⟩) ?_
     refine J.retC [0, 3, 4, 6] (vs := [_, _, _, _, _]) rfl rfl Tryz.isAgg37 Tryz.sizeOf37 (ReadsN.pt 5 rfl) rfl (B := [_, _, _]) ⟨y, rfl, hw, rfl⟩
   replace hc41 := X.nm hc41
   try (first | (cases hc41; done) | (exfalso; simp at hc41; done))
   all_goals
    refine J.cond_f rfl ?_
    refine J.cskip ?_
    refine J.then_n ?_
    refine J.seq ?_
    refine J.region ?_
    refine J.q rfl rfl (Q.ldN (vs := [_, _, _, _, _]) Tryz.isAgg37 Tryz.sizeOf37 rfl rnI) ?_
    refine J.stAI (vs := [_, _, _, _, _]) rfl Tryz.sizeOf37 rfl rfl (by exact rfl) (by exact rfl) (by exact rfl) ?_
    refine J.nil ?_
    refine J.then_n ?_
    refine J.cret ?_
    refine J.retC [1, 2, 3, 5] (vs := [_, _, _, _, _]) rfl rfl Tryz.isAgg37 Tryz.sizeOf37 (ReadsN.pt 4 rfl) rfl (B := [_, _, _]) ⟨y, rfl, hw, rfl⟩
theorem do_read1 (hA : HasAct m M x G) (hc : x.o.chkB = true) {r : RM} (hD : sget x.o.id M.done = some r) (hrd : readsK x.o.kind = true) : FSpec Tryz.prog 10 [.pointer (some ⟨m, 0, none⟩), .agg x.cells.toArray] [BktAt m M, G] (ActR m G (M.act x.o)) := by
  refine FSpec.of Tryz.func10 rfl Tryz.ntmps10 rfl fun W0 F => ?_
  refine J.seq ?_
  refine J.region ?_
  refine J.c rfl rfl (C.box (l := [_, _, _, _, _, _, _, _, _]) rfl rfl) ?_
  rintro _ _ ⟨b3, rfl, rfl⟩
  refine J.norm rfl ?_
  refine J.c rfl rfl (C.alloc (l := [_, _, _, _, _]) Tryz.zeroValue37 rfl) ?_
  rintro _ _ ⟨b4, rfl, rfl⟩
  refine J.norm rfl ?_
  refine J.nil ?_
  refine J.then_n ?_
  refine J.seq ?_
  refine J.seq ?_
  refine J.region ?_
  refine J.q rfl rfl (Q.ldN (vs := [_, _, _, _, _, _, _, _, _]) Tryz.isAgg27 Tryz.sizeOf27 rfl rnI) ?_
  refine J.call Tryz.call12 ((by first | exact check_yes G x hx hc | exact check_no G x hx hc)) [3] rfl rfl rfl rfl ?_
  rintro _ _ ⟨rfl, rfl⟩
  refine J.norm rfl ?_
  refine J.q rfl rfl (Q.neq rfl rfl) ?_
  refine J.nil ?_
  refine J.then_n ?_
  refine J.cases 10 rfl (fun hc10 => ?_) (fun hc10 => ?_)
  ·
   replace hc10 := X.nm hc10
   try (first | (cases hc10; done) | (exfalso; simp at hc10; done))
   all_goals
    refine J.cond_t rfl ?_
    refine J.seq ?_
    refine J.region ?_
    refine J.call Tryz.call28 (status_spec 400) [] rfl rfl rfl rfl ?_
    rintro _ _ ⟨y, rfl, hy, rfl⟩
    refine J.norm rfl ?_
    refine J.stAI (vs := [_, _, _, _, _]) rfl Tryz.sizeOf37 rfl rfl (by exact rfl) (by exact rfl) (by exact rfl) ?_
    refine J.nil ?_
    refine J.then_n ?_
    refine J.cret ?_
    refine J.then_r ?_
    refine J.retC [4, 0, 1, 5] (vs := [_, _, _, _, _]) rfl rfl Tryz.isAgg37 Tryz.sizeOf37 (ReadsN.pt 2 rfl) rfl (B := [_, _, _]) ⟨_, rfl, hy, rfl⟩
  replace hc10 := X.nm hc10
  try (first | (cases hc10; done) | (exfalso; simp at hc10; done))
  all_goals
   refine J.cond_f rfl ?_
   refine J.cskip ?_
   refine J.then_n ?_
   refine J.cut (fun _ : Unit => True) (fun _ => [(0, .pointer (some ⟨m, 0, none⟩)), (3, .pointer (some ⟨b3, 0, none⟩)), (4, .pointer (some ⟨b4, 0, none⟩))]) (fun _ => [pt b3 (.cells x.cells.toArray 27 (0, 0)), BktAt m M, G, pt b4 (.cells [Value.int .i64 0, .int .u64 0, .slice none 0 0, .bool false, .slice none 0 0].toArray 37 (0, 0)), F]) ?_ fun _ _ => ?_
   ·
    refine J.seq ?_
    refine J.open1 3 rfl (fun _ h => h) fun z => ?_
    refine J.norm rfl ?_
    first
      | (refine J.mapFocus 3 hD rfl fun val => ?_
         refine J.norm rfl ?_
         refine J.open_ 0 rfl rfl (fun _ h => h) fun y0 hy0 => ?_
         obtain ⟨hyr, hyv⟩ := hy0
         subst hyv
         subst hyr
         refine J.norm rfl ?_
         have hrs := hM.rs _ _ hD
         refine J.tells 0 rfl (asn_ok ⟨by omega, by omega⟩) fun hy0 => ?_)
      | skip
    refine J.draw [10, 11, 12] Tryz.mixed (by kernel_rfl) fun hR => ?_
    refine RG.q 0 hR rfl rfl rfl rfl rfl rfl (Q.mv rfl) ?_
    refine RG.q 1 hR rfl rfl rfl rfl rfl rfl (Q.nil_ rfl) ?_
    refine RG.q 2 hR rfl rfl rfl rfl rfl rfl (Q.fa (n := 2) Tryz.runUnderlying51 rfl rfl Tryz.sizeOf49 rfl) ?_
    refine RG.q 3 hR rfl rfl rfl rfl rfl rfl (Q.ld Tryz.isAgg49 rfl (rdI (by exact rfl))) ?_
    refine RG.q 4 hR rfl rfl rfl rfl rfl rfl (Q.fa (n := 0) Tryz.runUnderlying27 rfl rfl Tryz.sizeOf23 rfl) ?_
    refine RG.q 5 hR rfl rfl rfl rfl rfl rfl (Q.ld Tryz.isAgg23 rfl (rdI (by exact rfl))) ?_
    refine RG.q 6 hR rfl rfl rfl rfl rfl rfl (by first | exact X.G.Q.lk2No (i := 3) Tryz.runUnderlying49 keyU Tryz.zeroValue37 rfl rfl rfl hD | exact X.G.Q.lk2Yes (i := 1) Tryz.runUnderlying49 keyU Tryz.zeroValue37 rfl rfl rfl) ?_
    refine RG.q 7 hR rfl rfl rfl rfl rfl rfl (Q.mv rfl) ?_
    refine RG.q 8 hR rfl rfl rfl rfl rfl rfl (Q.ext rfl rfl) ?_
    refine RG.q 9 hR rfl rfl rfl rfl rfl rfl (Q.ext rfl rfl) ?_
    refine RG.made 10 hR rfl rfl rfl rfl rfl (C.alloc (l := [_, _, _, _, _]) Tryz.zeroValue37 rfl) ?_
    rintro b5
    refine RG.stAkI (vs := [_, _, _, _, _]) 11 hR rfl rfl rfl rfl Tryz.sizeOf37 rfl rfl (by exact rfl) (by exact rfl) (by exact rfl) ?_
    refine RG.bar 12 hR rfl rfl rfl rfl rfl rfl (Q.asg rfl).toC ?_
    rintro _ _ ⟨rfl, rfl⟩
    refine RG.norm rfl ?_
    refine RG.fin hR rfl ?_
    refine J.norm rfl ?_
    refine J.then_n ?_
    refine J.seq ?_
    refine J.region ?_
    refine J.q rfl rfl (Q.mv rfl) ?_
    refine J.q rfl rfl (Q.mv rfl) ?_
    refine J.cases 23 rfl (fun hb23 => ?_) (fun hb23 => ?_)
    ·
     replace hb23 := X.nm hb23
     try (first | (cases hb23; done) | (exfalso; simp at hb23; done))
     all_goals
      refine J.q rfl rfl (Q.fa (n := 1) Tryz.runUnderlying27 rfl rfl Tryz.sizeOf3 rfl) ?_
      refine J.q rfl rfl (Q.ld Tryz.isAgg3 rfl (rdI (by exact rfl))) ?_
      refine J.call Tryz.call11 (reads_at hrd) [] rfl rfl rfl rfl ?_
      rintro _ _ ⟨rfl, rfl⟩
      refine J.norm rfl ?_
      refine J.q rfl rfl (Q.not rfl) ?_
      refine J.q rfl rfl (Q.pick_t rfl rfl) ?_
      refine J.nil ?_
      refine J.then_n ?_
      refine J.cases 28 rfl (fun hc28 => ?_) (fun hc28 => ?_)
      ·
       replace hc28 := X.nm hc28
       try (first | (cases hc28; done) | (exfalso; simp at hc28; done))
       all_goals
        refine J.cond_t rfl ?_
        refine J.seq ?_
        refine J.region ?_
        refine J.q rfl rfl (Q.ldN (vs := [_, _, _, _, _]) Tryz.isAgg37 Tryz.sizeOf37 rfl rnI) ?_
        refine J.call Tryz.call29 (apart_spec y0.asn y0 hy0) [0] rfl rfl rfl rfl ?_
        rintro _ _ ⟨y, rfl, hy, rfl⟩
        refine J.norm rfl ?_
        refine J.stAI (vs := [_, _, _, _, _]) rfl Tryz.sizeOf37 rfl rfl (by exact rfl) (by exact rfl) (by exact rfl) ?_
        refine J.nil ?_
        refine J.then_n ?_
        refine J.cret ?_
        refine J.cut_r ?_
        refine J.shut [1] (dRep x.o.id y0.r (.agg y0.cells.toArray)) rfl (fun h s => ⟨y0, ⟨rfl, rfl⟩, s⟩) ?_
        refine J.mapSame 0 2 ord3_nat hM.ds hD rfl ?_
        refine J.shut [2, 3, 4, 0] (BktAt m M) rfl (fun h s => ⟨z, s⟩) ?_
        refine J.retC [0, 1, 2, 5] (vs := [_, _, _, _, _]) rfl rfl Tryz.isAgg37 Tryz.sizeOf37 (ReadsN.pt 3 rfl) rfl (B := [_, _, _]) ⟨_, rfl, hy, rfl⟩
      replace hc28 := X.nm hc28
      try (first | (cases hc28; done) | (exfalso; simp at hc28; done))
      all_goals
       refine J.cond_f rfl ?_
       refine J.cskip ?_
       first
         | (refine J.shut [0] (dRep x.o.id y0.r (.agg y0.cells.toArray)) rfl (fun h s => ⟨y0, ⟨rfl, rfl⟩, s⟩) ?_
            refine J.mapSame 0 1 ord3_nat hM.ds hD rfl ?_
            refine J.shut [1, 2, 3, 0] (BktAt m M) rfl (fun h s => ⟨z, s⟩) ?_)
         | refine J.shut [0, 1, 2, 3] (BktAt m M) rfl (fun h s => ⟨z, s⟩) ?_
       refine J.keep [3, 0, 1, 2, 4] rfl ?_
       refine J.meet () trivial ⟨rfl, rfl, rfl, trivial⟩ rfl
    replace hb23 := X.nm hb23
    try (first | (cases hb23; done) | (exfalso; simp at hb23; done))
    all_goals
     refine J.skip rfl rfl ?_
     refine J.skip rfl rfl ?_
     refine J.skip rfl rfl ?_
     refine J.skip rfl rfl ?_
     refine J.q rfl rfl (Q.pick_f rfl rfl) ?_
     refine J.nil ?_
     refine J.then_n ?_
     refine J.cond_f rfl ?_
     refine J.cskip ?_
     first
       | (refine J.shut [0] (dRep x.o.id y0.r (.agg y0.cells.toArray)) rfl (fun h s => ⟨y0, ⟨rfl, rfl⟩, s⟩) ?_
          refine J.mapSame 0 1 ord3_nat hM.ds hD rfl ?_
          refine J.shut [1, 2, 3, 0] (BktAt m M) rfl (fun h s => ⟨z, s⟩) ?_)
       | refine J.shut [0, 1, 2, 3] (BktAt m M) rfl (fun h s => ⟨z, s⟩) ?_
     refine J.keep [3, 0, 1, 2, 4] rfl ?_
     refine J.meet () trivial ⟨rfl, rfl, rfl, trivial⟩ rfl
   refine J.cut (fun w : Nat × RW => w.2.r = (M.act x.o).1) (fun w => [(0, .pointer (some ⟨m, 0, none⟩)), (3, .pointer (some ⟨b3, 0, none⟩)), (4, .pointer (some ⟨b4, 0, none⟩)), (7, .pointer (some ⟨w.1, 0, none⟩))]) (fun w => [pt b3 (.cells x.cells.toArray 27 (0, 0)), BktAt m (M.act x.o).2, w.2.asn, G, pt b4 (.cells [Value.int .i64 0, .int .u64 0, .slice none 0 0, .bool false, .slice none 0 0].toArray 37 (0, 0)), F, pt w.1 (.cells w.2.cells.toArray 37 (0, 0))]) ?_ fun w hw => ?_
   ·
    obtain ⟨fid, hf1, hf2, hf3⟩ := hA
    refine J.drawE [1, 6, 7, 8] 1 Tryz.mixed (by kernel_rfl) rfl rfl fun hR => ?_
    refine RG.q 0 hR rfl rfl rfl rfl rfl rfl (Q.mv rfl) ?_
    refine RG.q 2 hR rfl rfl rfl rfl rfl rfl (Q.fa (n := 1) Tryz.runUnderlying27 rfl rfl Tryz.sizeOf3 rfl) ?_
    refine RG.q 3 hR rfl rfl rfl rfl rfl rfl (Q.ld Tryz.isAgg3 rfl (rdI (by exact rfl))) ?_
    refine RG.q 5 hR rfl rfl rfl rfl rfl rfl (Q.ldN (vs := [_, _, _, _, _, _, _, _, _]) Tryz.isAgg27 Tryz.sizeOf27 rfl rnI) ?_
    refine RG.many hR 1 [7] rfl ⟨?_, ⟨?_, trivial⟩⟩
    ·
     refine RGi.callk rfl rfl rfl rfl Tryz.call30 (table_spec m) [] rfl rfl ?_
     rintro _ _ ⟨rt, rfl, rfl⟩
     refine ⟨_, X.pick_perm (is := [1]) rfl, ?_⟩
     refine RG.hold ?_
     refine RG.norm rfl ?_
     refine RG.q 4 hR rfl rfl rfl rfl rfl rfl (X.G.Q.lkPlain (i := 1) ord3_int (tab_srt m) Tryz.runUnderlying77 keyI Tryz.zeroValue38 rfl rfl rfl hf1) ?_
     refine RG.many hR 6 [7] rfl ⟨?_, ⟨?_, trivial⟩⟩
     ·
      refine RGi.one rfl rfl rfl rfl (OpC.callv hf2 rfl rfl hf3 [2, 3] rfl) ?_
      rintro _ _ ⟨_, ⟨y, rfl, hy, rfl⟩, rfl⟩
      refine ⟨_, X.pick_perm (is := [3, 4]) rfl, ?_⟩
      refine RG.made 7 hR rfl rfl rfl rfl rfl (C.alloc (l := [_, _, _, _, _]) Tryz.zeroValue37 rfl) ?_
      rintro b7
      refine RG.rot ?_
      refine RG.normE rfl ?_
      refine RG.stAI (vs := [_, _, _, _, _]) 8 hR rfl rfl rfl rfl rfl Tryz.sizeOf37 rfl rfl (by exact rfl) (by exact rfl) (by exact rfl) ?_
      refine RG.fin hR rfl ?_
      refine J.norm rfl ?_
      refine J.keep [0, 2, 3, 4, 5, 6, 7] rfl ?_
      refine J.meet (b7, y) hy ⟨rfl, rfl, rfl, rfl, trivial⟩ rfl
     ·
      refine RGi.made rfl rfl rfl rfl (C.alloc (l := [_, _, _, _, _]) Tryz.zeroValue37 rfl) ?_
      rintro b7
      refine RG.rot ?_
      refine RG.normE rfl ?_
      refine RG.many hR 6 [] rfl ⟨?_, trivial⟩
      ·
       refine RGi.one rfl rfl rfl rfl (OpC.callv hf2 rfl rfl hf3 [2, 3] rfl) ?_
       rintro _ _ ⟨_, ⟨y, rfl, hy, rfl⟩, rfl⟩
       refine ⟨_, X.pick_perm (is := [3, 4]) rfl, ?_⟩
       refine RG.stAI (vs := [_, _, _, _, _]) 8 hR rfl rfl rfl rfl rfl Tryz.sizeOf37 rfl rfl (by exact rfl) (by exact rfl) (by exact rfl) ?_
       refine RG.fin hR rfl ?_
       refine J.norm rfl ?_
       refine J.keep [0, 2, 3, 4, 5, 6, 7] rfl ?_
       refine J.meet (b7, y) hy ⟨rfl, rfl, rfl, rfl, trivial⟩ rfl
    ·
     refine RGi.made rfl rfl rfl rfl (C.alloc (l := [_, _, _, _, _]) Tryz.zeroValue37 rfl) ?_
     rintro b7
     refine RG.rot ?_
     refine RG.normE rfl ?_
     refine RG.callk 1 hR rfl rfl rfl rfl rfl Tryz.call30 (table_spec m) [] rfl rfl ?_
     rintro _ _ ⟨rt, rfl, rfl⟩
     refine ⟨_, X.pick_perm (is := [1]) rfl, ?_⟩
     refine RG.hold ?_
     refine RG.norm rfl ?_
     refine RG.q 4 hR rfl rfl rfl rfl rfl rfl (X.G.Q.lkPlain (i := 1) ord3_int (tab_srt m) Tryz.runUnderlying77 keyI Tryz.zeroValue38 rfl rfl rfl hf1) ?_
     refine RG.many hR 6 [] rfl ⟨?_, trivial⟩
     ·
      refine RGi.one rfl rfl rfl rfl (OpC.callv hf2 rfl rfl hf3 [2, 3] rfl) ?_
      rintro _ _ ⟨_, ⟨y, rfl, hy, rfl⟩, rfl⟩
      refine ⟨_, X.pick_perm (is := [3, 4]) rfl, ?_⟩
      refine RG.stAI (vs := [_, _, _, _, _]) 8 hR rfl rfl rfl rfl rfl Tryz.sizeOf37 rfl rfl (by exact rfl) (by exact rfl) (by exact rfl) ?_
      refine RG.fin hR rfl ?_
      refine J.norm rfl ?_
      refine J.keep [0, 2, 3, 4, 5, 6, 7] rfl ?_
      refine J.meet (b7, y) hy ⟨rfl, rfl, rfl, rfl, trivial⟩ rfl
   obtain ⟨b7, y⟩ := w
   dsimp only at hw
   have hys : y.r.keys.length ≤ 1099511627776 ∧ y.r.data.length ≤ 1099511627776 := by rw [hw]; have := act_small hM hc; omega
   refine J.tells 2 rfl (asn_ok hys) fun hyo => ?_
   refine J.seq ?_
   refine J.seq ?_
   refine J.region ?_
   refine J.q rfl rfl (Q.fa (n := 1) Tryz.runUnderlying27 rfl rfl Tryz.sizeOf3 rfl) ?_
   refine J.q rfl rfl (Q.ld Tryz.isAgg3 rfl (rdI (by exact rfl))) ?_
   refine J.call Tryz.call11 (reads_at hrd) [] rfl rfl rfl rfl ?_
   rintro _ _ ⟨rfl, rfl⟩
   refine J.norm rfl ?_
   refine J.q rfl rfl (Q.not rfl) ?_
   refine J.nil ?_
   refine J.then_n ?_
   refine J.cases 41 rfl (fun hc41 => ?_) (fun hc41 => ?_)
   ·
    replace hc41 := X.nm hc41
    try (first | (cases hc41; done) | (exfalso; simp at hc41; done))
    all_goals
     refine J.cond_t rfl ?_
     refine J.open1 1 rfl (fun _ h => h) fun z => ?_
     refine J.norm rfl ?_
     refine J.keep [0, 4, 9, 1, 2, 3, 5, 6, 7, 8] rfl ?_
     refine J.drawE [7, 8] 3 Tryz.mixed (by kernel_rfl) rfl rfl fun hR => ?_
     refine RG.q 0 hR rfl rfl rfl rfl rfl rfl (Q.mv rfl) ?_
     refine RG.q 1 hR rfl rfl rfl rfl rfl rfl (Q.nil_ rfl) ?_
     refine RG.q 2 hR rfl rfl rfl rfl rfl rfl (Q.fa (n := 2) Tryz.runUnderlying51 rfl rfl Tryz.sizeOf49 rfl) ?_
     refine RG.q 3 hR rfl rfl rfl rfl rfl rfl (Q.ld Tryz.isAgg49 rfl (rdI (by exact rfl))) ?_
     refine RG.q 4 hR rfl rfl rfl rfl rfl rfl (Q.fa (n := 0) Tryz.runUnderlying27 rfl rfl Tryz.sizeOf23 rfl) ?_
     refine RG.q 5 hR rfl rfl rfl rfl rfl rfl (Q.ld Tryz.isAgg23 rfl (rdI (by exact rfl))) ?_
     refine RG.q 6 hR rfl rfl rfl rfl rfl rfl (Q.ldN (vs := [_, _, _, _, _]) Tryz.isAgg37 Tryz.sizeOf37 rfl rnI) ?_
     refine RG.callk 7 hR rfl rfl rfl rfl rfl Tryz.call29 (apart_spec y.asn y hyo) [6] rfl rfl ?_
     rintro _ _ ⟨y2, rfl, hy2, rfl⟩
     refine ⟨_, X.pick_perm (is := [2, 3, 4]) rfl, ?_⟩
     refine RG.bar 8 hR rfl rfl rfl rfl rfl rfl (X.G.C.mapPut (rep := dRep) 7 (M.act x.o).1 ord3_nat (by rw [act_done]; exact hM.ds) Tryz.runUnderlying49 keyU rfl rfl rfl rfl) ?_
     rintro _ _ ⟨rfl, rfl⟩
     refine RG.norm rfl ?_
     refine RG.fin hR rfl ?_
     refine J.norm rfl ?_
     refine J.then_n ?_
     refine J.seq ?_
     refine J.region ?_
     refine J.q rfl rfl (Q.ldN (vs := [_, _, _, _, _]) Tryz.isAgg37 Tryz.sizeOf37 rfl rnI) ?_
     refine J.stAI (vs := [_, _, _, _, _]) rfl Tryz.sizeOf37 rfl rfl (by exact rfl) (by exact rfl) (by exact rfl) ?_
     refine J.nil ?_
     refine J.then_n ?_
     refine J.cret ?_
     refine J.shut [3] (dRep x.o.id (M.act x.o).1 (.agg y2.cells.toArray)) rfl (fun h s => ⟨y2, ⟨hy2.trans hw, rfl⟩, s⟩) ?_
     refine J.mapBack (lt := ltN) 0 7 (M.act x.o).1 ord3_nat (X.G.srtd_put ord3_nat (by rw [act_done]; exact hM.ds) _ _) rfl ?_
     rw [X.G.sput_put ord3_nat (by rw [act_done]; exact hM.ds), act_done]
     refine J.shut [1, 5, 6, 0] (BktAt m { (M.act x.o).2 with done := sput ltN x.o.id (M.act x.o).1 M.done }) rfl (fun h s => ⟨z, s⟩) ?_
     refine J.retC [0, 3, 4, 6] (vs := [_, _, _, _, _]) rfl rfl Tryz.isAgg37 Tryz.sizeOf37 (ReadsN.pt 5 rfl) rfl (B := [_, _, _]) ⟨y, rfl, hw, rfl⟩
   replace hc41 := X.nm hc41
   try (first | (cases hc41; done) | (exfalso; simp at hc41; done))
   all_goals
    refine J.cond_f rfl ?_
    refine J.cskip ?_
    refine J.then_n ?_
    refine J.seq ?_
    refine J.region ?_
    refine J.q rfl rfl (Q.ldN (vs := [_, _, _, _, _]) Tryz.isAgg37 Tryz.sizeOf37 rfl rnI) ?_
    refine J.stAI (vs := [_, _, _, _, _]) rfl Tryz.sizeOf37 rfl rfl (by exact rfl) (by exact rfl) (by exact rfl) ?_
    refine J.nil ?_
    refine J.then_n ?_
    refine J.cret ?_
    refine J.retC [1, 2, 3, 5] (vs := [_, _, _, _, _]) rfl rfl Tryz.isAgg37 Tryz.sizeOf37 (ReadsN.pt 4 rfl) rfl (B := [_, _, _]) ⟨y, rfl, hw, rfl⟩
theorem do_new (hA : HasAct m M x G) (hc : x.o.chkB = true) (hD : sget x.o.id M.done = none) (hrd : readsK x.o.kind = false) : FSpec Tryz.prog 10 [.pointer (some ⟨m, 0, none⟩), .agg x.cells.toArray] [BktAt m M, G] (ActR m G ((M.act x.o).1, { (M.act x.o).2 with done := sput ltN x.o.id (M.act x.o).1 M.done })) := by
  refine FSpec.of Tryz.func10 rfl Tryz.ntmps10 rfl fun W0 F => ?_
  refine J.seq ?_
  refine J.region ?_
  refine J.c rfl rfl (C.box (l := [_, _, _, _, _, _, _, _, _]) rfl rfl) ?_
  rintro _ _ ⟨b3, rfl, rfl⟩
  refine J.norm rfl ?_
  refine J.c rfl rfl (C.alloc (l := [_, _, _, _, _]) Tryz.zeroValue37 rfl) ?_
  rintro _ _ ⟨b4, rfl, rfl⟩
  refine J.norm rfl ?_
  refine J.nil ?_
  refine J.then_n ?_
  refine J.seq ?_
  refine J.seq ?_
  refine J.region ?_
  refine J.q rfl rfl (Q.ldN (vs := [_, _, _, _, _, _, _, _, _]) Tryz.isAgg27 Tryz.sizeOf27 rfl rnI) ?_
  refine J.call Tryz.call12 ((by first | exact check_yes G x hx hc | exact check_no G x hx hc)) [3] rfl rfl rfl rfl ?_
  rintro _ _ ⟨rfl, rfl⟩
  refine J.norm rfl ?_
  refine J.q rfl rfl (Q.neq rfl rfl) ?_
  refine J.nil ?_
  refine J.then_n ?_
  refine J.cases 10 rfl (fun hc10 => ?_) (fun hc10 => ?_)
  ·
   replace hc10 := X.nm hc10
   try (first | (cases hc10; done) | (exfalso; simp at hc10; done))
   all_goals
    refine J.cond_t rfl ?_
    refine J.seq ?_
    refine J.region ?_
    refine J.call Tryz.call28 (status_spec 400) [] rfl rfl rfl rfl ?_
    rintro _ _ ⟨y, rfl, hy, rfl⟩
    refine J.norm rfl ?_
    refine J.stAI (vs := [_, _, _, _, _]) rfl Tryz.sizeOf37 rfl rfl (by exact rfl) (by exact rfl) (by exact rfl) ?_
    refine J.nil ?_
    refine J.then_n ?_
    refine J.cret ?_
    refine J.then_r ?_
    refine J.retC [4, 0, 1, 5] (vs := [_, _, _, _, _]) rfl rfl Tryz.isAgg37 Tryz.sizeOf37 (ReadsN.pt 2 rfl) rfl (B := [_, _, _]) ⟨_, rfl, hy, rfl⟩
  replace hc10 := X.nm hc10
  try (first | (cases hc10; done) | (exfalso; simp at hc10; done))
  all_goals
   refine J.cond_f rfl ?_
   refine J.cskip ?_
   refine J.then_n ?_
   refine J.cut (fun _ : Unit => True) (fun _ => [(0, .pointer (some ⟨m, 0, none⟩)), (3, .pointer (some ⟨b3, 0, none⟩)), (4, .pointer (some ⟨b4, 0, none⟩))]) (fun _ => [pt b3 (.cells x.cells.toArray 27 (0, 0)), BktAt m M, G, pt b4 (.cells [Value.int .i64 0, .int .u64 0, .slice none 0 0, .bool false, .slice none 0 0].toArray 37 (0, 0)), F]) ?_ fun _ _ => ?_
   ·
    refine J.seq ?_
    refine J.open1 3 rfl (fun _ h => h) fun z => ?_
    refine J.norm rfl ?_
    first
      | (refine J.mapFocus 3 hD rfl fun val => ?_
         refine J.norm rfl ?_
         refine J.open_ 0 rfl rfl (fun _ h => h) fun y0 hy0 => ?_
         obtain ⟨hyr, hyv⟩ := hy0
         subst hyv
         subst hyr
         refine J.norm rfl ?_
         have hrs := hM.rs _ _ hD
         refine J.tells 0 rfl (asn_ok ⟨by omega, by omega⟩) fun hy0 => ?_)
      | skip
    refine J.draw [10, 11, 12] Tryz.mixed (by kernel_rfl) fun hR => ?_
    refine RG.q 0 hR rfl rfl rfl rfl rfl rfl (Q.mv rfl) ?_
    refine RG.q 1 hR rfl rfl rfl rfl rfl rfl (Q.nil_ rfl) ?_
    refine RG.q 2 hR rfl rfl rfl rfl rfl rfl (Q.fa (n := 2) Tryz.runUnderlying51 rfl rfl Tryz.sizeOf49 rfl) ?_
    refine RG.q 3 hR rfl rfl rfl rfl rfl rfl (Q.ld Tryz.isAgg49 rfl (rdI (by exact rfl))) ?_
    refine RG.q 4 hR rfl rfl rfl rfl rfl rfl (Q.fa (n := 0) Tryz.runUnderlying27 rfl rfl Tryz.sizeOf23 rfl) ?_
    refine RG.q 5 hR rfl rfl rfl rfl rfl rfl (Q.ld Tryz.isAgg23 rfl (rdI (by exact rfl))) ?_
    refine RG.q 6 hR rfl rfl rfl rfl rfl rfl (by first | exact X.G.Q.lk2No (i := 3) Tryz.runUnderlying49 keyU Tryz.zeroValue37 rfl rfl rfl hD | exact X.G.Q.lk2Yes (i := 1) Tryz.runUnderlying49 keyU Tryz.zeroValue37 rfl rfl rfl) ?_
    refine RG.q 7 hR rfl rfl rfl rfl rfl rfl (Q.mv rfl) ?_
    refine RG.q 8 hR rfl rfl rfl rfl rfl rfl (Q.ext rfl rfl) ?_
    refine RG.q 9 hR rfl rfl rfl rfl rfl rfl (Q.ext rfl rfl) ?_
    refine RG.made 10 hR rfl rfl rfl rfl rfl (C.alloc (l := [_, _, _, _, _]) Tryz.zeroValue37 rfl) ?_
    rintro b5
    refine RG.stAkI (vs := [_, _, _, _, _]) 11 hR rfl rfl rfl rfl Tryz.sizeOf37 rfl rfl (by exact rfl) (by exact rfl) (by exact rfl) ?_
    refine RG.bar 12 hR rfl rfl rfl rfl rfl rfl (Q.asg rfl).toC ?_
    rintro _ _ ⟨rfl, rfl⟩
    refine RG.norm rfl ?_
    refine RG.fin hR rfl ?_
    refine J.norm rfl ?_
    refine J.then_n ?_
    refine J.seq ?_
    refine J.region ?_
    refine J.q rfl rfl (Q.mv rfl) ?_
    refine J.q rfl rfl (Q.mv rfl) ?_
    refine J.cases 23 rfl (fun hb23 => ?_) (fun hb23 => ?_)
    ·
     replace hb23 := X.nm hb23
     try (first | (cases hb23; done) | (exfalso; simp at hb23; done))
     all_goals
      refine J.q rfl rfl (Q.fa (n := 1) Tryz.runUnderlying27 rfl rfl Tryz.sizeOf3 rfl) ?_
      refine J.q rfl rfl (Q.ld Tryz.isAgg3 rfl (rdI (by exact rfl))) ?_
      refine J.call Tryz.call11 (reads_at hrd) [] rfl rfl rfl rfl ?_
      rintro _ _ ⟨rfl, rfl⟩
      refine J.norm rfl ?_
      refine J.q rfl rfl (Q.not rfl) ?_
      refine J.q rfl rfl (Q.pick_t rfl rfl) ?_
      refine J.nil ?_
      refine J.then_n ?_
      refine J.cases 28 rfl (fun hc28 => ?_) (fun hc28 => ?_)
      ·
       replace hc28 := X.nm hc28
       try (first | (cases hc28; done) | (exfalso; simp at hc28; done))
       all_goals
        refine J.cond_t rfl ?_
        refine J.seq ?_
        refine J.region ?_
        refine J.q rfl rfl (Q.ldN (vs := [_, _, _, _, _]) Tryz.isAgg37 Tryz.sizeOf37 rfl rnI) ?_
        refine J.call Tryz.call29 (apart_spec y0.asn y0 hy0) [0] rfl rfl rfl rfl ?_
        rintro _ _ ⟨y, rfl, hy, rfl⟩
        refine J.norm rfl ?_
        refine J.stAI (vs := [_, _, _, _, _]) rfl Tryz.sizeOf37 rfl rfl (by exact rfl) (by exact rfl) (by exact rfl) ?_
        refine J.nil ?_
        refine J.then_n ?_
        refine J.cret ?_
        refine J.cut_r ?_
        refine J.shut [1] (dRep x.o.id y0.r (.agg y0.cells.toArray)) rfl (fun h s => ⟨y0, ⟨rfl, rfl⟩, s⟩) ?_
        refine J.mapSame 0 2 ord3_nat hM.ds hD rfl ?_
        refine J.shut [2, 3, 4, 0] (BktAt m M) rfl (fun h s => ⟨z, s⟩) ?_
        refine J.retC [0, 1, 2, 5] (vs := [_, _, _, _, _]) rfl rfl Tryz.isAgg37 Tryz.sizeOf37 (ReadsN.pt 3 rfl) rfl (B := [_, _, _]) ⟨_, rfl, hy, rfl⟩
      replace hc28 := X.nm hc28
      try (first | (cases hc28; done) | (exfalso; simp at hc28; done))
      all_goals
       refine J.cond_f rfl ?_
       refine J.cskip ?_
       first
         | (refine J.shut [0] (dRep x.o.id y0.r (.agg y0.cells.toArray)) rfl (fun h s => ⟨y0, ⟨rfl, rfl⟩, s⟩) ?_
            refine J.mapSame 0 1 ord3_nat hM.ds hD rfl ?_
            refine J.shut [1, 2, 3, 0] (BktAt m M) rfl (fun h s => ⟨z, s⟩) ?_)
         | refine J.shut [0, 1, 2, 3] (BktAt m M) rfl (fun h s => ⟨z, s⟩) ?_
       refine J.keep [3, 0, 1, 2, 4] rfl ?_
       refine J.meet () trivial ⟨rfl, rfl, rfl, trivial⟩ rfl
    replace hb23 := X.nm hb23
    try (first | (cases hb23; done) | (exfalso; simp at hb23; done))
    all_goals
     refine J.skip rfl rfl ?_
     refine J.skip rfl rfl ?_
     refine J.skip rfl rfl ?_
     refine J.skip rfl rfl ?_
     refine J.q rfl rfl (Q.pick_f rfl rfl) ?_
     refine J.nil ?_
     refine J.then_n ?_
     refine J.cond_f rfl ?_
     refine J.cskip ?_
     first
       | (refine J.shut [0] (dRep x.o.id y0.r (.agg y0.cells.toArray)) rfl (fun h s => ⟨y0, ⟨rfl, rfl⟩, s⟩) ?_
          refine J.mapSame 0 1 ord3_nat hM.ds hD rfl ?_
          refine J.shut [1, 2, 3, 0] (BktAt m M) rfl (fun h s => ⟨z, s⟩) ?_)
       | refine J.shut [0, 1, 2, 3] (BktAt m M) rfl (fun h s => ⟨z, s⟩) ?_
     refine J.keep [3, 0, 1, 2, 4] rfl ?_
     refine J.meet () trivial ⟨rfl, rfl, rfl, trivial⟩ rfl
   refine J.cut (fun w : Nat × RW => w.2.r = (M.act x.o).1) (fun w => [(0, .pointer (some ⟨m, 0, none⟩)), (3, .pointer (some ⟨b3, 0, none⟩)), (4, .pointer (some ⟨b4, 0, none⟩)), (7, .pointer (some ⟨w.1, 0, none⟩))]) (fun w => [pt b3 (.cells x.cells.toArray 27 (0, 0)), BktAt m (M.act x.o).2, w.2.asn, G, pt b4 (.cells [Value.int .i64 0, .int .u64 0, .slice none 0 0, .bool false, .slice none 0 0].toArray 37 (0, 0)), F, pt w.1 (.cells w.2.cells.toArray 37 (0, 0))]) ?_ fun w hw => ?_
   ·
    obtain ⟨fid, hf1, hf2, hf3⟩ := hA
    refine J.drawE [1, 6, 7, 8] 1 Tryz.mixed (by kernel_rfl) rfl rfl fun hR => ?_
    refine RG.q 0 hR rfl rfl rfl rfl rfl rfl (Q.mv rfl) ?_
    refine RG.q 2 hR rfl rfl rfl rfl rfl rfl (Q.fa (n := 1) Tryz.runUnderlying27 rfl rfl Tryz.sizeOf3 rfl) ?_
    refine RG.q 3 hR rfl rfl rfl rfl rfl rfl (Q.ld Tryz.isAgg3 rfl (rdI (by exact rfl))) ?_
    refine RG.q 5 hR rfl rfl rfl rfl rfl rfl (Q.ldN (vs := [_, _, _, _, _, _, _, _, _]) Tryz.isAgg27 Tryz.sizeOf27 rfl rnI) ?_
    refine RG.many hR 1 [7] rfl ⟨?_, ⟨?_, trivial⟩⟩
    ·
     refine RGi.callk rfl rfl rfl rfl Tryz.call30 (table_spec m) [] rfl rfl ?_
     rintro _ _ ⟨rt, rfl, rfl⟩
     refine ⟨_, X.pick_perm (is := [1]) rfl, ?_⟩
     refine RG.hold ?_
     refine RG.norm rfl ?_
     refine RG.q 4 hR rfl rfl rfl rfl rfl rfl (X.G.Q.lkPlain (i := 1) ord3_int (tab_srt m) Tryz.runUnderlying77 keyI Tryz.zeroValue38 rfl rfl rfl hf1) ?_
     refine RG.many hR 6 [7] rfl ⟨?_, ⟨?_, trivial⟩⟩
     ·
      refine RGi.one rfl rfl rfl rfl (OpC.callv hf2 rfl rfl hf3 [2, 3] rfl) ?_
      rintro _ _ ⟨_, ⟨y, rfl, hy, rfl⟩, rfl⟩
      refine ⟨_, X.pick_perm (is := [3, 4]) rfl, ?_⟩
      refine RG.made 7 hR rfl rfl rfl rfl rfl (C.alloc (l := [_, _, _, _, _]) Tryz.zeroValue37 rfl) ?_
      rintro b7
      refine RG.rot ?_
      refine RG.normE rfl ?_
      refine RG.stAI (vs := [_, _, _, _, _]) 8 hR rfl rfl rfl rfl rfl Tryz.sizeOf37 rfl rfl (by exact rfl) (by exact rfl) (by exact rfl) ?_
      refine RG.fin hR rfl ?_
      refine J.norm rfl ?_
      refine J.keep [0, 2, 3, 4, 5, 6, 7] rfl ?_
      refine J.meet (b7, y) hy ⟨rfl, rfl, rfl, rfl, trivial⟩ rfl
     ·
      refine RGi.made rfl rfl rfl rfl (C.alloc (l := [_, _, _, _, _]) Tryz.zeroValue37 rfl) ?_
      rintro b7
      refine RG.rot ?_
      refine RG.normE rfl ?_
      refine RG.many hR 6 [] rfl ⟨?_, trivial⟩
      ·
       refine RGi.one rfl rfl rfl rfl (OpC.callv hf2 rfl rfl hf3 [2, 3] rfl) ?_
       rintro _ _ ⟨_, ⟨y, rfl, hy, rfl⟩, rfl⟩
       refine ⟨_, X.pick_perm (is := [3, 4]) rfl, ?_⟩
       refine RG.stAI (vs := [_, _, _, _, _]) 8 hR rfl rfl rfl rfl rfl Tryz.sizeOf37 rfl rfl (by exact rfl) (by exact rfl) (by exact rfl) ?_
       refine RG.fin hR rfl ?_
       refine J.norm rfl ?_
       refine J.keep [0, 2, 3, 4, 5, 6, 7] rfl ?_
       refine J.meet (b7, y) hy ⟨rfl, rfl, rfl, rfl, trivial⟩ rfl
    ·
     refine RGi.made rfl rfl rfl rfl (C.alloc (l := [_, _, _, _, _]) Tryz.zeroValue37 rfl) ?_
     rintro b7
     refine RG.rot ?_
     refine RG.normE rfl ?_
     refine RG.callk 1 hR rfl rfl rfl rfl rfl Tryz.call30 (table_spec m) [] rfl rfl ?_
     rintro _ _ ⟨rt, rfl, rfl⟩
     refine ⟨_, X.pick_perm (is := [1]) rfl, ?_⟩
     refine RG.hold ?_
     refine RG.norm rfl ?_
     refine RG.q 4 hR rfl rfl rfl rfl rfl rfl (X.G.Q.lkPlain (i := 1) ord3_int (tab_srt m) Tryz.runUnderlying77 keyI Tryz.zeroValue38 rfl rfl rfl hf1) ?_
     refine RG.many hR 6 [] rfl ⟨?_, trivial⟩
     ·
      refine RGi.one rfl rfl rfl rfl (OpC.callv hf2 rfl rfl hf3 [2, 3] rfl) ?_
      rintro _ _ ⟨_, ⟨y, rfl, hy, rfl⟩, rfl⟩
      refine ⟨_, X.pick_perm (is := [3, 4]) rfl, ?_⟩
      refine RG.stAI (vs := [_, _, _, _, _]) 8 hR rfl rfl rfl rfl rfl Tryz.sizeOf37 rfl rfl (by exact rfl) (by exact rfl) (by exact rfl) ?_
      refine RG.fin hR rfl ?_
      refine J.norm rfl ?_
      refine J.keep [0, 2, 3, 4, 5, 6, 7] rfl ?_
      refine J.meet (b7, y) hy ⟨rfl, rfl, rfl, rfl, trivial⟩ rfl
   obtain ⟨b7, y⟩ := w
   dsimp only at hw
   have hys : y.r.keys.length ≤ 1099511627776 ∧ y.r.data.length ≤ 1099511627776 := by rw [hw]; have := act_small hM hc; omega
   refine J.tells 2 rfl (asn_ok hys) fun hyo => ?_
   refine J.seq ?_
   refine J.seq ?_
   refine J.region ?_
   refine J.q rfl rfl (Q.fa (n := 1) Tryz.runUnderlying27 rfl rfl Tryz.sizeOf3 rfl) ?_
   refine J.q rfl rfl (Q.ld Tryz.isAgg3 rfl (rdI (by exact rfl))) ?_
   refine J.call Tryz.call11 (reads_at hrd) [] rfl rfl rfl rfl ?_
   rintro _ _ ⟨rfl, rfl⟩
   refine J.norm rfl ?_
   refine J.q rfl rfl (Q.not rfl) ?_
   refine J.nil ?_
   refine J.then_n ?_
   refine J.cases 41 rfl (fun hc41 => ?_) (fun hc41 => ?_)
   ·
    replace hc41 := X.nm hc41
    try (first | (cases hc41; done) | (exfalso; simp at hc41; done))
    all_goals
     refine J.cond_t rfl ?_
     refine J.open1 1 rfl (fun _ h => h) fun z => ?_
     refine J.norm rfl ?_
     refine J.keep [0, 4, 9, 1, 2, 3, 5, 6, 7, 8] rfl ?_
     refine J.drawE [7, 8] 3 Tryz.mixed (by kernel_rfl) rfl rfl fun hR => ?_
     refine RG.q 0 hR rfl rfl rfl rfl rfl rfl (Q.mv rfl) ?_
     refine RG.q 1 hR rfl rfl rfl rfl rfl rfl (Q.nil_ rfl) ?_
     refine RG.q 2 hR rfl rfl rfl rfl rfl rfl (Q.fa (n := 2) Tryz.runUnderlying51 rfl rfl Tryz.sizeOf49 rfl) ?_
     refine RG.q 3 hR rfl rfl rfl rfl rfl rfl (Q.ld Tryz.isAgg49 rfl (rdI (by exact rfl))) ?_
     refine RG.q 4 hR rfl rfl rfl rfl rfl rfl (Q.fa (n := 0) Tryz.runUnderlying27 rfl rfl Tryz.sizeOf23 rfl) ?_
     refine RG.q 5 hR rfl rfl rfl rfl rfl rfl (Q.ld Tryz.isAgg23 rfl (rdI (by exact rfl))) ?_
     refine RG.q 6 hR rfl rfl rfl rfl rfl rfl (Q.ldN (vs := [_, _, _, _, _]) Tryz.isAgg37 Tryz.sizeOf37 rfl rnI) ?_
     refine RG.callk 7 hR rfl rfl rfl rfl rfl Tryz.call29 (apart_spec y.asn y hyo) [6] rfl rfl ?_
     rintro _ _ ⟨y2, rfl, hy2, rfl⟩
     refine ⟨_, X.pick_perm (is := [2, 3, 4]) rfl, ?_⟩
     refine RG.bar 8 hR rfl rfl rfl rfl rfl rfl (X.G.C.mapPut (rep := dRep) 7 (M.act x.o).1 ord3_nat (by rw [act_done]; exact hM.ds) Tryz.runUnderlying49 keyU rfl rfl rfl rfl) ?_
     rintro _ _ ⟨rfl, rfl⟩
     refine RG.norm rfl ?_
     refine RG.fin hR rfl ?_
     refine J.norm rfl ?_
     refine J.then_n ?_
     refine J.seq ?_
     refine J.region ?_
     refine J.q rfl rfl (Q.ldN (vs := [_, _, _, _, _]) Tryz.isAgg37 Tryz.sizeOf37 rfl rnI) ?_
     refine J.stAI (vs := [_, _, _, _, _]) rfl Tryz.sizeOf37 rfl rfl (by exact rfl) (by exact rfl) (by exact rfl) ?_
     refine J.nil ?_
     refine J.then_n ?_
     refine J.cret ?_
     refine J.shut [3] (dRep x.o.id (M.act x.o).1 (.agg y2.cells.toArray)) rfl (fun h s => ⟨y2, ⟨hy2.trans hw, rfl⟩, s⟩) ?_
     refine J.mapBack (lt := ltN) 0 7 (M.act x.o).1 ord3_nat (X.G.srtd_put ord3_nat (by rw [act_done]; exact hM.ds) _ _) rfl ?_
     rw [X.G.sput_put ord3_nat (by rw [act_done]; exact hM.ds), act_done]
     refine J.shut [1, 5, 6, 0] (BktAt m { (M.act x.o).2 with done := sput ltN x.o.id (M.act x.o).1 M.done }) rfl (fun h s => ⟨z, s⟩) ?_
     refine J.retC [0, 3, 4, 6] (vs := [_, _, _, _, _]) rfl rfl Tryz.isAgg37 Tryz.sizeOf37 (ReadsN.pt 5 rfl) rfl (B := [_, _, _]) ⟨y, rfl, hw, rfl⟩
   replace hc41 := X.nm hc41
   try (first | (cases hc41; done) | (exfalso; simp at hc41; done))
   all_goals
    refine J.cond_f rfl ?_
    refine J.cskip ?_
    refine J.then_n ?_
    refine J.seq ?_
    refine J.region ?_
    refine J.q rfl rfl (Q.ldN (vs := [_, _, _, _, _]) Tryz.isAgg37 Tryz.sizeOf37 rfl rnI) ?_
    refine J.stAI (vs := [_, _, _, _, _]) rfl Tryz.sizeOf37 rfl rfl (by exact rfl) (by exact rfl) (by exact rfl) ?_
    refine J.nil ?_
    refine J.then_n ?_
    refine J.cret ?_
    refine J.retC [1, 2, 3, 5] (vs := [_, _, _, _, _]) rfl rfl Tryz.isAgg37 Tryz.sizeOf37 (ReadsN.pt 4 rfl) rfl (B := [_, _, _]) ⟨y, rfl, hw, rfl⟩

theorem do_spec (hA : x.o.chkB = true → HasAct m M x G) : FSpec Tryz.prog 10 [.pointer (some ⟨m, 0, none⟩), .agg x.cells.toArray] [BktAt m M, G] (ActR m G (M.run x.o)) := by
  unfold BM.run
  by_cases hc : x.o.chkB = true
  · rw [if_pos hc]
    have hA := hA hc
    by_cases hr : readsK x.o.kind = true
    · rw [if_pos hr]
      cases hD : sget x.o.id M.done with
      | none => exact do_read0 m M hM x G hx hA hc hD hr
      | some r => exact do_read1 m M hM x G hx hA hc hD hr
    · rw [if_neg hr]
      have hr : readsK x.o.kind = false := by simpa using hr
      cases hD : sget x.o.id M.done with
      | none => exact do_new m M hM x G hx hA hc hD hr
      | some r => exact do_kept m M hM x G hx hc hD hr
  · rw [if_neg hc]; exact do_bad m M hM x G hx (by simpa using hc)

theorem hasAct (hc : x.o.chkB = true) (h6 : x.o.kind = 6 → FSpec Tryz.prog 67 [.pointer (some ⟨m, 0, none⟩), .agg x.cells.toArray] [BktAt m M, G] (ActR m G (M.list x.o))) : HasAct m M x G := by
  obtain ⟨k1, k2⟩ := chk_kind hc
  have h9 := chk_9 hc
  by_cases e1 : x.o.kind = 1
  · exact ⟨62, by rw [e1]; rfl, Tryz.call62, by unfold BM.act; rw [if_pos e1]; exact make_spec m M hM x G hx⟩
  by_cases e2 : x.o.kind = 2
  · exact ⟨63, by rw [e2]; rfl, Tryz.call63, by unfold BM.act; rw [if_neg e1, if_pos e2]; exact unmake_spec m M hM x G hx⟩
  by_cases e3 : x.o.kind = 3
  · exact ⟨64, by rw [e3]; rfl, Tryz.call64, by unfold BM.act; rw [if_neg e1, if_neg e2, if_pos e3]; exact put_spec m M hM x G hx (chk_len hc)⟩
  by_cases e4 : x.o.kind = 4
  · exact ⟨65, by rw [e4]; rfl, Tryz.call65, by unfold BM.act; rw [if_neg e1, if_neg e2, if_neg e3, if_pos e4]; exact get_spec m M hM x G hx⟩
  by_cases e5 : x.o.kind = 5
  · exact ⟨66, by rw [e5]; rfl, Tryz.call66, by unfold BM.act; rw [if_neg e1, if_neg e2, if_neg e3, if_neg e4, if_pos e5]; exact delete_spec m M hM x G hx⟩
  by_cases e6 : x.o.kind = 6
  · exact ⟨67, by rw [e6]; rfl, Tryz.call67, by unfold BM.act; rw [if_neg e1, if_neg e2, if_neg e3, if_neg e4, if_neg e5, if_pos e6]; exact h6 e6⟩
  by_cases e7 : x.o.kind = 7
  · exact ⟨68, by rw [e7]; rfl, Tryz.call68, by unfold BM.act; rw [if_neg e1, if_neg e2, if_neg e3, if_neg e4, if_neg e5, if_neg e6, if_pos e7]; exact begin_spec m M hM x G hx⟩
  by_cases e8 : x.o.kind = 8
  · exact ⟨69, by rw [e8]; rfl, Tryz.call69, by unfold BM.act; rw [if_neg e1, if_neg e2, if_neg e3, if_neg e4, if_neg e5, if_neg e6, if_neg e7, if_pos e8]; exact part_spec m M hM x G hx (chk_len hc)⟩
  by_cases e9 : x.o.kind = 9
  · exact ⟨70, by rw [e9]; rfl, Tryz.call70, by unfold BM.act; rw [if_neg e1, if_neg e2, if_neg e3, if_neg e4, if_neg e5, if_neg e6, if_neg e7, if_neg e8, if_pos e9]; exact complete_spec m M hM x G hx (h9 e9)⟩
  · have e10 : x.o.kind = 10 := by omega
    exact ⟨71, by rw [e10]; rfl, Tryz.call71, by unfold BM.act; rw [if_neg e1, if_neg e2, if_neg e3, if_neg e4, if_neg e5, if_neg e6, if_neg e7, if_neg e8, if_neg e9]; exact abort_spec m M hM x G hx⟩
end
end Go.Proofs.YtdancegklkifaaaGreat
namespace Go.Proofs.YtdancegklkifaaaGreat
set_option linter.unusedSectionVars false
set_option linter.unusedSimpArgs false
set_option linter.unusedVariables false
open Go.X
open Go.X.G (Ord3 ord3_nat ord3_int ord3_str ltB sget sput sdel Srtd MapAt MapHole)

def BM.runs (M : BM) : List OM → List RM × BM
  | [] => ([], M)
  | o :: l => ((M.run o).1 :: ((M.run o).2.runs l).1, ((M.run o).2.runs l).2)
theorem runs_snoc (M : BM) : ∀ (l : List OM) (o : OM), M.runs (l ++ [o]) = ((M.runs l).1 ++ [((M.runs l).2.run o).1], ((M.runs l).2.run o).2)
  | [], o => rfl
  | x :: l, o => by simp only [List.cons_append, BM.runs, runs_snoc]
theorem runs_take (M : BM) {l : List OM} {k : Nat} {o : OM} (h : l[k]? = some o) : M.runs (l.take (k + 1)) = ((M.runs (l.take k)).1 ++ [((M.runs (l.take k)).2.run o).1], ((M.runs (l.take k)).2.run o).2) := by
  obtain ⟨h1, h2⟩ := List.getElem?_eq_some_iff.1 h
  rw [List.take_succ_eq_append_getElem h1, h2, runs_snoc]
theorem runs_len (M : BM) : ∀ l : List OM, (M.runs l).1.length = l.length
  | [] => rfl
  | x :: l => by simp only [BM.runs, List.length_cons, runs_len]
theorem runs_ok {k : Nat} {M : BM} (h : M.ok k) : ∀ l : List OM, (M.runs l).2.ok (k + l.length)
  | [] => h
  | x :: l => by
    have := runs_ok (run_ok h x) l
    simp only [BM.runs, List.length_cons]
    rw [show k + (l.length + 1) = k + 1 + l.length from by omega]; exact this

/-- The ops that are handed in. -/
structure Ops (G : Assn) (lp : Option Addr) (ln lc : Nat) (l : List OW) : Prop where
  rd : SlR [G] 9 (.slice lp ln lc) (l.flatMap OW.cells)
  ok : ∀ x, x ∈ l → x.ok G
  small : ln ≤ 1048576
theorem Ops.len {G : Assn} {lp : Option Addr} {ln lc : Nat} {l : List OW} (h : Ops G lp ln lc l) : l.length = ln := by
  have := h.rd.len
  rw [flat_length OW.cells_length] at this; omega

/-- Each op's function is there, whatever the store. -/
def HasActs (K m : Nat) (l : List OW) (G : Assn) : Prop := ∀ (k : Nat) (M : BM), k ≤ K → M.ok k → ∀ x, x ∈ l → x.o.chkB = true → HasAct m M x G

theorem RW.cells_length (x : RW) : x.cells.length = 5 := rfl
theorem RW.cells_one {l : List RW} : ∀ v, v ∈ l.flatMap RW.cells → oneC v = true := by
  intro v hv
  obtain ⟨x, _, hx⟩ := List.mem_flatMap.1 hv
  simp only [RW.cells, List.mem_cons, List.not_mem_nil, or_false] at hx
  rcases hx with rfl | rfl | rfl | rfl | rfl <;> rfl

theorem run_spec {k K : Nat} (m : Nat) (M : BM) (hM : M.ok k) (G : Assn) (lp : Option Addr) (ln lc : Nat) (l : List OW) (hl : Ops G lp ln lc l) (hA : HasActs K m l G) (hK : k + ln ≤ K) :
    FSpec Tryz.prog 8 [.pointer (some ⟨m, 0, none⟩), .slice lp ln lc] [BktAt m M, G] (fun v B => ∃ (rs : List RW) (p : Option Addr) (c : Nat), v = .slice p rs.length c ∧ rs.map (·.r) = (M.runs (l.map (·.o))).1 ∧
      B = [own 37 5 (.slice p rs.length c) (rs.flatMap RW.cells), star (rs.map RW.asn), BktAt m (M.runs (l.map (·.o))).2, G]) := by
  have hlen := hl.len
  have hsml := hl.small
  refine FSpec.of Tryz.func8 rfl Tryz.ntmps8 rfl fun W0 F => ?_
  refine J.seq ?_
  refine J.region ?_
  refine J.q rfl rfl (Q.asg rfl) ?_
  refine J.nil ?_
  refine J.then_n ?_
  refine J.seq ?_
  refine J.region ?_
  refine J.q rfl rfl (Q.asg rfl) ?_
  refine J.nil ?_
  refine J.then_n ?_
  refine J.seq ?_
  refine J.seq ?_
  refine J.region ?_
  refine J.q rfl rfl (Q.mv rfl) ?_
  refine J.q rfl rfl (Q.lenSl Tryz.runUnderlying22 rfl) ?_
  refine J.q rfl rfl (Q.mv rfl) ?_
  refine J.nil ?_
  refine J.then_n ?_
  refine J.block ?_
  refine J.give (own.nil 37 5 _) ?_
  refine J.give (X := star (([] : List RW).map RW.asn)) trivial ?_
  refine J.pick [1, 0, 2, 3, 4] rfl ?_
  refine J.loop (fun z : Nat × List RW × Option Addr × Nat => z.1 ≤ ln ∧ z.2.1.length = z.1 ∧ z.2.1.map (·.r) = (M.runs ((l.map (·.o)).take z.1)).1) (fun z => ln - z.1) (fun z => [(0, .pointer (some ⟨m, 0, none⟩)), (5, .slice z.2.2.1 z.2.1.length z.2.2.2), (8, .slice lp ln lc), (9, .int .i64 ln), (10, .int .i64 z.1)])
    (fun z => [own 37 5 (.slice z.2.2.1 z.2.1.length z.2.2.2) (z.2.1.flatMap RW.cells), star (z.2.1.map RW.asn), BktAt m (M.runs ((l.map (·.o)).take z.1)).2, G, F]) (0, [], none, 0) ⟨Nat.zero_le _, rfl, rfl⟩ ⟨rfl, rfl, rfl, rfl, rfl, trivial⟩ rfl fun z hz => ?_
  obtain ⟨j, rs, p, c⟩ := z
  obtain ⟨hj, hrl, hrs⟩ := hz
  dsimp only at hj hrl hrs
  refine J.seq ?_
  refine J.region ?_
  refine J.q rfl rfl (Q.lss rfl rfl) ?_
  refine J.nil ?_
  refine J.then_n ?_
  refine J.seq ?_
  refine J.cases 11 rfl (fun hc11 => ?_) (fun hc11 => ?_)
  ·
   replace hc11 := X.nm hc11
   refine J.cond_t rfl ?_
   refine J.cskip ?_
   refine J.then_n ?_
   refine J.seq ?_
   refine J.block ?_
   refine J.seq ?_
   obtain ⟨b, off, hlp, hrd⟩ := hl.rd.some_ (by omega)
   obtain ⟨x, hx⟩ : ∃ x, l[j]? = some x := ⟨_, List.getElem?_eq_getElem (by omega)⟩
   have hxm := List.mem_of_getElem? hx
   have hxo := hl.ok x hxm
   have hxt := runs_take M (l := l.map (·.o)) (k := j) (o := x.o) (by rw [List.getElem?_map, hx]; rfl)
   obtain ⟨Mj, hMj⟩ : ∃ Mj, Mj = (M.runs ((l.map (·.o)).take j)).2 := ⟨_, rfl⟩
   have hokj : Mj.ok (k + j) := by
     rw [hMj]
     have := runs_ok hM ((l.map (·.o)).take j)
     exact this.mono (by rw [List.length_take]; omega)
   show J _ _ _ [_, _, BktAt m (M.runs ((l.map (·.o)).take j)).2, _, _] _
   rw [← hMj] at hxt ⊢
   refine J.slot 8 (.slice (some ⟨b, off, none⟩) ln lc) rfl (by rw [hlp]) ?_
   refine J.region ?_
   refine J.q rfl rfl (Q.ia Tryz.runUnderlying22 Tryz.sizeOf27 rfl rfl (by omega) (by omega)) ?_
   refine J.q rfl rfl (Q.ldN (vs := [_, _, _, _, _, _, _, _, _]) Tryz.isAgg27 Tryz.sizeOf27 rfl ((rd_elem OW.cells_length hrd hx (by simp)).within (i := 3) rfl)) ?_
   refine J.c rfl rfl (C.alloc (l := [_, _, _, _, _, _, _, _, _]) Tryz.zeroValue27 rfl) ?_
   rintro _ _ ⟨b7, rfl, rfl⟩
   refine J.norm rfl ?_
   refine J.stAI (vs := [_, _, _, _, _, _, _, _, _]) rfl Tryz.sizeOf27 rfl rfl (by exact rfl) (by exact rfl) (by exact rfl) ?_
   refine J.nil ?_
   refine J.then_n ?_
   refine J.region ?_
   refine J.q rfl rfl (Q.mv rfl) ?_
   refine J.q rfl rfl (Q.mv rfl) ?_
   refine J.q rfl rfl (Q.ldN (vs := [_, _, _, _, _, _, _, _, _]) Tryz.isAgg27 Tryz.sizeOf27 rfl rnI) ?_
   refine J.call Tryz.call10 (do_spec m Mj hokj x G hxo (hA (k + j) Mj (by omega) hokj x hxm)) [3, 4] rfl rfl rfl rfl ?_
   rintro _ _ ⟨y, rfl, hy, rfl⟩
   refine J.norm rfl ?_
   refine J.c rfl rfl (C.bslG (l := [_, _, _, _, _]) Tryz.runUnderlying32 Tryz.sizeOf37 Tryz.zeroValue37 (by decide) rfl rfl rfl rfl rfl) ?_
   rintro _ _ ⟨b18, rfl, rfl⟩
   refine J.norm rfl ?_
   refine J.conv (Y := own 37 5 (.slice (some ⟨b18, 0, none⟩) 1 1) y.cells) 0 rfl (own_of_block rfl) ?_
   refine J.slr1 0 rfl fun hs18 => ?_
   refine J.c rfl rfl (C.app (i := 5) Tryz.runUnderlying32 Tryz.runUnderlying32 Tryz.typeInfo37 Tryz.sizeOf37 Tryz.zeroValue37 rfl rfl rfl (hs18.within (i := 0) rfl) (by have := RW.cells_one (l := [y]); simpa using this) (by rw [show Tryz.t37.bytes = 72 from rfl]; show (rs.length + 1) * 72 ≤ _; omega) (by decide)) ?_
   rintro _ _ ⟨p19, c19, rfl, rfl⟩
   refine J.norm rfl ?_
   refine J.q rfl rfl (Q.asg rfl) ?_
   refine J.nil ?_
   refine J.blk_n ?_
   refine J.then_n ?_
   refine J.region ?_
   refine J.q rfl rfl (Q.add64 rfl rfl (by omega)) ?_
   refine J.q rfl rfl (Q.mv rfl) ?_
   refine J.nil ?_
   refine J.addone (f := RW.asn) (l := rs) 2 6 y rfl ?_
   have hfl : (rs ++ [y]).flatMap RW.cells = rs.flatMap RW.cells ++ y.cells := by simp
   refine J.keep [5, 0, 2, 3, 6] rfl ?_
   refine J.again (j + 1, rs ++ [y], p19, c19) ⟨by show j + 1 ≤ ln; omega, by show (rs ++ [y]).length = j + 1; simp [hrl], by show (rs ++ [y]).map (·.r) = (M.runs ((l.map (·.o)).take (j + 1))).1; rw [hxt, List.map_append, hrs, List.map_cons, hy]; rfl⟩ (by show ln - (j + 1) < ln - j; omega) ⟨rfl, (by show _ = some (Value.slice p19 (rs ++ [y]).length c19); rw [List.length_append]; rfl), (by show _ = some (Value.slice lp ln lc); rw [hlp]; rfl), rfl, rfl, trivial⟩ ?_
   show _ = [own 37 5 (.slice p19 (rs ++ [y]).length c19) ((rs ++ [y]).flatMap RW.cells), _, BktAt m (M.runs ((l.map (·.o)).take (j + 1))).2, _, _]
   rw [hxt, hfl, List.length_append]
   rfl
  replace hc11 := X.nm hc11
  refine J.cond_f rfl ?_
  refine J.exit ?_
  refine J.then_x ?_
  refine J.lp_x ?_
  refine J.blk_x ?_
  refine J.then_n ?_
  refine J.seq ?_
  refine J.region ?_
  refine J.q rfl rfl (Q.mv rfl) ?_
  refine J.q rfl rfl (Q.asg rfl) ?_
  refine J.nil ?_
  refine J.then_n ?_
  refine J.cret ?_
  have hjn : j = ln := by omega
  subst hjn
  have htk : (l.map (·.o)).take j = l.map (·.o) := List.take_of_length_le (by rw [List.length_map]; omega)
  rw [htk] at hrs
  refine J.ret1 (B := [own 37 5 (.slice p rs.length c) (rs.flatMap RW.cells), star (rs.map RW.asn), BktAt m (M.runs (l.map (·.o))).2, G]) rfl rfl ⟨rs, p, c, rfl, hrs, rfl⟩ ?_
  show [_, _, BktAt m (M.runs ((l.map (·.o)).take j)).2, _, _] = _
  rw [htk]; rfl
end Go.Proofs.YtdancegklkifaaaGreat
namespace Go.Proofs.YtdancegklkifaaaGreat
set_option linter.unusedSectionVars false
set_option linter.unusedSimpArgs false
set_option linter.unusedVariables false
open Go.X
open Go.X.G (Ord3 ord3_nat ord3_int ord3_str ltB sget sput sdel Srtd MapAt MapHole)

def bt (l : List UInt8) : ByteArray := ⟨l.toArray⟩
def exOps (b9 b12 b15 : Nat) : List OW :=
  [⟨⟨1, 1, bt [98], bt [], bt [], 0, 0, [], []⟩, none, 0, none, 0⟩, ⟨⟨7, 7, bt [98], bt [107], bt [], 0, 0, [], []⟩, none, 0, none, 0⟩, ⟨⟨2, 8, bt [], bt [], bt [], 2, 7, [], [121, 121]⟩, none, 0, some ⟨b9, 0, none⟩, 2⟩,
   ⟨⟨3, 8, bt [], bt [], bt [], 1, 7, [], [120]⟩, none, 0, some ⟨b12, 0, none⟩, 1⟩, ⟨⟨4, 9, bt [], bt [], bt [], 0, 7, [1, 2], []⟩, some ⟨b15, 0, none⟩, 2, none, 0⟩, ⟨⟨5, 4, bt [98], bt [107], bt [], 0, 0, [], []⟩, none, 0, none, 0⟩, ⟨⟨6, 2, bt [98], bt [], bt [], 0, 0, [], []⟩, none, 0, none, 0⟩]
theorem exRes (b9 b12 b15 : Nat) : ((⟨[], [], []⟩ : BM).runs ((exOps b9 b12 b15).map (·.o))).1 = [st 200, ⟨200, 7, [], false, []⟩, st 200, st 200, st 200, ⟨200, 0, [], false, [120, 121, 121]⟩, st 409] := by kernel_rfl

def exG (b9 b12 b15 b19 : Nat) : Assn := star [pt b19 (.cells ((exOps b9 b12 b15).flatMap OW.cells).toArray 27 (0, 0)), pt b15 (.cells [Value.int .i64 1, .int .i64 2].toArray 3 (0, 0)), pt b12 (.cells (bytesV [120]).toArray 5 (1, 2)), pt b9 (.cells (bytesV [121, 121]).toArray 5 (2, 3))]


theorem exOk (b9 b12 b15 b19 : Nat) : Ops (exG b9 b12 b15 b19) (some ⟨b19, 0, none⟩) 7 7 (exOps b9 b12 b15) := by
  refine ⟨(SlR.pt (D := [pt b19 (.cells ((exOps b9 b12 b15).flatMap OW.cells).toArray 27 (0, 0))]) 0 rfl rfl (fun j u h => by rw [Nat.zero_add]; exact h)).into 0 rfl, ?_, by decide⟩
  have e0 : ∀ {sz : Nat}, SlR [exG b9 b12 b15 b19] sz (.slice none 0 0) [] := .inl ⟨none, 0, rfl, rfl⟩
  have d9 : SlR [exG b9 b12 b15 b19] 1 (.slice (some ⟨b9, 0, none⟩) 2 2) (bytesV [121, 121]) := (SlR.pt (D := [pt b9 (.cells (bytesV [121, 121]).toArray 5 (2, 3))]) 0 rfl rfl (fun j u h => by rw [Nat.zero_add]; exact h)).into 3 rfl
  have d12 : SlR [exG b9 b12 b15 b19] 1 (.slice (some ⟨b12, 0, none⟩) 1 1) (bytesV [120]) := (SlR.pt (D := [pt b12 (.cells (bytesV [120]).toArray 5 (1, 2))]) 0 rfl rfl (fun j u h => by rw [Nat.zero_add]; exact h)).into 2 rfl
  have p15 : SlR [exG b9 b12 b15 b19] 1 (.slice (some ⟨b15, 0, none⟩) 2 2) [Value.int .i64 1, .int .i64 2] := (SlR.pt (D := [pt b15 (.cells [Value.int .i64 1, .int .i64 2].toArray 3 (0, 0))]) 0 rfl rfl (fun j u h => by rw [Nat.zero_add]; exact h)).into 1 rfl
  intro x hx
  simp only [exOps, List.mem_cons, List.not_mem_nil, or_false] at hx
  rcases hx with rfl | rfl | rfl | rfl | rfl | rfl | rfl
  · exact ⟨e0, e0, (by refine ⟨?_, ?_, ?_, ?_, ?_⟩ <;> exact Nat.le_of_ble_eq_true rfl)⟩
  · exact ⟨e0, e0, (by refine ⟨?_, ?_, ?_, ?_, ?_⟩ <;> exact Nat.le_of_ble_eq_true rfl)⟩
  · exact ⟨e0, d9, (by refine ⟨?_, ?_, ?_, ?_, ?_⟩ <;> exact Nat.le_of_ble_eq_true rfl)⟩
  · exact ⟨e0, d12, (by refine ⟨?_, ?_, ?_, ?_, ?_⟩ <;> exact Nat.le_of_ble_eq_true rfl)⟩
  · exact ⟨p15, e0, (by refine ⟨?_, ?_, ?_, ?_, ?_⟩ <;> exact Nat.le_of_ble_eq_true rfl)⟩
  · exact ⟨e0, e0, (by refine ⟨?_, ?_, ?_, ?_, ?_⟩ <;> exact Nat.le_of_ble_eq_true rfl)⟩
  · exact ⟨e0, e0, (by refine ⟨?_, ?_, ?_, ?_, ?_⟩ <;> exact Nat.le_of_ble_eq_true rfl)⟩

theorem exActs (K m b9 b12 b15 b19 : Nat) : HasActs K m (exOps b9 b12 b15) (exG b9 b12 b15 b19) := by
  intro k M _ hM x hx hc
  refine hasAct m M hM x _ ((exOk b9 b12 b15 b19).ok x hx) hc fun h6 => ?_
  exfalso
  simp only [exOps, List.mem_cons, List.not_mem_nil, or_false] at hx
  rcases hx with rfl | rfl | rfl | rfl | rfl | rfl | rfl <;> simp at h6

theorem seven {α : Type} {l : List α} (h : l.length = 7) : ∃ a b c d e f g, l = [a, b, c, d, e, f, g] := by
  match l with
  | [a, b, c, d, e, f, g] => exact ⟨a, b, c, d, e, f, g, rfl⟩

theorem known_spec : FSpec Tryz.prog 5 [] [] (fun v B => v = .bool true ∧ B = []) := by
  refine FSpec.of Tryz.func5 rfl Tryz.ntmps5 rfl fun W0 F => ?_
  refine J.seq ?_
  refine J.region ?_
  refine J.q rfl rfl (Q.asg rfl) ?_
  refine J.nil ?_
  refine J.then_n ?_
  refine J.seq ?_
  refine J.region ?_
  refine J.call Tryz.call7 (new_spec) [] rfl rfl rfl rfl ?_
  rintro _ _ ⟨m, rfl, rfl⟩
  refine J.norm rfl ?_
  refine J.q rfl rfl (Q.asg rfl) ?_
  refine J.nil ?_
  refine J.then_n ?_
  refine J.seq ?_
  refine J.seq ?_
  refine J.region ?_
  refine J.q rfl rfl (Q.mv rfl) ?_
  refine J.q rfl rfl (Q.eqlp Tryz.runUnderlying30 rfl rfl) ?_
  refine J.nil ?_
  refine J.then_n ?_
  refine J.cases 5 rfl (fun hc5 => ?_) (fun hc5 => ?_)
  ·
   replace hc5 := X.nm hc5
   try (first | (cases hc5; done) | (exfalso; simp at hc5; done))
   all_goals
    refine J.cond_t rfl ?_
    refine J.seq ?_
    refine J.region ?_
    refine J.q rfl rfl (Q.asg rfl) ?_
    refine J.nil ?_
    refine J.then_n ?_
    refine J.cret ?_
    refine J.then_r ?_
    refine J.keep [10] rfl ?_
    refine J.ret1 (B := []) rfl rfl ⟨?_, rfl⟩ rfl
    first | rfl | (simp_all; done)
  replace hc5 := X.nm hc5
  try (first | (cases hc5; done) | (exfalso; simp at hc5; done))
  all_goals
   refine J.cond_f rfl ?_
   refine J.cskip ?_
   refine J.then_n ?_
   refine J.seq ?_
   refine J.region ?_
   refine J.q rfl rfl (Q.mv rfl) ?_
   refine J.q rfl rfl (Q.bld (l := [_, _, _, _, _, _, _, _, _]) Tryz.runUnderlying27 Tryz.zeroValue27 Tryz.places27 rfl rfl) ?_
   refine J.q rfl rfl (Q.bld (l := [_, _, _, _, _, _, _, _, _]) Tryz.runUnderlying27 Tryz.zeroValue27 Tryz.places27 rfl rfl) ?_
   refine J.c rfl rfl (C.bslG (l := [_, _]) Tryz.runUnderlying25 Tryz.sizeOf5 Tryz.zeroValue5 (by decide) rfl rfl rfl rfl rfl) ?_
   rintro _ _ ⟨b9, rfl, rfl⟩
   refine J.norm rfl ?_
   refine J.c rfl rfl (C.stringish (i := 0) Tryz.runUnderlying25 Tryz.runUnderlying5 rfl rfl rfl) ?_
   rintro _ _ ⟨rfl, rfl⟩
   refine J.norm rfl ?_
   refine J.q rfl rfl (Q.bld (l := [_, _, _, _, _, _, _, _, _]) Tryz.runUnderlying27 Tryz.zeroValue27 Tryz.places27 rfl rfl) ?_
   refine J.c rfl rfl (C.bslG (l := [_]) Tryz.runUnderlying25 Tryz.sizeOf5 Tryz.zeroValue5 (by decide) rfl rfl rfl rfl rfl) ?_
   rintro _ _ ⟨b12, rfl, rfl⟩
   refine J.norm rfl ?_
   refine J.c rfl rfl (C.stringish (i := 0) Tryz.runUnderlying25 Tryz.runUnderlying5 rfl rfl rfl) ?_
   rintro _ _ ⟨rfl, rfl⟩
   refine J.norm rfl ?_
   refine J.q rfl rfl (Q.bld (l := [_, _, _, _, _, _, _, _, _]) Tryz.runUnderlying27 Tryz.zeroValue27 Tryz.places27 rfl rfl) ?_
   refine J.c rfl rfl (C.bslG (l := [_, _]) Tryz.runUnderlying24 Tryz.sizeOf3 Tryz.zeroValue3 (by decide) rfl rfl rfl rfl rfl) ?_
   rintro _ _ ⟨b15, rfl, rfl⟩
   refine J.norm rfl ?_
   refine J.q rfl rfl (Q.bld (l := [_, _, _, _, _, _, _, _, _]) Tryz.runUnderlying27 Tryz.zeroValue27 Tryz.places27 rfl rfl) ?_
   refine J.q rfl rfl (Q.bld (l := [_, _, _, _, _, _, _, _, _]) Tryz.runUnderlying27 Tryz.zeroValue27 Tryz.places27 rfl rfl) ?_
   refine J.q rfl rfl (Q.bld (l := [_, _, _, _, _, _, _, _, _]) Tryz.runUnderlying27 Tryz.zeroValue27 Tryz.places27 rfl rfl) ?_
   refine J.c rfl rfl (C.bslG (l := [_, _, _, _, _, _, _, _, _, _, _, _, _, _, _, _, _, _, _, _, _, _, _, _, _, _, _, _, _, _, _, _, _, _, _, _, _, _, _, _, _, _, _, _, _, _, _, _, _, _, _, _, _, _, _, _, _, _, _, _, _, _, _]) Tryz.runUnderlying22 Tryz.sizeOf27 Tryz.zeroValue27 (by decide) rfl rfl rfl rfl rfl) ?_
   rintro _ _ ⟨b19, rfl, rfl⟩
   refine J.norm rfl ?_
   refine J.pack [0, 1, 2, 3] rfl ?_
   refine J.conv (Y := exG b9 b12 b15 b19) 0 rfl (fun h hh => hh) ?_
   refine J.call Tryz.call8 (run_spec (K := 100) m ⟨[], [], []⟩ BM.ok.new (exG b9 b12 b15 b19) (some ⟨b19, 0, none⟩) 7 7 (exOps b9 b12 b15) (exOk b9 b12 b15 b19) (exActs 100 m b9 b12 b15 b19) (by decide)) [1, 0] rfl rfl rfl rfl ?_
   rintro _ _ ⟨rs, p20, c20, rfl, hrs, rfl⟩
   refine J.norm rfl ?_
   rw [exRes] at hrs
   have hrl : rs.length = 7 := by have := congrArg List.length hrs; simpa using this
   obtain ⟨⟨r0, k0, l0, d0, e0⟩, ⟨r1, k1, l1, d1, e1⟩, ⟨r2, k2, l2, d2, e2⟩, ⟨r3, k3, l3, d3, e3⟩, ⟨r4, k4, l4, d4, e4⟩, ⟨r5, k5, l5, d5, e5⟩, ⟨r6, k6, l6, d6, e6⟩, rfl⟩ := seven hrl
   simp only [List.map_cons, List.map_nil, List.cons.injEq, and_true] at hrs
   obtain ⟨rfl, rfl, rfl, rfl, rfl, rfl, rfl⟩ := hrs
   refine J.slr1 0 rfl fun hs20 => ?_
   refine J.unpack 1 rfl rfl ?_
   refine J.tells 5 rfl (asn_ok ⟨Nat.le_of_ble_eq_true rfl, Nat.le_of_ble_eq_true rfl⟩) fun hy5 => ?_
   obtain ⟨b20, o20, rfl, hr20⟩ := hs20.some_ (Nat.succ_pos _)
   refine J.q rfl rfl (Q.asg rfl) ?_
   refine J.nil ?_
   refine J.then_n ?_
   refine J.seq ?_
   refine J.region ?_
   refine J.q rfl rfl (Q.mv rfl) ?_
   refine J.q rfl rfl (Q.lenSl Tryz.runUnderlying32 rfl) ?_
   refine J.q rfl rfl (Q.eql rfl rfl) ?_
   refine J.q rfl rfl (Q.mv rfl) ?_
   refine J.cases 24 rfl (fun hb24 => ?_) (fun hb24 => ?_)
   ·
    replace hb24 := X.nm hb24
    try (first | (cases hb24; done) | (exfalso; simp at hb24; done))
    all_goals
     refine J.q rfl rfl (Q.mv rfl) ?_
     refine J.q rfl rfl (Q.ia Tryz.runUnderlying32 Tryz.sizeOf37 rfl rfl (by omega) (by omega)) ?_
     refine J.q rfl rfl (Q.fa (n := 1) Tryz.runUnderlying37 rfl rfl Tryz.sizeOf23 rfl) ?_
     refine J.q rfl rfl (Q.ld Tryz.isAgg23 rfl ((hr20 6 (.int .u64 7) rfl).within (i := 7) rfl)) ?_
     refine J.q rfl rfl (Q.eql rfl rfl) ?_
     refine J.q rfl rfl (Q.pick_t rfl rfl) ?_
     refine J.q rfl rfl (Q.mv rfl) ?_
     refine J.cases 31 rfl (fun hb31 => ?_) (fun hb31 => ?_)
     ·
      replace hb31 := X.nm hb31
      try (first | (cases hb31; done) | (exfalso; simp at hb31; done))
      all_goals
       refine J.q rfl rfl (Q.mv rfl) ?_
       refine J.q rfl rfl (Q.ia Tryz.runUnderlying32 Tryz.sizeOf37 rfl rfl (by omega) (by omega)) ?_
       refine J.q rfl rfl (Q.fa (n := 4) Tryz.runUnderlying37 rfl rfl Tryz.sizeOf25 rfl) ?_
       refine J.q rfl rfl (Q.ld Tryz.isAgg25 rfl ((hr20 29 _ rfl).within (i := 7) rfl)) ?_
       refine J.q rfl rfl (Q.b2s (bs := [120, 121, 121]) Tryz.runUnderlying25 Tryz.runUnderlying9 Tryz.runUnderlying5 rfl (hy5.data.within (i := 5) rfl)) ?_
       refine J.q rfl rfl (Q.eqls rfl rfl) ?_
       refine J.q rfl rfl (Q.pick_t rfl rfl) ?_
       refine J.q rfl rfl (Q.mv rfl) ?_
       refine J.cases 39 rfl (fun hb39 => ?_) (fun hb39 => ?_)
       ·
        replace hb39 := X.nm hb39
        try (first | (cases hb39; done) | (exfalso; simp at hb39; done))
        all_goals
         refine J.q rfl rfl (Q.mv rfl) ?_
         refine J.q rfl rfl (Q.ia Tryz.runUnderlying32 Tryz.sizeOf37 rfl rfl (by omega) (by omega)) ?_
         refine J.q rfl rfl (Q.fa (n := 0) Tryz.runUnderlying37 rfl rfl Tryz.sizeOf3 rfl) ?_
         refine J.q rfl rfl (Q.ld Tryz.isAgg3 rfl ((hr20 30 (.int .i64 409) rfl).within (i := 7) rfl)) ?_
         refine J.q rfl rfl (Q.eql rfl rfl) ?_
         refine J.q rfl rfl (Q.pick_t rfl rfl) ?_
         refine J.q rfl rfl (Q.asg rfl) ?_
         refine J.nil ?_
         refine J.then_n ?_
         refine J.cret ?_
         refine J.keep [10] rfl ?_
         refine J.ret1 (B := []) rfl rfl ⟨?_, rfl⟩ rfl
         first | rfl | (simp_all; done)
       replace hb39 := X.nm hb39
       try (first | (cases hb39; done) | (exfalso; simp at hb39; done))
       all_goals
        refine J.skip rfl rfl ?_
        refine J.skip rfl rfl ?_
        refine J.skip rfl rfl ?_
        refine J.skip rfl rfl ?_
        refine J.skip rfl rfl ?_
        refine J.q rfl rfl (Q.pick_f rfl rfl) ?_
        refine J.q rfl rfl (Q.asg rfl) ?_
        refine J.nil ?_
        refine J.then_n ?_
        refine J.cret ?_
        refine J.keep [10] rfl ?_
        refine J.ret1 (B := []) rfl rfl ⟨?_, rfl⟩ rfl
        first | rfl | (simp_all; done)
     replace hb31 := X.nm hb31
     try (first | (cases hb31; done) | (exfalso; simp at hb31; done))
     all_goals
      refine J.skip rfl rfl ?_
      refine J.skip rfl rfl ?_
      refine J.skip rfl rfl ?_
      refine J.skip rfl rfl ?_
      refine J.skip rfl rfl ?_
      refine J.skip rfl rfl ?_
      refine J.q rfl rfl (Q.pick_f rfl rfl) ?_
      refine J.q rfl rfl (Q.mv rfl) ?_
      refine J.skip rfl rfl ?_
      refine J.skip rfl rfl ?_
      refine J.skip rfl rfl ?_
      refine J.skip rfl rfl ?_
      refine J.skip rfl rfl ?_
      refine J.q rfl rfl (Q.pick_f rfl rfl) ?_
      refine J.q rfl rfl (Q.asg rfl) ?_
      refine J.nil ?_
      refine J.then_n ?_
      refine J.cret ?_
      refine J.keep [10] rfl ?_
      refine J.ret1 (B := []) rfl rfl ⟨?_, rfl⟩ rfl
      first | rfl | (simp_all; done)
   replace hb24 := X.nm hb24
   try (first | (cases hb24; done) | (exfalso; simp at hb24; done))
   all_goals
    refine J.skip rfl rfl ?_
    refine J.skip rfl rfl ?_
    refine J.skip rfl rfl ?_
    refine J.skip rfl rfl ?_
    refine J.skip rfl rfl ?_
    refine J.q rfl rfl (Q.pick_f rfl rfl) ?_
    refine J.q rfl rfl (Q.mv rfl) ?_
    refine J.skip rfl rfl ?_
    refine J.skip rfl rfl ?_
    refine J.skip rfl rfl ?_
    refine J.skip rfl rfl ?_
    refine J.skip rfl rfl ?_
    refine J.skip rfl rfl ?_
    refine J.q rfl rfl (Q.pick_f rfl rfl) ?_
    refine J.q rfl rfl (Q.mv rfl) ?_
    refine J.skip rfl rfl ?_
    refine J.skip rfl rfl ?_
    refine J.skip rfl rfl ?_
    refine J.skip rfl rfl ?_
    refine J.skip rfl rfl ?_
    refine J.q rfl rfl (Q.pick_f rfl rfl) ?_
    refine J.q rfl rfl (Q.asg rfl) ?_
    refine J.nil ?_
    refine J.then_n ?_
    refine J.cret ?_
    refine J.keep [10] rfl ?_
    refine J.ret1 (B := []) rfl rfl ⟨?_, rfl⟩ rfl
    first | rfl | (simp_all; done)
end Go.Proofs.YtdancegklkifaaaGreat
namespace Go.X
set_option linter.unusedSectionVars false
set_option linter.unusedSimpArgs false
set_option linter.unusedVariables false

/-- All is let in; a round's frame, or none. -/
def fen (r : Option Nat) : Fence := { Fence.wide with round := r }
theorem callsIn_fen {r : Option Nat} {n : Nat} {P : Program} {f : FuncId} {args : Array Value} {w : World} {R : Ending → World → Prop} (h : Calls P f args w R) : CallsIn (fen r) n P f args w R :=
  ⟨trivial, fun cs _ => let ⟨e, w', fr, q, s, x⟩ := h cs; ⟨e, w', fr, q, comesIn_wide.2 s, x⟩⟩
theorem callsIn_fen_out {r : Option Nat} {n : Nat} {P : Program} {f : FuncId} {args : Array Value} {w : World} {R : Ending → World → Prop} (h : CallsIn (fen r) n P f args w R) : Calls P f args w R :=
  fun cs => let ⟨e, w', fr, q, s, x⟩ := h.2 cs (room_wide _); ⟨e, w', fr, q, comesIn_wide.1 s, x⟩
theorem rowsIn_fen {r : Option Nat} {n : Nat} {P : Program} {row : String} {args : Array Value} {w : World} {R : Value → World → Prop} (h : Rows P row args w R) : RowsIn (fen r) n P row args w R :=
  fun c cs _ => let ⟨v, w', q, s⟩ := h c cs; ⟨v, w', q, stepsIn_wide.2 s⟩
theorem roundIn_fen {r r' : Option Nat} {n m : Nat} {P : Program} {l : Nat} {f : FuncId} {tmps : Array Value} {assign body : Code} {w : World} {R : Ending → World → Prop}
    (h : RoundIn (fen r) n P l f tmps assign body w R) : RoundIn (fen r') m P l f tmps assign body w R :=
  ⟨trivial, fun c cs _ => h.2 c cs (room_wide _)⟩

theorem oper_in {r : Option Nat} {n : Nat} {P : Program} {o : Oper} {a : Act} {w : World} {K : Act → World → Prop} {Q : Exit → Act → World → Prop} (hd : ∀ c, o.op ≠ .defer c) (h : Oper.wp P o a w K Q) : Oper.wpIn (fen r) n P o a w K Q := by
  refine ⟨fun _ _ => trivial, ?_⟩
  rw [Oper.semAt_eq _ _ _ hd]
  unfold Oper.wp at h
  revert h
  cases (execOp a.eval o).run P w with
  | ok x w' =>
    cases x with
    | value v => exact id
    | skip => exact id
    | defer d => exact id
    | enter f args => exact fun h => ⟨fun h => (by cases h), callsIn_fen h⟩
    | row row args => exact fun h => ⟨fun h => (by cases h), rowsIn_fen h⟩
    | _ => exact fun h => h.elim
  | halt x w' =>
    cases x with
    | panic v => exact id
    | _ => exact fun h => h.elim

/-- A list of operations in such a frame, with these deferred calls. -/
def LI (r : Option Nat) (P : Program) (ops : Array Oper) (Q : Exit → Act → World → Prop) (ds : List Deferred) (l : List Oper) : Act → World → Prop :=
  fun a w => wpListIn (fen r) 0 P ops Q l { a with defers := ds } w
/-- Code in such a frame, with these deferred calls. -/
def CI (r : Option Nat) (P : Program) (c : Code) (Q : Exit → Act → World → Prop) (ds : List Deferred) : Act → World → Prop :=
  fun a w => c.wpIn (fen r) 0 P Q { a with defers := ds } w
def EI (Q : Exit → Act → World → Prop) (ds : List Deferred) (e : Exit) : Act → World → Prop := fun a w => Q e { a with defers := ds } w

/-- A call of yield: the round. -/
def YSpec (P : Program) (l : Nat) (args : List Value) (A : List Assn) (R : Value → List Assn → Prop) : Prop :=
  ∀ (W0 w : World) (F : Assn), Sat W0 w (A ++ [F]) → YieldAt (fen none) 0 P l args.toArray w (RetQ W0 R F)

section lists
variable {P : Program} {W0 : World} {N : Nat} {ops : Array Oper} {Q : Exit → Act → World → Prop} {L : Slots} {A Ain F : List Assn} {rest : List Oper} {r : Option Nat} {ds : List Deferred}
variable {op : Op} {ty : TypeId} {pos : String} {aft : Array Edge} {g : Option (Nat × Bool)} {d : Nat} {v : Value} {argTypes : Array TypeId}

theorem guardL_in {o : Oper} {a : Act} {b : Bool} (f : Fr N a L) (e : guardL ops o.guard L = some b) : Region.wanted o (yielded ops ({ a with defers := ds } : Act).tmps) = b := guardL_wanted (a := a) f e
theorem agree_in {a : Act} (f : Fr N a L) (op : Op) : Agree { a with defers := ds } L op := fun x _ u e => (f.eval (x := x) e : a.eval x = u)

theorem JI.c {R : Value → List Assn → Prop} (hg : guardL ops g L = some true) (hd : Nat.blt d N = true) (hop : ∀ c, op ≠ .defer c) (h : OpC P op ty L A R) (k : ∀ v B, R v B → J W0 N ((d, v) :: L) B (LI r P ops Q ds rest)) :
    J W0 N L A (LI r P ops Q ds (⟨some d, op, ty, pos, aft, g⟩ :: rest)) := by
  refine ⟨fun a w f s => ?_⟩
  unfold LI wpListIn
  rw [if_pos (guardL_in (o := ⟨some d, op, ty, pos, aft, g⟩) f hg)]
  refine oper_in hop (h.wp _ _ _ _ { a with defers := ds } W0 w (agree_in f _) s _ _ ?_)
  intro u B w' q s'
  exact (k u B q).run _ _ (f.put u hd) s'
theorem JI.c0 {R : Value → List Assn → Prop} (hg : guardL ops g L = some true) (hop : ∀ c, op ≠ .defer c) (h : OpC P op ty L A R) (k : ∀ v B, R v B → J W0 N L B (LI r P ops Q ds rest)) :
    J W0 N L A (LI r P ops Q ds (⟨none, op, ty, pos, aft, g⟩ :: rest)) := by
  refine ⟨fun a w f s => ?_⟩
  unfold LI wpListIn
  rw [if_pos (guardL_in (o := ⟨none, op, ty, pos, aft, g⟩) f hg)]
  refine oper_in hop (h.wp _ _ _ _ { a with defers := ds } W0 w (agree_in f _) s _ _ ?_)
  intro u B w' q s'
  exact (k u B q).run _ _ f s'
theorem JI.q (hg : guardL ops g L = some true) (hd : Nat.blt d N = true) (hop : ∀ c, op ≠ .defer c) (h : OpQ P op ty L A v) (k : J W0 N ((d, v) :: L) A (LI r P ops Q ds rest)) :
    J W0 N L A (LI r P ops Q ds (⟨some d, op, ty, pos, aft, g⟩ :: rest)) :=
  JI.c hg hd hop h.toC (by rintro u B ⟨rfl, rfl⟩; exact k)
theorem JI.nil (k : J W0 N L A (EI Q ds .normal)) : J W0 N L A (LI r P ops Q ds []) := ⟨fun a w f s => k.run a w f s⟩

/-- 'yield(..)' -/
theorem JI.yield {t l : Nat} {R : Value → List Assn → Prop} {xs : List Operand} {args : List Value} (hs : YSpec P l args Ain R) (is : List Nat) (hg : guardL ops g L = some true) (hd : Nat.blt d N = true)
    (hv : find t L = some (.func (.yield l) #[] #[])) (he : evs L xs = some args) (hp : X.pick is A = some (Ain, F)) (k : ∀ v B, R v B → J W0 N ((d, v) :: L) (B ++ F) (LI r P ops Q ds rest)) :
    J W0 N L A (LI r P ops Q ds (⟨some d, .call { callee := .value (.tmp t), args := xs.toArray, argTypes }, ty, pos, aft, g⟩ :: rest)) := by
  refine ⟨fun a w f s => ?_⟩
  unfold LI wpListIn
  rw [if_pos (guardL_in (o := ⟨some d, .call { callee := .value (.tmp t), args := xs.toArray, argTypes }, ty, pos, aft, g⟩) f hg)]
  refine ⟨fun _ _ => trivial, ?_⟩
  rw [Oper.semAt_eq _ _ _ (fun c e => by cases e)]
  have ag := agree_in (ds := ds) f (.call { callee := .value (.tmp t), args := xs.toArray, argTypes })
  have hx : xs.map ({ a with defers := ds } : Act).eval = args := evs_map (fun x hx => ag x (by simp [Op.operands, Call.operands, hx])) he
  have ha : (xs.toArray).map ({ a with defers := ds } : Act).eval = args.toArray := by simp [hx]
  have hf : ({ a with defers := ds } : Act).eval (.tmp t) = .func (.yield l) #[] #[] := ag _ (by simp [Op.operands, Call.operands]) _ hv
  have s' : Sat W0 w (Ain ++ [star F]) := by
    refine (s.perm (pick_perm hp)).imp fun k t => ?_
    obtain ⟨h1, h2, p, q, d, u, v⟩ := t.append
    exact HSat.of_append p (Bs := [star F]) ⟨h2, fun _ => none, q, trivial, fun _ => Or.inr rfl, Sub.refl _, fun _ _ e => nomatch e⟩ d u v
  obtain ⟨fn, tmps, assign, body, hy, hR⟩ := hs W0 w (star F) s'
  have hrun : (execOp ({ a with defers := ds } : Act).eval ⟨some d, .call { callee := .value (.tmp t), args := xs.toArray, argTypes }, ty, pos, aft, g⟩).run P w = .ok (.round l fn tmps assign body) w := by
    simp only [execOp, resolve, hf, Deferred.ofValue, invoke, Sem.run_bind, Sem.run_pure, Result.andThen_ok, ha]
    simpa using hy
  rw [hrun, Oper.uponIn_round]
  refine ⟨fun h => (by cases h), (roundIn_fen hR).mono ?_⟩
  rintro e w' ⟨v, B, rfl, q, t'⟩
  refine (k v B q).run _ _ (f.put v hd) (t'.imp fun k t => ?_)
  obtain ⟨h1, h2, p, ⟨k1, k2, q, _, _, s1, _⟩, d, u, v⟩ := t.append
  exact HSat.of_append p (HSat.mono q s1) d u v
end lists

section control
variable {P : Program} {W0 : World} {N : Nat} {Q : Exit → Act → World → Prop} {L : Slots} {A : List Assn} {x y : Code} {r : Option Nat} {ds : List Deferred}
theorem JI.region {id : Nat} {l : List Oper} (h : J W0 N L A (LI r P l.toArray Q ds l)) : J W0 N L A (CI r P (.region id l.toArray false) Q ds) := ⟨fun a w f s => wpIn_region_lit (h.run a w f s)⟩
theorem JI.block {id : Nat} (h : J W0 N L A (CI r P x (Exit.inBlock id Q) ds)) : J W0 N L A (CI r P (.block id x) Q ds) := ⟨fun a w f s => wpIn_block (h.run a w f s)⟩
theorem JI.blk_n {id : Nat} (h : J W0 N L A (EI Q ds .normal)) : J W0 N L A (EI (Exit.inBlock id Q) ds .normal) := ⟨fun a w f s => h.run a w f s⟩
theorem JI.seq (h : J W0 N L A (CI r P x (Exit.then (y.wpIn (fen r) 0 P Q) Q) ds)) : J W0 N L A (CI r P (.seq x y) Q ds) := ⟨fun a w f s => wpIn_seq (h.run a w f s)⟩
theorem JI.then_n (h : J W0 N L A (CI r P y Q ds)) : J W0 N L A (EI (Exit.then (y.wpIn (fen r) 0 P Q) Q) ds .normal) := ⟨fun a w f s => h.run a w f s⟩
theorem JI.ret (h : J W0 N L A (EI Q ds .ret)) : J W0 N L A (CI r P .ret Q ds) := ⟨fun a w f s => wpIn_ret (h.run a w f s)⟩
/-- A region of a plain function that calls yield. -/
theorem J.regionY {id : Nat} {l : List Oper} (h : J W0 N L A (LI none P l.toArray Q [] l)) : J W0 N L A ((Code.region id l.toArray false).wp P Q) :=
  ⟨fun a w f s => (wpIn_wide (n := 0)).1 (wpIn_region_lit (by
    have := h.run a w f s
    have e : ({ a with defers := [] } : Act) = a := by rw [← f.defers]
    unfold LI at this
    rw [e] at this; exact this))⟩
theorem JI.out {e : Exit} (h : J W0 N L A (Q e)) : J W0 N L A (EI Q [] e) :=
  ⟨fun a w f s => by
    have := h.run a w f s
    have e : ({ a with defers := [] } : Act) = a := by rw [← f.defers]
    unfold EI; rw [e]; exact this⟩
end control

/-! ### The loop's record -/
def lrec (fn : FuncId) (T : Array Value) (ps : List Tmp) (assign body : Code) (D : Nat) (st : LoopState) (pe : Option Code) : Obj :=
  .loop { state := st, pending := pe, fn, tmps := T, params := ps.toArray, assign, body, defers := D }

/-- What is known of temporaries. -/
structure FrT (N : Nat) (T : Array Value) (L : Slots) : Prop where
  size : T.size = N
  get : ∀ s v, find s L = some v → T[s]? = some v

def zipS : List Tmp → List Value → Slots
  | p :: ps, v :: vs => zipS ps vs ++ [(p, v)]
  | _, _ => []
theorem find_append (s : Nat) : ∀ (L M : Slots), find s (L ++ M) = match find s L with | some v => some v | none => find s M
  | [], M => rfl
  | (d, v) :: L, M => by
    simp only [List.cons_append, find]
    cases Nat.beq s d with
    | true => rfl
    | false => exact find_append s L M
theorem FrT.puts_ : ∀ {ps : List Tmp} {vs : List Value} {N : Nat} {T : Array Value} {L : Slots}, FrT N T L → (∀ p, p ∈ ps → p < N) → FrT N ((ps.zip vs).foldl (fun t (q : Nat × Value) => t.setIfInBounds q.1 q.2) T) (zipS ps vs ++ L)
  | [], vs, N, T, L, h, _ => by simpa [zipS] using h
  | p :: ps, [], N, T, L, h, _ => by simpa [zipS] using h
  | p :: ps, v :: vs, N, T, L, h, hp => by
    have h1 : FrT N (T.setIfInBounds p v) ((p, v) :: L) := by
      refine ⟨by simp [h.size], fun s u e => ?_⟩
      simp only [find] at e
      rw [Array.getElem?_setIfInBounds]
      cases hb : Nat.beq s p with
      | true =>
        rw [hb] at e; simp at e
        rw [beq_iff] at hb; subst hb; subst e
        have := hp s (by simp)
        simp [h.size, this]
      | false =>
        rw [hb] at e; simp at e
        have hne : p ≠ s := by rintro rfl; rw [Nat.beq_refl] at hb; cases hb
        rw [if_neg hne]; exact h.get s u e
    have := FrT.puts_ (ps := ps) (vs := vs) h1 (fun q hq => hp q (by simp [hq]))
    simpa [zipS, List.append_assoc] using this
theorem FrT.puts {ps : List Tmp} {vs : List Value} {N : Nat} {T : Array Value} {L : Slots} (h : FrT N T L) (hp : ∀ p, p ∈ ps → p < N) : FrT N ((ps.toArray.zip vs.toArray).foldl (fun t (q : Nat × Value) => t.setIfInBounds q.1 q.2) T) (zipS ps vs ++ L) := by
  have := FrT.puts_ (vs := vs) h hp
  rw [← Array.foldl_toList]
  simpa using this

/-- A round's end. -/
def BodyQ (W0 : World) (A : List Assn) : Exit → Act → World → Prop
  | .normal, _, w => Sat W0 w A
  | _, _, _ => False
def AsgQ (W0 : World) (N : Nat) (L : Slots) (A : List Assn) : Exit → Act → World → Prop
  | .normal, a, w => Fr N a L ∧ Sat W0 w A
  | _, _, _ => False
section ends
variable {W0 : World} {N : Nat} {L M : Slots} {A B : List Assn}
theorem JI.bodyEnd (e : A = B) : J W0 N L A (EI (BodyQ W0 B) [] .normal) := ⟨fun _ _ _ s => e ▸ s⟩
theorem JI.asgEnd (hL : Knows L M) (e : A = B) : J W0 N L A (EI (AsgQ W0 N M B) [] .normal) :=
  ⟨fun a _ f s => ⟨by have := f.weaken hL; exact ⟨this.size, this.get, rfl⟩, e ▸ s⟩⟩
end ends

theorem putObj_sat {W0 w : World} {l : Nat} {o p : Obj} {A : List Assn} (s : Sat W0 w (pt l o :: A)) : Sat W0 (w.putObj l p) (pt l p :: A) := by
  have h0 : hp w l = some o := by obtain ⟨k, hk, hs⟩ := s.heap.at_ (i := 0) rfl; exact hs l o hk
  refine ⟨s.os, s.tape, s.out, ?_⟩
  have e : hp (w.putObj l p) = upd (hp w) l p := hp_set w l p o h0
  rw [e]
  have := HSat.update (i := 0) (b := l) (o := p) (A := pt l o) (B := pt l p) s.heap rfl fun k hk => ⟨⟨o, hk⟩, by simp [pt, upd]⟩
  simpa using this

/-- An iterator: whatever the rounds carry on, so each round is a call of yield that goes on. -/
def ItSpec {α : Type} (P : Program) (gf : FuncId) (lb : List Value) (enc : α → List Value) (Ait : List Assn) (S : List α → Prop) (ok : List α → α → Prop) : Prop :=
  ∀ (l : Nat) (Inv : List α → Assn), (∀ pre x, ok pre x → YSpec P l (enc x) [Inv pre] (fun v B => v = .bool true ∧ B = [Inv (pre ++ [x])])) →
    FSpec P gf (.func (.yield l) #[] #[] :: lb) (Inv [] :: Ait) (fun _ B => ∃ xs, S xs ∧ B = Inv xs :: Ait)

section stmt
variable {P : Program} {W0 : World} {N : Nat} {Q : Exit → Act → World → Prop} {L : Slots} {A Ait C : List Assn}

theorem JI.rangeFunc {α : Type} {gt : Tmp} {ps : List Tmp} {assign body : Code} (gf : FuncId) (lb : List Value) (enc : α → List Value) (S : List α → Prop) (ok : List α → α → Prop) (Ib : List α → List Assn) (L1 : α → Slots)
    (hg : find gt L = some (.func (.func gf) #[] lb.toArray)) (eg : ∀ (args : Array Value) (w : World), (callFunc gf args).run P w = .ok (.enter gf args) w) (hit : ItSpec P gf lb enc Ait S ok)
    (hps : ∀ p, p ∈ ps → p < N) (hen : ∀ x, (enc x).length = ps.length) (is : List Nat) (hp : X.pick is A = some (Ib [] ++ Ait, C))
    (hassign : ∀ (l : Nat) (W0 : World) (F : Assn) pre x, ok pre x → J W0 N (zipS ps (enc x) ++ L) (Ib pre ++ [F]) (CI (some l) P assign (AsgQ W0 N (L1 x) (Ib pre ++ [F])) []))
    (hbody : ∀ (l : Nat) (W0 : World) (F : Assn) pre x, ok pre x → J W0 N (L1 x) (Ib pre ++ [F]) (CI (some l) P body (BodyQ W0 (Ib (pre ++ [x]) ++ [F])) []))
    (k : ∀ D xs, S xs → J W0 N L (pt D (.deferred (some [])) :: (Ib xs ++ Ait ++ C)) (EI Q [{ target := .collected D, args := #[] }] .normal)) :
    J W0 N L A (CI none P (.rangeFunc (.tmp gt) ps.toArray assign body) Q []) := by
  refine ⟨fun a w f s => ?_⟩
  unfold CI
  have ea : ({ a with defers := [] } : Act) = a := by rw [← f.defers]
  rw [ea]
  refine wpIn_rangeFunc ?_
  intro fn _
  obtain ⟨rec, hrec⟩ : ∃ rec : LoopState → Option Code → Obj, rec = lrec fn a.tmps ps assign body w.heap.size := ⟨_, rfl⟩
  have s0 := s.perm (pick_perm hp)
  have s1 : Sat W0 ((w.alloc (.deferred (some []))).alloc (rec .ready none)) (pt (w.heap.size + 1) (rec .ready none) :: pt w.heap.size (.deferred (some [])) :: (Ib [] ++ Ait ++ C)) := by
    have h1 := s0.new (.deferred (some []))
    have h2 := h1.new (rec .ready none)
    rw [show ({ w with heap := w.heap.push (.deferred (some [])) } : World).heap.size = w.heap.size + 1 from by simp] at h2
    exact h2
  obtain ⟨W1, hW1⟩ : ∃ W1, (w.alloc (.deferred (some []))).alloc (rec .ready none) = W1 := ⟨_, rfl⟩
  rw [hW1] at s1
  refine ⟨w.heap.size + 1, [{ target := .collected w.heap.size, args := #[] }], W1, { target := .fn (.func gf) lb.toArray, args := #[.func (.yield (w.heap.size + 1)) #[] #[]] }, W1, gf,
    #[.func (.yield (w.heap.size + 1)) #[] #[]] ++ lb.toArray, W1, ?_, ?_, fun _ _ => trivial, ?_, fun h => (by cases h), ?_⟩
  · rw [← hW1, hrec]; exact run_enterLoop_outer _ _ _ _ _
  · have : a.eval (.tmp gt) = .func (.func gf) #[] lb.toArray := f.eval (x := .tmp gt) hg
    simp only [resolve, this]
    simp [go_sem]
  · simp [invoke, go_sem, eg]
  · have hInv : ∀ pre x, ok pre x → YSpec P (w.heap.size + 1) (enc x) [star (pt (w.heap.size + 1) (rec .ready none) :: pt w.heap.size (.deferred (some [])) :: Ib pre)]
        (fun v B => v = .bool true ∧ B = [star (pt (w.heap.size + 1) (rec .ready none) :: pt w.heap.size (.deferred (some [])) :: Ib (pre ++ [x]))]) := by
      intro pre x hok W0' w' F' s
      have t : Sat W0' w' ((pt (w.heap.size + 1) (rec .ready none) :: pt w.heap.size (.deferred (some [])) :: Ib pre) ++ [F']) :=
        s.imp fun h hh => HSat.unpack (As := pt (w.heap.size + 1) (rec .ready none) :: pt w.heap.size (.deferred (some [])) :: Ib pre) (Bs := [F']) hh
      have hl := t.at_ (i := 0) rfl
      have hl' : w'.heap[w.heap.size + 1]? = some (lrec fn a.tmps ps assign body w.heap.size .ready none) := by rw [← hrec]; exact hl
      refine ⟨fn, _, assign, body, run_yield hl' (by simp [hen]), roundIn_of_wpIn trivial ?_⟩
      have fr0 : Fr N ⟨(ps.toArray.zip (enc x).toArray).foldl (fun t (q : Nat × Value) => t.setIfInBounds q.1 q.2) a.tmps, []⟩ (zipS ps (enc x) ++ L) := by
        have := FrT.puts (vs := enc x) (⟨f.size, f.get⟩ : FrT N a.tmps L) hps
        exact ⟨this.size, this.get, rfl⟩
      have t1 : ∀ (st : Obj) (X : List Assn) {w2 : World}, Sat W0' w2 ((pt (w.heap.size + 1) st :: pt w.heap.size (.deferred (some [])) :: X) ++ [F']) → Sat W0' w2 (X ++ [star [pt (w.heap.size + 1) st, pt w.heap.size (.deferred (some [])), F']]) := by
        intro st X w2 h
        have h2 : Sat W0' w2 ([pt (w.heap.size + 1) st, pt w.heap.size (.deferred (some [])), F'] ++ X) := h.perm (by
          simp only [List.cons_append, List.nil_append]
          exact ((List.perm_append_singleton F' X).cons _).cons _)
        exact (h2.imp fun h hh => HSat.pack hh).perm (List.perm_append_singleton _ X).symm
      have t2 : ∀ (st : Obj) (X : List Assn) {w2 : World}, Sat W0' w2 (X ++ [star [pt (w.heap.size + 1) st, pt w.heap.size (.deferred (some [])), F']]) → Sat W0' w2 ((pt (w.heap.size + 1) st :: pt w.heap.size (.deferred (some [])) :: X) ++ [F']) := by
        intro st X w2 h
        have h1 := (h.perm (List.perm_append_singleton _ X)).imp fun h hh => HSat.unpack hh
        exact h1.perm (by
          simp only [List.cons_append, List.nil_append]
          exact ((List.perm_append_singleton F' X).symm.cons _).cons _)
      refine wpIn_mono ((hassign (w.heap.size + 1) W0' _ pre x hok).run _ w' fr0 (t1 _ _ t)) ?_
      intro e a1 w1 hq
      cases e with
      | normal =>
        obtain ⟨fr1, s1⟩ := hq
        have s1' := t2 _ _ s1
        have hl1 := s1'.at_ (i := 0) rfl
        rw [hrec] at hl1
        refine ⟨_, run_beginRound hl1 rfl, ?_⟩
        have s2 := putObj_sat (p := lrec fn a.tmps ps assign body w.heap.size .busy none) s1'
        have ea1 : ({ a1 with defers := [] } : Act) = a1 := by rw [← fr1.defers]
        have hb := (hbody (w.heap.size + 1) W0' _ pre x hok).run a1 _ fr1 (t1 _ _ s2)
        unfold CI at hb
        rw [ea1] at hb
        refine wpIn_mono hb ?_
        intro e a3 w3 hq3
        cases e with
        | normal =>
          have s3 := t2 _ _ hq3
          have hl3 := s3.at_ (i := 0) rfl
          refine ⟨_, _, run_endRound none hl3, ?_⟩
          have s4 := putObj_sat (p := rec .ready none) s3
          rw [hrec] at s4 ⊢
          exact ⟨_, _, rfl, ⟨rfl, rfl⟩, s4.imp fun h hh => HSat.pack (As := pt (w.heap.size + 1) (lrec fn a.tmps ps assign body w.heap.size .ready none) :: pt w.heap.size (.deferred (some [])) :: Ib (pre ++ [x])) (Bs := [F']) hh⟩
        | _ => exact hq3.elim
      | _ => exact hq.elim
    have s2 : Sat W0 W1 ((star (pt (w.heap.size + 1) (rec .ready none) :: pt w.heap.size (.deferred (some [])) :: Ib []) :: Ait) ++ [star C]) := by
      have e1 : pt (w.heap.size + 1) (rec .ready none) :: pt w.heap.size (.deferred (some [])) :: (Ib [] ++ Ait ++ C) = (pt (w.heap.size + 1) (rec .ready none) :: pt w.heap.size (.deferred (some [])) :: Ib []) ++ (Ait ++ C) := by simp
      rw [e1] at s1
      have h1 := s1.imp fun h hh => HSat.pack hh
      have h2 : Sat W0 W1 (C ++ (star (pt (w.heap.size + 1) (rec .ready none) :: pt w.heap.size (.deferred (some [])) :: Ib []) :: Ait)) := h1.perm (by
        rw [← List.cons_append]; exact List.perm_append_comm)
      exact (h2.imp fun h hh => HSat.pack hh).perm (List.perm_append_singleton _ _).symm
    have hc := (hit (w.heap.size + 1) (fun pre => star (pt (w.heap.size + 1) (rec .ready none) :: pt w.heap.size (.deferred (some [])) :: Ib pre)) hInv).call W0 W1 (star C) s2
    rw [show (Value.func (.yield (w.heap.size + 1)) #[] #[] :: lb).toArray = #[Value.func (.yield (w.heap.size + 1)) #[] #[]] ++ lb.toArray from by simp] at hc
    refine callsIn_fen (hc.mono ?_)
    rintro e w' ⟨v, B, rfl, ⟨xs, hS, rfl⟩, t⟩
    have t1 := (t.perm (List.perm_append_singleton (star C) _)).imp fun h hh => HSat.unpack hh
    have t2 : Sat W0 w' (star (pt (w.heap.size + 1) (rec .ready none) :: pt w.heap.size (.deferred (some [])) :: Ib xs) :: (Ait ++ C)) := t1.perm (by
      rw [← List.cons_append]; exact List.perm_append_comm)
    have t3 := t2.imp fun h hh => HSat.unpack hh
    have hl := t3.at_ (i := 0) rfl
    rw [hrec] at hl
    refine ⟨none, _, run_endLoop hl (by simp), ?_⟩
    have t4 := putObj_sat (p := lrec fn a.tmps ps assign body w.heap.size .exhausted none) t3
    have hk := (k w.heap.size xs hS).run a _ f (t4.imp fun h hh => by
      have := HSat.tail hh
      simpa using this)
    unfold EI at hk
    have ed : ([{ target := .collected w.heap.size, args := #[] }] ++ a.defers : List Deferred) = [{ target := .collected w.heap.size, args := #[] }] := by rw [f.defers]; rfl
    rw [ed]
    exact hk
end stmt

section funcs
variable {P : Program} {f : FuncId} {fn : Func} {c : Code} {N : Nat} {args : List Value} {A B D : List Assn} {R : Value → List Assn → Prop} {W0 : World} {L : Slots} {F : Assn} {v : Value}
/-- A function that holds a range over a function. -/
theorem FSpec.ofM (hf : P.funcs[f]? = some fn) (hb : fn.body = some c) (hn : fn.ntmps = N) (hl : Nat.ble args.length N = true)
    (h : ∀ (W0 : World) (F : Assn), J W0 N (argSlots 0 args) (A ++ [F]) (CI none P c (bodyPostM (fen none) 0 P fn (RetQ W0 R F)) [])) : FSpec P f args A R := by
  refine ⟨fun W0 w F s => callsIn_fen_out (r := none) (callsIn_of_wp_marks hf hb trivial ((h W0 F).run ⟨args.toArray ++ Array.replicate (fn.ntmps - args.toArray.size) undef, []⟩ w ⟨?_, ?_, rfl⟩ s) rfl)⟩
  · have : args.length ≤ N := Nat.le_of_ble_eq_true hl
    simp [hn]; omega
  · intro t v e
    obtain ⟨_, h2⟩ := find_argSlots _ _ _ _ e
    simp only [Nat.sub_zero] at h2
    rw [Array.getElem?_append_left]
    · simpa using h2
    · rcases Nat.lt_or_ge t args.length with q | q
      · simpa using q
      · rw [List.getElem?_eq_none q] at h2; cases h2

/-- Its way out, with one mark. -/
theorem JI.ret1 {s D0 : Nat} (hr : fn.results = #[.tmp s]) (hv : find s L = some v) (hR : R v B) (hA : A = pt D0 (.deferred (some [])) :: (B ++ [F])) :
    J W0 N L A (EI (bodyPostM (fen none) 0 P fn (RetQ W0 R F)) [{ target := .collected D0, args := #[] }] .ret) := by
  subst hA
  refine ⟨fun a w f t => ?_⟩
  have hd := t.at_ (i := 0) rfl
  refine ⟨by simp, .inl ⟨D0, _, rfl, run_takeDeferred hd, v, ?_, v, B, rfl, hR, ?_⟩⟩
  · rw [results_tmp hr]
    rw [Array.getD_eq_getD_getElem?, f.get s v hv]; rfl
  · exact (putObj_sat (p := .deferred none) t).imp fun h hh => HSat.tail hh
end funcs
section loops
variable {α β γ δ : Type} {P : Program} {W0 : World} {N : Nat} {Q : Exit → Act → World → Prop} {L : Slots} {A : List Assn} {c : Code}
/-- Loops whose state has several parts. -/
theorem J.loop2 (I : α → β → Prop) (m : α → β → Nat) (Ls : α → β → Slots) (As : α → β → List Assn) (x0 : α) (y0 : β) (h0 : I x0 y0) (hL : Knows L (Ls x0 y0)) (hA : A = As x0 y0)
    (round : ∀ x y, I x y → J W0 N (Ls x y) (As x y) (c.wp P (LoopQ W0 N (fun z : α × β => I z.1 z.2) (fun z => m z.1 z.2) (fun z => Ls z.1 z.2) (fun z => As z.1 z.2) (x, y) Q))) : J W0 N L A ((Code.loop c).wp P Q) :=
  J.loop (fun z : α × β => I z.1 z.2) (fun z => m z.1 z.2) (fun z => Ls z.1 z.2) (fun z => As z.1 z.2) (x0, y0) h0 hL hA fun x h => round x.1 x.2 h
theorem J.loop3 (I : α → β → γ → Prop) (m : α → β → γ → Nat) (Ls : α → β → γ → Slots) (As : α → β → γ → List Assn) (x0 : α) (y0 : β) (z0 : γ) (h0 : I x0 y0 z0) (hL : Knows L (Ls x0 y0 z0)) (hA : A = As x0 y0 z0)
    (round : ∀ x y u, I x y u → J W0 N (Ls x y u) (As x y u) (c.wp P (LoopQ W0 N (fun z : α × β × γ => I z.1 z.2.1 z.2.2) (fun z => m z.1 z.2.1 z.2.2) (fun z => Ls z.1 z.2.1 z.2.2) (fun z => As z.1 z.2.1 z.2.2) (x, y, u) Q))) : J W0 N L A ((Code.loop c).wp P Q) :=
  J.loop (fun z : α × β × γ => I z.1 z.2.1 z.2.2) (fun z => m z.1 z.2.1 z.2.2) (fun z => Ls z.1 z.2.1 z.2.2) (fun z => As z.1 z.2.1 z.2.2) (x0, y0, z0) h0 hL hA fun x h => round x.1 x.2.1 x.2.2 h
theorem J.loop4 (I : α → β → γ → δ → Prop) (m : α → β → γ → δ → Nat) (Ls : α → β → γ → δ → Slots) (As : α → β → γ → δ → List Assn) (x0 : α) (y0 : β) (z0 : γ) (w0 : δ) (h0 : I x0 y0 z0 w0) (hL : Knows L (Ls x0 y0 z0 w0)) (hA : A = As x0 y0 z0 w0)
    (round : ∀ x y u v, I x y u v → J W0 N (Ls x y u v) (As x y u v) (c.wp P (LoopQ W0 N (fun z : α × β × γ × δ => I z.1 z.2.1 z.2.2.1 z.2.2.2) (fun z => m z.1 z.2.1 z.2.2.1 z.2.2.2) (fun z => Ls z.1 z.2.1 z.2.2.1 z.2.2.2) (fun z => As z.1 z.2.1 z.2.2.1 z.2.2.2) (x, y, u, v) Q))) : J W0 N L A ((Code.loop c).wp P Q) :=
  J.loop (fun z : α × β × γ × δ => I z.1 z.2.1 z.2.2.1 z.2.2.2) (fun z => m z.1 z.2.1 z.2.2.1 z.2.2.2) (fun z => Ls z.1 z.2.1 z.2.2.1 z.2.2.2) (fun z => As z.1 z.2.1 z.2.2.1 z.2.2.2) (x0, y0, z0, w0) h0 hL hA fun x h => round x.1 x.2.1 x.2.2.1 x.2.2.2 h
end loops
end Go.X
namespace Go.Proofs.YtdancegklkifaaaGreat
set_option linter.unusedSectionVars false
set_option linter.unusedSimpArgs false
set_option linter.unusedVariables false
open Go.X

/-- A slice in a variable's block. -/
def boxOwnS (b : Nat) (xs : List ByteArray) : Assn := fun h => ∃ z : Option Addr × Nat, HSat h [pt b (.cells [.slice z.1 xs.length z.2].toArray 35 (0, 0)), own 9 1 (.slice z.1 xs.length z.2) (xs.map Value.string)]

theorem appendSeqS (gf : FuncId) (lb : List Value) (G : Assn) (S : List ByteArray → Prop) (ok : List ByteArray → ByteArray → Prop) (eg : ∀ (args : Array Value) (w : World), (callFunc gf args).run Tryz.prog w = .ok (.enter gf args) w)
    (hit : ItSpec Tryz.prog gf lb (fun x : ByteArray => [Value.string x]) [G] S ok) (hok : ∀ pre x, ok pre x → pre.length < 1099511627776) :
    FSpec Tryz.prog 86 [.slice none 0 0, .func (.func gf) #[] lb.toArray] [G] (fun v B => ∃ (xs : List ByteArray) (p : Option Addr) (c : Nat), S xs ∧ v = .slice p xs.length c ∧ B = [own 9 1 (.slice p xs.length c) (xs.map Value.string), G]) := by
  refine FSpec.ofM Tryz.func86 rfl Tryz.ntmps86 rfl fun W0 F => ?_
  refine JI.seq ?_
  refine JI.region ?_
  refine JI.c rfl rfl (fun _ e => nomatch e) (C.box (l := [_]) rfl rfl) ?_
  rintro _ _ ⟨b2, rfl, rfl⟩
  refine J.norm rfl ?_
  refine JI.q rfl rfl (fun _ e => nomatch e) (Q.asg rfl) ?_
  refine JI.nil ?_
  refine JI.then_n ?_
  refine JI.seq ?_
  refine JI.seq ?_
  refine JI.region ?_
  refine JI.q rfl rfl (fun _ e => nomatch e) (Q.mv rfl) ?_
  refine JI.nil ?_
  refine JI.then_n ?_
  refine JI.block ?_
  refine J.give (own.nil 9 1 _) ?_
  refine J.shut [1, 0] (boxOwnS b2 []) rfl (fun h s => ⟨(none, 0), s⟩) ?_
  refine J.sub [(2, .pointer (some ⟨b2, 0, none⟩)), (6, .func (.func gf) #[] lb.toArray)] ⟨rfl, rfl, trivial⟩ ?_
  refine JI.rangeFunc gf lb (fun x : ByteArray => [Value.string x]) S ok (fun pre => [boxOwnS b2 pre]) (fun x => [(5, Value.string x), (2, .pointer (some ⟨b2, 0, none⟩))]) rfl eg hit (by decide) (fun _ => rfl) [0, 1] rfl ?_ ?_ ?_
  · intro l W1 F1 pre x _
    refine JI.region ?_
    refine JI.q rfl rfl (fun _ e => nomatch e) (Q.asg rfl) ?_
    refine JI.nil ?_
    exact JI.asgEnd ⟨rfl, rfl, trivial⟩ rfl
  · intro l W1 F1 pre x hk
    have hlen := hok pre x hk
    refine JI.block ?_
    refine JI.region ?_
    refine J.open_ 0 (p := fun _ => True) rfl rfl (fun h hh => by obtain ⟨z, hz⟩ := hh; exact ⟨z, trivial, hz⟩) fun z _ => ?_
    refine J.norm rfl ?_
    refine JI.q rfl rfl (fun _ e => nomatch e) (Q.ld Tryz.isAgg35 rfl (Reads.pt 0 rfl rfl)) ?_
    refine JI.q rfl rfl (fun _ e => nomatch e) (Q.mv rfl) ?_
    refine JI.c rfl rfl (fun _ e => nomatch e) (C.bslG (l := [_]) Tryz.runUnderlying35 Tryz.sizeOf9 Tryz.zeroValue9 (by decide) rfl rfl rfl rfl rfl) ?_
    rintro _ _ ⟨b10, rfl, rfl⟩
    refine J.norm rfl ?_
    refine JI.c rfl rfl (fun _ e => nomatch e) (C.app (i := 2) Tryz.runUnderlying35 Tryz.runUnderlying35 Tryz.typeInfo9 Tryz.sizeOf9 Tryz.zeroValue9 rfl rfl rfl (SlR.pt 0 rfl rfl (xs := [Value.string x]) (fun j u h => by rw [Nat.zero_add]; exact h)) (by intro v hv; obtain rfl := List.mem_singleton.1 hv; rfl) (by simp [Tryz.t9]; omega) (by decide)) ?_
    rintro _ _ ⟨p11, c11, rfl, rfl⟩
    refine J.norm rfl ?_
    refine JI.c0 rfl (fun _ e => nomatch e) (C.stl (i := 1) Tryz.sizeOf35 rfl rfl rfl rfl rfl rfl rfl) ?_
    rintro _ _ ⟨rfl, rfl⟩
    refine JI.nil ?_
    refine JI.blk_n ?_
    refine J.shut [1, 2] (boxOwnS b2 (pre ++ [x])) rfl (fun h s => ⟨(p11, c11), by simpa [List.length_append] using s⟩) ?_
    refine J.keep [0, 2] rfl ?_
    exact JI.bodyEnd rfl
  · intro D xs hS
    refine J.norm rfl ?_
    refine JI.blk_n ?_
    refine JI.then_n ?_
    refine JI.seq ?_
    refine JI.region ?_
    refine J.open_ 1 (p := fun _ => True) rfl rfl (fun h hh => by obtain ⟨z, hz⟩ := hh; exact ⟨z, trivial, hz⟩) fun z _ => ?_
    refine J.norm rfl ?_
    refine JI.q rfl rfl (fun _ e => nomatch e) (Q.ld Tryz.isAgg35 rfl (Reads.pt 0 rfl rfl)) ?_
    refine JI.q rfl rfl (fun _ e => nomatch e) (Q.asg rfl) ?_
    refine JI.nil ?_
    refine JI.then_n ?_
    refine JI.ret ?_
    refine J.keep [2, 1, 3, 4] rfl ?_
    exact JI.ret1 rfl rfl ⟨xs, z.1, z.2, hS, rfl, rfl⟩ rfl

theorem collectS (gf : FuncId) (lb : List Value) (G : Assn) (S : List ByteArray → Prop) (ok : List ByteArray → ByteArray → Prop) (eg : ∀ (args : Array Value) (w : World), (callFunc gf args).run Tryz.prog w = .ok (.enter gf args) w)
    (hit : ItSpec Tryz.prog gf lb (fun x : ByteArray => [Value.string x]) [G] S ok) (hok : ∀ pre x, ok pre x → pre.length < 1099511627776) :
    FSpec Tryz.prog 49 [.func (.func gf) #[] lb.toArray] [G] (fun v B => ∃ (xs : List ByteArray) (p : Option Addr) (c : Nat), S xs ∧ v = .slice p xs.length c ∧ B = [own 9 1 (.slice p xs.length c) (xs.map Value.string), G]) := by
 refine FSpec.of Tryz.func49 rfl Tryz.ntmps49 rfl fun W0 F => ?_
 refine J.seq ?_
 refine J.region ?_
 refine J.q rfl rfl (Q.asg rfl) ?_
 refine J.nil ?_
 refine J.then_n ?_
 refine J.seq ?_
 refine J.region ?_
 refine J.q rfl rfl (Q.mv rfl) ?_
 refine J.call Tryz.call86 (appendSeqS gf lb G S ok eg hit hok) [0] rfl rfl rfl rfl ?_
 rintro _ _ ⟨xs, p, c, hS, rfl, rfl⟩
 refine J.norm rfl ?_
 refine J.q rfl rfl (Q.asg rfl) ?_
 refine J.nil ?_
 refine J.then_n ?_
 refine J.cret ?_
 refine J.ret1 (B := [_, G]) rfl rfl ⟨xs, p, c, hS, rfl, rfl⟩ rfl
end Go.Proofs.YtdancegklkifaaaGreat
namespace Go.Proofs
open Go.Shelf
def Tryz.sort50_ren : Go.Shelf.Ren := ⟨fun | 6 => 50 | 8 => 88 | 9 => 87 | 19 => 106 | 20 => 107 | 21 => 97 | 22 => 98 | 23 => 99 | 24 => 100 | 25 => 101 | 26 => 102 | 27 => 103 | 28 => 104 | 29 => 105 | 36 => 127 | 31 => 128 | 32 => 129 | 37 => 130 | 38 => 131 | 39 => 132 | 41 => 141 | n => n, fun | 27 => 35 | 29 => 9 | 3 => 3 | 32 => 110 | 26 => 35 | 0 => 0 | 44 => 146 | 46 => 23 | 4 => 4 | 36 => 140 | 35 => 139 | 41 => 119 | 5 => 5 | 9 => 9 | 53 => 160 | 57 => 164 | 63 => 170 | 64 => 171 | n => n, fun | n => n⟩
theorem Tryz.sort50 : Go.Proofs.SlLaysM.n6 Tryz.prog Tryz.sort50_ren := {
  mixed := by kernel_rfl
  f6 := ⟨Tryz.f50.name, by decide, Tryz.func50.trans (congrArg some (by kernel_rfl))⟩
  f8 := Tryz.func88.trans (congrArg some (by kernel_rfl))
  f9 := ⟨Tryz.f87.name, by decide, Tryz.func87.trans (congrArg some (by kernel_rfl))⟩
  f19 := Tryz.func106.trans (congrArg some (by kernel_rfl))
  f20 := Tryz.func107.trans (congrArg some (by kernel_rfl))
  f21 := ⟨Tryz.f97.name, by decide, Tryz.func97.trans (congrArg some (by kernel_rfl))⟩
  f22 := ⟨Tryz.f98.name, by decide, Tryz.func98.trans (congrArg some (by kernel_rfl))⟩
  f23 := ⟨Tryz.f99.name, by decide, Tryz.func99.trans (congrArg some (by kernel_rfl))⟩
  f24 := ⟨Tryz.f100.name, by decide, Tryz.func100.trans (congrArg some (by kernel_rfl))⟩
  f25 := ⟨Tryz.f101.name, by decide, Tryz.func101.trans (congrArg some (by kernel_rfl))⟩
  f26 := ⟨Tryz.f102.name, by decide, Tryz.func102.trans (congrArg some (by kernel_rfl))⟩
  f27 := ⟨Tryz.f103.name, by decide, Tryz.func103.trans (congrArg some (by kernel_rfl))⟩
  f28 := ⟨Tryz.f104.name, by decide, Tryz.func104.trans (congrArg some (by kernel_rfl))⟩
  f29 := ⟨Tryz.f105.name, by decide, Tryz.func105.trans (congrArg some (by kernel_rfl))⟩
  f31 := Tryz.func128.trans (congrArg some (by kernel_rfl))
  f32 := Tryz.func129.trans (congrArg some (by kernel_rfl))
  f36 := ⟨Tryz.f127.name, by decide, Tryz.func127.trans (congrArg some (by kernel_rfl))⟩
  f37 := ⟨Tryz.f130.name, by decide, Tryz.func130.trans (congrArg some (by kernel_rfl))⟩
  f38 := ⟨Tryz.f131.name, by decide, Tryz.func131.trans (congrArg some (by kernel_rfl))⟩
  f39 := ⟨Tryz.f132.name, by decide, Tryz.func132.trans (congrArg some (by kernel_rfl))⟩
  f41 := ⟨Tryz.f141.name, by decide, Tryz.func141.trans (congrArg some (by kernel_rfl))⟩
  t0 := Tryz.underlying0
  a0 := Tryz.isAgg0
  z0 := Tryz.sizeOf0
  v0 := Tryz.zeroValue0
  t3 := Tryz.underlying3
  a3 := Tryz.isAgg3
  z3 := Tryz.sizeOf3
  v3 := Tryz.zeroValue3
  t4 := Tryz.underlying4
  a4 := Tryz.isAgg4
  z4 := Tryz.sizeOf4
  v4 := Tryz.zeroValue4
  t5 := Tryz.underlying5
  a5 := Tryz.isAgg5
  z5 := Tryz.sizeOf5
  v5 := Tryz.zeroValue5
  t9 := Tryz.underlying9
  a9 := Tryz.isAgg9
  z9 := Tryz.sizeOf9
  v9 := Tryz.zeroValue9
  t26 := Tryz.underlying35
  a26 := Tryz.isAgg35
  z26 := Tryz.sizeOf35
  v26 := Tryz.zeroValue35
  t27 := Tryz.underlying35
  a27 := Tryz.isAgg35
  z27 := Tryz.sizeOf35
  v27 := Tryz.zeroValue35
  t29 := Tryz.underlying9
  a29 := Tryz.isAgg9
  z29 := Tryz.sizeOf9
  v29 := Tryz.zeroValue9
  t32 := Tryz.underlying110
  a32 := Tryz.isAgg110
  z32 := Tryz.sizeOf110
  v32 := Tryz.zeroValue110
  t35 := Tryz.underlying139
  a35 := Tryz.isAgg139
  z35 := Tryz.sizeOf139
  v35 := Tryz.zeroValue139
  t36 := Tryz.underlying140
  a36 := Tryz.isAgg140
  z36 := Tryz.sizeOf140
  v36 := Tryz.zeroValue140
  t41 := Tryz.underlying119
  a41 := Tryz.isAgg119
  z41 := Tryz.sizeOf119
  v41 := Tryz.zeroValue119
  t44 := Tryz.underlying146
  a44 := Tryz.isAgg146
  z44 := Tryz.sizeOf146
  v44 := Tryz.zeroValue146
  t46 := Tryz.underlying23
  a46 := Tryz.isAgg23
  z46 := Tryz.sizeOf23
  v46 := Tryz.zeroValue23
  t53 := Tryz.underlying160
  a53 := Tryz.isAgg160
  z53 := Tryz.sizeOf160
  v53 := Tryz.zeroValue160
  t57 := Tryz.underlying164
  a57 := Tryz.isAgg164
  z57 := Tryz.sizeOf164
  v57 := Tryz.zeroValue164
  t63 := Tryz.underlying170
  a63 := Tryz.isAgg170
  z63 := Tryz.sizeOf170
  v63 := Tryz.zeroValue170
  t64 := Tryz.underlying171
  a64 := Tryz.isAgg171
  z64 := Tryz.sizeOf171
  v64 := Tryz.zeroValue171 }
def Tryz.sort58_ren : Go.Shelf.Ren := ⟨fun | 5 => 58 | 8 => 88 | 7 => 93 | 19 => 106 | 20 => 107 | 10 => 117 | 11 => 118 | 12 => 119 | 13 => 120 | 14 => 121 | 15 => 122 | 16 => 123 | 17 => 124 | 18 => 125 | 30 => 137 | 31 => 128 | 32 => 129 | 33 => 138 | 34 => 139 | 35 => 140 | 40 => 143 | n => n, fun | 23 => 24 | 25 => 3 | 3 => 3 | 32 => 110 | 22 => 24 | 0 => 0 | 44 => 146 | 46 => 23 | 4 => 4 | 36 => 140 | 35 => 139 | 41 => 119 | 5 => 5 | 9 => 9 | 53 => 160 | 57 => 164 | 63 => 170 | 64 => 171 | n => n, fun | n => n⟩
theorem Tryz.sort58 : Go.Proofs.SlLaysM.n5 Tryz.prog Tryz.sort58_ren := {
  mixed := by kernel_rfl
  f5 := ⟨Tryz.f58.name, by decide, Tryz.func58.trans (congrArg some (by kernel_rfl))⟩
  f7 := ⟨Tryz.f93.name, by decide, Tryz.func93.trans (congrArg some (by kernel_rfl))⟩
  f8 := Tryz.func88.trans (congrArg some (by kernel_rfl))
  f10 := ⟨Tryz.f117.name, by decide, Tryz.func117.trans (congrArg some (by kernel_rfl))⟩
  f11 := ⟨Tryz.f118.name, by decide, Tryz.func118.trans (congrArg some (by kernel_rfl))⟩
  f12 := ⟨Tryz.f119.name, by decide, Tryz.func119.trans (congrArg some (by kernel_rfl))⟩
  f13 := ⟨Tryz.f120.name, by decide, Tryz.func120.trans (congrArg some (by kernel_rfl))⟩
  f14 := ⟨Tryz.f121.name, by decide, Tryz.func121.trans (congrArg some (by kernel_rfl))⟩
  f15 := ⟨Tryz.f122.name, by decide, Tryz.func122.trans (congrArg some (by kernel_rfl))⟩
  f16 := ⟨Tryz.f123.name, by decide, Tryz.func123.trans (congrArg some (by kernel_rfl))⟩
  f17 := ⟨Tryz.f124.name, by decide, Tryz.func124.trans (congrArg some (by kernel_rfl))⟩
  f18 := ⟨Tryz.f125.name, by decide, Tryz.func125.trans (congrArg some (by kernel_rfl))⟩
  f19 := Tryz.func106.trans (congrArg some (by kernel_rfl))
  f20 := Tryz.func107.trans (congrArg some (by kernel_rfl))
  f30 := ⟨Tryz.f137.name, by decide, Tryz.func137.trans (congrArg some (by kernel_rfl))⟩
  f31 := Tryz.func128.trans (congrArg some (by kernel_rfl))
  f32 := Tryz.func129.trans (congrArg some (by kernel_rfl))
  f33 := ⟨Tryz.f138.name, by decide, Tryz.func138.trans (congrArg some (by kernel_rfl))⟩
  f34 := ⟨Tryz.f139.name, by decide, Tryz.func139.trans (congrArg some (by kernel_rfl))⟩
  f35 := ⟨Tryz.f140.name, by decide, Tryz.func140.trans (congrArg some (by kernel_rfl))⟩
  f40 := ⟨Tryz.f143.name, by decide, Tryz.func143.trans (congrArg some (by kernel_rfl))⟩
  t0 := Tryz.underlying0
  a0 := Tryz.isAgg0
  z0 := Tryz.sizeOf0
  v0 := Tryz.zeroValue0
  t3 := Tryz.underlying3
  a3 := Tryz.isAgg3
  z3 := Tryz.sizeOf3
  v3 := Tryz.zeroValue3
  t4 := Tryz.underlying4
  a4 := Tryz.isAgg4
  z4 := Tryz.sizeOf4
  v4 := Tryz.zeroValue4
  t5 := Tryz.underlying5
  a5 := Tryz.isAgg5
  z5 := Tryz.sizeOf5
  v5 := Tryz.zeroValue5
  t9 := Tryz.underlying9
  a9 := Tryz.isAgg9
  z9 := Tryz.sizeOf9
  v9 := Tryz.zeroValue9
  t22 := Tryz.underlying24
  a22 := Tryz.isAgg24
  z22 := Tryz.sizeOf24
  v22 := Tryz.zeroValue24
  t23 := Tryz.underlying24
  a23 := Tryz.isAgg24
  z23 := Tryz.sizeOf24
  v23 := Tryz.zeroValue24
  t25 := Tryz.underlying3
  a25 := Tryz.isAgg3
  z25 := Tryz.sizeOf3
  v25 := Tryz.zeroValue3
  t32 := Tryz.underlying110
  a32 := Tryz.isAgg110
  z32 := Tryz.sizeOf110
  v32 := Tryz.zeroValue110
  t35 := Tryz.underlying139
  a35 := Tryz.isAgg139
  z35 := Tryz.sizeOf139
  v35 := Tryz.zeroValue139
  t36 := Tryz.underlying140
  a36 := Tryz.isAgg140
  z36 := Tryz.sizeOf140
  v36 := Tryz.zeroValue140
  t41 := Tryz.underlying119
  a41 := Tryz.isAgg119
  z41 := Tryz.sizeOf119
  v41 := Tryz.zeroValue119
  t44 := Tryz.underlying146
  a44 := Tryz.isAgg146
  z44 := Tryz.sizeOf146
  v44 := Tryz.zeroValue146
  t46 := Tryz.underlying23
  a46 := Tryz.isAgg23
  z46 := Tryz.sizeOf23
  v46 := Tryz.zeroValue23
  t53 := Tryz.underlying160
  a53 := Tryz.isAgg160
  z53 := Tryz.sizeOf160
  v53 := Tryz.zeroValue160
  t57 := Tryz.underlying164
  a57 := Tryz.isAgg164
  z57 := Tryz.sizeOf164
  v57 := Tryz.zeroValue164
  t63 := Tryz.underlying170
  a63 := Tryz.isAgg170
  z63 := Tryz.sizeOf170
  v63 := Tryz.zeroValue170
  t64 := Tryz.underlying171
  a64 := Tryz.isAgg171
  z64 := Tryz.sizeOf171
  v64 := Tryz.zeroValue171 }
end Go.Proofs
namespace Go.Proofs.YtdancegklkifaaaGreat
set_option linter.unusedSectionVars false
set_option linter.unusedSimpArgs false
set_option linter.unusedVariables false
open Go.X

/-- A slice in a variable's block. -/
def boxOwnI (b : Nat) (xs : List Int) : Assn := fun h => ∃ z : Option Addr × Nat, HSat h [pt b (.cells [.slice z.1 xs.length z.2].toArray 24 (0, 0)), own 3 1 (.slice z.1 xs.length z.2) (xs.map (Value.int .i64))]

theorem appendSeqI (gf : FuncId) (lb : List Value) (G : Assn) (S : List Int → Prop) (ok : List Int → Int → Prop) (eg : ∀ (args : Array Value) (w : World), (callFunc gf args).run Tryz.prog w = .ok (.enter gf args) w)
    (hit : ItSpec Tryz.prog gf lb (fun x : Int => [(Value.int .i64) x]) [G] S ok) (hok : ∀ pre x, ok pre x → pre.length < 1099511627776) :
    FSpec Tryz.prog 92 [.slice none 0 0, .func (.func gf) #[] lb.toArray] [G] (fun v B => ∃ (xs : List Int) (p : Option Addr) (c : Nat), S xs ∧ v = .slice p xs.length c ∧ B = [own 3 1 (.slice p xs.length c) (xs.map (Value.int .i64)), G]) := by
  refine FSpec.ofM Tryz.func92 rfl Tryz.ntmps92 rfl fun W0 F => ?_
  refine JI.seq ?_
  refine JI.region ?_
  refine JI.c rfl rfl (fun _ e => nomatch e) (C.box (l := [_]) rfl rfl) ?_
  rintro _ _ ⟨b2, rfl, rfl⟩
  refine J.norm rfl ?_
  refine JI.q rfl rfl (fun _ e => nomatch e) (Q.asg rfl) ?_
  refine JI.nil ?_
  refine JI.then_n ?_
  refine JI.seq ?_
  refine JI.seq ?_
  refine JI.region ?_
  refine JI.q rfl rfl (fun _ e => nomatch e) (Q.mv rfl) ?_
  refine JI.nil ?_
  refine JI.then_n ?_
  refine JI.block ?_
  refine J.give (own.nil 3 1 _) ?_
  refine J.shut [1, 0] (boxOwnI b2 []) rfl (fun h s => ⟨(none, 0), s⟩) ?_
  refine J.sub [(2, .pointer (some ⟨b2, 0, none⟩)), (6, .func (.func gf) #[] lb.toArray)] ⟨rfl, rfl, trivial⟩ ?_
  refine JI.rangeFunc gf lb (fun x : Int => [(Value.int .i64) x]) S ok (fun pre => [boxOwnI b2 pre]) (fun x => [(5, (Value.int .i64) x), (2, .pointer (some ⟨b2, 0, none⟩))]) rfl eg hit (by decide) (fun _ => rfl) [0, 1] rfl ?_ ?_ ?_
  · intro l W1 F1 pre x _
    refine JI.region ?_
    refine JI.q rfl rfl (fun _ e => nomatch e) (Q.asg rfl) ?_
    refine JI.nil ?_
    exact JI.asgEnd ⟨rfl, rfl, trivial⟩ rfl
  · intro l W1 F1 pre x hk
    have hlen := hok pre x hk
    refine JI.block ?_
    refine JI.region ?_
    refine J.open_ 0 (p := fun _ => True) rfl rfl (fun h hh => by obtain ⟨z, hz⟩ := hh; exact ⟨z, trivial, hz⟩) fun z _ => ?_
    refine J.norm rfl ?_
    refine JI.q rfl rfl (fun _ e => nomatch e) (Q.ld Tryz.isAgg24 rfl (Reads.pt 0 rfl rfl)) ?_
    refine JI.q rfl rfl (fun _ e => nomatch e) (Q.mv rfl) ?_
    refine JI.c rfl rfl (fun _ e => nomatch e) (C.bslG (l := [_]) Tryz.runUnderlying24 Tryz.sizeOf3 Tryz.zeroValue3 (by decide) rfl rfl rfl rfl rfl) ?_
    rintro _ _ ⟨b10, rfl, rfl⟩
    refine J.norm rfl ?_
    refine JI.c rfl rfl (fun _ e => nomatch e) (C.app (i := 2) Tryz.runUnderlying24 Tryz.runUnderlying24 Tryz.typeInfo3 Tryz.sizeOf3 Tryz.zeroValue3 rfl rfl rfl (SlR.pt 0 rfl rfl (xs := [(Value.int .i64) x]) (fun j u h => by rw [Nat.zero_add]; exact h)) (by intro v hv; obtain rfl := List.mem_singleton.1 hv; rfl) (by simp [Tryz.t3]; omega) (by decide)) ?_
    rintro _ _ ⟨p11, c11, rfl, rfl⟩
    refine J.norm rfl ?_
    refine JI.c0 rfl (fun _ e => nomatch e) (C.stl (i := 1) Tryz.sizeOf24 rfl rfl rfl rfl rfl rfl rfl) ?_
    rintro _ _ ⟨rfl, rfl⟩
    refine JI.nil ?_
    refine JI.blk_n ?_
    refine J.shut [1, 2] (boxOwnI b2 (pre ++ [x])) rfl (fun h s => ⟨(p11, c11), by simpa [List.length_append] using s⟩) ?_
    refine J.keep [0, 2] rfl ?_
    exact JI.bodyEnd rfl
  · intro D xs hS
    refine J.norm rfl ?_
    refine JI.blk_n ?_
    refine JI.then_n ?_
    refine JI.seq ?_
    refine JI.region ?_
    refine J.open_ 1 (p := fun _ => True) rfl rfl (fun h hh => by obtain ⟨z, hz⟩ := hh; exact ⟨z, trivial, hz⟩) fun z _ => ?_
    refine J.norm rfl ?_
    refine JI.q rfl rfl (fun _ e => nomatch e) (Q.ld Tryz.isAgg24 rfl (Reads.pt 0 rfl rfl)) ?_
    refine JI.q rfl rfl (fun _ e => nomatch e) (Q.asg rfl) ?_
    refine JI.nil ?_
    refine JI.then_n ?_
    refine JI.ret ?_
    refine J.keep [2, 1, 3, 4] rfl ?_
    exact JI.ret1 rfl rfl ⟨xs, z.1, z.2, hS, rfl, rfl⟩ rfl

theorem collectI (gf : FuncId) (lb : List Value) (G : Assn) (S : List Int → Prop) (ok : List Int → Int → Prop) (eg : ∀ (args : Array Value) (w : World), (callFunc gf args).run Tryz.prog w = .ok (.enter gf args) w)
    (hit : ItSpec Tryz.prog gf lb (fun x : Int => [(Value.int .i64) x]) [G] S ok) (hok : ∀ pre x, ok pre x → pre.length < 1099511627776) :
    FSpec Tryz.prog 57 [.func (.func gf) #[] lb.toArray] [G] (fun v B => ∃ (xs : List Int) (p : Option Addr) (c : Nat), S xs ∧ v = .slice p xs.length c ∧ B = [own 3 1 (.slice p xs.length c) (xs.map (Value.int .i64)), G]) := by
 refine FSpec.of Tryz.func57 rfl Tryz.ntmps57 rfl fun W0 F => ?_
 refine J.seq ?_
 refine J.region ?_
 refine J.q rfl rfl (Q.asg rfl) ?_
 refine J.nil ?_
 refine J.then_n ?_
 refine J.seq ?_
 refine J.region ?_
 refine J.q rfl rfl (Q.mv rfl) ?_
 refine J.call Tryz.call92 (appendSeqI gf lb G S ok eg hit hok) [0] rfl rfl rfl rfl ?_
 rintro _ _ ⟨xs, p, c, hS, rfl, rfl⟩
 refine J.norm rfl ?_
 refine J.q rfl rfl (Q.asg rfl) ?_
 refine J.nil ?_
 refine J.then_n ?_
 refine J.cret ?_
 refine J.ret1 (B := [_, G]) rfl rfl ⟨xs, p, c, hS, rfl, rfl⟩ rfl
end Go.Proofs.YtdancegklkifaaaGreat
namespace Go.Proofs.YtdancegklkifaaaGreat
set_option linter.unusedSectionVars false
set_option linter.unusedSimpArgs false
set_option linter.unusedVariables false
open Go.X
open Go.Sort (Holds putRow putCells grow mapBlock onCells)

section
variable {α : Type} [Inhabited α] {enc : α → Value} {W0 w : World} {E b off n c : Nat} {zs zs' : List α} {F : List Assn}
theorem own_open (s : Sat W0 w (own E 1 (.slice (some ⟨b, off, none⟩) n c) (zs.map enc) :: F)) : ∃ o : Lies, o.ok 1 (.slice (some ⟨b, off, none⟩) n c) (zs.map enc) ∧ o.b = b ∧ o.off = off ∧ Sat W0 w (pt b (.cells o.l.toArray E o.z) :: F) := by
  obtain ⟨h1, h2, a, q, d, x, y⟩ := s.heap
  rcases a with ⟨h, _⟩ | ⟨o, ho, hp⟩
  · cases h
  · have hv := ho.val
    simp only [Value.slice.injEq, Option.some.injEq, Addr.mk.injEq] at hv
    obtain ⟨⟨e1, e2, _⟩, _, _⟩ := hv
    exact ⟨o, ho, e1.symm, e2.symm, s.os, s.tape, s.out, h1, h2, e1 ▸ hp, q, d, x, y⟩
theorem own_holds (s : Sat W0 w (own E 1 (.slice (some ⟨b, off, none⟩) n c) (zs.map enc) :: F)) : Holds enc w b off zs.toArray ∧ b < w.heap.size := by
  obtain ⟨o, ho, rfl, rfl, t⟩ := own_open s
  have hb := t.at_ (i := 0) rfl
  refine ⟨fun j hj => ?_, (Array.getElem?_eq_some_iff.1 hb).1⟩
  have hj' : j < zs.length := by simpa using hj
  have hg := ho.get j (enc zs[j]!) (by simp [hj'])
  have hlt := (List.getElem?_eq_some_iff.1 hg).1
  refine ⟨?_, ?_⟩
  · simp only [World.cell?, hb]
    simpa [hj'] using hg
  · have := ho.free (o.off + j) hlt
    simp only [World.frozen?, hb]
    simpa using this
theorem own_putRow (s : Sat W0 w (own E 1 (.slice (some ⟨b, off, none⟩) n c) (zs.map enc) :: F)) (hl : zs'.length = zs.length) (m : Nat) (os : Array Obj) :
    Sat W0 (grow (putRow enc (Go.Sort.ahead w m) b off zs'.toArray) os) (own E 1 (.slice (some ⟨b, off, none⟩) n c) (zs'.map enc) :: F) := by
  obtain ⟨o, ho, rfl, rfl, t⟩ := own_open s
  have hb : hp w o.b = some (.cells o.l.toArray E o.z) := t.at_ (i := 0) rfl
  have hlen : zs.length = n := by have := ho.len; have hv := ho.val; simp only [Value.slice.injEq] at hv; rw [← hv.2.1] at this; simpa using this
  have e1 : hp (putRow enc (Go.Sort.ahead w m) o.b o.off zs'.toArray) = upd (hp w) o.b (.cells (putCells enc o.off zs'.toArray o.l.toArray) E o.z) := hp_modify w o.b (onCells (putCells enc o.off zs'.toArray)) _ hb
  have hsub : Sub (hp (putRow enc (Go.Sort.ahead w m) o.b o.off zs'.toArray)) (hp (grow (putRow enc (Go.Sort.ahead w m) o.b o.off zs'.toArray) os)) := by
    intro x p hx
    have hlt := (Array.getElem?_eq_some_iff.1 (show (putRow enc (Go.Sort.ahead w m) o.b o.off zs'.toArray).heap[x]? = some p from hx)).1
    show ((putRow enc (Go.Sort.ahead w m) o.b o.off zs'.toArray).heap ++ os)[x]? = some p
    rw [Array.getElem?_append_left hlt]; exact hx
  have hu : HSat (upd (hp w) o.b (.cells (putCells enc o.off zs'.toArray o.l.toArray) E o.z)) (pt o.b (.cells (putCells enc o.off zs'.toArray o.l.toArray) E o.z) :: F) := by
    have := HSat.update (i := 0) (b := o.b) (o := .cells (putCells enc o.off zs'.toArray o.l.toArray) E o.z) (A := pt o.b (.cells o.l.toArray E o.z)) (B := pt o.b (.cells (putCells enc o.off zs'.toArray o.l.toArray) E o.z)) t.heap rfl fun k hk => ⟨⟨_, hk⟩, by simp [pt, upd]⟩
    simpa using this
  refine ⟨t.os, t.tape, t.out, (HSat.mono ?_ (e1 ▸ hsub))⟩
  refine hu.imp fun h hh => .inr ⟨{ o with l := (putCells enc o.off zs'.toArray o.l.toArray).toList }, ⟨ho.val, ?_, ho.cap, ?_, ?_, ?_⟩, hh⟩
  · have := ho.len; simp only [List.length_map] at this ⊢; omega
  · have := ho.fits; simpa [putCells] using this
  · intro j u hj
    have hj' : j < zs'.length := by have := (List.getElem?_eq_some_iff.1 hj).1; simpa using this
    have hg := ho.get j (enc zs[j]!) (by simp [show j < zs.length by omega])
    have hlt := (List.getElem?_eq_some_iff.1 hg).1
    simp only [List.getElem?_map, List.getElem?_eq_getElem hj', Option.map_some, Option.some.injEq] at hj
    subst hj
    simp only [putCells, Array.getElem?_toList, Array.getElem?_mapIdx, List.getElem?_toArray, hg, Option.map_some, List.size_toArray]
    rw [if_pos (by omega)]
    simp [hj']
  · intro k hk
    exact ho.free k (by simpa [putCells] using hk)
end

def ordI (l : List Int) : List Int := l.mergeSort fun x y => decide (x ≤ y)
theorem ordI_perm {l m : List Int} (h : l.Perm m) : ordI l = ordI m := by
  unfold ordI
  have t1 : ∀ a b c : Int, decide (a ≤ b) = true → decide (b ≤ c) = true → decide (a ≤ c) = true := fun a b c h1 h2 => by simp at *; omega
  have t2 : ∀ a b : Int, (decide (a ≤ b) || decide (b ≤ a)) = true := fun a b => by simp; omega
  refine List.Perm.eq_of_pairwise (le := fun a b => decide (a ≤ b) = true) ?_ (List.pairwise_mergeSort t1 t2 l) (List.pairwise_mergeSort t1 t2 m) (((List.mergeSort_perm l _).trans h).trans (List.mergeSort_perm m _).symm)
  intro a b _ _ h1 h2
  simp at h1 h2; omega
def leBy (a b : ByteArray) : Bool := decide (a.data.toList ≤ b.data.toList)
def ordS (l : List ByteArray) : List ByteArray := l.mergeSort leBy
theorem ordS_map (l : List ByteArray) : (ordS l).map (·.data.toList) = (l.map (·.data.toList)).mergeSort fun x y => decide (x ≤ y) :=
  List.map_mergeSort fun a _ b _ => rfl
theorem bytes_inj {a b : ByteArray} (h : a.data.toList = b.data.toList) : a = b := by
  cases a; cases b; simp only [ByteArray.mk.injEq] at *; exact Array.toList_inj.1 h
theorem ordS_perm {l m : List ByteArray} (h : l.Perm m) : ordS l = ordS m := by
  unfold ordS
  have t1 : ∀ a b c : ByteArray, leBy a b = true → leBy b c = true → leBy a c = true := fun a b c h1 h2 => by
    simp only [leBy, decide_eq_true_eq] at *; exact List.le_trans h1 h2
  have t2 : ∀ a b : ByteArray, (leBy a b || leBy b a) = true := fun a b => by
    simp only [leBy, Bool.or_eq_true, decide_eq_true_eq]; exact List.le_total _ _
  refine List.Perm.eq_of_pairwise (le := fun a b => leBy a b = true) ?_ (List.pairwise_mergeSort t1 t2 l) (List.pairwise_mergeSort t1 t2 m) (((List.mergeSort_perm l _).trans h).trans (List.mergeSort_perm m _).symm)
  intro a b _ _ h1 h2
  simp only [leBy, decide_eq_true_eq] at h1 h2
  exact bytes_inj (List.le_antisymm h1 h2)
theorem ordS_enc (l : List ByteArray) : l.map Value.string = (l.map (·.data.toList)).map encStr := by
  rw [List.map_map]
  refine List.map_congr_left fun p _ => ?_
  show Value.string p = Value.string ⟨p.data.toList.toArray⟩
  rw [Array.toArray_toList]

theorem sortAnyI (p : Option Addr) (c : Nat) (l : List Int) (hs : l.length ≤ 1099511627776) :
    FSpec Tryz.prog 58 [.slice p l.length c] [own 3 1 (.slice p l.length c) (l.map (Value.int .i64))] (fun v B => v = .tuple #[] ∧ B = [own 3 1 (.slice p l.length c) ((ordI l).map (Value.int .i64))]) := by
  refine ⟨fun W0 w F s => ?_⟩
  obtain ⟨k, hk, _⟩ := s.heap.at_ (i := 0) rfl
  rcases hk with ⟨h1, h2⟩ | ⟨o, ho, _⟩
  · have hl : l = [] := by simpa using h2
    subst hl
    refine (AnyM.slices_Sort_int_none Tryz.sort58 p c w).mono ?_
    rintro e w' ⟨rfl, rfl⟩
    exact ⟨_, _, rfl, ⟨rfl, rfl⟩, by simpa [ordI] using s⟩
  · have hv := ho.val
    simp only [Value.slice.injEq] at hv
    obtain ⟨rfl, _, _⟩ := hv
    obtain ⟨q1, q2⟩ := own_holds (F := [F]) s
    refine (AnyM.slices_Sort_int Tryz.sort58 o.b o.off c l w q1 q2 (by omega)).mono ?_
    rintro e w' ⟨rfl, m, os, rfl⟩
    exact ⟨_, _, rfl, ⟨rfl, rfl⟩, own_putRow (F := [F]) s (by simp [List.length_mergeSort]) m os⟩

theorem sortAnyS (p : Option Addr) (c : Nat) (l : List ByteArray) (hs : l.length ≤ 1099511627776) :
    FSpec Tryz.prog 50 [.slice p l.length c] [own 9 1 (.slice p l.length c) (l.map Value.string)] (fun v B => v = .tuple #[] ∧ B = [own 9 1 (.slice p l.length c) ((ordS l).map Value.string)]) := by
  refine ⟨fun W0 w F s => ?_⟩
  obtain ⟨k, hk, _⟩ := s.heap.at_ (i := 0) rfl
  rcases hk with ⟨h1, h2⟩ | ⟨o, ho, _⟩
  · have hl : l = [] := by simpa using h2
    subst hl
    refine (AnyM.slices_Sort_string_none Tryz.sort50 p c w).mono ?_
    rintro e w' ⟨rfl, rfl⟩
    exact ⟨_, _, rfl, ⟨rfl, rfl⟩, by simpa [ordS] using s⟩
  · have hv := ho.val
    simp only [Value.slice.injEq] at hv
    obtain ⟨rfl, _, _⟩ := hv
    rw [ordS_enc] at s
    obtain ⟨q1, q2⟩ := own_holds (F := [F]) s
    have hc := AnyM.slices_Sort_string Tryz.sort50 o.b o.off c (l.map (·.data.toList)) w q1 q2 (by simp; omega)
    rw [List.length_map] at hc
    refine hc.mono ?_
    rintro e w' ⟨rfl, m, os, rfl⟩
    refine ⟨_, _, rfl, ⟨rfl, rfl⟩, ?_⟩
    rw [ordS_enc, ordS_map]
    exact own_putRow (F := [F]) s (by simp [List.length_mergeSort]) m os

theorem sortedI (gf : FuncId) (lb : List Value) (G : Assn) (M : List Int) (ok : List Int → Int → Prop) (eg : ∀ (args : Array Value) (w : World), (callFunc gf args).run Tryz.prog w = .ok (.enter gf args) w)
    (hit : ItSpec Tryz.prog gf lb (fun x : Int => [Value.int .i64 x]) [G] (fun xs => xs.Perm M) ok) (hok : ∀ pre x, ok pre x → pre.length < 1099511627776) (hs : M.length ≤ 1099511627776) :
    FSpec Tryz.prog 25 [.func (.func gf) #[] lb.toArray] [G] (fun v B => ∃ (p : Option Addr) (c : Nat), v = .slice p M.length c ∧ B = [own 3 1 (.slice p M.length c) ((ordI M).map (Value.int .i64)), G]) := by
 refine FSpec.of Tryz.func25 rfl Tryz.ntmps25 rfl fun W0 F => ?_
 refine J.seq ?_
 refine J.region ?_
 refine J.q rfl rfl (Q.asg rfl) ?_
 refine J.nil ?_
 refine J.then_n ?_
 refine J.seq ?_
 refine J.region ?_
 refine J.q rfl rfl (Q.mv rfl) ?_
 refine J.call Tryz.call57 (collectI gf lb G (fun xs => xs.Perm M) ok eg hit hok) [0] rfl rfl rfl rfl ?_
 rintro _ _ ⟨xs, p, c, hS, rfl, rfl⟩
 refine J.norm rfl ?_
 have hlen : xs.length = M.length := hS.length_eq
 refine J.q rfl rfl (Q.asg rfl) ?_
 refine J.nil ?_
 refine J.then_n ?_
 refine J.seq ?_
 refine J.region ?_
 refine J.q rfl rfl (Q.mv rfl) ?_
 refine J.call Tryz.call58 (sortAnyI p c xs (by omega)) [0] rfl rfl rfl rfl ?_
 rintro _ _ ⟨rfl, rfl⟩
 refine J.norm rfl ?_
 refine J.nil ?_
 refine J.then_n ?_
 refine J.seq ?_
 refine J.region ?_
 refine J.q rfl rfl (Q.mv rfl) ?_
 refine J.q rfl rfl (Q.asg rfl) ?_
 refine J.nil ?_
 refine J.then_n ?_
 refine J.cret ?_
 rw [ordI_perm hS, hlen]
 refine J.ret1 (B := [_, G]) rfl rfl ⟨p, c, rfl, rfl⟩ rfl
theorem sortedS (gf : FuncId) (lb : List Value) (G : Assn) (M : List ByteArray) (ok : List ByteArray → ByteArray → Prop) (eg : ∀ (args : Array Value) (w : World), (callFunc gf args).run Tryz.prog w = .ok (.enter gf args) w)
    (hit : ItSpec Tryz.prog gf lb (fun x : ByteArray => [Value.string x]) [G] (fun xs => xs.Perm M) ok) (hok : ∀ pre x, ok pre x → pre.length < 1099511627776) (hs : M.length ≤ 1099511627776) :
    FSpec Tryz.prog 19 [.func (.func gf) #[] lb.toArray] [G] (fun v B => ∃ (p : Option Addr) (c : Nat), v = .slice p M.length c ∧ B = [own 9 1 (.slice p M.length c) ((ordS M).map Value.string), G]) := by
 refine FSpec.of Tryz.func19 rfl Tryz.ntmps19 rfl fun W0 F => ?_
 refine J.seq ?_
 refine J.region ?_
 refine J.q rfl rfl (Q.asg rfl) ?_
 refine J.nil ?_
 refine J.then_n ?_
 refine J.seq ?_
 refine J.region ?_
 refine J.q rfl rfl (Q.mv rfl) ?_
 refine J.call Tryz.call49 (collectS gf lb G (fun xs => xs.Perm M) ok eg hit hok) [0] rfl rfl rfl rfl ?_
 rintro _ _ ⟨xs, p, c, hS, rfl, rfl⟩
 refine J.norm rfl ?_
 have hlen : xs.length = M.length := hS.length_eq
 refine J.q rfl rfl (Q.asg rfl) ?_
 refine J.nil ?_
 refine J.then_n ?_
 refine J.seq ?_
 refine J.region ?_
 refine J.q rfl rfl (Q.mv rfl) ?_
 refine J.call Tryz.call50 (sortAnyS p c xs (by omega)) [0] rfl rfl rfl rfl ?_
 rintro _ _ ⟨rfl, rfl⟩
 refine J.norm rfl ?_
 refine J.nil ?_
 refine J.then_n ?_
 refine J.seq ?_
 refine J.region ?_
 refine J.q rfl rfl (Q.mv rfl) ?_
 refine J.q rfl rfl (Q.asg rfl) ?_
 refine J.nil ?_
 refine J.then_n ?_
 refine J.cret ?_
 rw [ordS_perm hS, hlen]
 refine J.ret1 (B := [_, G]) rfl rfl ⟨p, c, rfl, rfl⟩ rfl
end Go.Proofs.YtdancegklkifaaaGreat
namespace Go.Proofs.YtdancegklkifaaaGreat
set_option linter.unusedSectionVars false
set_option linter.unusedSimpArgs false
set_option linter.unusedVariables false
open Go.X
open Go.Sort (swp insInner insOuter insertionSort siftDown heapBuild heapPop heapSort PermIn SortedIn SWO)

def ltU (a b : Nat) : Bool := (decide (a < b) && true)
theorem swoU : SWO ltU := ⟨fun x => by simp [ltU], fun x y z h1 h2 => by simp [ltU] at *; omega, fun x y z h1 h2 => by simp [ltU] at *; omega⟩
def avU (d : Array Nat) : List Value := d.toList.map encU
theorem avU_len (d : Array Nat) : (avU d).length = d.size := by simp [avU]
theorem avU_get {d : Array Nat} {j : Nat} (h : j < d.size) : (avU d)[j]? = some (encU d[j]!) := by
  simp [avU, h]
theorem avU_swp (d : Array Nat) (i j : Nat) : ((avU d).set i (encU d[j]!)).set j (encU d[i]!) = avU (swp d i j) := by
  simp [avU, swp, List.map_set]
theorem szU_swp (d : Array Nat) (i j : Nat) : (swp d i j).size = d.size := by simp [swp]

/-- A slice of its own, from a place. -/
abbrev rowU (b off n c : Nat) (d : Array Nat) : Assn := own 23 1 (.slice (some ⟨b, off, none⟩) n c) (avU d)
theorem rdU {D : List Assn} {k b off n c : Nat} {d : Array Nat} (e : D[k]? = some (rowU b off n c d)) {i : Int} (h : i.toNat < d.size) : Reads D b (off + i.toNat * 1) (encU d[i.toNat]!) :=
  Reads.by_ k e fun h0 hh => by
    rcases hh with ⟨x, _⟩ | ⟨o, ho, hp⟩
    · cases x
    · have hv := ho.val
      simp only [Value.slice.injEq, Option.some.injEq, Addr.mk.injEq] at hv
      obtain ⟨⟨rfl, rfl, _⟩, _, _⟩ := hv
      refine ⟨_, _, _, hp, ?_⟩
      have := ho.get _ _ (avU_get h)
      simpa using this
theorem swrU {v : Value} {d : Array Nat} {i j : Int} {i0 j0 : Nat} (hi : i.toNat = i0) (hj : j.toNat = j0) : ∀ h, own 23 1 v (((avU d).set (i.toNat * 1) (encU d[j.toNat]!)).set (j.toNat * 1) (encU d[i.toNat]!)) h → own 23 1 v (avU (swp d i0 j0)) h := by
  intro h hh
  rw [Nat.mul_one, Nat.mul_one, avU_swp, hi, hj] at hh; exact hh

theorem isnanU (a : Nat) : FSpec Tryz.prog 136 [encU a] [] (fun v B => v = .bool false ∧ B = []) := by
  refine FSpec.of Tryz.func136 rfl Tryz.ntmps136 rfl fun W0 F => ?_
  refine J.seq ?_
  refine J.region ?_
  refine J.q rfl rfl (Q.asg rfl) ?_
  refine J.nil ?_
  refine J.then_n ?_
  refine J.seq ?_
  refine J.region ?_
  refine J.q rfl rfl (Q.mv rfl) ?_
  refine J.q rfl rfl (Q.mv rfl) ?_
  refine J.q rfl rfl (Q.neq rfl rfl) ?_
  refine J.q rfl rfl (Q.asg rfl) ?_
  refine J.nil ?_
  refine J.then_n ?_
  refine J.cret ?_
  refine J.keep [0] rfl ?_
  refine J.ret1 (B := []) rfl rfl ⟨by simp, rfl⟩ rfl
theorem lessU (a b : Nat) : FSpec Tryz.prog 114 [encU a, encU b] [] (fun v B => v = .bool (ltU a b) ∧ B = []) := by
  refine FSpec.of Tryz.func114 rfl Tryz.ntmps114 rfl fun W0 F => ?_
  refine J.seq ?_
  refine J.region ?_
  refine J.q rfl rfl (Q.asg rfl) ?_
  refine J.nil ?_
  refine J.then_n ?_
  refine J.seq ?_
  refine J.region ?_
  refine J.q rfl rfl (Q.mv rfl) ?_
  refine J.call Tryz.call136 (isnanU a) [] rfl rfl rfl rfl ?_
  rintro _ _ ⟨rfl, rfl⟩
  refine J.norm rfl ?_
  refine J.q rfl rfl (Q.mv rfl) ?_
  refine J.cases 7 rfl (fun hb7 => ?_) (fun hb7 => ?_)
  ·
   cases hb7
  replace hb7 := X.nm hb7
  refine J.skip rfl rfl ?_
  refine J.skip rfl rfl ?_
  refine J.skip rfl rfl ?_
  refine J.q rfl rfl (Q.pick_f rfl rfl) ?_
  refine J.q rfl rfl (Q.mv rfl) ?_
  refine J.q rfl rfl (Q.mv rfl) ?_
  refine J.q rfl rfl (Q.mv rfl) ?_
  refine J.q rfl rfl (Q.lss rfl rfl) ?_
  refine J.q rfl rfl (Q.pick_f rfl rfl) ?_
  refine J.q rfl rfl (Q.asg rfl) ?_
  refine J.nil ?_
  refine J.then_n ?_
  refine J.cret ?_
  refine J.keep [0] rfl ?_
  refine J.ret1 (B := []) rfl rfl ⟨by simp [ltU], rfl⟩ rfl

theorem insInner_go {α : Type} [Inhabited α] {lt : α → α → Bool} {a j : Nat} {d : Array α} (h : a < j) (hl : lt d[j]! d[j - 1]! = true) : insInner lt a j d = insInner lt a (j - 1) (swp d j (j - 1)) := by
  obtain ⟨k, rfl⟩ : ∃ k, j = k + 1 := ⟨j - 1, by omega⟩
  rw [insInner]; simp only [Nat.add_sub_cancel] at hl ⊢
  rw [if_pos (by simp [hl]; omega)]
theorem insInner_stop {α : Type} [Inhabited α] {lt : α → α → Bool} {a j : Nat} {d : Array α} (h : ¬ a < j ∨ lt d[j]! d[j - 1]! = false) : insInner lt a j d = d := by
  cases j with
  | zero => rfl
  | succ k =>
    rw [insInner]; simp only [Nat.add_sub_cancel] at h
    rw [if_neg]
    rcases h with h | h
    · simp; omega
    · simp [h]

theorem insertionU (b off n c : Nat) (d : Array Nat) (x e : Nat) (hn : d.size = n) (hx : x ≤ e) (he : e ≤ n) (hs : n ≤ 1099511627776) :
    FSpec Tryz.prog 108 [.slice (some ⟨b, off, none⟩) n c, .int .i64 x, .int .i64 e] [rowU b off n c d] (fun v B => v = .tuple #[] ∧ B = [rowU b off n c (insertionSort ltU d x e)]) := by
  refine FSpec.of Tryz.func108 rfl Tryz.ntmps108 rfl fun W0 F => ?_
  refine J.seq ?_
  refine J.region ?_
  refine J.q rfl rfl (Q.mv rfl) ?_
  refine J.q rfl rfl (Q.add64 rfl rfl (by omega)) ?_
  refine J.q rfl rfl (Q.asg rfl) ?_
  refine J.nil ?_
  refine J.then_n ?_
  refine J.block ?_
  refine J.loop2 (fun (i : Nat) (d1 : Array Nat) => d1.size = n ∧ x + 1 ≤ i ∧ insOuter ltU x e i d1 = insertionSort ltU d x e) (fun i _ => e - i) (fun i _ => [(0, .slice (some ⟨b, off, none⟩) n c), (1, .int .i64 x), (2, .int .i64 e), (6, .int .i64 i)]) (fun _ d1 => [rowU b off n c d1, F]) (x + 1) d ⟨hn, Nat.le_refl _, rfl⟩ ⟨rfl, rfl, rfl, rfl, trivial⟩ rfl fun i d1 hz => ?_
  obtain ⟨h1, h2, h3⟩ := hz
  refine J.seq ?_
  refine J.seq ?_
  refine J.region ?_
  refine J.q rfl rfl (Q.mv rfl) ?_
  refine J.q rfl rfl (Q.mv rfl) ?_
  refine J.q rfl rfl (Q.lss rfl rfl) ?_
  refine J.nil ?_
  refine J.then_n ?_
  refine J.cases 12 rfl (fun hc12 => ?_) (fun hc12 => ?_)
  ·
   replace hc12 := X.nm hc12
   try (first | (cases hc12; done) | (exfalso; simp at hc12; done))
   all_goals
    refine J.cond_t rfl ?_
    refine J.cskip ?_
    refine J.then_n ?_
    refine J.seq ?_
    refine J.block ?_
    refine J.seq ?_
    refine J.region ?_
    refine J.q rfl rfl (Q.mv rfl) ?_
    refine J.q rfl rfl (Q.asg rfl) ?_
    refine J.nil ?_
    refine J.then_n ?_
    refine J.block ?_
    refine J.loop2 (fun (j : Nat) (d2 : Array Nat) => d2.size = n ∧ j ≤ i ∧ insInner ltU x j d2 = insInner ltU x i d1) (fun j _ => j) (fun j _ => [(0, .slice (some ⟨b, off, none⟩) n c), (1, .int .i64 x), (2, .int .i64 e), (6, .int .i64 i), (7, .int .i64 j)]) (fun _ d2 => [rowU b off n c d2, F]) i d1 ⟨h1, Nat.le_refl _, rfl⟩ ⟨rfl, rfl, rfl, rfl, rfl, trivial⟩ rfl fun j d2 hz => ?_
    obtain ⟨g1, g2, g3⟩ := hz
    refine J.seq ?_
    refine J.seq ?_
    refine J.draw [13] Tryz.mixed (by kernel_rfl) fun hR => ?_
    refine RG.q 0 hR rfl rfl rfl rfl rfl rfl (Q.mv rfl) ?_
    refine RG.q 1 hR rfl rfl rfl rfl rfl rfl (Q.mv rfl) ?_
    refine RG.q 2 hR rfl rfl rfl rfl rfl rfl (Q.gtr rfl rfl) ?_
    refine RG.q 3 hR rfl rfl rfl rfl rfl rfl (Q.mv rfl) ?_
    refine RG.cases 19 rfl (fun hb19 => ?_) (fun hb19 => ?_)
    ·
     replace hb19 := X.nm hb19
     try (first | (cases hb19; done) | (exfalso; simp at hb19; done))
     all_goals
      refine RG.q 4 hR rfl rfl rfl rfl rfl rfl (Q.mv rfl) ?_
      refine RG.q 5 hR rfl rfl rfl rfl rfl rfl (Q.mv rfl) ?_
      refine RG.q 6 hR rfl rfl rfl rfl rfl rfl (Q.ia Tryz.runUnderlying60 Tryz.sizeOf23 rfl rfl (by omega) (by omega)) ?_
      refine RG.q 7 hR rfl rfl rfl rfl rfl rfl (Q.ld Tryz.isAgg23 rfl (rdU (k := 0) rfl (by omega))) ?_
      refine RG.q 8 hR rfl rfl rfl rfl rfl rfl (Q.mv rfl) ?_
      refine RG.q 9 hR rfl rfl rfl rfl rfl rfl (Q.mv rfl) ?_
      refine RG.q 10 hR rfl rfl rfl rfl rfl rfl (Q.sub64 rfl rfl (by omega)) ?_
      refine RG.q 11 hR rfl rfl rfl rfl rfl rfl (Q.ia Tryz.runUnderlying60 Tryz.sizeOf23 rfl rfl (by omega) (by omega)) ?_
      refine RG.q 12 hR rfl rfl rfl rfl rfl rfl (Q.ld Tryz.isAgg23 rfl (rdU (k := 0) rfl (by omega))) ?_
      refine RG.call 13 hR rfl rfl rfl rfl rfl rfl Tryz.call114 (lessU _ _) [] rfl rfl ?_
      rintro _ _ ⟨rfl, rfl⟩
      refine RG.norm rfl ?_
      refine RG.q 14 hR rfl rfl rfl rfl rfl rfl (Q.pick_t rfl rfl) ?_
      refine RG.fin hR rfl ?_
      refine J.norm rfl ?_
      refine J.then_n ?_
      refine J.cases 30 rfl (fun hc30 => ?_) (fun hc30 => ?_)
      ·
       replace hc30 := X.nm hc30
       try (first | (cases hc30; done) | (exfalso; simp at hc30; done))
       all_goals
        refine J.cond_t rfl ?_
        refine J.cskip ?_
        refine J.then_n ?_
        refine J.seq ?_
        refine J.block ?_
        refine J.draw [15, 17] Tryz.mixed (by kernel_rfl) fun hR => ?_
        refine RG.q 0 hR rfl rfl rfl rfl rfl rfl (Q.mv rfl) ?_
        refine RG.q 1 hR rfl rfl rfl rfl rfl rfl (Q.mv rfl) ?_
        refine RG.q 2 hR rfl rfl rfl rfl rfl rfl (Q.mv rfl) ?_
        refine RG.q 3 hR rfl rfl rfl rfl rfl rfl (Q.mv rfl) ?_
        refine RG.q 4 hR rfl rfl rfl rfl rfl rfl (Q.sub64 rfl rfl (by omega)) ?_
        refine RG.q 5 hR rfl rfl rfl rfl rfl rfl (Q.mv rfl) ?_
        refine RG.q 6 hR rfl rfl rfl rfl rfl rfl (Q.mv rfl) ?_
        refine RG.q 7 hR rfl rfl rfl rfl rfl rfl (Q.sub64 rfl rfl (by omega)) ?_
        refine RG.q 8 hR rfl rfl rfl rfl rfl rfl (Q.ia Tryz.runUnderlying60 Tryz.sizeOf23 rfl rfl (by omega) (by omega)) ?_
        refine RG.q 9 hR rfl rfl rfl rfl rfl rfl (Q.ld Tryz.isAgg23 rfl (rdU (k := 0) rfl (by omega))) ?_
        refine RG.q 10 hR rfl rfl rfl rfl rfl rfl (Q.mv rfl) ?_
        refine RG.q 11 hR rfl rfl rfl rfl rfl rfl (Q.mv rfl) ?_
        refine RG.q 12 hR rfl rfl rfl rfl rfl rfl (Q.ia Tryz.runUnderlying60 Tryz.sizeOf23 rfl rfl (by omega) (by omega)) ?_
        refine RG.q 13 hR rfl rfl rfl rfl rfl rfl (Q.ld Tryz.isAgg23 rfl (rdU (k := 0) rfl (by omega))) ?_
        refine RG.q 14 hR rfl rfl rfl rfl rfl rfl (Q.ia Tryz.runUnderlying60 Tryz.sizeOf23 rfl rfl (by omega) (by omega)) ?_
        refine RG.barP 15 [2, 3, 4] hR rfl rfl rfl rfl rfl (by kernel_rfl) ⟨Free.q rfl rfl rfl (Q.mv rfl), ⟨Free.q rfl rfl rfl (Q.mv rfl), ⟨Free.q rfl rfl rfl (Q.sub64 rfl rfl (by omega)), trivial⟩⟩⟩ (C.stO 0 Tryz.sizeOf23 rfl rfl rfl rfl rfl (by first | (rw [avU_len]; omega) | (rw [List.length_set, avU_len]; omega))) ?_
        rintro _ _ ⟨rfl, rfl⟩
        refine RG.norm rfl ?_
        refine RG.q 16 hR rfl rfl rfl rfl rfl rfl (Q.ia Tryz.runUnderlying60 Tryz.sizeOf23 rfl rfl (by omega) (by omega)) ?_
        refine RG.barP 17 [] hR rfl rfl rfl rfl rfl (by kernel_rfl) trivial (C.stO 0 Tryz.sizeOf23 rfl rfl rfl rfl rfl (by first | (rw [avU_len]; omega) | (rw [List.length_set, avU_len]; omega))) ?_
        rintro _ _ ⟨rfl, rfl⟩
        refine RG.norm rfl ?_
        refine RG.fin hR rfl ?_
        refine J.norm rfl ?_
        refine J.blk_n ?_
        refine J.then_n ?_
        refine J.region ?_
        refine J.q rfl rfl (Q.mv rfl) ?_
        refine J.q rfl rfl (Q.sub64 rfl rfl (by omega)) ?_
        refine J.q rfl rfl (Q.asg rfl) ?_
        refine J.nil ?_
        refine J.conv (Y := rowU b off n c (swp d2 j (j - 1))) 0 rfl (swrU (by omega) (by omega)) ?_
        have e1 : ((j : Int) - 1).toNat = j - 1 := by omega
        rw [Int.toNat_natCast, e1] at hc30
        refine J.again (j - 1, swp d2 j (j - 1)) ⟨by show (swp d2 j (j - 1)).size = n; rw [szU_swp, g1], by show j - 1 ≤ i; omega, by show insInner ltU x (j - 1) (swp d2 j (j - 1)) = _; rw [← g3, insInner_go (by omega) hc30]⟩ (by show j - 1 < j; omega) ⟨rfl, rfl, rfl, rfl, (by show some (Value.int .i64 ((j : Int) - 1)) = some (Value.int .i64 ((j - 1 : Nat) : Int)); congr 2; omega), trivial⟩ rfl
      replace hc30 := X.nm hc30
      try (first | (cases hc30; done) | (exfalso; simp at hc30; done))
      all_goals
       refine J.cond_f rfl ?_
       refine J.exit ?_
       refine J.then_x ?_
       refine J.lp_x ?_
       refine J.blk_x ?_
       refine J.blk_n ?_
       refine J.then_n ?_
       refine J.region ?_
       refine J.q rfl rfl (Q.mv rfl) ?_
       refine J.q rfl rfl (Q.add64 rfl rfl (by omega)) ?_
       refine J.q rfl rfl (Q.asg rfl) ?_
       refine J.nil ?_
       have e1 : ((j : Int) - 1).toNat = j - 1 := by omega
       have hd : insInner ltU x i d1 = d2 := by
         rw [← g3]
         refine insInner_stop ?_
         first
           | (left; omega)
           | (right; rw [Int.toNat_natCast, e1] at hc30; exact hc30)
           | (right; rw [Int.toNat_natCast, e1] at hc30; simpa [ltU] using hc30)
       refine J.again (i + 1, d2) ⟨g1, by show x + 1 ≤ i + 1; omega, by show insOuter ltU x e (i + 1) d2 = _; rw [← h3, ← hd]; conv => { rhs; rw [insOuter] }; rw [if_pos (by omega)]⟩ (by show e - (i + 1) < e - i; omega) ⟨rfl, rfl, rfl, rfl, trivial⟩ rfl
    replace hb19 := X.nm hb19
    try (first | (cases hb19; done) | (exfalso; simp at hb19; done))
    all_goals
     refine RG.skip 4 hR rfl rfl rfl rfl rfl rfl ?_
     refine RG.skip 5 hR rfl rfl rfl rfl rfl rfl ?_
     refine RG.skip 6 hR rfl rfl rfl rfl rfl rfl ?_
     refine RG.skip 7 hR rfl rfl rfl rfl rfl rfl ?_
     refine RG.skip 8 hR rfl rfl rfl rfl rfl rfl ?_
     refine RG.skip 9 hR rfl rfl rfl rfl rfl rfl ?_
     refine RG.skip 10 hR rfl rfl rfl rfl rfl rfl ?_
     refine RG.skip 11 hR rfl rfl rfl rfl rfl rfl ?_
     refine RG.skip 12 hR rfl rfl rfl rfl rfl rfl ?_
     refine RG.pass 13 hR rfl rfl rfl rfl rfl ?_
     refine RG.q 14 hR rfl rfl rfl rfl rfl rfl (Q.pick_f rfl rfl) ?_
     refine RG.fin hR rfl ?_
     refine J.norm rfl ?_
     refine J.then_n ?_
     refine J.cond_f rfl ?_
     refine J.exit ?_
     refine J.then_x ?_
     refine J.lp_x ?_
     refine J.blk_x ?_
     refine J.blk_n ?_
     refine J.then_n ?_
     refine J.region ?_
     refine J.q rfl rfl (Q.mv rfl) ?_
     refine J.q rfl rfl (Q.add64 rfl rfl (by omega)) ?_
     refine J.q rfl rfl (Q.asg rfl) ?_
     refine J.nil ?_
     have e1 : ((j : Int) - 1).toNat = j - 1 := by omega
     have hd : insInner ltU x i d1 = d2 := by
       rw [← g3]
       refine insInner_stop ?_
       first
         | (left; omega)
         | (right; rw [Int.toNat_natCast, e1] at hc30; exact hc30)
         | (right; rw [Int.toNat_natCast, e1] at hc30; simpa [ltU] using hc30)
     refine J.again (i + 1, d2) ⟨g1, by show x + 1 ≤ i + 1; omega, by show insOuter ltU x e (i + 1) d2 = _; rw [← h3, ← hd]; conv => { rhs; rw [insOuter] }; rw [if_pos (by omega)]⟩ (by show e - (i + 1) < e - i; omega) ⟨rfl, rfl, rfl, rfl, trivial⟩ rfl
  replace hc12 := X.nm hc12
  try (first | (cases hc12; done) | (exfalso; simp at hc12; done))
  all_goals
   refine J.cond_f rfl ?_
   refine J.exit ?_
   refine J.then_x ?_
   refine J.lp_x ?_
   refine J.blk_x ?_
   have hd : d1 = insertionSort ltU d x e := by rw [← h3, insOuter, if_neg (by omega)]
   rw [hd]
   refine J.end0 (B := [_]) rfl ⟨rfl, rfl⟩ rfl
end Go.Proofs.YtdancegklkifaaaGreat
namespace Go.Proofs.YtdancegklkifaaaGreat
set_option linter.unusedSectionVars false
set_option linter.unusedSimpArgs false
set_option linter.unusedVariables false
open Go.X
open Go.Sort (swp insInner insOuter insertionSort siftDown heapBuild heapPop heapSort PermIn SortedIn SWO reverseLoop reverseRange)

section plain
variable {α : Type} [Inhabited α] {lt : α → α → Bool} {hi first root : Nat} {d : Array α}
def chB (lt : α → α → Bool) (hi first root : Nat) (d : Array α) : Bool := decide (2 * root + 1 + 1 < hi) && lt d[first + (2 * root + 1)]! d[first + (2 * root + 1) + 1]!
def chN (lt : α → α → Bool) (hi first root : Nat) (d : Array α) : Nat := if chB lt hi first root d = true then 2 * root + 2 else 2 * root + 1
theorem sift_end (h : ¬ 2 * root + 1 < hi) : siftDown lt hi first root d = d := by rw [siftDown, dif_pos (by omega)]
theorem sift_eq (h : 2 * root + 1 < hi) : siftDown lt hi first root d = if lt d[first + root]! d[first + chN lt hi first root d]! = true then siftDown lt hi first (chN lt hi first root d) (swp d (first + root) (first + chN lt hi first root d)) else d := by
  unfold chN
  rw [siftDown, dif_neg (by omega)]
  cases hc : chB lt hi first root d with
  | true =>
    have hc' := hc
    unfold chB at hc'
    rw [if_pos hc']
    have h2 : 2 * root + 2 < hi := by have := hc'; simp at this; omega
    simp only [if_true]
    cases hl : lt d[first + root]! d[first + (2 * root + 2)]! with
    | true => simp [h2]
    | false => simp
  | false =>
    have hc' := hc
    unfold chB at hc'
    rw [if_neg (by rw [hc']; exact Bool.false_ne_true)]
    simp only [Bool.false_eq_true, if_false]
    cases hl : lt d[first + root]! d[first + (2 * root + 1)]! with
    | true => simp
    | false => simp
theorem sz_sift : ∀ (k root : Nat) (d : Array α), hi - root ≤ k → (siftDown lt hi first root d).size = d.size
  | 0, root, d, h => by rw [sift_end (by omega)]
  | k + 1, root, d, h => by
    by_cases h1 : 2 * root + 1 < hi
    · rw [sift_eq h1]
      have : 2 * root + 1 ≤ chN lt hi first root d := by unfold chN; split <;> omega
      split
      · rw [sz_sift k _ _ (by omega)]; simp [swp]
      · rfl
    · rw [sift_end h1]
theorem sift_size : (siftDown lt hi first root d).size = d.size := sz_sift _ root d (Nat.le_refl _)
theorem build_size : ∀ (k : Nat) (d : Array α), (heapBuild lt hi first k d).size = d.size
  | 0, d => rfl
  | k + 1, d => by rw [heapBuild, build_size k, sift_size]
theorem pop_size : ∀ (k : Nat) (d : Array α), (heapPop lt first k d).size = d.size
  | 0, d => rfl
  | k + 1, d => by rw [heapPop, pop_size k, sift_size]; simp [swp]
end plain

theorem siftU (b off n c : Nat) (d : Array Nat) (lo hi first : Nat) (hn : d.size = n) (hlo : lo ≤ n) (hhi : first + hi ≤ n) (hs : n ≤ 1099511627776) :
    FSpec Tryz.prog 133 [.slice (some ⟨b, off, none⟩) n c, .int .i64 lo, .int .i64 hi, .int .i64 first] [rowU b off n c d] (fun v B => v = .tuple #[] ∧ B = [rowU b off n c (siftDown ltU hi first lo d)]) := by
  refine FSpec.of Tryz.func133 rfl Tryz.ntmps133 rfl fun W0 F => ?_
  refine J.seq ?_
  refine J.region ?_
  refine J.q rfl rfl (Q.mv rfl) ?_
  refine J.q rfl rfl (Q.asg rfl) ?_
  refine J.nil ?_
  refine J.then_n ?_
  refine J.block ?_
  refine J.loop2 (fun (root : Nat) (d1 : Array Nat) => d1.size = n ∧ root ≤ n ∧ siftDown ltU hi first root d1 = siftDown ltU hi first lo d) (fun root _ => hi - root) (fun root _ => [(0, .slice (some ⟨b, off, none⟩) n c), (2, .int .i64 hi), (3, .int .i64 first), (8, .int .i64 root)]) (fun _ d1 => [rowU b off n c d1, F]) lo d ⟨hn, hlo, rfl⟩ ⟨rfl, rfl, rfl, rfl, trivial⟩ rfl fun root d1 hz => ?_
  obtain ⟨h1, h2, h3⟩ := hz
  refine J.block ?_
  refine J.seq ?_
  refine J.region ?_
  refine J.q rfl rfl (Q.mv rfl) ?_
  refine J.q rfl rfl (Q.mul64 rfl rfl (by omega)) ?_
  refine J.q rfl rfl (Q.add64 rfl rfl (by omega)) ?_
  refine J.q rfl rfl (Q.asg rfl) ?_
  refine J.nil ?_
  refine J.then_n ?_
  refine J.seq ?_
  refine J.seq ?_
  refine J.region ?_
  refine J.q rfl rfl (Q.mv rfl) ?_
  refine J.q rfl rfl (Q.mv rfl) ?_
  refine J.q rfl rfl (Q.geq rfl rfl) ?_
  refine J.nil ?_
  refine J.then_n ?_
  refine J.cases 16 rfl (fun hc16 => ?_) (fun hc16 => ?_)
  ·
   replace hc16 := X.nm hc16
   try (first | (cases hc16; done) | (exfalso; simp at hc16; done))
   all_goals
    refine J.cond_t rfl ?_
    refine J.exit ?_
    refine J.then_x ?_
    refine J.blk_o rfl ?_
    refine J.lp_x ?_
    refine J.blk_x ?_
    rw [← h3, sift_end (by omega)]
    refine J.end0 (B := [_]) rfl ⟨rfl, rfl⟩ rfl
  replace hc16 := X.nm hc16
  try (first | (cases hc16; done) | (exfalso; simp at hc16; done))
  all_goals
   refine J.cond_f rfl ?_
   refine J.cskip ?_
   refine J.then_n ?_
   refine J.cut (fun _ : Unit => True) (fun _ => [(0, .slice (some ⟨b, off, none⟩) n c), (2, .int .i64 hi), (3, .int .i64 first), (8, .int .i64 root), (9, .int .i64 (chN ltU hi first root d1 : Nat))]) (fun _ => [rowU b off n c d1, F]) ?_ fun _ _ => ?_
   ·
    refine J.seq ?_
    refine J.draw [18] Tryz.mixed (by kernel_rfl) fun hR => ?_
    refine RG.q 0 hR rfl rfl rfl rfl rfl rfl (Q.mv rfl) ?_
    refine RG.q 1 hR rfl rfl rfl rfl rfl rfl (Q.add64 rfl rfl (by omega)) ?_
    refine RG.q 2 hR rfl rfl rfl rfl rfl rfl (Q.mv rfl) ?_
    refine RG.q 3 hR rfl rfl rfl rfl rfl rfl (Q.lss rfl rfl) ?_
    refine RG.q 4 hR rfl rfl rfl rfl rfl rfl (Q.mv rfl) ?_
    refine RG.cases 21 rfl (fun hb21 => ?_) (fun hb21 => ?_)
    ·
     replace hb21 := X.nm hb21
     try (first | (cases hb21; done) | (exfalso; simp at hb21; done))
     all_goals
      refine RG.q 5 hR rfl rfl rfl rfl rfl rfl (Q.mv rfl) ?_
      refine RG.q 6 hR rfl rfl rfl rfl rfl rfl (Q.mv rfl) ?_
      refine RG.q 7 hR rfl rfl rfl rfl rfl rfl (Q.mv rfl) ?_
      refine RG.q 8 hR rfl rfl rfl rfl rfl rfl (Q.add64 rfl rfl (by omega)) ?_
      refine RG.q 9 hR rfl rfl rfl rfl rfl rfl (Q.ia Tryz.runUnderlying60 Tryz.sizeOf23 rfl rfl (by omega) (by omega)) ?_
      refine RG.q 10 hR rfl rfl rfl rfl rfl rfl (Q.ld Tryz.isAgg23 rfl (rdU (k := 0) rfl (by omega))) ?_
      refine RG.q 11 hR rfl rfl rfl rfl rfl rfl (Q.mv rfl) ?_
      refine RG.q 12 hR rfl rfl rfl rfl rfl rfl (Q.mv rfl) ?_
      refine RG.q 13 hR rfl rfl rfl rfl rfl rfl (Q.mv rfl) ?_
      refine RG.q 14 hR rfl rfl rfl rfl rfl rfl (Q.add64 rfl rfl (by omega)) ?_
      refine RG.q 15 hR rfl rfl rfl rfl rfl rfl (Q.add64 rfl rfl (by omega)) ?_
      refine RG.q 16 hR rfl rfl rfl rfl rfl rfl (Q.ia Tryz.runUnderlying60 Tryz.sizeOf23 rfl rfl (by omega) (by omega)) ?_
      refine RG.q 17 hR rfl rfl rfl rfl rfl rfl (Q.ld Tryz.isAgg23 rfl (rdU (k := 0) rfl (by omega))) ?_
      refine RG.call 18 hR rfl rfl rfl rfl rfl rfl Tryz.call114 (lessU _ _) [] rfl rfl ?_
      rintro _ _ ⟨rfl, rfl⟩
      refine RG.norm rfl ?_
      refine RG.q 19 hR rfl rfl rfl rfl rfl rfl (Q.pick_t rfl rfl) ?_
      refine RG.fin hR rfl ?_
      refine J.norm rfl ?_
      refine J.then_n ?_
      refine J.cases 36 rfl (fun hc36 => ?_) (fun hc36 => ?_)
      ·
       replace hc36 := X.nm hc36
       try (first | (cases hc36; done) | (exfalso; simp at hc36; done))
       all_goals
        refine J.cond_t rfl ?_
        refine J.region ?_
        refine J.q rfl rfl (Q.mv rfl) ?_
        refine J.q rfl rfl (Q.add64 rfl rfl (by omega)) ?_
        refine J.q rfl rfl (Q.asg rfl) ?_
        refine J.nil ?_
        have e1 : ((first : Int) + (2 * (root : Int) + 1)).toNat = first + (2 * root + 1) := by omega
        have e2 : ((first : Int) + (2 * (root : Int) + 1) + 1).toNat = first + (2 * root + 1) + 1 := by omega
        first
          | (rw [e1, e2] at hc36
             have hcb : chB ltU hi first root d1 = true := by unfold chB; rw [decide_eq_true (by omega), Bool.true_and]; exact hc36
             refine J.meet () trivial ⟨rfl, rfl, rfl, rfl, (by unfold chN; rw [if_pos hcb]; show some (Value.int .i64 (2 * (root : Int) + 1 + 1)) = some (Value.int .i64 ((2 * root + 2 : Nat) : Int)); congr 2), trivial⟩ rfl)
          | (have hcb : ¬ chB ltU hi first root d1 = true := by
               unfold chB
               first
                 | (rw [e1, e2] at hc36; rw [decide_eq_true (by omega), Bool.true_and, hc36]; exact Bool.false_ne_true)
                 | (rw [decide_eq_false (by omega), Bool.false_and]; exact Bool.false_ne_true)
             refine J.meet () trivial ⟨rfl, rfl, rfl, rfl, (by unfold chN; rw [if_neg hcb]; show some (Value.int .i64 (2 * (root : Int) + 1)) = some (Value.int .i64 ((2 * root + 1 : Nat) : Int)); congr 2), trivial⟩ rfl)
      replace hc36 := X.nm hc36
      try (first | (cases hc36; done) | (exfalso; simp at hc36; done))
      all_goals
       refine J.cond_f rfl ?_
       refine J.cskip ?_
       have e1 : ((first : Int) + (2 * (root : Int) + 1)).toNat = first + (2 * root + 1) := by omega
       have e2 : ((first : Int) + (2 * (root : Int) + 1) + 1).toNat = first + (2 * root + 1) + 1 := by omega
       first
         | (rw [e1, e2] at hc36
            have hcb : chB ltU hi first root d1 = true := by unfold chB; rw [decide_eq_true (by omega), Bool.true_and]; exact hc36
            refine J.meet () trivial ⟨rfl, rfl, rfl, rfl, (by unfold chN; rw [if_pos hcb]; show some (Value.int .i64 (2 * (root : Int) + 1 + 1)) = some (Value.int .i64 ((2 * root + 2 : Nat) : Int)); congr 2), trivial⟩ rfl)
         | (have hcb : ¬ chB ltU hi first root d1 = true := by
              unfold chB
              first
                | (rw [e1, e2] at hc36; rw [decide_eq_true (by omega), Bool.true_and, hc36]; exact Bool.false_ne_true)
                | (rw [decide_eq_false (by omega), Bool.false_and]; exact Bool.false_ne_true)
            refine J.meet () trivial ⟨rfl, rfl, rfl, rfl, (by unfold chN; rw [if_neg hcb]; show some (Value.int .i64 (2 * (root : Int) + 1)) = some (Value.int .i64 ((2 * root + 1 : Nat) : Int)); congr 2), trivial⟩ rfl)
    replace hb21 := X.nm hb21
    try (first | (cases hb21; done) | (exfalso; simp at hb21; done))
    all_goals
     refine RG.skip 5 hR rfl rfl rfl rfl rfl rfl ?_
     refine RG.skip 6 hR rfl rfl rfl rfl rfl rfl ?_
     refine RG.skip 7 hR rfl rfl rfl rfl rfl rfl ?_
     refine RG.skip 8 hR rfl rfl rfl rfl rfl rfl ?_
     refine RG.skip 9 hR rfl rfl rfl rfl rfl rfl ?_
     refine RG.skip 10 hR rfl rfl rfl rfl rfl rfl ?_
     refine RG.skip 11 hR rfl rfl rfl rfl rfl rfl ?_
     refine RG.skip 12 hR rfl rfl rfl rfl rfl rfl ?_
     refine RG.skip 13 hR rfl rfl rfl rfl rfl rfl ?_
     refine RG.skip 14 hR rfl rfl rfl rfl rfl rfl ?_
     refine RG.skip 15 hR rfl rfl rfl rfl rfl rfl ?_
     refine RG.skip 16 hR rfl rfl rfl rfl rfl rfl ?_
     refine RG.skip 17 hR rfl rfl rfl rfl rfl rfl ?_
     refine RG.pass 18 hR rfl rfl rfl rfl rfl ?_
     refine RG.q 19 hR rfl rfl rfl rfl rfl rfl (Q.pick_f rfl rfl) ?_
     refine RG.fin hR rfl ?_
     refine J.norm rfl ?_
     refine J.then_n ?_
     refine J.cond_f rfl ?_
     refine J.cskip ?_
     have e1 : ((first : Int) + (2 * (root : Int) + 1)).toNat = first + (2 * root + 1) := by omega
     have e2 : ((first : Int) + (2 * (root : Int) + 1) + 1).toNat = first + (2 * root + 1) + 1 := by omega
     first
       | (rw [e1, e2] at hc36
          have hcb : chB ltU hi first root d1 = true := by unfold chB; rw [decide_eq_true (by omega), Bool.true_and]; exact hc36
          refine J.meet () trivial ⟨rfl, rfl, rfl, rfl, (by unfold chN; rw [if_pos hcb]; show some (Value.int .i64 (2 * (root : Int) + 1 + 1)) = some (Value.int .i64 ((2 * root + 2 : Nat) : Int)); congr 2), trivial⟩ rfl)
       | (have hcb : ¬ chB ltU hi first root d1 = true := by
            unfold chB
            first
              | (rw [e1, e2] at hc36; rw [decide_eq_true (by omega), Bool.true_and, hc36]; exact Bool.false_ne_true)
              | (rw [decide_eq_false (by omega), Bool.false_and]; exact Bool.false_ne_true)
          refine J.meet () trivial ⟨rfl, rfl, rfl, rfl, (by unfold chN; rw [if_neg hcb]; show some (Value.int .i64 (2 * (root : Int) + 1)) = some (Value.int .i64 ((2 * root + 1 : Nat) : Int)); congr 2), trivial⟩ rfl)
   obtain ⟨ch, hch⟩ : ∃ ch, ch = chN ltU hi first root d1 := ⟨_, rfl⟩
   have hc1 : 2 * root + 1 ≤ ch ∧ ch < hi := by rw [hch]; unfold chN; split; · rename_i hb; unfold chB at hb; simp at hb; omega
                                                · omega
   have hsf := sift_eq (lt := ltU) (hi := hi) (first := first) (root := root) (d := d1) (by omega)
   rw [← hch] at hsf ⊢
   refine J.seq ?_
   refine J.seq ?_
   refine J.draw [12] Tryz.mixed (by kernel_rfl) fun hR => ?_
   refine RG.q 0 hR rfl rfl rfl rfl rfl rfl (Q.mv rfl) ?_
   refine RG.q 1 hR rfl rfl rfl rfl rfl rfl (Q.mv rfl) ?_
   refine RG.q 2 hR rfl rfl rfl rfl rfl rfl (Q.mv rfl) ?_
   refine RG.q 3 hR rfl rfl rfl rfl rfl rfl (Q.add64 rfl rfl (by omega)) ?_
   refine RG.q 4 hR rfl rfl rfl rfl rfl rfl (Q.ia Tryz.runUnderlying60 Tryz.sizeOf23 rfl rfl (by omega) (by omega)) ?_
   refine RG.q 5 hR rfl rfl rfl rfl rfl rfl (Q.ld Tryz.isAgg23 rfl (rdU (k := 0) rfl (by omega))) ?_
   refine RG.q 6 hR rfl rfl rfl rfl rfl rfl (Q.mv rfl) ?_
   refine RG.q 7 hR rfl rfl rfl rfl rfl rfl (Q.mv rfl) ?_
   refine RG.q 8 hR rfl rfl rfl rfl rfl rfl (Q.mv rfl) ?_
   refine RG.q 9 hR rfl rfl rfl rfl rfl rfl (Q.add64 rfl rfl (by omega)) ?_
   refine RG.q 10 hR rfl rfl rfl rfl rfl rfl (Q.ia Tryz.runUnderlying60 Tryz.sizeOf23 rfl rfl (by omega) (by omega)) ?_
   refine RG.q 11 hR rfl rfl rfl rfl rfl rfl (Q.ld Tryz.isAgg23 rfl (rdU (k := 0) rfl (by omega))) ?_
   refine RG.call 12 hR rfl rfl rfl rfl rfl rfl Tryz.call114 (lessU _ _) [] rfl rfl ?_
   rintro _ _ ⟨rfl, rfl⟩
   refine RG.norm rfl ?_
   refine RG.q 13 hR rfl rfl rfl rfl rfl rfl (Q.not rfl) ?_
   refine RG.fin hR rfl ?_
   refine J.norm rfl ?_
   refine J.then_n ?_
   refine J.cases 52 rfl (fun hc52 => ?_) (fun hc52 => ?_)
   ·
    replace hc52 := X.nm hc52
    try (first | (cases hc52; done) | (exfalso; simp at hc52; done))
    all_goals
     refine J.cond_t rfl ?_
     refine J.cret ?_
     refine J.then_r ?_
     refine J.blk_r ?_
     refine J.lp_r ?_
     refine J.blk_r ?_
     have e1 : ((first : Int) + (root : Int)).toNat = first + root := by omega
     have e2 : ((first : Int) + (ch : Int)).toNat = first + ch := by omega
     rw [e1, e2] at hc52
     rw [← h3, hsf, if_neg (by simpa using hc52)]
     refine J.ret0 (B := [_]) rfl ⟨rfl, rfl⟩ rfl
   replace hc52 := X.nm hc52
   try (first | (cases hc52; done) | (exfalso; simp at hc52; done))
   all_goals
    refine J.cond_f rfl ?_
    refine J.cskip ?_
    refine J.then_n ?_
    refine J.seq ?_
    refine J.draw [21, 23] Tryz.mixed (by kernel_rfl) fun hR => ?_
    refine RG.q 0 hR rfl rfl rfl rfl rfl rfl (Q.mv rfl) ?_
    refine RG.q 1 hR rfl rfl rfl rfl rfl rfl (Q.mv rfl) ?_
    refine RG.q 2 hR rfl rfl rfl rfl rfl rfl (Q.mv rfl) ?_
    refine RG.q 3 hR rfl rfl rfl rfl rfl rfl (Q.add64 rfl rfl (by omega)) ?_
    refine RG.q 4 hR rfl rfl rfl rfl rfl rfl (Q.mv rfl) ?_
    refine RG.q 5 hR rfl rfl rfl rfl rfl rfl (Q.mv rfl) ?_
    refine RG.q 6 hR rfl rfl rfl rfl rfl rfl (Q.mv rfl) ?_
    refine RG.q 7 hR rfl rfl rfl rfl rfl rfl (Q.add64 rfl rfl (by omega)) ?_
    refine RG.q 8 hR rfl rfl rfl rfl rfl rfl (Q.mv rfl) ?_
    refine RG.q 9 hR rfl rfl rfl rfl rfl rfl (Q.mv rfl) ?_
    refine RG.q 10 hR rfl rfl rfl rfl rfl rfl (Q.mv rfl) ?_
    refine RG.q 11 hR rfl rfl rfl rfl rfl rfl (Q.add64 rfl rfl (by omega)) ?_
    refine RG.q 12 hR rfl rfl rfl rfl rfl rfl (Q.ia Tryz.runUnderlying60 Tryz.sizeOf23 rfl rfl (by omega) (by omega)) ?_
    refine RG.q 13 hR rfl rfl rfl rfl rfl rfl (Q.ld Tryz.isAgg23 rfl (rdU (k := 0) rfl (by omega))) ?_
    refine RG.q 14 hR rfl rfl rfl rfl rfl rfl (Q.mv rfl) ?_
    refine RG.q 15 hR rfl rfl rfl rfl rfl rfl (Q.mv rfl) ?_
    refine RG.q 16 hR rfl rfl rfl rfl rfl rfl (Q.mv rfl) ?_
    refine RG.q 17 hR rfl rfl rfl rfl rfl rfl (Q.add64 rfl rfl (by omega)) ?_
    refine RG.q 18 hR rfl rfl rfl rfl rfl rfl (Q.ia Tryz.runUnderlying60 Tryz.sizeOf23 rfl rfl (by omega) (by omega)) ?_
    refine RG.q 19 hR rfl rfl rfl rfl rfl rfl (Q.ld Tryz.isAgg23 rfl (rdU (k := 0) rfl (by omega))) ?_
    refine RG.q 20 hR rfl rfl rfl rfl rfl rfl (Q.ia Tryz.runUnderlying60 Tryz.sizeOf23 rfl rfl (by omega) (by omega)) ?_
    refine RG.barP 21 [4, 5, 6, 7] hR rfl rfl rfl rfl rfl (by kernel_rfl) ⟨Free.q rfl rfl rfl (Q.mv rfl), ⟨Free.q rfl rfl rfl (Q.mv rfl), ⟨Free.q rfl rfl rfl (Q.mv rfl), ⟨Free.q rfl rfl rfl (Q.add64 rfl rfl (by omega)), trivial⟩⟩⟩⟩ (C.stO 0 Tryz.sizeOf23 rfl rfl rfl rfl rfl (by first | (rw [avU_len]; omega) | (rw [List.length_set, avU_len]; omega))) ?_
    rintro _ _ ⟨rfl, rfl⟩
    refine RG.norm rfl ?_
    refine RG.q 22 hR rfl rfl rfl rfl rfl rfl (Q.ia Tryz.runUnderlying60 Tryz.sizeOf23 rfl rfl (by omega) (by omega)) ?_
    refine RG.barP 23 [] hR rfl rfl rfl rfl rfl (by kernel_rfl) trivial (C.stO 0 Tryz.sizeOf23 rfl rfl rfl rfl rfl (by first | (rw [avU_len]; omega) | (rw [List.length_set, avU_len]; omega))) ?_
    rintro _ _ ⟨rfl, rfl⟩
    refine RG.norm rfl ?_
    refine RG.fin hR rfl ?_
    refine J.norm rfl ?_
    refine J.then_n ?_
    refine J.region ?_
    refine J.q rfl rfl (Q.mv rfl) ?_
    refine J.q rfl rfl (Q.asg rfl) ?_
    refine J.nil ?_
    refine J.blk_n ?_
    have e1 : ((first : Int) + (root : Int)).toNat = first + root := by omega
    have e2 : ((first : Int) + (ch : Int)).toNat = first + ch := by omega
    rw [e1, e2] at hc52
    refine J.conv (Y := rowU b off n c (swp d1 (first + root) (first + ch))) 0 rfl (swrU (by omega) (by omega)) ?_
    refine J.again (ch, swp d1 (first + root) (first + ch)) ⟨by show (swp d1 _ _).size = n; rw [szU_swp, h1], by show ch ≤ n; omega, by show siftDown ltU hi first ch (swp d1 (first + root) (first + ch)) = _; rw [← h3, hsf, if_pos (by simpa using hc52)]⟩ (by show hi - ch < hi - root; omega) ⟨rfl, rfl, rfl, rfl, trivial⟩ rfl

theorem heapU (b off n c : Nat) (d : Array Nat) (x e : Nat) (hn : d.size = n) (hx : x < e) (he : e ≤ n) (hs : n ≤ 1099511627776) :
    FSpec Tryz.prog 109 [.slice (some ⟨b, off, none⟩) n c, .int .i64 x, .int .i64 e] [rowU b off n c d] (fun v B => v = .tuple #[] ∧ B = [rowU b off n c (heapSort ltU d x e)]) := by
  refine FSpec.of Tryz.func109 rfl Tryz.ntmps109 rfl fun W0 F => ?_
  refine J.seq ?_
  refine J.region ?_
  refine J.q rfl rfl (Q.mv rfl) ?_
  refine J.q rfl rfl (Q.asg rfl) ?_
  refine J.nil ?_
  refine J.then_n ?_
  refine J.seq ?_
  refine J.region ?_
  refine J.q rfl rfl (Q.asg rfl) ?_
  refine J.nil ?_
  refine J.then_n ?_
  refine J.seq ?_
  refine J.region ?_
  refine J.q rfl rfl (Q.mv rfl) ?_
  refine J.q rfl rfl (Q.mv rfl) ?_
  refine J.q rfl rfl (Q.sub64 rfl rfl (by omega)) ?_
  refine J.q rfl rfl (Q.asg rfl) ?_
  refine J.nil ?_
  refine J.then_n ?_
  refine J.seq ?_
  refine J.seq ?_
  refine J.region ?_
  refine J.q rfl rfl (Q.mv rfl) ?_
  refine J.q rfl rfl (Q.sub64 rfl rfl (by omega)) ?_
  refine J.q rfl rfl (Q.quo64 rfl rfl (by omega) (by omega) (by omega)) ?_
  refine J.q rfl rfl (Q.asg rfl) ?_
  refine J.nil ?_
  refine J.then_n ?_
  refine J.block ?_
  refine J.loop2 (fun (k : Nat) (d1 : Array Nat) => d1.size = n ∧ k ≤ (e - x - 1) / 2 + 1 ∧ heapBuild ltU (e - x) x k d1 = heapBuild ltU (e - x) x ((e - x - 1) / 2 + 1) d) (fun k _ => k) (fun k _ => [(0, .slice (some ⟨b, off, none⟩) n c), (6, .int .i64 x), (7, .int .i64 ((0 : Nat) : Int)), (8, .int .i64 ((e - x : Nat) : Int)), (9, .int .i64 ((k : Int) - 1))]) (fun _ d1 => [rowU b off n c d1, F]) ((e - x - 1) / 2 + 1) d ⟨hn, Nat.le_refl _, rfl⟩ ⟨rfl, rfl, rfl, (by show some (Value.int .i64 ((e : Int) - x)) = some (Value.int .i64 ((e - x : Nat) : Int)); congr 2; omega), (by show some (Value.int .i64 (((e : Int) - x - 1) / 2)) = some (Value.int .i64 ((((e - x - 1) / 2 + 1 : Nat) : Int) - 1)); congr 2; omega), trivial⟩ rfl fun k d1 hz => ?_
  obtain ⟨h1, h2, h3⟩ := hz
  refine J.seq ?_
  refine J.seq ?_
  refine J.region ?_
  refine J.q rfl rfl (Q.mv rfl) ?_
  refine J.q rfl rfl (Q.geq rfl rfl) ?_
  refine J.nil ?_
  refine J.then_n ?_
  refine J.cases 19 rfl (fun hc19 => ?_) (fun hc19 => ?_)
  ·
   replace hc19 := X.nm hc19
   try (first | (cases hc19; done) | (exfalso; simp at hc19; done))
   all_goals
    refine J.cond_t rfl ?_
    refine J.cskip ?_
    refine J.then_n ?_
    refine J.seq ?_
    refine J.block ?_
    obtain ⟨k1, rfl⟩ : ∃ k1, k = k1 + 1 := ⟨k - 1, by omega⟩
    refine J.slot 9 (.int .i64 (k1 : Int)) rfl (by congr 1; omega) ?_
    refine J.region ?_
    refine J.q rfl rfl (Q.mv rfl) ?_
    refine J.q rfl rfl (Q.mv rfl) ?_
    refine J.q rfl rfl (Q.mv rfl) ?_
    refine J.q rfl rfl (Q.mv rfl) ?_
    refine J.call Tryz.call133 (siftU b off n c d1 k1 (e - x) x h1 (by omega) (by omega) hs) [0] rfl rfl rfl rfl ?_
    rintro _ _ ⟨rfl, rfl⟩
    refine J.norm rfl ?_
    refine J.nil ?_
    refine J.blk_n ?_
    refine J.then_n ?_
    refine J.region ?_
    refine J.q rfl rfl (Q.mv rfl) ?_
    refine J.q rfl rfl (Q.sub64 rfl rfl (by omega)) ?_
    refine J.q rfl rfl (Q.asg rfl) ?_
    refine J.nil ?_
    refine J.again (k1, siftDown ltU (e - x) x k1 d1) ⟨by show (siftDown ltU (e - x) x k1 d1).size = n; rw [sift_size, h1], by show k1 ≤ _; omega, by rw [← h3]; rfl⟩ (by show k1 < k1 + 1; omega) ⟨rfl, rfl, rfl, rfl, rfl, trivial⟩ rfl
  replace hc19 := X.nm hc19
  try (first | (cases hc19; done) | (exfalso; simp at hc19; done))
  all_goals
   refine J.cond_f rfl ?_
   refine J.exit ?_
   refine J.then_x ?_
   refine J.lp_x ?_
   refine J.blk_x ?_
   refine J.then_n ?_
   refine J.seq ?_
   obtain rfl : k = 0 := by omega
   have hd : d1 = heapBuild ltU (e - x) x ((e - x - 1) / 2 + 1) d := by rw [← h3]; rfl
   refine J.region ?_
   refine J.q rfl rfl (Q.mv rfl) ?_
   refine J.q rfl rfl (Q.sub64 rfl rfl (by omega)) ?_
   refine J.q rfl rfl (Q.asg rfl) ?_
   refine J.nil ?_
   refine J.then_n ?_
   refine J.block ?_
   refine J.loop2 (fun (k : Nat) (d2 : Array Nat) => d2.size = n ∧ k ≤ e - x ∧ heapPop ltU x k d2 = heapSort ltU d x e) (fun k _ => k) (fun k _ => [(0, .slice (some ⟨b, off, none⟩) n c), (6, .int .i64 x), (7, .int .i64 ((0 : Nat) : Int)), (10, .int .i64 ((k : Int) - 1))]) (fun _ d2 => [rowU b off n c d2, F]) (e - x) d1 ⟨h1, Nat.le_refl _, by rw [hd]; rfl⟩ ⟨rfl, rfl, rfl, rfl, trivial⟩ rfl fun k d2 hz => ?_
   obtain ⟨g1, g2, g3⟩ := hz
   refine J.seq ?_
   refine J.seq ?_
   refine J.region ?_
   refine J.q rfl rfl (Q.mv rfl) ?_
   refine J.q rfl rfl (Q.geq rfl rfl) ?_
   refine J.nil ?_
   refine J.then_n ?_
   refine J.cases 30 rfl (fun hc30 => ?_) (fun hc30 => ?_)
   ·
    replace hc30 := X.nm hc30
    try (first | (cases hc30; done) | (exfalso; simp at hc30; done))
    all_goals
     refine J.cond_t rfl ?_
     refine J.cskip ?_
     refine J.then_n ?_
     refine J.seq ?_
     refine J.block ?_
     refine J.seq ?_
     obtain ⟨k1, rfl⟩ : ∃ k1, k = k1 + 1 := ⟨k - 1, by omega⟩
     refine J.slot 10 (.int .i64 (k1 : Int)) rfl (by congr 1; omega) ?_
     refine J.draw [17, 19] Tryz.mixed (by kernel_rfl) fun hR => ?_
     refine RG.q 0 hR rfl rfl rfl rfl rfl rfl (Q.mv rfl) ?_
     refine RG.q 1 hR rfl rfl rfl rfl rfl rfl (Q.mv rfl) ?_
     refine RG.q 2 hR rfl rfl rfl rfl rfl rfl (Q.mv rfl) ?_
     refine RG.q 3 hR rfl rfl rfl rfl rfl rfl (Q.mv rfl) ?_
     refine RG.q 4 hR rfl rfl rfl rfl rfl rfl (Q.mv rfl) ?_
     refine RG.q 5 hR rfl rfl rfl rfl rfl rfl (Q.add64 rfl rfl (by omega)) ?_
     refine RG.q 6 hR rfl rfl rfl rfl rfl rfl (Q.mv rfl) ?_
     refine RG.q 7 hR rfl rfl rfl rfl rfl rfl (Q.mv rfl) ?_
     refine RG.q 8 hR rfl rfl rfl rfl rfl rfl (Q.mv rfl) ?_
     refine RG.q 9 hR rfl rfl rfl rfl rfl rfl (Q.add64 rfl rfl (by omega)) ?_
     refine RG.q 10 hR rfl rfl rfl rfl rfl rfl (Q.ia Tryz.runUnderlying60 Tryz.sizeOf23 rfl rfl (by omega) (by omega)) ?_
     refine RG.q 11 hR rfl rfl rfl rfl rfl rfl (Q.ld Tryz.isAgg23 rfl (rdU (k := 0) rfl (by omega))) ?_
     refine RG.q 12 hR rfl rfl rfl rfl rfl rfl (Q.mv rfl) ?_
     refine RG.q 13 hR rfl rfl rfl rfl rfl rfl (Q.mv rfl) ?_
     refine RG.q 14 hR rfl rfl rfl rfl rfl rfl (Q.ia Tryz.runUnderlying60 Tryz.sizeOf23 rfl rfl (by omega) (by omega)) ?_
     refine RG.q 15 hR rfl rfl rfl rfl rfl rfl (Q.ld Tryz.isAgg23 rfl (rdU (k := 0) rfl (by omega))) ?_
     refine RG.q 16 hR rfl rfl rfl rfl rfl rfl (Q.ia Tryz.runUnderlying60 Tryz.sizeOf23 rfl rfl (by omega) (by omega)) ?_
     refine RG.barP 17 [2, 3, 4, 5] hR rfl rfl rfl rfl rfl (by kernel_rfl) ⟨Free.q rfl rfl rfl (Q.mv rfl), ⟨Free.q rfl rfl rfl (Q.mv rfl), ⟨Free.q rfl rfl rfl (Q.mv rfl), ⟨Free.q rfl rfl rfl (Q.add64 rfl rfl (by omega)), trivial⟩⟩⟩⟩ (C.stO 0 Tryz.sizeOf23 rfl rfl rfl rfl rfl (by first | (rw [avU_len]; omega) | (rw [List.length_set, avU_len]; omega))) ?_
     rintro _ _ ⟨rfl, rfl⟩
     refine RG.norm rfl ?_
     refine RG.q 18 hR rfl rfl rfl rfl rfl rfl (Q.ia Tryz.runUnderlying60 Tryz.sizeOf23 rfl rfl (by omega) (by omega)) ?_
     refine RG.barP 19 [] hR rfl rfl rfl rfl rfl (by kernel_rfl) trivial (C.stO 0 Tryz.sizeOf23 rfl rfl rfl rfl rfl (by first | (rw [avU_len]; omega) | (rw [List.length_set, avU_len]; omega))) ?_
     rintro _ _ ⟨rfl, rfl⟩
     refine RG.norm rfl ?_
     refine RG.fin hR rfl ?_
     refine J.norm rfl ?_
     refine J.then_n ?_
     refine J.conv (Y := rowU b off n c (swp d2 x (x + k1))) 0 rfl (swrU (by omega) (by omega)) ?_
     refine J.region ?_
     refine J.q rfl rfl (Q.mv rfl) ?_
     refine J.q rfl rfl (Q.mv rfl) ?_
     refine J.q rfl rfl (Q.mv rfl) ?_
     refine J.q rfl rfl (Q.mv rfl) ?_
     refine J.call Tryz.call133 (siftU b off n c (swp d2 x (x + k1)) 0 k1 x (by rw [szU_swp, g1]) (by omega) (by omega) hs) [0] rfl rfl rfl rfl ?_
     rintro _ _ ⟨rfl, rfl⟩
     refine J.norm rfl ?_
     refine J.nil ?_
     refine J.blk_n ?_
     refine J.then_n ?_
     refine J.region ?_
     refine J.q rfl rfl (Q.mv rfl) ?_
     refine J.q rfl rfl (Q.sub64 rfl rfl (by omega)) ?_
     refine J.q rfl rfl (Q.asg rfl) ?_
     refine J.nil ?_
     refine J.again (k1, siftDown ltU k1 x 0 (swp d2 x (x + k1))) ⟨by show (siftDown ltU k1 x 0 (swp d2 x (x + k1))).size = n; rw [sift_size, szU_swp, g1], by show k1 ≤ _; omega, by rw [← g3]; rfl⟩ (by show k1 < k1 + 1; omega) ⟨rfl, rfl, rfl, rfl, trivial⟩ rfl
   replace hc30 := X.nm hc30
   try (first | (cases hc30; done) | (exfalso; simp at hc30; done))
   all_goals
    refine J.cond_f rfl ?_
    refine J.exit ?_
    refine J.then_x ?_
    refine J.lp_x ?_
    refine J.blk_x ?_
    obtain rfl : k = 0 := by omega
    have hd2 : d2 = heapSort ltU d x e := by rw [← g3]; rfl
    rw [hd2]
    refine J.end0 (B := [_]) rfl ⟨rfl, rfl⟩ rfl

theorem reverseU (b off n c : Nat) (d : Array Nat) (x e : Nat) (hn : d.size = n) (hx : x < e) (he : e ≤ n) (hs : n ≤ 1099511627776) :
    FSpec Tryz.prog 112 [.slice (some ⟨b, off, none⟩) n c, .int .i64 x, .int .i64 e] [rowU b off n c d] (fun v B => v = .tuple #[] ∧ B = [rowU b off n c (reverseRange d x e)]) := by
  refine FSpec.of Tryz.func112 rfl Tryz.ntmps112 rfl fun W0 F => ?_
  refine J.seq ?_
  refine J.region ?_
  refine J.q rfl rfl (Q.mv rfl) ?_
  refine J.q rfl rfl (Q.asg rfl) ?_
  refine J.nil ?_
  refine J.then_n ?_
  refine J.seq ?_
  refine J.region ?_
  refine J.q rfl rfl (Q.mv rfl) ?_
  refine J.q rfl rfl (Q.sub64 rfl rfl (by omega)) ?_
  refine J.q rfl rfl (Q.asg rfl) ?_
  refine J.nil ?_
  refine J.then_n ?_
  refine J.block ?_
  refine J.loop3 (fun (i j : Nat) (d1 : Array Nat) => d1.size = n ∧ j < n ∧ reverseLoop i j d1 = reverseRange d x e) (fun i j _ => j - i) (fun i j _ => [(0, .slice (some ⟨b, off, none⟩) n c), (6, .int .i64 i), (7, .int .i64 j)]) (fun _ _ d1 => [rowU b off n c d1, F]) x (e - 1) d ⟨hn, by omega, rfl⟩ ⟨rfl, rfl, (by show some (Value.int .i64 ((e : Int) - 1)) = some (Value.int .i64 ((e - 1 : Nat) : Int)); congr 2; omega), trivial⟩ rfl fun i j d1 hz => ?_
  obtain ⟨h1, h2, h3⟩ := hz
  refine J.seq ?_
  refine J.seq ?_
  refine J.region ?_
  refine J.q rfl rfl (Q.mv rfl) ?_
  refine J.q rfl rfl (Q.mv rfl) ?_
  refine J.q rfl rfl (Q.lss rfl rfl) ?_
  refine J.nil ?_
  refine J.then_n ?_
  refine J.cases 13 rfl (fun hc13 => ?_) (fun hc13 => ?_)
  ·
   replace hc13 := X.nm hc13
   try (first | (cases hc13; done) | (exfalso; simp at hc13; done))
   all_goals
    refine J.cond_t rfl ?_
    refine J.cskip ?_
    refine J.then_n ?_
    refine J.block ?_
    refine J.seq ?_
    refine J.draw [13, 15] Tryz.mixed (by kernel_rfl) fun hR => ?_
    refine RG.q 0 hR rfl rfl rfl rfl rfl rfl (Q.mv rfl) ?_
    refine RG.q 1 hR rfl rfl rfl rfl rfl rfl (Q.mv rfl) ?_
    refine RG.q 2 hR rfl rfl rfl rfl rfl rfl (Q.mv rfl) ?_
    refine RG.q 3 hR rfl rfl rfl rfl rfl rfl (Q.mv rfl) ?_
    refine RG.q 4 hR rfl rfl rfl rfl rfl rfl (Q.mv rfl) ?_
    refine RG.q 5 hR rfl rfl rfl rfl rfl rfl (Q.mv rfl) ?_
    refine RG.q 6 hR rfl rfl rfl rfl rfl rfl (Q.ia Tryz.runUnderlying60 Tryz.sizeOf23 rfl rfl (by omega) (by omega)) ?_
    refine RG.q 7 hR rfl rfl rfl rfl rfl rfl (Q.ld Tryz.isAgg23 rfl (rdU (k := 0) rfl (by omega))) ?_
    refine RG.q 8 hR rfl rfl rfl rfl rfl rfl (Q.mv rfl) ?_
    refine RG.q 9 hR rfl rfl rfl rfl rfl rfl (Q.mv rfl) ?_
    refine RG.q 10 hR rfl rfl rfl rfl rfl rfl (Q.ia Tryz.runUnderlying60 Tryz.sizeOf23 rfl rfl (by omega) (by omega)) ?_
    refine RG.q 11 hR rfl rfl rfl rfl rfl rfl (Q.ld Tryz.isAgg23 rfl (rdU (k := 0) rfl (by omega))) ?_
    refine RG.q 12 hR rfl rfl rfl rfl rfl rfl (Q.ia Tryz.runUnderlying60 Tryz.sizeOf23 rfl rfl (by omega) (by omega)) ?_
    refine RG.barP 13 [2, 3] hR rfl rfl rfl rfl rfl (by kernel_rfl) ⟨Free.q rfl rfl rfl (Q.mv rfl), ⟨Free.q rfl rfl rfl (Q.mv rfl), trivial⟩⟩ (C.stO 0 Tryz.sizeOf23 rfl rfl rfl rfl rfl (by first | (rw [avU_len]; omega) | (rw [List.length_set, avU_len]; omega))) ?_
    rintro _ _ ⟨rfl, rfl⟩
    refine RG.norm rfl ?_
    refine RG.q 14 hR rfl rfl rfl rfl rfl rfl (Q.ia Tryz.runUnderlying60 Tryz.sizeOf23 rfl rfl (by omega) (by omega)) ?_
    refine RG.barP 15 [] hR rfl rfl rfl rfl rfl (by kernel_rfl) trivial (C.stO 0 Tryz.sizeOf23 rfl rfl rfl rfl rfl (by first | (rw [avU_len]; omega) | (rw [List.length_set, avU_len]; omega))) ?_
    rintro _ _ ⟨rfl, rfl⟩
    refine RG.norm rfl ?_
    refine RG.fin hR rfl ?_
    refine J.norm rfl ?_
    refine J.then_n ?_
    refine J.seq ?_
    refine J.region ?_
    refine J.q rfl rfl (Q.mv rfl) ?_
    refine J.q rfl rfl (Q.add64 rfl rfl (by omega)) ?_
    refine J.q rfl rfl (Q.asg rfl) ?_
    refine J.nil ?_
    refine J.then_n ?_
    refine J.region ?_
    refine J.q rfl rfl (Q.mv rfl) ?_
    refine J.q rfl rfl (Q.sub64 rfl rfl (by omega)) ?_
    refine J.q rfl rfl (Q.asg rfl) ?_
    refine J.nil ?_
    refine J.blk_n ?_
    refine J.conv (Y := rowU b off n c (swp d1 i j)) 0 rfl (swrU (by omega) (by omega)) ?_
    refine J.again (i + 1, j - 1, swp d1 i j) ⟨by show (swp d1 i j).size = n; rw [szU_swp, h1], by show j - 1 < n; omega, by rw [← h3]; conv => { rhs; rw [reverseLoop] }; rw [if_pos (by omega)]⟩ (by show j - 1 - (i + 1) < j - i; omega) ⟨rfl, rfl, (by show some (Value.int .i64 ((j : Int) - 1)) = some (Value.int .i64 ((j - 1 : Nat) : Int)); congr 2; omega), trivial⟩ rfl
  replace hc13 := X.nm hc13
  try (first | (cases hc13; done) | (exfalso; simp at hc13; done))
  all_goals
   refine J.cond_f rfl ?_
   refine J.exit ?_
   refine J.then_x ?_
   refine J.lp_x ?_
   refine J.blk_x ?_
   have hd : d1 = reverseRange d x e := by rw [← h3, reverseLoop, if_neg (by omega)]
   rw [hd]
   refine J.end0 (B := [_]) rfl ⟨rfl, rfl⟩ rfl
end Go.Proofs.YtdancegklkifaaaGreat
namespace Go.Proofs.YtdancegklkifaaaGreat
set_option linter.unusedSectionVars false
set_option linter.unusedSimpArgs false
set_option linter.unusedVariables false
open Go.X
open Go.Sort (swp scanUp scanDown partLoop partition partEqLoop partitionEqual partLoop_eq partEqLoop_eq scanUp_ge scanDown_le guard_of PermIn SortedIn SWO)

section plain
variable {α : Type} [Inhabited α] {p : α → Bool} {i j : Nat} {d : Array α}
theorem scanUp_go (h : i ≤ j) (hp : p d[i]! = true) : scanUp p d j (i + 1) = scanUp p d j i := by
  conv => { rhs; rw [scanUp] }
  rw [if_pos (by rw [hp]; simp; exact h)]
theorem scanUp_stop (h : ¬ i ≤ j ∨ p d[i]! = false) : scanUp p d j i = i := by
  rw [scanUp, if_neg]
  rcases h with h | h
  · simp; omega
  · simp [h]
theorem scanDown_go (h : i ≤ j) (hj : 0 < j) (hp : p d[j]! = true) : scanDown p d i (j - 1) = scanDown p d i j := by
  obtain ⟨k, rfl⟩ : ∃ k, j = k + 1 := ⟨j - 1, by omega⟩
  conv => { rhs; rw [scanDown] }
  rw [if_pos (by rw [hp]; simp; exact h)]; rfl
theorem scanDown_stop (h : ¬ i ≤ j ∨ p d[j]! = false) : scanDown p d i j = j := by
  cases j with
  | zero => rfl
  | succ k =>
    rw [scanDown, if_neg]
    rcases h with h | h
    · simp; omega
    · simp [h]
end plain

theorem partitionU (b off n c : Nat) (d : Array Nat) (x e pv : Nat) (hn : d.size = n) (hx : x ≤ pv) (hp : pv < e) (he : e ≤ n) (hs : n ≤ 1099511627776) :
    FSpec Tryz.prog 116 [.slice (some ⟨b, off, none⟩) n c, .int .i64 x, .int .i64 e, .int .i64 pv] [rowU b off n c d] (fun v B => v = .tuple #[.int .i64 ((partition ltU d x e pv).1 : Nat), .bool (partition ltU d x e pv).2.1] ∧ B = [rowU b off n c (partition ltU d x e pv).2.2]) := by
  refine FSpec.of Tryz.func116 rfl Tryz.ntmps116 rfl fun W0 F => ?_
  refine J.seq ?_
  refine J.region ?_
  refine J.q rfl rfl (Q.asg rfl) ?_
  refine J.q rfl rfl (Q.asg rfl) ?_
  refine J.nil ?_
  refine J.then_n ?_
  refine J.seq ?_
  refine J.draw [13, 15] Tryz.mixed (by kernel_rfl) fun hR => ?_
  refine RG.q 0 hR rfl rfl rfl rfl rfl rfl (Q.mv rfl) ?_
  refine RG.q 1 hR rfl rfl rfl rfl rfl rfl (Q.mv rfl) ?_
  refine RG.q 2 hR rfl rfl rfl rfl rfl rfl (Q.mv rfl) ?_
  refine RG.q 3 hR rfl rfl rfl rfl rfl rfl (Q.mv rfl) ?_
  refine RG.q 4 hR rfl rfl rfl rfl rfl rfl (Q.mv rfl) ?_
  refine RG.q 5 hR rfl rfl rfl rfl rfl rfl (Q.mv rfl) ?_
  refine RG.q 6 hR rfl rfl rfl rfl rfl rfl (Q.ia Tryz.runUnderlying60 Tryz.sizeOf23 rfl rfl (by omega) (by omega)) ?_
  refine RG.q 7 hR rfl rfl rfl rfl rfl rfl (Q.ld Tryz.isAgg23 rfl (rdU (k := 0) rfl (by omega))) ?_
  refine RG.q 8 hR rfl rfl rfl rfl rfl rfl (Q.mv rfl) ?_
  refine RG.q 9 hR rfl rfl rfl rfl rfl rfl (Q.mv rfl) ?_
  refine RG.q 10 hR rfl rfl rfl rfl rfl rfl (Q.ia Tryz.runUnderlying60 Tryz.sizeOf23 rfl rfl (by omega) (by omega)) ?_
  refine RG.q 11 hR rfl rfl rfl rfl rfl rfl (Q.ld Tryz.isAgg23 rfl (rdU (k := 0) rfl (by omega))) ?_
  refine RG.q 12 hR rfl rfl rfl rfl rfl rfl (Q.ia Tryz.runUnderlying60 Tryz.sizeOf23 rfl rfl (by omega) (by omega)) ?_
  refine RG.barP 13 [2, 3] hR rfl rfl rfl rfl rfl (by kernel_rfl) ⟨Free.q rfl rfl rfl (Q.mv rfl), ⟨Free.q rfl rfl rfl (Q.mv rfl), trivial⟩⟩ (C.stO 0 Tryz.sizeOf23 rfl rfl rfl rfl rfl (by first | (rw [avU_len]; omega) | (rw [List.length_set, avU_len]; omega))) ?_
  rintro _ _ ⟨rfl, rfl⟩
  refine RG.norm rfl ?_
  refine RG.q 14 hR rfl rfl rfl rfl rfl rfl (Q.ia Tryz.runUnderlying60 Tryz.sizeOf23 rfl rfl (by omega) (by omega)) ?_
  refine RG.barP 15 [] hR rfl rfl rfl rfl rfl (by kernel_rfl) trivial (C.stO 0 Tryz.sizeOf23 rfl rfl rfl rfl rfl (by first | (rw [avU_len]; omega) | (rw [List.length_set, avU_len]; omega))) ?_
  rintro _ _ ⟨rfl, rfl⟩
  refine RG.norm rfl ?_
  refine RG.fin hR rfl ?_
  refine J.norm rfl ?_
  refine J.then_n ?_
  refine J.seq ?_
  refine J.conv (Y := rowU b off n c (swp d x pv)) 0 rfl (swrU (by omega) (by omega)) ?_
  obtain ⟨d1, hd1⟩ : ∃ d1, d1 = swp d x pv := ⟨_, rfl⟩
  have h1 : d1.size = n := by rw [hd1, szU_swp, hn]
  rw [← hd1]
  refine J.region ?_
  refine J.q rfl rfl (Q.mv rfl) ?_
  refine J.q rfl rfl (Q.add64 rfl rfl (by omega)) ?_
  refine J.q rfl rfl (Q.mv rfl) ?_
  refine J.q rfl rfl (Q.sub64 rfl rfl (by omega)) ?_
  refine J.q rfl rfl (Q.asg rfl) ?_
  refine J.q rfl rfl (Q.asg rfl) ?_
  refine J.nil ?_
  refine J.then_n ?_
  obtain ⟨I1, hI1⟩ : ∃ I1, I1 = scanUp (fun y => ltU y d1[x]!) d1 (e - 1) (x + 1) := ⟨_, rfl⟩
  have hge := scanUp_ge (fun y => ltU y d1[x]!) d1 (e - 1) (x + 1)
  rw [← hI1] at hge
  refine J.cut (fun _ : Unit => I1 ≤ e) (fun _ => [(0, .slice (some ⟨b, off, none⟩) n c), (1, .int .i64 x), (10, .int .i64 I1), (11, .int .i64 ((e - 1 : Nat) : Int))]) (fun _ => [rowU b off n c d1, F]) ?_ fun _ hIe => ?_
  ·
   refine J.block ?_
   refine J.loop (fun i : Nat => i ≤ e ∧ scanUp (fun y => ltU y d1[x]!) d1 (e - 1) i = I1) (fun i => e - i) (fun i => [(0, .slice (some ⟨b, off, none⟩) n c), (1, .int .i64 x), (10, .int .i64 i), (11, .int .i64 ((e - 1 : Nat) : Int))]) (fun _ => [rowU b off n c d1, F]) (x + 1) ⟨by omega, hI1.symm⟩ ⟨rfl, rfl, rfl, (by show some (Value.int .i64 ((e : Int) - 1)) = some (Value.int .i64 ((e - 1 : Nat) : Int)); congr 2; omega), trivial⟩ rfl fun i hz => ?_
   obtain ⟨g1, g2⟩ := hz
   refine J.seq ?_
   refine J.seq ?_
   refine J.draw [12] Tryz.mixed (by kernel_rfl) fun hR => ?_
   refine RG.q 0 hR rfl rfl rfl rfl rfl rfl (Q.mv rfl) ?_
   refine RG.q 1 hR rfl rfl rfl rfl rfl rfl (Q.mv rfl) ?_
   refine RG.q 2 hR rfl rfl rfl rfl rfl rfl (Q.leq rfl rfl) ?_
   refine RG.q 3 hR rfl rfl rfl rfl rfl rfl (Q.mv rfl) ?_
   refine RG.cases 33 rfl (fun hb33 => ?_) (fun hb33 => ?_)
   ·
    replace hb33 := X.nm hb33
    try (first | (cases hb33; done) | (exfalso; simp at hb33; done))
    all_goals
     refine RG.q 4 hR rfl rfl rfl rfl rfl rfl (Q.mv rfl) ?_
     refine RG.q 5 hR rfl rfl rfl rfl rfl rfl (Q.mv rfl) ?_
     refine RG.q 6 hR rfl rfl rfl rfl rfl rfl (Q.ia Tryz.runUnderlying60 Tryz.sizeOf23 rfl rfl (by omega) (by omega)) ?_
     refine RG.q 7 hR rfl rfl rfl rfl rfl rfl (Q.ld Tryz.isAgg23 rfl (rdU (k := 0) rfl (by omega))) ?_
     refine RG.q 8 hR rfl rfl rfl rfl rfl rfl (Q.mv rfl) ?_
     refine RG.q 9 hR rfl rfl rfl rfl rfl rfl (Q.mv rfl) ?_
     refine RG.q 10 hR rfl rfl rfl rfl rfl rfl (Q.ia Tryz.runUnderlying60 Tryz.sizeOf23 rfl rfl (by omega) (by omega)) ?_
     refine RG.q 11 hR rfl rfl rfl rfl rfl rfl (Q.ld Tryz.isAgg23 rfl (rdU (k := 0) rfl (by omega))) ?_
     refine RG.call 12 hR rfl rfl rfl rfl rfl rfl Tryz.call114 (lessU _ _) [] rfl rfl ?_
     rintro _ _ ⟨rfl, rfl⟩
     refine RG.norm rfl ?_
     refine RG.q 13 hR rfl rfl rfl rfl rfl rfl (Q.pick_t rfl rfl) ?_
     refine RG.fin hR rfl ?_
     refine J.norm rfl ?_
     refine J.then_n ?_
     refine J.cases 43 rfl (fun hc43 => ?_) (fun hc43 => ?_)
     ·
      replace hc43 := X.nm hc43
      try (first | (cases hc43; done) | (exfalso; simp at hc43; done))
      all_goals
       refine J.cond_t rfl ?_
       refine J.cskip ?_
       refine J.then_n ?_
       refine J.block ?_
       refine J.region ?_
       refine J.q rfl rfl (Q.mv rfl) ?_
       refine J.q rfl rfl (Q.add64 rfl rfl (by omega)) ?_
       refine J.q rfl rfl (Q.asg rfl) ?_
       refine J.nil ?_
       refine J.blk_n ?_
       rw [Int.toNat_natCast, Int.toNat_natCast] at hc43
       refine J.again (i + 1) ⟨by show i + 1 ≤ e; omega, by rw [← g2]; exact scanUp_go (by omega) hc43⟩ (by show e - (i + 1) < e - i; omega) ⟨rfl, rfl, rfl, rfl, trivial⟩ rfl
     replace hc43 := X.nm hc43
     try (first | (cases hc43; done) | (exfalso; simp at hc43; done))
     all_goals
      refine J.cond_f rfl ?_
      refine J.exit ?_
      refine J.then_x ?_
      refine J.lp_x ?_
      refine J.blk_x ?_
      have hst : I1 = i := by
        rw [← g2]
        refine scanUp_stop ?_
        first
          | (left; omega)
          | (right; rw [Int.toNat_natCast, Int.toNat_natCast] at hc43; exact hc43)
      refine J.meet () (by rw [hst]; exact g1) ⟨rfl, rfl, (by rw [hst]; rfl), rfl, trivial⟩ rfl
   replace hb33 := X.nm hb33
   try (first | (cases hb33; done) | (exfalso; simp at hb33; done))
   all_goals
    refine RG.skip 4 hR rfl rfl rfl rfl rfl rfl ?_
    refine RG.skip 5 hR rfl rfl rfl rfl rfl rfl ?_
    refine RG.skip 6 hR rfl rfl rfl rfl rfl rfl ?_
    refine RG.skip 7 hR rfl rfl rfl rfl rfl rfl ?_
    refine RG.skip 8 hR rfl rfl rfl rfl rfl rfl ?_
    refine RG.skip 9 hR rfl rfl rfl rfl rfl rfl ?_
    refine RG.skip 10 hR rfl rfl rfl rfl rfl rfl ?_
    refine RG.skip 11 hR rfl rfl rfl rfl rfl rfl ?_
    refine RG.pass 12 hR rfl rfl rfl rfl rfl ?_
    refine RG.q 13 hR rfl rfl rfl rfl rfl rfl (Q.pick_f rfl rfl) ?_
    refine RG.fin hR rfl ?_
    refine J.norm rfl ?_
    refine J.then_n ?_
    refine J.cond_f rfl ?_
    refine J.exit ?_
    refine J.then_x ?_
    refine J.lp_x ?_
    refine J.blk_x ?_
    have hst : I1 = i := by
      rw [← g2]
      refine scanUp_stop ?_
      first
        | (left; omega)
        | (right; rw [Int.toNat_natCast, Int.toNat_natCast] at hc43; exact hc43)
    refine J.meet () (by rw [hst]; exact g1) ⟨rfl, rfl, (by rw [hst]; rfl), rfl, trivial⟩ rfl
  obtain ⟨J1, hJ1⟩ : ∃ J1, J1 = scanDown (fun y => !ltU y d1[x]!) d1 I1 (e - 1) := ⟨_, rfl⟩
  have hle := scanDown_le (fun y => !ltU y d1[x]!) d1 I1 (e - 1)
  rw [← hJ1] at hle
  refine J.cut (fun _ : Unit => True) (fun _ => [(0, .slice (some ⟨b, off, none⟩) n c), (1, .int .i64 x), (10, .int .i64 I1), (11, .int .i64 J1)]) (fun _ => [rowU b off n c d1, F]) ?_ fun _ _ => ?_
  ·
   refine J.block ?_
   refine J.loop (fun j : Nat => j < e ∧ scanDown (fun y => !ltU y d1[x]!) d1 I1 j = J1) (fun j => j) (fun j => [(0, .slice (some ⟨b, off, none⟩) n c), (1, .int .i64 x), (10, .int .i64 I1), (11, .int .i64 j)]) (fun _ => [rowU b off n c d1, F]) (e - 1) ⟨by omega, hJ1.symm⟩ ⟨rfl, rfl, rfl, rfl, trivial⟩ rfl fun j hz => ?_
   obtain ⟨g1, g2⟩ := hz
   refine J.seq ?_
   refine J.seq ?_
   refine J.draw [12] Tryz.mixed (by kernel_rfl) fun hR => ?_
   refine RG.q 0 hR rfl rfl rfl rfl rfl rfl (Q.mv rfl) ?_
   refine RG.q 1 hR rfl rfl rfl rfl rfl rfl (Q.mv rfl) ?_
   refine RG.q 2 hR rfl rfl rfl rfl rfl rfl (Q.leq rfl rfl) ?_
   refine RG.q 3 hR rfl rfl rfl rfl rfl rfl (Q.mv rfl) ?_
   refine RG.cases 49 rfl (fun hb49 => ?_) (fun hb49 => ?_)
   ·
    replace hb49 := X.nm hb49
    try (first | (cases hb49; done) | (exfalso; simp at hb49; done))
    all_goals
     refine RG.q 4 hR rfl rfl rfl rfl rfl rfl (Q.mv rfl) ?_
     refine RG.q 5 hR rfl rfl rfl rfl rfl rfl (Q.mv rfl) ?_
     refine RG.q 6 hR rfl rfl rfl rfl rfl rfl (Q.ia Tryz.runUnderlying60 Tryz.sizeOf23 rfl rfl (by omega) (by omega)) ?_
     refine RG.q 7 hR rfl rfl rfl rfl rfl rfl (Q.ld Tryz.isAgg23 rfl (rdU (k := 0) rfl (by omega))) ?_
     refine RG.q 8 hR rfl rfl rfl rfl rfl rfl (Q.mv rfl) ?_
     refine RG.q 9 hR rfl rfl rfl rfl rfl rfl (Q.mv rfl) ?_
     refine RG.q 10 hR rfl rfl rfl rfl rfl rfl (Q.ia Tryz.runUnderlying60 Tryz.sizeOf23 rfl rfl (by omega) (by omega)) ?_
     refine RG.q 11 hR rfl rfl rfl rfl rfl rfl (Q.ld Tryz.isAgg23 rfl (rdU (k := 0) rfl (by omega))) ?_
     refine RG.call 12 hR rfl rfl rfl rfl rfl rfl Tryz.call114 (lessU _ _) [] rfl rfl ?_
     rintro _ _ ⟨rfl, rfl⟩
     refine RG.norm rfl ?_
     refine RG.q 13 hR rfl rfl rfl rfl rfl rfl (Q.not rfl) ?_
     refine RG.q 14 hR rfl rfl rfl rfl rfl rfl (Q.pick_t rfl rfl) ?_
     refine RG.fin hR rfl ?_
     refine J.norm rfl ?_
     refine J.then_n ?_
     refine J.cases 60 rfl (fun hc60 => ?_) (fun hc60 => ?_)
     ·
      replace hc60 := X.nm hc60
      try (first | (cases hc60; done) | (exfalso; simp at hc60; done))
      all_goals
       refine J.cond_t rfl ?_
       refine J.cskip ?_
       refine J.then_n ?_
       refine J.block ?_
       refine J.region ?_
       refine J.q rfl rfl (Q.mv rfl) ?_
       refine J.q rfl rfl (Q.sub64 rfl rfl (by omega)) ?_
       refine J.q rfl rfl (Q.asg rfl) ?_
       refine J.nil ?_
       refine J.blk_n ?_
       rw [Int.toNat_natCast, Int.toNat_natCast] at hc60
       refine J.again (j - 1) ⟨by show j - 1 < e; omega, by rw [← g2]; exact scanDown_go (by omega) (by omega) hc60⟩ (by show j - 1 < j; omega) ⟨rfl, rfl, rfl, (by show some (Value.int .i64 ((j : Int) - 1)) = some (Value.int .i64 ((j - 1 : Nat) : Int)); congr 2; omega), trivial⟩ rfl
     replace hc60 := X.nm hc60
     try (first | (cases hc60; done) | (exfalso; simp at hc60; done))
     all_goals
      refine J.cond_f rfl ?_
      refine J.exit ?_
      refine J.then_x ?_
      refine J.lp_x ?_
      refine J.blk_x ?_
      have hst : J1 = j := by
        rw [← g2]
        refine scanDown_stop ?_
        first
          | (left; omega)
          | (right; rw [Int.toNat_natCast, Int.toNat_natCast] at hc60; exact hc60)
      refine J.meet () trivial ⟨rfl, rfl, rfl, (by rw [hst]; rfl), trivial⟩ rfl
   replace hb49 := X.nm hb49
   try (first | (cases hb49; done) | (exfalso; simp at hb49; done))
   all_goals
    refine RG.skip 4 hR rfl rfl rfl rfl rfl rfl ?_
    refine RG.skip 5 hR rfl rfl rfl rfl rfl rfl ?_
    refine RG.skip 6 hR rfl rfl rfl rfl rfl rfl ?_
    refine RG.skip 7 hR rfl rfl rfl rfl rfl rfl ?_
    refine RG.skip 8 hR rfl rfl rfl rfl rfl rfl ?_
    refine RG.skip 9 hR rfl rfl rfl rfl rfl rfl ?_
    refine RG.skip 10 hR rfl rfl rfl rfl rfl rfl ?_
    refine RG.skip 11 hR rfl rfl rfl rfl rfl rfl ?_
    refine RG.pass 12 hR rfl rfl rfl rfl rfl ?_
    refine RG.skip 13 hR rfl rfl rfl rfl rfl rfl ?_
    refine RG.q 14 hR rfl rfl rfl rfl rfl rfl (Q.pick_f rfl rfl) ?_
    refine RG.fin hR rfl ?_
    refine J.norm rfl ?_
    refine J.then_n ?_
    refine J.cond_f rfl ?_
    refine J.exit ?_
    refine J.then_x ?_
    refine J.lp_x ?_
    refine J.blk_x ?_
    have hst : J1 = j := by
      rw [← g2]
      refine scanDown_stop ?_
      first
        | (left; omega)
        | (right; rw [Int.toNat_natCast, Int.toNat_natCast] at hc60; exact hc60)
    refine J.meet () trivial ⟨rfl, rfl, rfl, (by rw [hst]; rfl), trivial⟩ rfl
  refine J.seq ?_
  refine J.seq ?_
  have hP : partition ltU d x e pv = if I1 > J1 then (J1, true, swp d1 J1 x) else ((partLoop ltU x (I1 + 1) (J1 - 1) (swp d1 I1 J1)).1, false, swp (partLoop ltU x (I1 + 1) (J1 - 1) (swp d1 I1 J1)).2 (partLoop ltU x (I1 + 1) (J1 - 1) (swp d1 I1 J1)).1 x) := by
    unfold partition
    simp only [← hd1, ← hI1, ← hJ1]
  refine J.region ?_
  refine J.q rfl rfl (Q.mv rfl) ?_
  refine J.q rfl rfl (Q.mv rfl) ?_
  refine J.q rfl rfl (Q.gtr rfl rfl) ?_
  refine J.nil ?_
  refine J.then_n ?_
  refine J.cases 65 rfl (fun hc65 => ?_) (fun hc65 => ?_)
  ·
   replace hc65 := X.nm hc65
   try (first | (cases hc65; done) | (exfalso; simp at hc65; done))
   all_goals
    refine J.cond_t rfl ?_
    refine J.seq ?_
    refine J.draw [13, 15] Tryz.mixed (by kernel_rfl) fun hR => ?_
    refine RG.q 0 hR rfl rfl rfl rfl rfl rfl (Q.mv rfl) ?_
    refine RG.q 1 hR rfl rfl rfl rfl rfl rfl (Q.mv rfl) ?_
    refine RG.q 2 hR rfl rfl rfl rfl rfl rfl (Q.mv rfl) ?_
    refine RG.q 3 hR rfl rfl rfl rfl rfl rfl (Q.mv rfl) ?_
    refine RG.q 4 hR rfl rfl rfl rfl rfl rfl (Q.mv rfl) ?_
    refine RG.q 5 hR rfl rfl rfl rfl rfl rfl (Q.mv rfl) ?_
    refine RG.q 6 hR rfl rfl rfl rfl rfl rfl (Q.ia Tryz.runUnderlying60 Tryz.sizeOf23 rfl rfl (by omega) (by omega)) ?_
    refine RG.q 7 hR rfl rfl rfl rfl rfl rfl (Q.ld Tryz.isAgg23 rfl (rdU (k := 0) rfl (by omega))) ?_
    refine RG.q 8 hR rfl rfl rfl rfl rfl rfl (Q.mv rfl) ?_
    refine RG.q 9 hR rfl rfl rfl rfl rfl rfl (Q.mv rfl) ?_
    refine RG.q 10 hR rfl rfl rfl rfl rfl rfl (Q.ia Tryz.runUnderlying60 Tryz.sizeOf23 rfl rfl (by omega) (by omega)) ?_
    refine RG.q 11 hR rfl rfl rfl rfl rfl rfl (Q.ld Tryz.isAgg23 rfl (rdU (k := 0) rfl (by omega))) ?_
    refine RG.q 12 hR rfl rfl rfl rfl rfl rfl (Q.ia Tryz.runUnderlying60 Tryz.sizeOf23 rfl rfl (by omega) (by omega)) ?_
    refine RG.barP 13 [2, 3] hR rfl rfl rfl rfl rfl (by kernel_rfl) ⟨Free.q rfl rfl rfl (Q.mv rfl), ⟨Free.q rfl rfl rfl (Q.mv rfl), trivial⟩⟩ (C.stO 0 Tryz.sizeOf23 rfl rfl rfl rfl rfl (by first | (rw [avU_len]; omega) | (rw [List.length_set, avU_len]; omega))) ?_
    rintro _ _ ⟨rfl, rfl⟩
    refine RG.norm rfl ?_
    refine RG.q 14 hR rfl rfl rfl rfl rfl rfl (Q.ia Tryz.runUnderlying60 Tryz.sizeOf23 rfl rfl (by omega) (by omega)) ?_
    refine RG.barP 15 [] hR rfl rfl rfl rfl rfl (by kernel_rfl) trivial (C.stO 0 Tryz.sizeOf23 rfl rfl rfl rfl rfl (by first | (rw [avU_len]; omega) | (rw [List.length_set, avU_len]; omega))) ?_
    rintro _ _ ⟨rfl, rfl⟩
    refine RG.norm rfl ?_
    refine RG.fin hR rfl ?_
    refine J.norm rfl ?_
    refine J.then_n ?_
    refine J.seq ?_
    refine J.region ?_
    refine J.q rfl rfl (Q.mv rfl) ?_
    refine J.q rfl rfl (Q.asg rfl) ?_
    refine J.q rfl rfl (Q.asg rfl) ?_
    refine J.nil ?_
    refine J.then_n ?_
    refine J.cret ?_
    refine J.then_r ?_
    refine J.conv (Y := rowU b off n c (swp d1 J1 x)) 0 rfl (swrU (by omega) (by omega)) ?_
    rw [hP, if_pos (by omega)]
    refine J.ret2 (B := [_]) rfl rfl rfl ⟨rfl, rfl⟩ rfl
  replace hc65 := X.nm hc65
  try (first | (cases hc65; done) | (exfalso; simp at hc65; done))
  all_goals
   refine J.cond_f rfl ?_
   refine J.cskip ?_
   refine J.then_n ?_
   refine J.seq ?_
   refine J.draw [13, 15] Tryz.mixed (by kernel_rfl) fun hR => ?_
   refine RG.q 0 hR rfl rfl rfl rfl rfl rfl (Q.mv rfl) ?_
   refine RG.q 1 hR rfl rfl rfl rfl rfl rfl (Q.mv rfl) ?_
   refine RG.q 2 hR rfl rfl rfl rfl rfl rfl (Q.mv rfl) ?_
   refine RG.q 3 hR rfl rfl rfl rfl rfl rfl (Q.mv rfl) ?_
   refine RG.q 4 hR rfl rfl rfl rfl rfl rfl (Q.mv rfl) ?_
   refine RG.q 5 hR rfl rfl rfl rfl rfl rfl (Q.mv rfl) ?_
   refine RG.q 6 hR rfl rfl rfl rfl rfl rfl (Q.ia Tryz.runUnderlying60 Tryz.sizeOf23 rfl rfl (by omega) (by omega)) ?_
   refine RG.q 7 hR rfl rfl rfl rfl rfl rfl (Q.ld Tryz.isAgg23 rfl (rdU (k := 0) rfl (by omega))) ?_
   refine RG.q 8 hR rfl rfl rfl rfl rfl rfl (Q.mv rfl) ?_
   refine RG.q 9 hR rfl rfl rfl rfl rfl rfl (Q.mv rfl) ?_
   refine RG.q 10 hR rfl rfl rfl rfl rfl rfl (Q.ia Tryz.runUnderlying60 Tryz.sizeOf23 rfl rfl (by omega) (by omega)) ?_
   refine RG.q 11 hR rfl rfl rfl rfl rfl rfl (Q.ld Tryz.isAgg23 rfl (rdU (k := 0) rfl (by omega))) ?_
   refine RG.q 12 hR rfl rfl rfl rfl rfl rfl (Q.ia Tryz.runUnderlying60 Tryz.sizeOf23 rfl rfl (by omega) (by omega)) ?_
   refine RG.barP 13 [2, 3] hR rfl rfl rfl rfl rfl (by kernel_rfl) ⟨Free.q rfl rfl rfl (Q.mv rfl), ⟨Free.q rfl rfl rfl (Q.mv rfl), trivial⟩⟩ (C.stO 0 Tryz.sizeOf23 rfl rfl rfl rfl rfl (by first | (rw [avU_len]; omega) | (rw [List.length_set, avU_len]; omega))) ?_
   rintro _ _ ⟨rfl, rfl⟩
   refine RG.norm rfl ?_
   refine RG.q 14 hR rfl rfl rfl rfl rfl rfl (Q.ia Tryz.runUnderlying60 Tryz.sizeOf23 rfl rfl (by omega) (by omega)) ?_
   refine RG.barP 15 [] hR rfl rfl rfl rfl rfl (by kernel_rfl) trivial (C.stO 0 Tryz.sizeOf23 rfl rfl rfl rfl rfl (by first | (rw [avU_len]; omega) | (rw [List.length_set, avU_len]; omega))) ?_
   rintro _ _ ⟨rfl, rfl⟩
   refine RG.norm rfl ?_
   refine RG.fin hR rfl ?_
   refine J.norm rfl ?_
   refine J.then_n ?_
   refine J.seq ?_
   refine J.conv (Y := rowU b off n c (swp d1 I1 J1)) 0 rfl (swrU (by omega) (by omega)) ?_
   obtain ⟨PL, hPL⟩ : ∃ PL, PL = partLoop ltU x (I1 + 1) (J1 - 1) (swp d1 I1 J1) := ⟨_, rfl⟩
   rw [if_neg (by omega), ← hPL] at hP
   refine J.region ?_
   refine J.q rfl rfl (Q.mv rfl) ?_
   refine J.q rfl rfl (Q.add64 rfl rfl (by omega)) ?_
   refine J.q rfl rfl (Q.asg rfl) ?_
   refine J.nil ?_
   refine J.then_n ?_
   refine J.seq ?_
   refine J.region ?_
   refine J.q rfl rfl (Q.mv rfl) ?_
   refine J.q rfl rfl (Q.sub64 rfl rfl (by omega)) ?_
   refine J.q rfl rfl (Q.asg rfl) ?_
   refine J.nil ?_
   refine J.then_n ?_
   refine J.seq ?_
   refine J.block ?_
   refine J.loop3 (fun (i j : Nat) (d2 : Array Nat) => d2.size = n ∧ x < i ∧ i ≤ e ∧ j < e ∧ partLoop ltU x i j d2 = PL) (fun i j _ => j + 1 - i) (fun i j _ => [(0, .slice (some ⟨b, off, none⟩) n c), (1, .int .i64 x), (10, .int .i64 i), (11, .int .i64 j)]) (fun _ _ d2 => [rowU b off n c d2, F]) (I1 + 1) (J1 - 1) (swp d1 I1 J1) ⟨by rw [szU_swp, h1], by omega, by omega, by omega, hPL.symm⟩ ⟨rfl, rfl, rfl, (by show some (Value.int .i64 ((J1 : Int) - 1)) = some (Value.int .i64 ((J1 - 1 : Nat) : Int)); congr 2; omega), trivial⟩ rfl fun i j d2 hz => ?_
   obtain ⟨k1, k2, k3, k4, k5⟩ := hz
   have hq := partLoop_eq ltU x i j d2
   refine J.block ?_
   obtain ⟨I2, hI2⟩ : ∃ I2, I2 = scanUp (fun y => ltU y d2[x]!) d2 j i := ⟨_, rfl⟩
   have hge2 := scanUp_ge (fun y => ltU y d2[x]!) d2 j i
   rw [← hI2] at hge2 hq
   refine J.cut (fun _ : Unit => I2 ≤ e) (fun _ => [(0, .slice (some ⟨b, off, none⟩) n c), (1, .int .i64 x), (10, .int .i64 I2), (11, .int .i64 j)]) (fun _ => [rowU b off n c d2, F]) ?_ fun _ hIe2 => ?_
   ·
    refine J.block ?_
    refine J.loop (fun i' : Nat => i' ≤ e ∧ scanUp (fun y => ltU y d2[x]!) d2 j i' = I2) (fun i' => e - i') (fun i' => [(0, .slice (some ⟨b, off, none⟩) n c), (1, .int .i64 x), (10, .int .i64 i'), (11, .int .i64 j)]) (fun _ => [rowU b off n c d2, F]) i ⟨k3, hI2.symm⟩ ⟨rfl, rfl, rfl, rfl, trivial⟩ rfl fun i' hz => ?_
    obtain ⟨g1, g2⟩ := hz
    refine J.seq ?_
    refine J.seq ?_
    refine J.draw [12] Tryz.mixed (by kernel_rfl) fun hR => ?_
    refine RG.q 0 hR rfl rfl rfl rfl rfl rfl (Q.mv rfl) ?_
    refine RG.q 1 hR rfl rfl rfl rfl rfl rfl (Q.mv rfl) ?_
    refine RG.q 2 hR rfl rfl rfl rfl rfl rfl (Q.leq rfl rfl) ?_
    refine RG.q 3 hR rfl rfl rfl rfl rfl rfl (Q.mv rfl) ?_
    refine RG.cases 102 rfl (fun hb102 => ?_) (fun hb102 => ?_)
    ·
     replace hb102 := X.nm hb102
     try (first | (cases hb102; done) | (exfalso; simp at hb102; done))
     all_goals
      refine RG.q 4 hR rfl rfl rfl rfl rfl rfl (Q.mv rfl) ?_
      refine RG.q 5 hR rfl rfl rfl rfl rfl rfl (Q.mv rfl) ?_
      refine RG.q 6 hR rfl rfl rfl rfl rfl rfl (Q.ia Tryz.runUnderlying60 Tryz.sizeOf23 rfl rfl (by omega) (by omega)) ?_
      refine RG.q 7 hR rfl rfl rfl rfl rfl rfl (Q.ld Tryz.isAgg23 rfl (rdU (k := 0) rfl (by omega))) ?_
      refine RG.q 8 hR rfl rfl rfl rfl rfl rfl (Q.mv rfl) ?_
      refine RG.q 9 hR rfl rfl rfl rfl rfl rfl (Q.mv rfl) ?_
      refine RG.q 10 hR rfl rfl rfl rfl rfl rfl (Q.ia Tryz.runUnderlying60 Tryz.sizeOf23 rfl rfl (by omega) (by omega)) ?_
      refine RG.q 11 hR rfl rfl rfl rfl rfl rfl (Q.ld Tryz.isAgg23 rfl (rdU (k := 0) rfl (by omega))) ?_
      refine RG.call 12 hR rfl rfl rfl rfl rfl rfl Tryz.call114 (lessU _ _) [] rfl rfl ?_
      rintro _ _ ⟨rfl, rfl⟩
      refine RG.norm rfl ?_
      refine RG.q 13 hR rfl rfl rfl rfl rfl rfl (Q.pick_t rfl rfl) ?_
      refine RG.fin hR rfl ?_
      refine J.norm rfl ?_
      refine J.then_n ?_
      refine J.cases 112 rfl (fun hc112 => ?_) (fun hc112 => ?_)
      ·
       replace hc112 := X.nm hc112
       try (first | (cases hc112; done) | (exfalso; simp at hc112; done))
       all_goals
        refine J.cond_t rfl ?_
        refine J.cskip ?_
        refine J.then_n ?_
        refine J.block ?_
        refine J.region ?_
        refine J.q rfl rfl (Q.mv rfl) ?_
        refine J.q rfl rfl (Q.add64 rfl rfl (by omega)) ?_
        refine J.q rfl rfl (Q.asg rfl) ?_
        refine J.nil ?_
        refine J.blk_n ?_
        rw [Int.toNat_natCast, Int.toNat_natCast] at hc112
        refine J.again (i' + 1) ⟨by show i' + 1 ≤ e; omega, by rw [← g2]; exact scanUp_go (by omega) hc112⟩ (by show e - (i' + 1) < e - i'; omega) ⟨rfl, rfl, rfl, rfl, trivial⟩ rfl
      replace hc112 := X.nm hc112
      try (first | (cases hc112; done) | (exfalso; simp at hc112; done))
      all_goals
       refine J.cond_f rfl ?_
       refine J.exit ?_
       refine J.then_x ?_
       refine J.lp_x ?_
       refine J.blk_x ?_
       have hst : I2 = i' := by
         rw [← g2]
         refine scanUp_stop ?_
         first
           | (left; omega)
           | (right; rw [Int.toNat_natCast, Int.toNat_natCast] at hc112; exact hc112)
       refine J.meet () (by rw [hst]; exact g1) ⟨rfl, rfl, (by rw [hst]; rfl), rfl, trivial⟩ rfl
    replace hb102 := X.nm hb102
    try (first | (cases hb102; done) | (exfalso; simp at hb102; done))
    all_goals
     refine RG.skip 4 hR rfl rfl rfl rfl rfl rfl ?_
     refine RG.skip 5 hR rfl rfl rfl rfl rfl rfl ?_
     refine RG.skip 6 hR rfl rfl rfl rfl rfl rfl ?_
     refine RG.skip 7 hR rfl rfl rfl rfl rfl rfl ?_
     refine RG.skip 8 hR rfl rfl rfl rfl rfl rfl ?_
     refine RG.skip 9 hR rfl rfl rfl rfl rfl rfl ?_
     refine RG.skip 10 hR rfl rfl rfl rfl rfl rfl ?_
     refine RG.skip 11 hR rfl rfl rfl rfl rfl rfl ?_
     refine RG.pass 12 hR rfl rfl rfl rfl rfl ?_
     refine RG.q 13 hR rfl rfl rfl rfl rfl rfl (Q.pick_f rfl rfl) ?_
     refine RG.fin hR rfl ?_
     refine J.norm rfl ?_
     refine J.then_n ?_
     refine J.cond_f rfl ?_
     refine J.exit ?_
     refine J.then_x ?_
     refine J.lp_x ?_
     refine J.blk_x ?_
     have hst : I2 = i' := by
       rw [← g2]
       refine scanUp_stop ?_
       first
         | (left; omega)
         | (right; rw [Int.toNat_natCast, Int.toNat_natCast] at hc112; exact hc112)
     refine J.meet () (by rw [hst]; exact g1) ⟨rfl, rfl, (by rw [hst]; rfl), rfl, trivial⟩ rfl
   obtain ⟨J2, hJ2⟩ : ∃ J2, J2 = scanDown (fun y => !ltU y d2[x]!) d2 I2 j := ⟨_, rfl⟩
   have hle2 := scanDown_le (fun y => !ltU y d2[x]!) d2 I2 j
   rw [← hJ2] at hle2 hq
   refine J.cut (fun _ : Unit => True) (fun _ => [(0, .slice (some ⟨b, off, none⟩) n c), (1, .int .i64 x), (10, .int .i64 I2), (11, .int .i64 J2)]) (fun _ => [rowU b off n c d2, F]) ?_ fun _ _ => ?_
   ·
    refine J.block ?_
    refine J.loop (fun j' : Nat => j' < e ∧ scanDown (fun y => !ltU y d2[x]!) d2 I2 j' = J2) (fun j' => j') (fun j' => [(0, .slice (some ⟨b, off, none⟩) n c), (1, .int .i64 x), (10, .int .i64 I2), (11, .int .i64 j')]) (fun _ => [rowU b off n c d2, F]) j ⟨k4, hJ2.symm⟩ ⟨rfl, rfl, rfl, rfl, trivial⟩ rfl fun j' hz => ?_
    obtain ⟨g1, g2⟩ := hz
    refine J.seq ?_
    refine J.seq ?_
    refine J.draw [12] Tryz.mixed (by kernel_rfl) fun hR => ?_
    refine RG.q 0 hR rfl rfl rfl rfl rfl rfl (Q.mv rfl) ?_
    refine RG.q 1 hR rfl rfl rfl rfl rfl rfl (Q.mv rfl) ?_
    refine RG.q 2 hR rfl rfl rfl rfl rfl rfl (Q.leq rfl rfl) ?_
    refine RG.q 3 hR rfl rfl rfl rfl rfl rfl (Q.mv rfl) ?_
    refine RG.cases 118 rfl (fun hb118 => ?_) (fun hb118 => ?_)
    ·
     replace hb118 := X.nm hb118
     try (first | (cases hb118; done) | (exfalso; simp at hb118; done))
     all_goals
      refine RG.q 4 hR rfl rfl rfl rfl rfl rfl (Q.mv rfl) ?_
      refine RG.q 5 hR rfl rfl rfl rfl rfl rfl (Q.mv rfl) ?_
      refine RG.q 6 hR rfl rfl rfl rfl rfl rfl (Q.ia Tryz.runUnderlying60 Tryz.sizeOf23 rfl rfl (by omega) (by omega)) ?_
      refine RG.q 7 hR rfl rfl rfl rfl rfl rfl (Q.ld Tryz.isAgg23 rfl (rdU (k := 0) rfl (by omega))) ?_
      refine RG.q 8 hR rfl rfl rfl rfl rfl rfl (Q.mv rfl) ?_
      refine RG.q 9 hR rfl rfl rfl rfl rfl rfl (Q.mv rfl) ?_
      refine RG.q 10 hR rfl rfl rfl rfl rfl rfl (Q.ia Tryz.runUnderlying60 Tryz.sizeOf23 rfl rfl (by omega) (by omega)) ?_
      refine RG.q 11 hR rfl rfl rfl rfl rfl rfl (Q.ld Tryz.isAgg23 rfl (rdU (k := 0) rfl (by omega))) ?_
      refine RG.call 12 hR rfl rfl rfl rfl rfl rfl Tryz.call114 (lessU _ _) [] rfl rfl ?_
      rintro _ _ ⟨rfl, rfl⟩
      refine RG.norm rfl ?_
      refine RG.q 13 hR rfl rfl rfl rfl rfl rfl (Q.not rfl) ?_
      refine RG.q 14 hR rfl rfl rfl rfl rfl rfl (Q.pick_t rfl rfl) ?_
      refine RG.fin hR rfl ?_
      refine J.norm rfl ?_
      refine J.then_n ?_
      refine J.cases 129 rfl (fun hc129 => ?_) (fun hc129 => ?_)
      ·
       replace hc129 := X.nm hc129
       try (first | (cases hc129; done) | (exfalso; simp at hc129; done))
       all_goals
        refine J.cond_t rfl ?_
        refine J.cskip ?_
        refine J.then_n ?_
        refine J.block ?_
        refine J.region ?_
        refine J.q rfl rfl (Q.mv rfl) ?_
        refine J.q rfl rfl (Q.sub64 rfl rfl (by omega)) ?_
        refine J.q rfl rfl (Q.asg rfl) ?_
        refine J.nil ?_
        refine J.blk_n ?_
        rw [Int.toNat_natCast, Int.toNat_natCast] at hc129
        refine J.again (j' - 1) ⟨by show j' - 1 < e; omega, by rw [← g2]; exact scanDown_go (by omega) (by omega) hc129⟩ (by show j' - 1 < j'; omega) ⟨rfl, rfl, rfl, (by show some (Value.int .i64 ((j' : Int) - 1)) = some (Value.int .i64 ((j' - 1 : Nat) : Int)); congr 2; omega), trivial⟩ rfl
      replace hc129 := X.nm hc129
      try (first | (cases hc129; done) | (exfalso; simp at hc129; done))
      all_goals
       refine J.cond_f rfl ?_
       refine J.exit ?_
       refine J.then_x ?_
       refine J.lp_x ?_
       refine J.blk_x ?_
       have hst : J2 = j' := by
         rw [← g2]
         refine scanDown_stop ?_
         first
           | (left; omega)
           | (right; rw [Int.toNat_natCast, Int.toNat_natCast] at hc129; exact hc129)
       refine J.meet () trivial ⟨rfl, rfl, rfl, (by rw [hst]; rfl), trivial⟩ rfl
    replace hb118 := X.nm hb118
    try (first | (cases hb118; done) | (exfalso; simp at hb118; done))
    all_goals
     refine RG.skip 4 hR rfl rfl rfl rfl rfl rfl ?_
     refine RG.skip 5 hR rfl rfl rfl rfl rfl rfl ?_
     refine RG.skip 6 hR rfl rfl rfl rfl rfl rfl ?_
     refine RG.skip 7 hR rfl rfl rfl rfl rfl rfl ?_
     refine RG.skip 8 hR rfl rfl rfl rfl rfl rfl ?_
     refine RG.skip 9 hR rfl rfl rfl rfl rfl rfl ?_
     refine RG.skip 10 hR rfl rfl rfl rfl rfl rfl ?_
     refine RG.skip 11 hR rfl rfl rfl rfl rfl rfl ?_
     refine RG.pass 12 hR rfl rfl rfl rfl rfl ?_
     refine RG.skip 13 hR rfl rfl rfl rfl rfl rfl ?_
     refine RG.q 14 hR rfl rfl rfl rfl rfl rfl (Q.pick_f rfl rfl) ?_
     refine RG.fin hR rfl ?_
     refine J.norm rfl ?_
     refine J.then_n ?_
     refine J.cond_f rfl ?_
     refine J.exit ?_
     refine J.then_x ?_
     refine J.lp_x ?_
     refine J.blk_x ?_
     have hst : J2 = j' := by
       rw [← g2]
       refine scanDown_stop ?_
       first
         | (left; omega)
         | (right; rw [Int.toNat_natCast, Int.toNat_natCast] at hc129; exact hc129)
     refine J.meet () trivial ⟨rfl, rfl, rfl, (by rw [hst]; rfl), trivial⟩ rfl
   refine J.seq ?_
   refine J.seq ?_
   refine J.region ?_
   refine J.q rfl rfl (Q.mv rfl) ?_
   refine J.q rfl rfl (Q.mv rfl) ?_
   refine J.q rfl rfl (Q.gtr rfl rfl) ?_
   refine J.nil ?_
   refine J.then_n ?_
   refine J.cases 134 rfl (fun hc134 => ?_) (fun hc134 => ?_)
   ·
    replace hc134 := X.nm hc134
    try (first | (cases hc134; done) | (exfalso; simp at hc134; done))
    all_goals
     refine J.cond_t rfl ?_
     refine J.exit ?_
     refine J.then_x ?_
     refine J.blk_o rfl ?_
     refine J.lp_x ?_
     refine J.blk_x ?_
     refine J.then_n ?_
     refine J.seq ?_
     rw [if_pos (by omega)] at hq
     have hfin : PL = (J2, d2) := by rw [← k5, hq]
     rw [hfin] at hP
     refine J.draw [13, 15] Tryz.mixed (by kernel_rfl) fun hR => ?_
     refine RG.q 0 hR rfl rfl rfl rfl rfl rfl (Q.mv rfl) ?_
     refine RG.q 1 hR rfl rfl rfl rfl rfl rfl (Q.mv rfl) ?_
     refine RG.q 2 hR rfl rfl rfl rfl rfl rfl (Q.mv rfl) ?_
     refine RG.q 3 hR rfl rfl rfl rfl rfl rfl (Q.mv rfl) ?_
     refine RG.q 4 hR rfl rfl rfl rfl rfl rfl (Q.mv rfl) ?_
     refine RG.q 5 hR rfl rfl rfl rfl rfl rfl (Q.mv rfl) ?_
     refine RG.q 6 hR rfl rfl rfl rfl rfl rfl (Q.ia Tryz.runUnderlying60 Tryz.sizeOf23 rfl rfl (by omega) (by omega)) ?_
     refine RG.q 7 hR rfl rfl rfl rfl rfl rfl (Q.ld Tryz.isAgg23 rfl (rdU (k := 0) rfl (by omega))) ?_
     refine RG.q 8 hR rfl rfl rfl rfl rfl rfl (Q.mv rfl) ?_
     refine RG.q 9 hR rfl rfl rfl rfl rfl rfl (Q.mv rfl) ?_
     refine RG.q 10 hR rfl rfl rfl rfl rfl rfl (Q.ia Tryz.runUnderlying60 Tryz.sizeOf23 rfl rfl (by omega) (by omega)) ?_
     refine RG.q 11 hR rfl rfl rfl rfl rfl rfl (Q.ld Tryz.isAgg23 rfl (rdU (k := 0) rfl (by omega))) ?_
     refine RG.q 12 hR rfl rfl rfl rfl rfl rfl (Q.ia Tryz.runUnderlying60 Tryz.sizeOf23 rfl rfl (by omega) (by omega)) ?_
     refine RG.barP 13 [2, 3] hR rfl rfl rfl rfl rfl (by kernel_rfl) ⟨Free.q rfl rfl rfl (Q.mv rfl), ⟨Free.q rfl rfl rfl (Q.mv rfl), trivial⟩⟩ (C.stO 0 Tryz.sizeOf23 rfl rfl rfl rfl rfl (by first | (rw [avU_len]; omega) | (rw [List.length_set, avU_len]; omega))) ?_
     rintro _ _ ⟨rfl, rfl⟩
     refine RG.norm rfl ?_
     refine RG.q 14 hR rfl rfl rfl rfl rfl rfl (Q.ia Tryz.runUnderlying60 Tryz.sizeOf23 rfl rfl (by omega) (by omega)) ?_
     refine RG.barP 15 [] hR rfl rfl rfl rfl rfl (by kernel_rfl) trivial (C.stO 0 Tryz.sizeOf23 rfl rfl rfl rfl rfl (by first | (rw [avU_len]; omega) | (rw [List.length_set, avU_len]; omega))) ?_
     rintro _ _ ⟨rfl, rfl⟩
     refine RG.norm rfl ?_
     refine RG.fin hR rfl ?_
     refine J.norm rfl ?_
     refine J.then_n ?_
     refine J.seq ?_
     refine J.region ?_
     refine J.q rfl rfl (Q.mv rfl) ?_
     refine J.q rfl rfl (Q.asg rfl) ?_
     refine J.q rfl rfl (Q.asg rfl) ?_
     refine J.nil ?_
     refine J.then_n ?_
     refine J.cret ?_
     refine J.conv (Y := rowU b off n c (swp d2 J2 x)) 0 rfl (swrU (by omega) (by omega)) ?_
     rw [hP]
     refine J.ret2 (B := [_]) rfl rfl rfl ⟨rfl, rfl⟩ rfl
   replace hc134 := X.nm hc134
   try (first | (cases hc134; done) | (exfalso; simp at hc134; done))
   all_goals
    refine J.cond_f rfl ?_
    refine J.cskip ?_
    refine J.then_n ?_
    refine J.seq ?_
    refine J.draw [13, 15] Tryz.mixed (by kernel_rfl) fun hR => ?_
    refine RG.q 0 hR rfl rfl rfl rfl rfl rfl (Q.mv rfl) ?_
    refine RG.q 1 hR rfl rfl rfl rfl rfl rfl (Q.mv rfl) ?_
    refine RG.q 2 hR rfl rfl rfl rfl rfl rfl (Q.mv rfl) ?_
    refine RG.q 3 hR rfl rfl rfl rfl rfl rfl (Q.mv rfl) ?_
    refine RG.q 4 hR rfl rfl rfl rfl rfl rfl (Q.mv rfl) ?_
    refine RG.q 5 hR rfl rfl rfl rfl rfl rfl (Q.mv rfl) ?_
    refine RG.q 6 hR rfl rfl rfl rfl rfl rfl (Q.ia Tryz.runUnderlying60 Tryz.sizeOf23 rfl rfl (by omega) (by omega)) ?_
    refine RG.q 7 hR rfl rfl rfl rfl rfl rfl (Q.ld Tryz.isAgg23 rfl (rdU (k := 0) rfl (by omega))) ?_
    refine RG.q 8 hR rfl rfl rfl rfl rfl rfl (Q.mv rfl) ?_
    refine RG.q 9 hR rfl rfl rfl rfl rfl rfl (Q.mv rfl) ?_
    refine RG.q 10 hR rfl rfl rfl rfl rfl rfl (Q.ia Tryz.runUnderlying60 Tryz.sizeOf23 rfl rfl (by omega) (by omega)) ?_
    refine RG.q 11 hR rfl rfl rfl rfl rfl rfl (Q.ld Tryz.isAgg23 rfl (rdU (k := 0) rfl (by omega))) ?_
    refine RG.q 12 hR rfl rfl rfl rfl rfl rfl (Q.ia Tryz.runUnderlying60 Tryz.sizeOf23 rfl rfl (by omega) (by omega)) ?_
    refine RG.barP 13 [2, 3] hR rfl rfl rfl rfl rfl (by kernel_rfl) ⟨Free.q rfl rfl rfl (Q.mv rfl), ⟨Free.q rfl rfl rfl (Q.mv rfl), trivial⟩⟩ (C.stO 0 Tryz.sizeOf23 rfl rfl rfl rfl rfl (by first | (rw [avU_len]; omega) | (rw [List.length_set, avU_len]; omega))) ?_
    rintro _ _ ⟨rfl, rfl⟩
    refine RG.norm rfl ?_
    refine RG.q 14 hR rfl rfl rfl rfl rfl rfl (Q.ia Tryz.runUnderlying60 Tryz.sizeOf23 rfl rfl (by omega) (by omega)) ?_
    refine RG.barP 15 [] hR rfl rfl rfl rfl rfl (by kernel_rfl) trivial (C.stO 0 Tryz.sizeOf23 rfl rfl rfl rfl rfl (by first | (rw [avU_len]; omega) | (rw [List.length_set, avU_len]; omega))) ?_
    rintro _ _ ⟨rfl, rfl⟩
    refine RG.norm rfl ?_
    refine RG.fin hR rfl ?_
    refine J.norm rfl ?_
    refine J.then_n ?_
    refine J.seq ?_
    refine J.region ?_
    refine J.q rfl rfl (Q.mv rfl) ?_
    refine J.q rfl rfl (Q.add64 rfl rfl (by omega)) ?_
    refine J.q rfl rfl (Q.asg rfl) ?_
    refine J.nil ?_
    refine J.then_n ?_
    refine J.region ?_
    refine J.q rfl rfl (Q.mv rfl) ?_
    refine J.q rfl rfl (Q.sub64 rfl rfl (by omega)) ?_
    refine J.q rfl rfl (Q.asg rfl) ?_
    refine J.nil ?_
    refine J.blk_n ?_
    rw [if_neg (by omega)] at hq
    refine J.conv (Y := rowU b off n c (swp d2 I2 J2)) 0 rfl (swrU (by omega) (by omega)) ?_
    refine J.again (I2 + 1, J2 - 1, swp d2 I2 J2) ⟨by show (swp d2 I2 J2).size = n; rw [szU_swp, k1], by show x < I2 + 1; omega, by show I2 + 1 ≤ e; omega, by show J2 - 1 < e; omega, by rw [← k5, hq]⟩ (guard_of hge2 hle2 (by omega)) ⟨rfl, rfl, rfl, (by show some (Value.int .i64 ((J2 : Int) - 1)) = some (Value.int .i64 ((J2 - 1 : Nat) : Int)); congr 2; omega), trivial⟩ rfl

theorem partEqU (b off n c : Nat) (d : Array Nat) (x e pv : Nat) (hn : d.size = n) (hx : x ≤ pv) (hp : pv < e) (he : e ≤ n) (hs : n ≤ 1099511627776) :
    FSpec Tryz.prog 115 [.slice (some ⟨b, off, none⟩) n c, .int .i64 x, .int .i64 e, .int .i64 pv] [rowU b off n c d] (fun v B => v = .int .i64 ((partitionEqual ltU d x e pv).1 : Nat) ∧ B = [rowU b off n c (partitionEqual ltU d x e pv).2]) := by
  refine FSpec.of Tryz.func115 rfl Tryz.ntmps115 rfl fun W0 F => ?_
  refine J.seq ?_
  refine J.region ?_
  refine J.q rfl rfl (Q.asg rfl) ?_
  refine J.nil ?_
  refine J.then_n ?_
  refine J.seq ?_
  refine J.draw [13, 15] Tryz.mixed (by kernel_rfl) fun hR => ?_
  refine RG.q 0 hR rfl rfl rfl rfl rfl rfl (Q.mv rfl) ?_
  refine RG.q 1 hR rfl rfl rfl rfl rfl rfl (Q.mv rfl) ?_
  refine RG.q 2 hR rfl rfl rfl rfl rfl rfl (Q.mv rfl) ?_
  refine RG.q 3 hR rfl rfl rfl rfl rfl rfl (Q.mv rfl) ?_
  refine RG.q 4 hR rfl rfl rfl rfl rfl rfl (Q.mv rfl) ?_
  refine RG.q 5 hR rfl rfl rfl rfl rfl rfl (Q.mv rfl) ?_
  refine RG.q 6 hR rfl rfl rfl rfl rfl rfl (Q.ia Tryz.runUnderlying60 Tryz.sizeOf23 rfl rfl (by omega) (by omega)) ?_
  refine RG.q 7 hR rfl rfl rfl rfl rfl rfl (Q.ld Tryz.isAgg23 rfl (rdU (k := 0) rfl (by omega))) ?_
  refine RG.q 8 hR rfl rfl rfl rfl rfl rfl (Q.mv rfl) ?_
  refine RG.q 9 hR rfl rfl rfl rfl rfl rfl (Q.mv rfl) ?_
  refine RG.q 10 hR rfl rfl rfl rfl rfl rfl (Q.ia Tryz.runUnderlying60 Tryz.sizeOf23 rfl rfl (by omega) (by omega)) ?_
  refine RG.q 11 hR rfl rfl rfl rfl rfl rfl (Q.ld Tryz.isAgg23 rfl (rdU (k := 0) rfl (by omega))) ?_
  refine RG.q 12 hR rfl rfl rfl rfl rfl rfl (Q.ia Tryz.runUnderlying60 Tryz.sizeOf23 rfl rfl (by omega) (by omega)) ?_
  refine RG.barP 13 [2, 3] hR rfl rfl rfl rfl rfl (by kernel_rfl) ⟨Free.q rfl rfl rfl (Q.mv rfl), ⟨Free.q rfl rfl rfl (Q.mv rfl), trivial⟩⟩ (C.stO 0 Tryz.sizeOf23 rfl rfl rfl rfl rfl (by first | (rw [avU_len]; omega) | (rw [List.length_set, avU_len]; omega))) ?_
  rintro _ _ ⟨rfl, rfl⟩
  refine RG.norm rfl ?_
  refine RG.q 14 hR rfl rfl rfl rfl rfl rfl (Q.ia Tryz.runUnderlying60 Tryz.sizeOf23 rfl rfl (by omega) (by omega)) ?_
  refine RG.barP 15 [] hR rfl rfl rfl rfl rfl (by kernel_rfl) trivial (C.stO 0 Tryz.sizeOf23 rfl rfl rfl rfl rfl (by first | (rw [avU_len]; omega) | (rw [List.length_set, avU_len]; omega))) ?_
  rintro _ _ ⟨rfl, rfl⟩
  refine RG.norm rfl ?_
  refine RG.fin hR rfl ?_
  refine J.norm rfl ?_
  refine J.then_n ?_
  refine J.seq ?_
  refine J.conv (Y := rowU b off n c (swp d x pv)) 0 rfl (swrU (by omega) (by omega)) ?_
  obtain ⟨d1, hd1⟩ : ∃ d1, d1 = swp d x pv := ⟨_, rfl⟩
  have h1 : d1.size = n := by rw [hd1, szU_swp, hn]
  rw [← hd1]
  have hP : partitionEqual ltU d x e pv = partEqLoop ltU x (x + 1) (e - 1) d1 := by unfold partitionEqual; rw [← hd1]
  refine J.region ?_
  refine J.q rfl rfl (Q.mv rfl) ?_
  refine J.q rfl rfl (Q.add64 rfl rfl (by omega)) ?_
  refine J.q rfl rfl (Q.mv rfl) ?_
  refine J.q rfl rfl (Q.sub64 rfl rfl (by omega)) ?_
  refine J.q rfl rfl (Q.asg rfl) ?_
  refine J.q rfl rfl (Q.asg rfl) ?_
  refine J.nil ?_
  refine J.then_n ?_
  refine J.seq ?_
  refine J.block ?_
  refine J.loop3 (fun (i j : Nat) (d2 : Array Nat) => d2.size = n ∧ x < i ∧ i ≤ e ∧ j < e ∧ partEqLoop ltU x i j d2 = partitionEqual ltU d x e pv) (fun i j _ => j + 1 - i) (fun i j _ => [(0, .slice (some ⟨b, off, none⟩) n c), (1, .int .i64 x), (9, .int .i64 i), (10, .int .i64 j)]) (fun _ _ d2 => [rowU b off n c d2, F]) (x + 1) (e - 1) d1 ⟨h1, by omega, by omega, by omega, hP.symm⟩ ⟨rfl, rfl, rfl, (by show some (Value.int .i64 ((e : Int) - 1)) = some (Value.int .i64 ((e - 1 : Nat) : Int)); congr 2; omega), trivial⟩ rfl fun i j d2 hz => ?_
  obtain ⟨k1, k2, k3, k4, k5⟩ := hz
  have hq := partEqLoop_eq ltU x i j d2
  refine J.block ?_
  obtain ⟨I2, hI2⟩ : ∃ I2, I2 = scanUp (fun y => !ltU d2[x]! y) d2 j i := ⟨_, rfl⟩
  have hge2 := scanUp_ge (fun y => !ltU d2[x]! y) d2 j i
  rw [← hI2] at hge2 hq
  refine J.cut (fun _ : Unit => I2 ≤ e) (fun _ => [(0, .slice (some ⟨b, off, none⟩) n c), (1, .int .i64 x), (9, .int .i64 I2), (10, .int .i64 j)]) (fun _ => [rowU b off n c d2, F]) ?_ fun _ hIe2 => ?_
  ·
   refine J.block ?_
   refine J.loop (fun i' : Nat => i' ≤ e ∧ scanUp (fun y => !ltU d2[x]! y) d2 j i' = I2) (fun i' => e - i') (fun i' => [(0, .slice (some ⟨b, off, none⟩) n c), (1, .int .i64 x), (9, .int .i64 i'), (10, .int .i64 j)]) (fun _ => [rowU b off n c d2, F]) i ⟨k3, hI2.symm⟩ ⟨rfl, rfl, rfl, rfl, trivial⟩ rfl fun i' hz => ?_
   obtain ⟨g1, g2⟩ := hz
   refine J.seq ?_
   refine J.seq ?_
   refine J.draw [12] Tryz.mixed (by kernel_rfl) fun hR => ?_
   refine RG.q 0 hR rfl rfl rfl rfl rfl rfl (Q.mv rfl) ?_
   refine RG.q 1 hR rfl rfl rfl rfl rfl rfl (Q.mv rfl) ?_
   refine RG.q 2 hR rfl rfl rfl rfl rfl rfl (Q.leq rfl rfl) ?_
   refine RG.q 3 hR rfl rfl rfl rfl rfl rfl (Q.mv rfl) ?_
   refine RG.cases 32 rfl (fun hb32 => ?_) (fun hb32 => ?_)
   ·
    replace hb32 := X.nm hb32
    try (first | (cases hb32; done) | (exfalso; simp at hb32; done))
    all_goals
     refine RG.q 4 hR rfl rfl rfl rfl rfl rfl (Q.mv rfl) ?_
     refine RG.q 5 hR rfl rfl rfl rfl rfl rfl (Q.mv rfl) ?_
     refine RG.q 6 hR rfl rfl rfl rfl rfl rfl (Q.ia Tryz.runUnderlying60 Tryz.sizeOf23 rfl rfl (by omega) (by omega)) ?_
     refine RG.q 7 hR rfl rfl rfl rfl rfl rfl (Q.ld Tryz.isAgg23 rfl (rdU (k := 0) rfl (by omega))) ?_
     refine RG.q 8 hR rfl rfl rfl rfl rfl rfl (Q.mv rfl) ?_
     refine RG.q 9 hR rfl rfl rfl rfl rfl rfl (Q.mv rfl) ?_
     refine RG.q 10 hR rfl rfl rfl rfl rfl rfl (Q.ia Tryz.runUnderlying60 Tryz.sizeOf23 rfl rfl (by omega) (by omega)) ?_
     refine RG.q 11 hR rfl rfl rfl rfl rfl rfl (Q.ld Tryz.isAgg23 rfl (rdU (k := 0) rfl (by omega))) ?_
     refine RG.call 12 hR rfl rfl rfl rfl rfl rfl Tryz.call114 (lessU _ _) [] rfl rfl ?_
     rintro _ _ ⟨rfl, rfl⟩
     refine RG.norm rfl ?_
     refine RG.q 13 hR rfl rfl rfl rfl rfl rfl (Q.not rfl) ?_
     refine RG.q 14 hR rfl rfl rfl rfl rfl rfl (Q.pick_t rfl rfl) ?_
     refine RG.fin hR rfl ?_
     refine J.norm rfl ?_
     refine J.then_n ?_
     refine J.cases 43 rfl (fun hc43 => ?_) (fun hc43 => ?_)
     ·
      replace hc43 := X.nm hc43
      try (first | (cases hc43; done) | (exfalso; simp at hc43; done))
      all_goals
       refine J.cond_t rfl ?_
       refine J.cskip ?_
       refine J.then_n ?_
       refine J.block ?_
       refine J.region ?_
       refine J.q rfl rfl (Q.mv rfl) ?_
       refine J.q rfl rfl (Q.add64 rfl rfl (by omega)) ?_
       refine J.q rfl rfl (Q.asg rfl) ?_
       refine J.nil ?_
       refine J.blk_n ?_
       rw [Int.toNat_natCast, Int.toNat_natCast] at hc43
       refine J.again (i' + 1) ⟨by show i' + 1 ≤ e; omega, by rw [← g2]; exact scanUp_go (by omega) hc43⟩ (by show e - (i' + 1) < e - i'; omega) ⟨rfl, rfl, rfl, rfl, trivial⟩ rfl
     replace hc43 := X.nm hc43
     try (first | (cases hc43; done) | (exfalso; simp at hc43; done))
     all_goals
      refine J.cond_f rfl ?_
      refine J.exit ?_
      refine J.then_x ?_
      refine J.lp_x ?_
      refine J.blk_x ?_
      have hst : I2 = i' := by
        rw [← g2]
        refine scanUp_stop ?_
        first
          | (left; omega)
          | (right; rw [Int.toNat_natCast, Int.toNat_natCast] at hc43; exact hc43)
      refine J.meet () (by rw [hst]; exact g1) ⟨rfl, rfl, (by rw [hst]; rfl), rfl, trivial⟩ rfl
   replace hb32 := X.nm hb32
   try (first | (cases hb32; done) | (exfalso; simp at hb32; done))
   all_goals
    refine RG.skip 4 hR rfl rfl rfl rfl rfl rfl ?_
    refine RG.skip 5 hR rfl rfl rfl rfl rfl rfl ?_
    refine RG.skip 6 hR rfl rfl rfl rfl rfl rfl ?_
    refine RG.skip 7 hR rfl rfl rfl rfl rfl rfl ?_
    refine RG.skip 8 hR rfl rfl rfl rfl rfl rfl ?_
    refine RG.skip 9 hR rfl rfl rfl rfl rfl rfl ?_
    refine RG.skip 10 hR rfl rfl rfl rfl rfl rfl ?_
    refine RG.skip 11 hR rfl rfl rfl rfl rfl rfl ?_
    refine RG.pass 12 hR rfl rfl rfl rfl rfl ?_
    refine RG.skip 13 hR rfl rfl rfl rfl rfl rfl ?_
    refine RG.q 14 hR rfl rfl rfl rfl rfl rfl (Q.pick_f rfl rfl) ?_
    refine RG.fin hR rfl ?_
    refine J.norm rfl ?_
    refine J.then_n ?_
    refine J.cond_f rfl ?_
    refine J.exit ?_
    refine J.then_x ?_
    refine J.lp_x ?_
    refine J.blk_x ?_
    have hst : I2 = i' := by
      rw [← g2]
      refine scanUp_stop ?_
      first
        | (left; omega)
        | (right; rw [Int.toNat_natCast, Int.toNat_natCast] at hc43; exact hc43)
    refine J.meet () (by rw [hst]; exact g1) ⟨rfl, rfl, (by rw [hst]; rfl), rfl, trivial⟩ rfl
  obtain ⟨J2, hJ2⟩ : ∃ J2, J2 = scanDown (fun y => ltU d2[x]! y) d2 I2 j := ⟨_, rfl⟩
  have hle2 := scanDown_le (fun y => ltU d2[x]! y) d2 I2 j
  rw [← hJ2] at hle2 hq
  refine J.cut (fun _ : Unit => True) (fun _ => [(0, .slice (some ⟨b, off, none⟩) n c), (1, .int .i64 x), (9, .int .i64 I2), (10, .int .i64 J2)]) (fun _ => [rowU b off n c d2, F]) ?_ fun _ _ => ?_
  ·
   refine J.block ?_
   refine J.loop (fun j' : Nat => j' < e ∧ scanDown (fun y => ltU d2[x]! y) d2 I2 j' = J2) (fun j' => j') (fun j' => [(0, .slice (some ⟨b, off, none⟩) n c), (1, .int .i64 x), (9, .int .i64 I2), (10, .int .i64 j')]) (fun _ => [rowU b off n c d2, F]) j ⟨k4, hJ2.symm⟩ ⟨rfl, rfl, rfl, rfl, trivial⟩ rfl fun j' hz => ?_
   obtain ⟨g1, g2⟩ := hz
   refine J.seq ?_
   refine J.seq ?_
   refine J.draw [12] Tryz.mixed (by kernel_rfl) fun hR => ?_
   refine RG.q 0 hR rfl rfl rfl rfl rfl rfl (Q.mv rfl) ?_
   refine RG.q 1 hR rfl rfl rfl rfl rfl rfl (Q.mv rfl) ?_
   refine RG.q 2 hR rfl rfl rfl rfl rfl rfl (Q.leq rfl rfl) ?_
   refine RG.q 3 hR rfl rfl rfl rfl rfl rfl (Q.mv rfl) ?_
   refine RG.cases 49 rfl (fun hb49 => ?_) (fun hb49 => ?_)
   ·
    replace hb49 := X.nm hb49
    try (first | (cases hb49; done) | (exfalso; simp at hb49; done))
    all_goals
     refine RG.q 4 hR rfl rfl rfl rfl rfl rfl (Q.mv rfl) ?_
     refine RG.q 5 hR rfl rfl rfl rfl rfl rfl (Q.mv rfl) ?_
     refine RG.q 6 hR rfl rfl rfl rfl rfl rfl (Q.ia Tryz.runUnderlying60 Tryz.sizeOf23 rfl rfl (by omega) (by omega)) ?_
     refine RG.q 7 hR rfl rfl rfl rfl rfl rfl (Q.ld Tryz.isAgg23 rfl (rdU (k := 0) rfl (by omega))) ?_
     refine RG.q 8 hR rfl rfl rfl rfl rfl rfl (Q.mv rfl) ?_
     refine RG.q 9 hR rfl rfl rfl rfl rfl rfl (Q.mv rfl) ?_
     refine RG.q 10 hR rfl rfl rfl rfl rfl rfl (Q.ia Tryz.runUnderlying60 Tryz.sizeOf23 rfl rfl (by omega) (by omega)) ?_
     refine RG.q 11 hR rfl rfl rfl rfl rfl rfl (Q.ld Tryz.isAgg23 rfl (rdU (k := 0) rfl (by omega))) ?_
     refine RG.call 12 hR rfl rfl rfl rfl rfl rfl Tryz.call114 (lessU _ _) [] rfl rfl ?_
     rintro _ _ ⟨rfl, rfl⟩
     refine RG.norm rfl ?_
     refine RG.q 13 hR rfl rfl rfl rfl rfl rfl (Q.pick_t rfl rfl) ?_
     refine RG.fin hR rfl ?_
     refine J.norm rfl ?_
     refine J.then_n ?_
     refine J.cases 59 rfl (fun hc59 => ?_) (fun hc59 => ?_)
     ·
      replace hc59 := X.nm hc59
      try (first | (cases hc59; done) | (exfalso; simp at hc59; done))
      all_goals
       refine J.cond_t rfl ?_
       refine J.cskip ?_
       refine J.then_n ?_
       refine J.block ?_
       refine J.region ?_
       refine J.q rfl rfl (Q.mv rfl) ?_
       refine J.q rfl rfl (Q.sub64 rfl rfl (by omega)) ?_
       refine J.q rfl rfl (Q.asg rfl) ?_
       refine J.nil ?_
       refine J.blk_n ?_
       rw [Int.toNat_natCast, Int.toNat_natCast] at hc59
       refine J.again (j' - 1) ⟨by show j' - 1 < e; omega, by rw [← g2]; exact scanDown_go (by omega) (by omega) hc59⟩ (by show j' - 1 < j'; omega) ⟨rfl, rfl, rfl, (by show some (Value.int .i64 ((j' : Int) - 1)) = some (Value.int .i64 ((j' - 1 : Nat) : Int)); congr 2; omega), trivial⟩ rfl
     replace hc59 := X.nm hc59
     try (first | (cases hc59; done) | (exfalso; simp at hc59; done))
     all_goals
      refine J.cond_f rfl ?_
      refine J.exit ?_
      refine J.then_x ?_
      refine J.lp_x ?_
      refine J.blk_x ?_
      have hst : J2 = j' := by
        rw [← g2]
        refine scanDown_stop ?_
        first
          | (left; omega)
          | (right; rw [Int.toNat_natCast, Int.toNat_natCast] at hc59; exact hc59)
      refine J.meet () trivial ⟨rfl, rfl, rfl, (by rw [hst]; rfl), trivial⟩ rfl
   replace hb49 := X.nm hb49
   try (first | (cases hb49; done) | (exfalso; simp at hb49; done))
   all_goals
    refine RG.skip 4 hR rfl rfl rfl rfl rfl rfl ?_
    refine RG.skip 5 hR rfl rfl rfl rfl rfl rfl ?_
    refine RG.skip 6 hR rfl rfl rfl rfl rfl rfl ?_
    refine RG.skip 7 hR rfl rfl rfl rfl rfl rfl ?_
    refine RG.skip 8 hR rfl rfl rfl rfl rfl rfl ?_
    refine RG.skip 9 hR rfl rfl rfl rfl rfl rfl ?_
    refine RG.skip 10 hR rfl rfl rfl rfl rfl rfl ?_
    refine RG.skip 11 hR rfl rfl rfl rfl rfl rfl ?_
    refine RG.pass 12 hR rfl rfl rfl rfl rfl ?_
    refine RG.q 13 hR rfl rfl rfl rfl rfl rfl (Q.pick_f rfl rfl) ?_
    refine RG.fin hR rfl ?_
    refine J.norm rfl ?_
    refine J.then_n ?_
    refine J.cond_f rfl ?_
    refine J.exit ?_
    refine J.then_x ?_
    refine J.lp_x ?_
    refine J.blk_x ?_
    have hst : J2 = j' := by
      rw [← g2]
      refine scanDown_stop ?_
      first
        | (left; omega)
        | (right; rw [Int.toNat_natCast, Int.toNat_natCast] at hc59; exact hc59)
    refine J.meet () trivial ⟨rfl, rfl, rfl, (by rw [hst]; rfl), trivial⟩ rfl
  refine J.seq ?_
  refine J.seq ?_
  refine J.region ?_
  refine J.q rfl rfl (Q.mv rfl) ?_
  refine J.q rfl rfl (Q.mv rfl) ?_
  refine J.q rfl rfl (Q.gtr rfl rfl) ?_
  refine J.nil ?_
  refine J.then_n ?_
  refine J.cases 64 rfl (fun hc64 => ?_) (fun hc64 => ?_)
  ·
   replace hc64 := X.nm hc64
   try (first | (cases hc64; done) | (exfalso; simp at hc64; done))
   all_goals
    refine J.cond_t rfl ?_
    refine J.exit ?_
    refine J.then_x ?_
    refine J.blk_o rfl ?_
    refine J.lp_x ?_
    refine J.blk_x ?_
    refine J.then_n ?_
    refine J.seq ?_
    rw [if_pos (by omega)] at hq
    have hfin : partitionEqual ltU d x e pv = (I2, d2) := by rw [← k5, hq]
    rw [hfin]
    refine J.region ?_
    refine J.q rfl rfl (Q.mv rfl) ?_
    refine J.q rfl rfl (Q.asg rfl) ?_
    refine J.nil ?_
    refine J.then_n ?_
    refine J.cret ?_
    refine J.ret1 (B := [_]) rfl rfl ⟨rfl, rfl⟩ rfl
  replace hc64 := X.nm hc64
  try (first | (cases hc64; done) | (exfalso; simp at hc64; done))
  all_goals
   refine J.cond_f rfl ?_
   refine J.cskip ?_
   refine J.then_n ?_
   refine J.seq ?_
   refine J.draw [13, 15] Tryz.mixed (by kernel_rfl) fun hR => ?_
   refine RG.q 0 hR rfl rfl rfl rfl rfl rfl (Q.mv rfl) ?_
   refine RG.q 1 hR rfl rfl rfl rfl rfl rfl (Q.mv rfl) ?_
   refine RG.q 2 hR rfl rfl rfl rfl rfl rfl (Q.mv rfl) ?_
   refine RG.q 3 hR rfl rfl rfl rfl rfl rfl (Q.mv rfl) ?_
   refine RG.q 4 hR rfl rfl rfl rfl rfl rfl (Q.mv rfl) ?_
   refine RG.q 5 hR rfl rfl rfl rfl rfl rfl (Q.mv rfl) ?_
   refine RG.q 6 hR rfl rfl rfl rfl rfl rfl (Q.ia Tryz.runUnderlying60 Tryz.sizeOf23 rfl rfl (by omega) (by omega)) ?_
   refine RG.q 7 hR rfl rfl rfl rfl rfl rfl (Q.ld Tryz.isAgg23 rfl (rdU (k := 0) rfl (by omega))) ?_
   refine RG.q 8 hR rfl rfl rfl rfl rfl rfl (Q.mv rfl) ?_
   refine RG.q 9 hR rfl rfl rfl rfl rfl rfl (Q.mv rfl) ?_
   refine RG.q 10 hR rfl rfl rfl rfl rfl rfl (Q.ia Tryz.runUnderlying60 Tryz.sizeOf23 rfl rfl (by omega) (by omega)) ?_
   refine RG.q 11 hR rfl rfl rfl rfl rfl rfl (Q.ld Tryz.isAgg23 rfl (rdU (k := 0) rfl (by omega))) ?_
   refine RG.q 12 hR rfl rfl rfl rfl rfl rfl (Q.ia Tryz.runUnderlying60 Tryz.sizeOf23 rfl rfl (by omega) (by omega)) ?_
   refine RG.barP 13 [2, 3] hR rfl rfl rfl rfl rfl (by kernel_rfl) ⟨Free.q rfl rfl rfl (Q.mv rfl), ⟨Free.q rfl rfl rfl (Q.mv rfl), trivial⟩⟩ (C.stO 0 Tryz.sizeOf23 rfl rfl rfl rfl rfl (by first | (rw [avU_len]; omega) | (rw [List.length_set, avU_len]; omega))) ?_
   rintro _ _ ⟨rfl, rfl⟩
   refine RG.norm rfl ?_
   refine RG.q 14 hR rfl rfl rfl rfl rfl rfl (Q.ia Tryz.runUnderlying60 Tryz.sizeOf23 rfl rfl (by omega) (by omega)) ?_
   refine RG.barP 15 [] hR rfl rfl rfl rfl rfl (by kernel_rfl) trivial (C.stO 0 Tryz.sizeOf23 rfl rfl rfl rfl rfl (by first | (rw [avU_len]; omega) | (rw [List.length_set, avU_len]; omega))) ?_
   rintro _ _ ⟨rfl, rfl⟩
   refine RG.norm rfl ?_
   refine RG.fin hR rfl ?_
   refine J.norm rfl ?_
   refine J.then_n ?_
   refine J.seq ?_
   refine J.region ?_
   refine J.q rfl rfl (Q.mv rfl) ?_
   refine J.q rfl rfl (Q.add64 rfl rfl (by omega)) ?_
   refine J.q rfl rfl (Q.asg rfl) ?_
   refine J.nil ?_
   refine J.then_n ?_
   refine J.region ?_
   refine J.q rfl rfl (Q.mv rfl) ?_
   refine J.q rfl rfl (Q.sub64 rfl rfl (by omega)) ?_
   refine J.q rfl rfl (Q.asg rfl) ?_
   refine J.nil ?_
   refine J.blk_n ?_
   rw [if_neg (by omega)] at hq
   refine J.conv (Y := rowU b off n c (swp d2 I2 J2)) 0 rfl (swrU (by omega) (by omega)) ?_
   refine J.again (I2 + 1, J2 - 1, swp d2 I2 J2) ⟨by show (swp d2 I2 J2).size = n; rw [szU_swp, k1], by show x < I2 + 1; omega, by show I2 + 1 ≤ e; omega, by show J2 - 1 < e; omega, by rw [← k5, hq]⟩ (guard_of hge2 hle2 (by omega)) ⟨rfl, rfl, rfl, (by show some (Value.int .i64 ((J2 : Int) - 1)) = some (Value.int .i64 ((J2 - 1 : Nat) : Int)); congr 2; omega), trivial⟩ rfl
end Go.Proofs.YtdancegklkifaaaGreat
