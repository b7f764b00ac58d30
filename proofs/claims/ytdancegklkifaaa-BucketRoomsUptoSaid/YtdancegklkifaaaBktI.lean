/-
  The store's Do.
-/
import Derived.Test.YtdancegklkifaaaBktH
namespace Go.Proofs.Ytdancegklkifaaa
set_option linter.unusedSectionVars false
set_option linter.unusedSimpArgs false
set_option linter.unusedVariables false
open Go.X
open Go.X.G (Ord3 ord3_nat ord3_int ord3_str ltB sget sput sdel Srtd MapAt MapHole plainRep)

theorem check_yes (G : Assn) (x : OW) (hx : x.ok G) (hc : x.o.chkB = true) : FSpec Try.prog 7 [.agg x.cells.toArray] [G] (fun v B => v = .int .i64 0 ∧ B = [G]) := by
  have := check_spec G x hx
  rw [hc] at this; exact this
theorem check_no (G : Assn) (x : OW) (hx : x.ok G) (hc : x.o.chkB = false) : FSpec Try.prog 7 [.agg x.cells.toArray] [G] (fun v B => v = .int .i64 1 ∧ B = [G]) := by
  have := check_spec G x hx
  rw [hc] at this; exact this
theorem reads_at {n : Int} {b : Bool} (h : readsK n = b) : FSpec Try.prog 9 [.int .i64 n] [] (fun v B => v = .bool b ∧ B = []) := by
  subst h; exact reads_spec n

/-- What a result that is its holder's own reads as. -/
theorem asn_ok {x : RW} (hs : x.r.keys.length ≤ 1099511627776 ∧ x.r.data.length ≤ 1099511627776) : ∀ h, x.asn h → x.ok x.asn := by
  intro h hh
  have hh' : HSat h x.asns := hh
  obtain ⟨h1, h2, a, ⟨k1, k2, b, _, _, _, _⟩, _, _, _⟩ := hh'
  exact ⟨(own.slr (i := 0) rfl ⟨h1, X.G.HSat.one a⟩ : SlR [own 9 1 _ _] 1 _ _).into 0 rfl, (own.slr (i := 0) rfl ⟨k1, X.G.HSat.one b⟩ : SlR [own 5 1 _ _] 1 _ _).into 1 rfl, hs⟩

theorem tab_srt (m : Nat) : Srtd ltI (tabM m) := by simp [Srtd, tabM]

/-- The function of an op's kind, with its contract. -/
def HasAct (m : Nat) (M : BM) (x : OW) (G : Assn) : Prop := ∃ fid, sget x.o.kind (tabM m) = some (.func (.func fid) ([.pointer (some ⟨m, 0, none⟩)] : List Value).toArray ([] : List Value).toArray) ∧ (∀ (args : Array Value) (w : World), (callFunc fid args).run Try.prog w = .ok (.enter fid args) w) ∧
  FSpec Try.prog fid ([.pointer (some ⟨m, 0, none⟩)] ++ [.agg x.cells.toArray] ++ []) [BktAt m M, G] (ActR m G (M.act x.o))

section
variable {k : Nat} (m : Nat) (M : BM) (hM : M.ok k) (x : OW) (G : Assn) (hx : x.ok G)
include hM hx

theorem do_bad (hc : x.o.chkB = false) : FSpec Try.prog 13 [.pointer (some ⟨m, 0, none⟩), .agg x.cells.toArray] [BktAt m M, G] (ActR m G (st 400, M)) := by
  refine FSpec.of Try.func13 rfl Try.ntmps13 rfl fun W0 F => ?_
  refine J.seq ?_
  refine J.region ?_
  refine J.c rfl rfl (C.box (l := [_, _, _, _, _, _, _, _, _]) rfl rfl) ?_
  rintro _ _ ⟨b3, rfl, rfl⟩
  refine J.norm rfl ?_
  refine J.c rfl rfl (C.alloc (l := [_, _, _, _, _]) Try.zeroValue41 rfl) ?_
  rintro _ _ ⟨b4, rfl, rfl⟩
  refine J.norm rfl ?_
  refine J.nil ?_
  refine J.then_n ?_
  refine J.seq ?_
  refine J.seq ?_
  refine J.region ?_
  refine J.q rfl rfl (Q.ldN (vs := [_, _, _, _, _, _, _, _, _]) Try.isAgg26 Try.sizeOf26 rfl (by first | exact ReadsN.pt 0 rfl | exact ReadsN.pt 1 rfl | exact ReadsN.pt 2 rfl | exact ReadsN.pt 3 rfl | exact ReadsN.pt 4 rfl | exact ReadsN.pt 5 rfl | exact ReadsN.pt 6 rfl | exact ReadsN.pt 7 rfl | exact ReadsN.pt 8 rfl | exact ReadsN.pt 9 rfl | exact ReadsN.pt 10 rfl | exact ReadsN.pt 11 rfl | exact ReadsN.pt 12 rfl | exact ReadsN.pt 13 rfl)) ?_
  refine J.call Try.call7 ((by first | exact check_yes G x hx hc | exact check_no G x hx hc)) [3] rfl rfl rfl rfl ?_
  rintro _ _ ⟨rfl, rfl⟩
  refine J.norm rfl ?_
  refine J.q rfl rfl (Q.neq rfl rfl) ?_
  refine J.nil ?_
  refine J.then_n ?_
  refine J.cases 10 rfl (fun hc10 => ?_) (fun hc10 => ?_)
  ·
    first | replace hc10 := X.tt_dec hc10 | replace hc10 := X.tt_not hc10 | replace hc10 := X.ff_dec hc10 | replace hc10 := X.ff_not hc10 | skip
    try (first | (cases hc10; done) | (exfalso; simp at hc10; done))
    all_goals
      refine J.cond_t rfl ?_
      refine J.seq ?_
      refine J.region ?_
      refine J.call Try.call24 (status_spec 400) [] rfl rfl rfl rfl ?_
      rintro _ _ ⟨y, rfl, hy, rfl⟩
      refine J.norm rfl ?_
      first | refine J.c0 rfl (C.stA (i := 0) (vs := [_, _, _, _, _]) Try.sizeOf41 rfl rfl rfl rfl rfl rfl) ?_ | refine J.c0 rfl (C.stA (i := 1) (vs := [_, _, _, _, _]) Try.sizeOf41 rfl rfl rfl rfl rfl rfl) ?_ | refine J.c0 rfl (C.stA (i := 2) (vs := [_, _, _, _, _]) Try.sizeOf41 rfl rfl rfl rfl rfl rfl) ?_ | refine J.c0 rfl (C.stA (i := 3) (vs := [_, _, _, _, _]) Try.sizeOf41 rfl rfl rfl rfl rfl rfl) ?_ | refine J.c0 rfl (C.stA (i := 4) (vs := [_, _, _, _, _]) Try.sizeOf41 rfl rfl rfl rfl rfl rfl) ?_ | refine J.c0 rfl (C.stA (i := 5) (vs := [_, _, _, _, _]) Try.sizeOf41 rfl rfl rfl rfl rfl rfl) ?_ | refine J.c0 rfl (C.stA (i := 6) (vs := [_, _, _, _, _]) Try.sizeOf41 rfl rfl rfl rfl rfl rfl) ?_ | refine J.c0 rfl (C.stA (i := 7) (vs := [_, _, _, _, _]) Try.sizeOf41 rfl rfl rfl rfl rfl rfl) ?_ | refine J.c0 rfl (C.stA (i := 8) (vs := [_, _, _, _, _]) Try.sizeOf41 rfl rfl rfl rfl rfl rfl) ?_ | refine J.c0 rfl (C.stA (i := 9) (vs := [_, _, _, _, _]) Try.sizeOf41 rfl rfl rfl rfl rfl rfl) ?_ | refine J.c0 rfl (C.stA (i := 10) (vs := [_, _, _, _, _]) Try.sizeOf41 rfl rfl rfl rfl rfl rfl) ?_ | refine J.c0 rfl (C.stA (i := 11) (vs := [_, _, _, _, _]) Try.sizeOf41 rfl rfl rfl rfl rfl rfl) ?_ | refine J.c0 rfl (C.stA (i := 12) (vs := [_, _, _, _, _]) Try.sizeOf41 rfl rfl rfl rfl rfl rfl) ?_ | refine J.c0 rfl (C.stA (i := 13) (vs := [_, _, _, _, _]) Try.sizeOf41 rfl rfl rfl rfl rfl rfl) ?_ | refine J.c0 rfl (C.stA (i := 14) (vs := [_, _, _, _, _]) Try.sizeOf41 rfl rfl rfl rfl rfl rfl) ?_ | refine J.c0 rfl (C.stA (i := 15) (vs := [_, _, _, _, _]) Try.sizeOf41 rfl rfl rfl rfl rfl rfl) ?_
      rintro _ _ ⟨rfl, rfl⟩
      refine J.nil ?_
      refine J.then_n ?_
      refine J.cret ?_
      refine J.then_r ?_
      refine J.retC [4, 0, 1, 5] (vs := [_, _, _, _, _]) rfl rfl Try.isAgg41 Try.sizeOf41 (ReadsN.pt 2 rfl) rfl (B := [_, _, _]) ⟨_, rfl, hy, rfl⟩
  ·
    first | replace hc10 := X.tt_dec hc10 | replace hc10 := X.tt_not hc10 | replace hc10 := X.ff_dec hc10 | replace hc10 := X.ff_not hc10 | skip
    try (first | (cases hc10; done) | (exfalso; simp at hc10; done))
    all_goals
      refine J.cond_f rfl ?_
      refine J.cskip ?_
      refine J.then_n ?_
      refine J.cut (fun _ : Unit => False) (fun _ => []) (fun _ => []) ?_ fun _ hF => ?_
      ·
        refine J.seq ?_
        refine J.open1 3 rfl (fun _ h => h) fun z => ?_
        refine J.norm rfl ?_
        first
          | (refine J.mapFocus 3 hD rfl fun val => ?_
             refine J.norm rfl ?_
             refine J.open_ 0 rfl rfl (fun _ h => h) fun y0 hy0 => ?_
             obtain ⟨hyr, hyv⟩ := hy0
             subst hyv
             subst hyr
             refine J.norm rfl ?_
             have hrs := hM.rs _ _ hD
             refine J.tells 0 rfl (asn_ok ⟨by omega, by omega⟩) fun hy0 => ?_)
          | skip
        refine J.draw [10, 11, 12] Try.mixed (by kernel_rfl) fun hR => ?_
        refine RG.q 0 hR rfl rfl rfl rfl rfl rfl (Q.mv rfl) ?_
        refine RG.q 1 hR rfl rfl rfl rfl rfl rfl (Q.nil_ rfl) ?_
        refine RG.q 2 hR rfl rfl rfl rfl rfl rfl (Q.fa (n := 2) Try.runUnderlying62 rfl rfl Try.sizeOf60 rfl) ?_
        refine RG.q 3 hR rfl rfl rfl rfl rfl rfl (Q.ld Try.isAgg60 rfl (by first | exact Reads.pt 0 rfl rfl | exact Reads.pt 1 rfl rfl | exact Reads.pt 2 rfl rfl | exact Reads.pt 3 rfl rfl | exact Reads.pt 4 rfl rfl | exact Reads.pt 5 rfl rfl | exact Reads.pt 6 rfl rfl | exact Reads.pt 7 rfl rfl | exact Reads.pt 8 rfl rfl | exact Reads.pt 9 rfl rfl | exact Reads.pt 10 rfl rfl | exact Reads.pt 11 rfl rfl | exact Reads.pt 12 rfl rfl | exact Reads.pt 13 rfl rfl)) ?_
        refine RG.q 4 hR rfl rfl rfl rfl rfl rfl (Q.fa (n := 0) Try.runUnderlying26 rfl rfl Try.sizeOf22 rfl) ?_
        refine RG.q 5 hR rfl rfl rfl rfl rfl rfl (Q.ld Try.isAgg22 rfl (by first | exact Reads.pt 0 rfl rfl | exact Reads.pt 1 rfl rfl | exact Reads.pt 2 rfl rfl | exact Reads.pt 3 rfl rfl | exact Reads.pt 4 rfl rfl | exact Reads.pt 5 rfl rfl | exact Reads.pt 6 rfl rfl | exact Reads.pt 7 rfl rfl | exact Reads.pt 8 rfl rfl | exact Reads.pt 9 rfl rfl | exact Reads.pt 10 rfl rfl | exact Reads.pt 11 rfl rfl | exact Reads.pt 12 rfl rfl | exact Reads.pt 13 rfl rfl)) ?_
        refine RG.q 6 hR rfl rfl rfl rfl rfl rfl (by first | exact X.G.Q.lk2No (i := 3) Try.runUnderlying60 keyU Try.zeroValue41 rfl rfl rfl hD | exact X.G.Q.lk2Yes (i := 1) Try.runUnderlying60 keyU Try.zeroValue41 rfl rfl rfl) ?_
        refine RG.q 7 hR rfl rfl rfl rfl rfl rfl (Q.mv rfl) ?_
        refine RG.q 8 hR rfl rfl rfl rfl rfl rfl (Q.ext rfl rfl) ?_
        refine RG.q 9 hR rfl rfl rfl rfl rfl rfl (Q.ext rfl rfl) ?_
        refine RG.made 10 hR rfl rfl rfl rfl rfl (C.alloc (l := [_, _, _, _, _]) Try.zeroValue41 rfl) ?_
        rintro b5
        first | refine RG.stAk 11 (j := 0) (vs := [_, _, _, _, _]) hR rfl rfl rfl rfl Try.sizeOf41 rfl rfl rfl rfl rfl rfl ?_ | refine RG.stAk 11 (j := 1) (vs := [_, _, _, _, _]) hR rfl rfl rfl rfl Try.sizeOf41 rfl rfl rfl rfl rfl rfl ?_ | refine RG.stAk 11 (j := 2) (vs := [_, _, _, _, _]) hR rfl rfl rfl rfl Try.sizeOf41 rfl rfl rfl rfl rfl rfl ?_ | refine RG.stAk 11 (j := 3) (vs := [_, _, _, _, _]) hR rfl rfl rfl rfl Try.sizeOf41 rfl rfl rfl rfl rfl rfl ?_ | refine RG.stAk 11 (j := 4) (vs := [_, _, _, _, _]) hR rfl rfl rfl rfl Try.sizeOf41 rfl rfl rfl rfl rfl rfl ?_ | refine RG.stAk 11 (j := 5) (vs := [_, _, _, _, _]) hR rfl rfl rfl rfl Try.sizeOf41 rfl rfl rfl rfl rfl rfl ?_ | refine RG.stAk 11 (j := 6) (vs := [_, _, _, _, _]) hR rfl rfl rfl rfl Try.sizeOf41 rfl rfl rfl rfl rfl rfl ?_ | refine RG.stAk 11 (j := 7) (vs := [_, _, _, _, _]) hR rfl rfl rfl rfl Try.sizeOf41 rfl rfl rfl rfl rfl rfl ?_ | refine RG.stAk 11 (j := 8) (vs := [_, _, _, _, _]) hR rfl rfl rfl rfl Try.sizeOf41 rfl rfl rfl rfl rfl rfl ?_ | refine RG.stAk 11 (j := 9) (vs := [_, _, _, _, _]) hR rfl rfl rfl rfl Try.sizeOf41 rfl rfl rfl rfl rfl rfl ?_ | refine RG.stAk 11 (j := 10) (vs := [_, _, _, _, _]) hR rfl rfl rfl rfl Try.sizeOf41 rfl rfl rfl rfl rfl rfl ?_ | refine RG.stAk 11 (j := 11) (vs := [_, _, _, _, _]) hR rfl rfl rfl rfl Try.sizeOf41 rfl rfl rfl rfl rfl rfl ?_ | refine RG.stAk 11 (j := 12) (vs := [_, _, _, _, _]) hR rfl rfl rfl rfl Try.sizeOf41 rfl rfl rfl rfl rfl rfl ?_ | refine RG.stAk 11 (j := 13) (vs := [_, _, _, _, _]) hR rfl rfl rfl rfl Try.sizeOf41 rfl rfl rfl rfl rfl rfl ?_ | refine RG.stAk 11 (j := 14) (vs := [_, _, _, _, _]) hR rfl rfl rfl rfl Try.sizeOf41 rfl rfl rfl rfl rfl rfl ?_ | refine RG.stAk 11 (j := 15) (vs := [_, _, _, _, _]) hR rfl rfl rfl rfl Try.sizeOf41 rfl rfl rfl rfl rfl rfl ?_
        refine RG.bar 12 hR rfl rfl rfl rfl rfl rfl (Q.asg rfl).toC ?_
        rintro _ _ ⟨rfl, rfl⟩
        refine RG.norm rfl ?_
        refine RG.fin hR rfl ?_
        refine J.norm rfl ?_
        refine J.then_n ?_
        refine J.seq ?_
        refine J.region ?_
        refine J.q rfl rfl (Q.mv rfl) ?_
        refine J.q rfl rfl (Q.mv rfl) ?_
        refine J.cases 23 rfl (fun hb23 => ?_) (fun hb23 => ?_)
        ·
          first | replace hb23 := X.tt_dec hb23 | replace hb23 := X.tt_not hb23 | replace hb23 := X.ff_dec hb23 | replace hb23 := X.ff_not hb23 | skip
          try (first | (cases hb23; done) | (exfalso; simp at hb23; done))
          all_goals
            refine J.q rfl rfl (Q.fa (n := 1) Try.runUnderlying26 rfl rfl Try.sizeOf3 rfl) ?_
            refine J.q rfl rfl (Q.ld Try.isAgg3 rfl (by first | exact Reads.pt 0 rfl rfl | exact Reads.pt 1 rfl rfl | exact Reads.pt 2 rfl rfl | exact Reads.pt 3 rfl rfl | exact Reads.pt 4 rfl rfl | exact Reads.pt 5 rfl rfl | exact Reads.pt 6 rfl rfl | exact Reads.pt 7 rfl rfl | exact Reads.pt 8 rfl rfl | exact Reads.pt 9 rfl rfl | exact Reads.pt 10 rfl rfl | exact Reads.pt 11 rfl rfl | exact Reads.pt 12 rfl rfl | exact Reads.pt 13 rfl rfl)) ?_
            refine J.call Try.call9 (reads_at hrd) [] rfl rfl rfl rfl ?_
            rintro _ _ ⟨rfl, rfl⟩
            refine J.norm rfl ?_
            refine J.q rfl rfl (Q.not rfl) ?_
            refine J.q rfl rfl (Q.pick_t rfl rfl) ?_
            refine J.nil ?_
            refine J.then_n ?_
            refine J.cases 28 rfl (fun hc28 => ?_) (fun hc28 => ?_)
            ·
              first | replace hc28 := X.tt_dec hc28 | replace hc28 := X.tt_not hc28 | replace hc28 := X.ff_dec hc28 | replace hc28 := X.ff_not hc28 | skip
              try (first | (cases hc28; done) | (exfalso; simp at hc28; done))
              all_goals
                refine J.cond_t rfl ?_
                refine J.seq ?_
                refine J.region ?_
                refine J.q rfl rfl (Q.ldN (vs := [_, _, _, _, _]) Try.isAgg41 Try.sizeOf41 rfl (by first | exact ReadsN.pt 0 rfl | exact ReadsN.pt 1 rfl | exact ReadsN.pt 2 rfl | exact ReadsN.pt 3 rfl | exact ReadsN.pt 4 rfl | exact ReadsN.pt 5 rfl | exact ReadsN.pt 6 rfl | exact ReadsN.pt 7 rfl | exact ReadsN.pt 8 rfl | exact ReadsN.pt 9 rfl | exact ReadsN.pt 10 rfl | exact ReadsN.pt 11 rfl | exact ReadsN.pt 12 rfl | exact ReadsN.pt 13 rfl)) ?_
                refine J.call Try.call25 (apart_spec y0.asn y0 hy0) [0] rfl rfl rfl rfl ?_
                rintro _ _ ⟨y, rfl, hy, rfl⟩
                refine J.norm rfl ?_
                first | refine J.c0 rfl (C.stA (i := 0) (vs := [_, _, _, _, _]) Try.sizeOf41 rfl rfl rfl rfl rfl rfl) ?_ | refine J.c0 rfl (C.stA (i := 1) (vs := [_, _, _, _, _]) Try.sizeOf41 rfl rfl rfl rfl rfl rfl) ?_ | refine J.c0 rfl (C.stA (i := 2) (vs := [_, _, _, _, _]) Try.sizeOf41 rfl rfl rfl rfl rfl rfl) ?_ | refine J.c0 rfl (C.stA (i := 3) (vs := [_, _, _, _, _]) Try.sizeOf41 rfl rfl rfl rfl rfl rfl) ?_ | refine J.c0 rfl (C.stA (i := 4) (vs := [_, _, _, _, _]) Try.sizeOf41 rfl rfl rfl rfl rfl rfl) ?_ | refine J.c0 rfl (C.stA (i := 5) (vs := [_, _, _, _, _]) Try.sizeOf41 rfl rfl rfl rfl rfl rfl) ?_ | refine J.c0 rfl (C.stA (i := 6) (vs := [_, _, _, _, _]) Try.sizeOf41 rfl rfl rfl rfl rfl rfl) ?_ | refine J.c0 rfl (C.stA (i := 7) (vs := [_, _, _, _, _]) Try.sizeOf41 rfl rfl rfl rfl rfl rfl) ?_ | refine J.c0 rfl (C.stA (i := 8) (vs := [_, _, _, _, _]) Try.sizeOf41 rfl rfl rfl rfl rfl rfl) ?_ | refine J.c0 rfl (C.stA (i := 9) (vs := [_, _, _, _, _]) Try.sizeOf41 rfl rfl rfl rfl rfl rfl) ?_ | refine J.c0 rfl (C.stA (i := 10) (vs := [_, _, _, _, _]) Try.sizeOf41 rfl rfl rfl rfl rfl rfl) ?_ | refine J.c0 rfl (C.stA (i := 11) (vs := [_, _, _, _, _]) Try.sizeOf41 rfl rfl rfl rfl rfl rfl) ?_ | refine J.c0 rfl (C.stA (i := 12) (vs := [_, _, _, _, _]) Try.sizeOf41 rfl rfl rfl rfl rfl rfl) ?_ | refine J.c0 rfl (C.stA (i := 13) (vs := [_, _, _, _, _]) Try.sizeOf41 rfl rfl rfl rfl rfl rfl) ?_ | refine J.c0 rfl (C.stA (i := 14) (vs := [_, _, _, _, _]) Try.sizeOf41 rfl rfl rfl rfl rfl rfl) ?_ | refine J.c0 rfl (C.stA (i := 15) (vs := [_, _, _, _, _]) Try.sizeOf41 rfl rfl rfl rfl rfl rfl) ?_
                rintro _ _ ⟨rfl, rfl⟩
                refine J.nil ?_
                refine J.then_n ?_
                refine J.cret ?_
                refine J.cut_r ?_
                refine J.shut [1] (dRep x.o.id y0.r (.agg y0.cells.toArray)) rfl (fun h s => ⟨y0, ⟨rfl, rfl⟩, s⟩) ?_
                refine J.mapSame 0 2 ord3_nat hM.ds hD rfl ?_
                refine J.shut [2, 3, 4, 0] (BktAt m M) rfl (fun h s => ⟨z, s⟩) ?_
                refine J.retC [0, 1, 2, 5] (vs := [_, _, _, _, _]) rfl rfl Try.isAgg41 Try.sizeOf41 (ReadsN.pt 3 rfl) rfl (B := [_, _, _]) ⟨_, rfl, hy, rfl⟩
            ·
              first | replace hc28 := X.tt_dec hc28 | replace hc28 := X.tt_not hc28 | replace hc28 := X.ff_dec hc28 | replace hc28 := X.ff_not hc28 | skip
              try (first | (cases hc28; done) | (exfalso; simp at hc28; done))
              all_goals
                refine J.cond_f rfl ?_
                refine J.cskip ?_
                skip
        ·
          first | replace hb23 := X.tt_dec hb23 | replace hb23 := X.tt_not hb23 | replace hb23 := X.ff_dec hb23 | replace hb23 := X.ff_not hb23 | skip
          try (first | (cases hb23; done) | (exfalso; simp at hb23; done))
          all_goals
            refine J.skip rfl rfl ?_
            refine J.skip rfl rfl ?_
            refine J.skip rfl rfl ?_
            refine J.skip rfl rfl ?_
            refine J.q rfl rfl (Q.pick_f rfl rfl) ?_
            refine J.nil ?_
            refine J.then_n ?_
            refine J.cond_f rfl ?_
            refine J.cskip ?_
            skip
      ·
        exact hF.elim
theorem do_kept (hc : x.o.chkB = true) {r : RM} (hD : sget x.o.id M.done = some r) (hrd : readsK x.o.kind = false) : FSpec Try.prog 13 [.pointer (some ⟨m, 0, none⟩), .agg x.cells.toArray] [BktAt m M, G] (ActR m G (r, M)) := by
  refine FSpec.of Try.func13 rfl Try.ntmps13 rfl fun W0 F => ?_
  refine J.seq ?_
  refine J.region ?_
  refine J.c rfl rfl (C.box (l := [_, _, _, _, _, _, _, _, _]) rfl rfl) ?_
  rintro _ _ ⟨b3, rfl, rfl⟩
  refine J.norm rfl ?_
  refine J.c rfl rfl (C.alloc (l := [_, _, _, _, _]) Try.zeroValue41 rfl) ?_
  rintro _ _ ⟨b4, rfl, rfl⟩
  refine J.norm rfl ?_
  refine J.nil ?_
  refine J.then_n ?_
  refine J.seq ?_
  refine J.seq ?_
  refine J.region ?_
  refine J.q rfl rfl (Q.ldN (vs := [_, _, _, _, _, _, _, _, _]) Try.isAgg26 Try.sizeOf26 rfl (by first | exact ReadsN.pt 0 rfl | exact ReadsN.pt 1 rfl | exact ReadsN.pt 2 rfl | exact ReadsN.pt 3 rfl | exact ReadsN.pt 4 rfl | exact ReadsN.pt 5 rfl | exact ReadsN.pt 6 rfl | exact ReadsN.pt 7 rfl | exact ReadsN.pt 8 rfl | exact ReadsN.pt 9 rfl | exact ReadsN.pt 10 rfl | exact ReadsN.pt 11 rfl | exact ReadsN.pt 12 rfl | exact ReadsN.pt 13 rfl)) ?_
  refine J.call Try.call7 ((by first | exact check_yes G x hx hc | exact check_no G x hx hc)) [3] rfl rfl rfl rfl ?_
  rintro _ _ ⟨rfl, rfl⟩
  refine J.norm rfl ?_
  refine J.q rfl rfl (Q.neq rfl rfl) ?_
  refine J.nil ?_
  refine J.then_n ?_
  refine J.cases 10 rfl (fun hc10 => ?_) (fun hc10 => ?_)
  ·
    first | replace hc10 := X.tt_dec hc10 | replace hc10 := X.tt_not hc10 | replace hc10 := X.ff_dec hc10 | replace hc10 := X.ff_not hc10 | skip
    try (first | (cases hc10; done) | (exfalso; simp at hc10; done))
    all_goals
      refine J.cond_t rfl ?_
      refine J.seq ?_
      refine J.region ?_
      refine J.call Try.call24 (status_spec 400) [] rfl rfl rfl rfl ?_
      rintro _ _ ⟨y, rfl, hy, rfl⟩
      refine J.norm rfl ?_
      first | refine J.c0 rfl (C.stA (i := 0) (vs := [_, _, _, _, _]) Try.sizeOf41 rfl rfl rfl rfl rfl rfl) ?_ | refine J.c0 rfl (C.stA (i := 1) (vs := [_, _, _, _, _]) Try.sizeOf41 rfl rfl rfl rfl rfl rfl) ?_ | refine J.c0 rfl (C.stA (i := 2) (vs := [_, _, _, _, _]) Try.sizeOf41 rfl rfl rfl rfl rfl rfl) ?_ | refine J.c0 rfl (C.stA (i := 3) (vs := [_, _, _, _, _]) Try.sizeOf41 rfl rfl rfl rfl rfl rfl) ?_ | refine J.c0 rfl (C.stA (i := 4) (vs := [_, _, _, _, _]) Try.sizeOf41 rfl rfl rfl rfl rfl rfl) ?_ | refine J.c0 rfl (C.stA (i := 5) (vs := [_, _, _, _, _]) Try.sizeOf41 rfl rfl rfl rfl rfl rfl) ?_ | refine J.c0 rfl (C.stA (i := 6) (vs := [_, _, _, _, _]) Try.sizeOf41 rfl rfl rfl rfl rfl rfl) ?_ | refine J.c0 rfl (C.stA (i := 7) (vs := [_, _, _, _, _]) Try.sizeOf41 rfl rfl rfl rfl rfl rfl) ?_ | refine J.c0 rfl (C.stA (i := 8) (vs := [_, _, _, _, _]) Try.sizeOf41 rfl rfl rfl rfl rfl rfl) ?_ | refine J.c0 rfl (C.stA (i := 9) (vs := [_, _, _, _, _]) Try.sizeOf41 rfl rfl rfl rfl rfl rfl) ?_ | refine J.c0 rfl (C.stA (i := 10) (vs := [_, _, _, _, _]) Try.sizeOf41 rfl rfl rfl rfl rfl rfl) ?_ | refine J.c0 rfl (C.stA (i := 11) (vs := [_, _, _, _, _]) Try.sizeOf41 rfl rfl rfl rfl rfl rfl) ?_ | refine J.c0 rfl (C.stA (i := 12) (vs := [_, _, _, _, _]) Try.sizeOf41 rfl rfl rfl rfl rfl rfl) ?_ | refine J.c0 rfl (C.stA (i := 13) (vs := [_, _, _, _, _]) Try.sizeOf41 rfl rfl rfl rfl rfl rfl) ?_ | refine J.c0 rfl (C.stA (i := 14) (vs := [_, _, _, _, _]) Try.sizeOf41 rfl rfl rfl rfl rfl rfl) ?_ | refine J.c0 rfl (C.stA (i := 15) (vs := [_, _, _, _, _]) Try.sizeOf41 rfl rfl rfl rfl rfl rfl) ?_
      rintro _ _ ⟨rfl, rfl⟩
      refine J.nil ?_
      refine J.then_n ?_
      refine J.cret ?_
      refine J.then_r ?_
      refine J.retC [4, 0, 1, 5] (vs := [_, _, _, _, _]) rfl rfl Try.isAgg41 Try.sizeOf41 (ReadsN.pt 2 rfl) rfl (B := [_, _, _]) ⟨_, rfl, hy, rfl⟩
  ·
    first | replace hc10 := X.tt_dec hc10 | replace hc10 := X.tt_not hc10 | replace hc10 := X.ff_dec hc10 | replace hc10 := X.ff_not hc10 | skip
    try (first | (cases hc10; done) | (exfalso; simp at hc10; done))
    all_goals
      refine J.cond_f rfl ?_
      refine J.cskip ?_
      refine J.then_n ?_
      refine J.cut (fun _ : Unit => False) (fun _ => []) (fun _ => []) ?_ fun _ hF => ?_
      ·
        refine J.seq ?_
        refine J.open1 3 rfl (fun _ h => h) fun z => ?_
        refine J.norm rfl ?_
        first
          | (refine J.mapFocus 3 hD rfl fun val => ?_
             refine J.norm rfl ?_
             refine J.open_ 0 rfl rfl (fun _ h => h) fun y0 hy0 => ?_
             obtain ⟨hyr, hyv⟩ := hy0
             subst hyv
             subst hyr
             refine J.norm rfl ?_
             have hrs := hM.rs _ _ hD
             refine J.tells 0 rfl (asn_ok ⟨by omega, by omega⟩) fun hy0 => ?_)
          | skip
        refine J.draw [10, 11, 12] Try.mixed (by kernel_rfl) fun hR => ?_
        refine RG.q 0 hR rfl rfl rfl rfl rfl rfl (Q.mv rfl) ?_
        refine RG.q 1 hR rfl rfl rfl rfl rfl rfl (Q.nil_ rfl) ?_
        refine RG.q 2 hR rfl rfl rfl rfl rfl rfl (Q.fa (n := 2) Try.runUnderlying62 rfl rfl Try.sizeOf60 rfl) ?_
        refine RG.q 3 hR rfl rfl rfl rfl rfl rfl (Q.ld Try.isAgg60 rfl (by first | exact Reads.pt 0 rfl rfl | exact Reads.pt 1 rfl rfl | exact Reads.pt 2 rfl rfl | exact Reads.pt 3 rfl rfl | exact Reads.pt 4 rfl rfl | exact Reads.pt 5 rfl rfl | exact Reads.pt 6 rfl rfl | exact Reads.pt 7 rfl rfl | exact Reads.pt 8 rfl rfl | exact Reads.pt 9 rfl rfl | exact Reads.pt 10 rfl rfl | exact Reads.pt 11 rfl rfl | exact Reads.pt 12 rfl rfl | exact Reads.pt 13 rfl rfl)) ?_
        refine RG.q 4 hR rfl rfl rfl rfl rfl rfl (Q.fa (n := 0) Try.runUnderlying26 rfl rfl Try.sizeOf22 rfl) ?_
        refine RG.q 5 hR rfl rfl rfl rfl rfl rfl (Q.ld Try.isAgg22 rfl (by first | exact Reads.pt 0 rfl rfl | exact Reads.pt 1 rfl rfl | exact Reads.pt 2 rfl rfl | exact Reads.pt 3 rfl rfl | exact Reads.pt 4 rfl rfl | exact Reads.pt 5 rfl rfl | exact Reads.pt 6 rfl rfl | exact Reads.pt 7 rfl rfl | exact Reads.pt 8 rfl rfl | exact Reads.pt 9 rfl rfl | exact Reads.pt 10 rfl rfl | exact Reads.pt 11 rfl rfl | exact Reads.pt 12 rfl rfl | exact Reads.pt 13 rfl rfl)) ?_
        refine RG.q 6 hR rfl rfl rfl rfl rfl rfl (by first | exact X.G.Q.lk2No (i := 3) Try.runUnderlying60 keyU Try.zeroValue41 rfl rfl rfl hD | exact X.G.Q.lk2Yes (i := 1) Try.runUnderlying60 keyU Try.zeroValue41 rfl rfl rfl) ?_
        refine RG.q 7 hR rfl rfl rfl rfl rfl rfl (Q.mv rfl) ?_
        refine RG.q 8 hR rfl rfl rfl rfl rfl rfl (Q.ext rfl rfl) ?_
        refine RG.q 9 hR rfl rfl rfl rfl rfl rfl (Q.ext rfl rfl) ?_
        refine RG.made 10 hR rfl rfl rfl rfl rfl (C.alloc (l := [_, _, _, _, _]) Try.zeroValue41 rfl) ?_
        rintro b5
        first | refine RG.stAk 11 (j := 0) (vs := [_, _, _, _, _]) hR rfl rfl rfl rfl Try.sizeOf41 rfl rfl rfl rfl rfl rfl ?_ | refine RG.stAk 11 (j := 1) (vs := [_, _, _, _, _]) hR rfl rfl rfl rfl Try.sizeOf41 rfl rfl rfl rfl rfl rfl ?_ | refine RG.stAk 11 (j := 2) (vs := [_, _, _, _, _]) hR rfl rfl rfl rfl Try.sizeOf41 rfl rfl rfl rfl rfl rfl ?_ | refine RG.stAk 11 (j := 3) (vs := [_, _, _, _, _]) hR rfl rfl rfl rfl Try.sizeOf41 rfl rfl rfl rfl rfl rfl ?_ | refine RG.stAk 11 (j := 4) (vs := [_, _, _, _, _]) hR rfl rfl rfl rfl Try.sizeOf41 rfl rfl rfl rfl rfl rfl ?_ | refine RG.stAk 11 (j := 5) (vs := [_, _, _, _, _]) hR rfl rfl rfl rfl Try.sizeOf41 rfl rfl rfl rfl rfl rfl ?_ | refine RG.stAk 11 (j := 6) (vs := [_, _, _, _, _]) hR rfl rfl rfl rfl Try.sizeOf41 rfl rfl rfl rfl rfl rfl ?_ | refine RG.stAk 11 (j := 7) (vs := [_, _, _, _, _]) hR rfl rfl rfl rfl Try.sizeOf41 rfl rfl rfl rfl rfl rfl ?_ | refine RG.stAk 11 (j := 8) (vs := [_, _, _, _, _]) hR rfl rfl rfl rfl Try.sizeOf41 rfl rfl rfl rfl rfl rfl ?_ | refine RG.stAk 11 (j := 9) (vs := [_, _, _, _, _]) hR rfl rfl rfl rfl Try.sizeOf41 rfl rfl rfl rfl rfl rfl ?_ | refine RG.stAk 11 (j := 10) (vs := [_, _, _, _, _]) hR rfl rfl rfl rfl Try.sizeOf41 rfl rfl rfl rfl rfl rfl ?_ | refine RG.stAk 11 (j := 11) (vs := [_, _, _, _, _]) hR rfl rfl rfl rfl Try.sizeOf41 rfl rfl rfl rfl rfl rfl ?_ | refine RG.stAk 11 (j := 12) (vs := [_, _, _, _, _]) hR rfl rfl rfl rfl Try.sizeOf41 rfl rfl rfl rfl rfl rfl ?_ | refine RG.stAk 11 (j := 13) (vs := [_, _, _, _, _]) hR rfl rfl rfl rfl Try.sizeOf41 rfl rfl rfl rfl rfl rfl ?_ | refine RG.stAk 11 (j := 14) (vs := [_, _, _, _, _]) hR rfl rfl rfl rfl Try.sizeOf41 rfl rfl rfl rfl rfl rfl ?_ | refine RG.stAk 11 (j := 15) (vs := [_, _, _, _, _]) hR rfl rfl rfl rfl Try.sizeOf41 rfl rfl rfl rfl rfl rfl ?_
        refine RG.bar 12 hR rfl rfl rfl rfl rfl rfl (Q.asg rfl).toC ?_
        rintro _ _ ⟨rfl, rfl⟩
        refine RG.norm rfl ?_
        refine RG.fin hR rfl ?_
        refine J.norm rfl ?_
        refine J.then_n ?_
        refine J.seq ?_
        refine J.region ?_
        refine J.q rfl rfl (Q.mv rfl) ?_
        refine J.q rfl rfl (Q.mv rfl) ?_
        refine J.cases 23 rfl (fun hb23 => ?_) (fun hb23 => ?_)
        ·
          first | replace hb23 := X.tt_dec hb23 | replace hb23 := X.tt_not hb23 | replace hb23 := X.ff_dec hb23 | replace hb23 := X.ff_not hb23 | skip
          try (first | (cases hb23; done) | (exfalso; simp at hb23; done))
          all_goals
            refine J.q rfl rfl (Q.fa (n := 1) Try.runUnderlying26 rfl rfl Try.sizeOf3 rfl) ?_
            refine J.q rfl rfl (Q.ld Try.isAgg3 rfl (by first | exact Reads.pt 0 rfl rfl | exact Reads.pt 1 rfl rfl | exact Reads.pt 2 rfl rfl | exact Reads.pt 3 rfl rfl | exact Reads.pt 4 rfl rfl | exact Reads.pt 5 rfl rfl | exact Reads.pt 6 rfl rfl | exact Reads.pt 7 rfl rfl | exact Reads.pt 8 rfl rfl | exact Reads.pt 9 rfl rfl | exact Reads.pt 10 rfl rfl | exact Reads.pt 11 rfl rfl | exact Reads.pt 12 rfl rfl | exact Reads.pt 13 rfl rfl)) ?_
            refine J.call Try.call9 (reads_at hrd) [] rfl rfl rfl rfl ?_
            rintro _ _ ⟨rfl, rfl⟩
            refine J.norm rfl ?_
            refine J.q rfl rfl (Q.not rfl) ?_
            refine J.q rfl rfl (Q.pick_t rfl rfl) ?_
            refine J.nil ?_
            refine J.then_n ?_
            refine J.cases 28 rfl (fun hc28 => ?_) (fun hc28 => ?_)
            ·
              first | replace hc28 := X.tt_dec hc28 | replace hc28 := X.tt_not hc28 | replace hc28 := X.ff_dec hc28 | replace hc28 := X.ff_not hc28 | skip
              try (first | (cases hc28; done) | (exfalso; simp at hc28; done))
              all_goals
                refine J.cond_t rfl ?_
                refine J.seq ?_
                refine J.region ?_
                refine J.q rfl rfl (Q.ldN (vs := [_, _, _, _, _]) Try.isAgg41 Try.sizeOf41 rfl (by first | exact ReadsN.pt 0 rfl | exact ReadsN.pt 1 rfl | exact ReadsN.pt 2 rfl | exact ReadsN.pt 3 rfl | exact ReadsN.pt 4 rfl | exact ReadsN.pt 5 rfl | exact ReadsN.pt 6 rfl | exact ReadsN.pt 7 rfl | exact ReadsN.pt 8 rfl | exact ReadsN.pt 9 rfl | exact ReadsN.pt 10 rfl | exact ReadsN.pt 11 rfl | exact ReadsN.pt 12 rfl | exact ReadsN.pt 13 rfl)) ?_
                refine J.call Try.call25 (apart_spec y0.asn y0 hy0) [0] rfl rfl rfl rfl ?_
                rintro _ _ ⟨y, rfl, hy, rfl⟩
                refine J.norm rfl ?_
                first | refine J.c0 rfl (C.stA (i := 0) (vs := [_, _, _, _, _]) Try.sizeOf41 rfl rfl rfl rfl rfl rfl) ?_ | refine J.c0 rfl (C.stA (i := 1) (vs := [_, _, _, _, _]) Try.sizeOf41 rfl rfl rfl rfl rfl rfl) ?_ | refine J.c0 rfl (C.stA (i := 2) (vs := [_, _, _, _, _]) Try.sizeOf41 rfl rfl rfl rfl rfl rfl) ?_ | refine J.c0 rfl (C.stA (i := 3) (vs := [_, _, _, _, _]) Try.sizeOf41 rfl rfl rfl rfl rfl rfl) ?_ | refine J.c0 rfl (C.stA (i := 4) (vs := [_, _, _, _, _]) Try.sizeOf41 rfl rfl rfl rfl rfl rfl) ?_ | refine J.c0 rfl (C.stA (i := 5) (vs := [_, _, _, _, _]) Try.sizeOf41 rfl rfl rfl rfl rfl rfl) ?_ | refine J.c0 rfl (C.stA (i := 6) (vs := [_, _, _, _, _]) Try.sizeOf41 rfl rfl rfl rfl rfl rfl) ?_ | refine J.c0 rfl (C.stA (i := 7) (vs := [_, _, _, _, _]) Try.sizeOf41 rfl rfl rfl rfl rfl rfl) ?_ | refine J.c0 rfl (C.stA (i := 8) (vs := [_, _, _, _, _]) Try.sizeOf41 rfl rfl rfl rfl rfl rfl) ?_ | refine J.c0 rfl (C.stA (i := 9) (vs := [_, _, _, _, _]) Try.sizeOf41 rfl rfl rfl rfl rfl rfl) ?_ | refine J.c0 rfl (C.stA (i := 10) (vs := [_, _, _, _, _]) Try.sizeOf41 rfl rfl rfl rfl rfl rfl) ?_ | refine J.c0 rfl (C.stA (i := 11) (vs := [_, _, _, _, _]) Try.sizeOf41 rfl rfl rfl rfl rfl rfl) ?_ | refine J.c0 rfl (C.stA (i := 12) (vs := [_, _, _, _, _]) Try.sizeOf41 rfl rfl rfl rfl rfl rfl) ?_ | refine J.c0 rfl (C.stA (i := 13) (vs := [_, _, _, _, _]) Try.sizeOf41 rfl rfl rfl rfl rfl rfl) ?_ | refine J.c0 rfl (C.stA (i := 14) (vs := [_, _, _, _, _]) Try.sizeOf41 rfl rfl rfl rfl rfl rfl) ?_ | refine J.c0 rfl (C.stA (i := 15) (vs := [_, _, _, _, _]) Try.sizeOf41 rfl rfl rfl rfl rfl rfl) ?_
                rintro _ _ ⟨rfl, rfl⟩
                refine J.nil ?_
                refine J.then_n ?_
                refine J.cret ?_
                refine J.cut_r ?_
                refine J.shut [1] (dRep x.o.id y0.r (.agg y0.cells.toArray)) rfl (fun h s => ⟨y0, ⟨rfl, rfl⟩, s⟩) ?_
                refine J.mapSame 0 2 ord3_nat hM.ds hD rfl ?_
                refine J.shut [2, 3, 4, 0] (BktAt m M) rfl (fun h s => ⟨z, s⟩) ?_
                refine J.retC [0, 1, 2, 5] (vs := [_, _, _, _, _]) rfl rfl Try.isAgg41 Try.sizeOf41 (ReadsN.pt 3 rfl) rfl (B := [_, _, _]) ⟨_, rfl, hy, rfl⟩
            ·
              first | replace hc28 := X.tt_dec hc28 | replace hc28 := X.tt_not hc28 | replace hc28 := X.ff_dec hc28 | replace hc28 := X.ff_not hc28 | skip
              try (first | (cases hc28; done) | (exfalso; simp at hc28; done))
              all_goals
                refine J.cond_f rfl ?_
                refine J.cskip ?_
                skip
        ·
          first | replace hb23 := X.tt_dec hb23 | replace hb23 := X.tt_not hb23 | replace hb23 := X.ff_dec hb23 | replace hb23 := X.ff_not hb23 | skip
          try (first | (cases hb23; done) | (exfalso; simp at hb23; done))
          all_goals
            refine J.skip rfl rfl ?_
            refine J.skip rfl rfl ?_
            refine J.skip rfl rfl ?_
            refine J.skip rfl rfl ?_
            refine J.q rfl rfl (Q.pick_f rfl rfl) ?_
            refine J.nil ?_
            refine J.then_n ?_
            refine J.cond_f rfl ?_
            refine J.cskip ?_
            skip
      ·
        exact hF.elim
theorem do_read0 (hA : HasAct m M x G) (hc : x.o.chkB = true) (hD : sget x.o.id M.done = none) (hrd : readsK x.o.kind = true) : FSpec Try.prog 13 [.pointer (some ⟨m, 0, none⟩), .agg x.cells.toArray] [BktAt m M, G] (ActR m G (M.act x.o)) := by
  refine FSpec.of Try.func13 rfl Try.ntmps13 rfl fun W0 F => ?_
  refine J.seq ?_
  refine J.region ?_
  refine J.c rfl rfl (C.box (l := [_, _, _, _, _, _, _, _, _]) rfl rfl) ?_
  rintro _ _ ⟨b3, rfl, rfl⟩
  refine J.norm rfl ?_
  refine J.c rfl rfl (C.alloc (l := [_, _, _, _, _]) Try.zeroValue41 rfl) ?_
  rintro _ _ ⟨b4, rfl, rfl⟩
  refine J.norm rfl ?_
  refine J.nil ?_
  refine J.then_n ?_
  refine J.seq ?_
  refine J.seq ?_
  refine J.region ?_
  refine J.q rfl rfl (Q.ldN (vs := [_, _, _, _, _, _, _, _, _]) Try.isAgg26 Try.sizeOf26 rfl (by first | exact ReadsN.pt 0 rfl | exact ReadsN.pt 1 rfl | exact ReadsN.pt 2 rfl | exact ReadsN.pt 3 rfl | exact ReadsN.pt 4 rfl | exact ReadsN.pt 5 rfl | exact ReadsN.pt 6 rfl | exact ReadsN.pt 7 rfl | exact ReadsN.pt 8 rfl | exact ReadsN.pt 9 rfl | exact ReadsN.pt 10 rfl | exact ReadsN.pt 11 rfl | exact ReadsN.pt 12 rfl | exact ReadsN.pt 13 rfl)) ?_
  refine J.call Try.call7 ((by first | exact check_yes G x hx hc | exact check_no G x hx hc)) [3] rfl rfl rfl rfl ?_
  rintro _ _ ⟨rfl, rfl⟩
  refine J.norm rfl ?_
  refine J.q rfl rfl (Q.neq rfl rfl) ?_
  refine J.nil ?_
  refine J.then_n ?_
  refine J.cases 10 rfl (fun hc10 => ?_) (fun hc10 => ?_)
  ·
    first | replace hc10 := X.tt_dec hc10 | replace hc10 := X.tt_not hc10 | replace hc10 := X.ff_dec hc10 | replace hc10 := X.ff_not hc10 | skip
    try (first | (cases hc10; done) | (exfalso; simp at hc10; done))
    all_goals
      refine J.cond_t rfl ?_
      refine J.seq ?_
      refine J.region ?_
      refine J.call Try.call24 (status_spec 400) [] rfl rfl rfl rfl ?_
      rintro _ _ ⟨y, rfl, hy, rfl⟩
      refine J.norm rfl ?_
      first | refine J.c0 rfl (C.stA (i := 0) (vs := [_, _, _, _, _]) Try.sizeOf41 rfl rfl rfl rfl rfl rfl) ?_ | refine J.c0 rfl (C.stA (i := 1) (vs := [_, _, _, _, _]) Try.sizeOf41 rfl rfl rfl rfl rfl rfl) ?_ | refine J.c0 rfl (C.stA (i := 2) (vs := [_, _, _, _, _]) Try.sizeOf41 rfl rfl rfl rfl rfl rfl) ?_ | refine J.c0 rfl (C.stA (i := 3) (vs := [_, _, _, _, _]) Try.sizeOf41 rfl rfl rfl rfl rfl rfl) ?_ | refine J.c0 rfl (C.stA (i := 4) (vs := [_, _, _, _, _]) Try.sizeOf41 rfl rfl rfl rfl rfl rfl) ?_ | refine J.c0 rfl (C.stA (i := 5) (vs := [_, _, _, _, _]) Try.sizeOf41 rfl rfl rfl rfl rfl rfl) ?_ | refine J.c0 rfl (C.stA (i := 6) (vs := [_, _, _, _, _]) Try.sizeOf41 rfl rfl rfl rfl rfl rfl) ?_ | refine J.c0 rfl (C.stA (i := 7) (vs := [_, _, _, _, _]) Try.sizeOf41 rfl rfl rfl rfl rfl rfl) ?_ | refine J.c0 rfl (C.stA (i := 8) (vs := [_, _, _, _, _]) Try.sizeOf41 rfl rfl rfl rfl rfl rfl) ?_ | refine J.c0 rfl (C.stA (i := 9) (vs := [_, _, _, _, _]) Try.sizeOf41 rfl rfl rfl rfl rfl rfl) ?_ | refine J.c0 rfl (C.stA (i := 10) (vs := [_, _, _, _, _]) Try.sizeOf41 rfl rfl rfl rfl rfl rfl) ?_ | refine J.c0 rfl (C.stA (i := 11) (vs := [_, _, _, _, _]) Try.sizeOf41 rfl rfl rfl rfl rfl rfl) ?_ | refine J.c0 rfl (C.stA (i := 12) (vs := [_, _, _, _, _]) Try.sizeOf41 rfl rfl rfl rfl rfl rfl) ?_ | refine J.c0 rfl (C.stA (i := 13) (vs := [_, _, _, _, _]) Try.sizeOf41 rfl rfl rfl rfl rfl rfl) ?_ | refine J.c0 rfl (C.stA (i := 14) (vs := [_, _, _, _, _]) Try.sizeOf41 rfl rfl rfl rfl rfl rfl) ?_ | refine J.c0 rfl (C.stA (i := 15) (vs := [_, _, _, _, _]) Try.sizeOf41 rfl rfl rfl rfl rfl rfl) ?_
      rintro _ _ ⟨rfl, rfl⟩
      refine J.nil ?_
      refine J.then_n ?_
      refine J.cret ?_
      refine J.then_r ?_
      refine J.retC [4, 0, 1, 5] (vs := [_, _, _, _, _]) rfl rfl Try.isAgg41 Try.sizeOf41 (ReadsN.pt 2 rfl) rfl (B := [_, _, _]) ⟨_, rfl, hy, rfl⟩
  ·
    first | replace hc10 := X.tt_dec hc10 | replace hc10 := X.tt_not hc10 | replace hc10 := X.ff_dec hc10 | replace hc10 := X.ff_not hc10 | skip
    try (first | (cases hc10; done) | (exfalso; simp at hc10; done))
    all_goals
      refine J.cond_f rfl ?_
      refine J.cskip ?_
      refine J.then_n ?_
      refine J.cut (fun _ : Unit => True) (fun _ => [(0, .pointer (some ⟨m, 0, none⟩)), (3, .pointer (some ⟨b3, 0, none⟩)), (4, .pointer (some ⟨b4, 0, none⟩))]) (fun _ => [pt b3 (.cells x.cells.toArray 26 (0, 0)), BktAt m M, G, pt b4 (.cells [Value.int .i64 0, .int .u64 0, .slice none 0 0, .bool false, .slice none 0 0].toArray 41 (0, 0)), F]) ?_ fun _ _ => ?_
      ·
        refine J.seq ?_
        refine J.open1 3 rfl (fun _ h => h) fun z => ?_
        refine J.norm rfl ?_
        first
          | (refine J.mapFocus 3 hD rfl fun val => ?_
             refine J.norm rfl ?_
             refine J.open_ 0 rfl rfl (fun _ h => h) fun y0 hy0 => ?_
             obtain ⟨hyr, hyv⟩ := hy0
             subst hyv
             subst hyr
             refine J.norm rfl ?_
             have hrs := hM.rs _ _ hD
             refine J.tells 0 rfl (asn_ok ⟨by omega, by omega⟩) fun hy0 => ?_)
          | skip
        refine J.draw [10, 11, 12] Try.mixed (by kernel_rfl) fun hR => ?_
        refine RG.q 0 hR rfl rfl rfl rfl rfl rfl (Q.mv rfl) ?_
        refine RG.q 1 hR rfl rfl rfl rfl rfl rfl (Q.nil_ rfl) ?_
        refine RG.q 2 hR rfl rfl rfl rfl rfl rfl (Q.fa (n := 2) Try.runUnderlying62 rfl rfl Try.sizeOf60 rfl) ?_
        refine RG.q 3 hR rfl rfl rfl rfl rfl rfl (Q.ld Try.isAgg60 rfl (by first | exact Reads.pt 0 rfl rfl | exact Reads.pt 1 rfl rfl | exact Reads.pt 2 rfl rfl | exact Reads.pt 3 rfl rfl | exact Reads.pt 4 rfl rfl | exact Reads.pt 5 rfl rfl | exact Reads.pt 6 rfl rfl | exact Reads.pt 7 rfl rfl | exact Reads.pt 8 rfl rfl | exact Reads.pt 9 rfl rfl | exact Reads.pt 10 rfl rfl | exact Reads.pt 11 rfl rfl | exact Reads.pt 12 rfl rfl | exact Reads.pt 13 rfl rfl)) ?_
        refine RG.q 4 hR rfl rfl rfl rfl rfl rfl (Q.fa (n := 0) Try.runUnderlying26 rfl rfl Try.sizeOf22 rfl) ?_
        refine RG.q 5 hR rfl rfl rfl rfl rfl rfl (Q.ld Try.isAgg22 rfl (by first | exact Reads.pt 0 rfl rfl | exact Reads.pt 1 rfl rfl | exact Reads.pt 2 rfl rfl | exact Reads.pt 3 rfl rfl | exact Reads.pt 4 rfl rfl | exact Reads.pt 5 rfl rfl | exact Reads.pt 6 rfl rfl | exact Reads.pt 7 rfl rfl | exact Reads.pt 8 rfl rfl | exact Reads.pt 9 rfl rfl | exact Reads.pt 10 rfl rfl | exact Reads.pt 11 rfl rfl | exact Reads.pt 12 rfl rfl | exact Reads.pt 13 rfl rfl)) ?_
        refine RG.q 6 hR rfl rfl rfl rfl rfl rfl (by first | exact X.G.Q.lk2No (i := 3) Try.runUnderlying60 keyU Try.zeroValue41 rfl rfl rfl hD | exact X.G.Q.lk2Yes (i := 1) Try.runUnderlying60 keyU Try.zeroValue41 rfl rfl rfl) ?_
        refine RG.q 7 hR rfl rfl rfl rfl rfl rfl (Q.mv rfl) ?_
        refine RG.q 8 hR rfl rfl rfl rfl rfl rfl (Q.ext rfl rfl) ?_
        refine RG.q 9 hR rfl rfl rfl rfl rfl rfl (Q.ext rfl rfl) ?_
        refine RG.made 10 hR rfl rfl rfl rfl rfl (C.alloc (l := [_, _, _, _, _]) Try.zeroValue41 rfl) ?_
        rintro b5
        first | refine RG.stAk 11 (j := 0) (vs := [_, _, _, _, _]) hR rfl rfl rfl rfl Try.sizeOf41 rfl rfl rfl rfl rfl rfl ?_ | refine RG.stAk 11 (j := 1) (vs := [_, _, _, _, _]) hR rfl rfl rfl rfl Try.sizeOf41 rfl rfl rfl rfl rfl rfl ?_ | refine RG.stAk 11 (j := 2) (vs := [_, _, _, _, _]) hR rfl rfl rfl rfl Try.sizeOf41 rfl rfl rfl rfl rfl rfl ?_ | refine RG.stAk 11 (j := 3) (vs := [_, _, _, _, _]) hR rfl rfl rfl rfl Try.sizeOf41 rfl rfl rfl rfl rfl rfl ?_ | refine RG.stAk 11 (j := 4) (vs := [_, _, _, _, _]) hR rfl rfl rfl rfl Try.sizeOf41 rfl rfl rfl rfl rfl rfl ?_ | refine RG.stAk 11 (j := 5) (vs := [_, _, _, _, _]) hR rfl rfl rfl rfl Try.sizeOf41 rfl rfl rfl rfl rfl rfl ?_ | refine RG.stAk 11 (j := 6) (vs := [_, _, _, _, _]) hR rfl rfl rfl rfl Try.sizeOf41 rfl rfl rfl rfl rfl rfl ?_ | refine RG.stAk 11 (j := 7) (vs := [_, _, _, _, _]) hR rfl rfl rfl rfl Try.sizeOf41 rfl rfl rfl rfl rfl rfl ?_ | refine RG.stAk 11 (j := 8) (vs := [_, _, _, _, _]) hR rfl rfl rfl rfl Try.sizeOf41 rfl rfl rfl rfl rfl rfl ?_ | refine RG.stAk 11 (j := 9) (vs := [_, _, _, _, _]) hR rfl rfl rfl rfl Try.sizeOf41 rfl rfl rfl rfl rfl rfl ?_ | refine RG.stAk 11 (j := 10) (vs := [_, _, _, _, _]) hR rfl rfl rfl rfl Try.sizeOf41 rfl rfl rfl rfl rfl rfl ?_ | refine RG.stAk 11 (j := 11) (vs := [_, _, _, _, _]) hR rfl rfl rfl rfl Try.sizeOf41 rfl rfl rfl rfl rfl rfl ?_ | refine RG.stAk 11 (j := 12) (vs := [_, _, _, _, _]) hR rfl rfl rfl rfl Try.sizeOf41 rfl rfl rfl rfl rfl rfl ?_ | refine RG.stAk 11 (j := 13) (vs := [_, _, _, _, _]) hR rfl rfl rfl rfl Try.sizeOf41 rfl rfl rfl rfl rfl rfl ?_ | refine RG.stAk 11 (j := 14) (vs := [_, _, _, _, _]) hR rfl rfl rfl rfl Try.sizeOf41 rfl rfl rfl rfl rfl rfl ?_ | refine RG.stAk 11 (j := 15) (vs := [_, _, _, _, _]) hR rfl rfl rfl rfl Try.sizeOf41 rfl rfl rfl rfl rfl rfl ?_
        refine RG.bar 12 hR rfl rfl rfl rfl rfl rfl (Q.asg rfl).toC ?_
        rintro _ _ ⟨rfl, rfl⟩
        refine RG.norm rfl ?_
        refine RG.fin hR rfl ?_
        refine J.norm rfl ?_
        refine J.then_n ?_
        refine J.seq ?_
        refine J.region ?_
        refine J.q rfl rfl (Q.mv rfl) ?_
        refine J.q rfl rfl (Q.mv rfl) ?_
        refine J.cases 23 rfl (fun hb23 => ?_) (fun hb23 => ?_)
        ·
          first | replace hb23 := X.tt_dec hb23 | replace hb23 := X.tt_not hb23 | replace hb23 := X.ff_dec hb23 | replace hb23 := X.ff_not hb23 | skip
          try (first | (cases hb23; done) | (exfalso; simp at hb23; done))
          all_goals
            refine J.q rfl rfl (Q.fa (n := 1) Try.runUnderlying26 rfl rfl Try.sizeOf3 rfl) ?_
            refine J.q rfl rfl (Q.ld Try.isAgg3 rfl (by first | exact Reads.pt 0 rfl rfl | exact Reads.pt 1 rfl rfl | exact Reads.pt 2 rfl rfl | exact Reads.pt 3 rfl rfl | exact Reads.pt 4 rfl rfl | exact Reads.pt 5 rfl rfl | exact Reads.pt 6 rfl rfl | exact Reads.pt 7 rfl rfl | exact Reads.pt 8 rfl rfl | exact Reads.pt 9 rfl rfl | exact Reads.pt 10 rfl rfl | exact Reads.pt 11 rfl rfl | exact Reads.pt 12 rfl rfl | exact Reads.pt 13 rfl rfl)) ?_
            refine J.call Try.call9 (reads_at hrd) [] rfl rfl rfl rfl ?_
            rintro _ _ ⟨rfl, rfl⟩
            refine J.norm rfl ?_
            refine J.q rfl rfl (Q.not rfl) ?_
            refine J.q rfl rfl (Q.pick_t rfl rfl) ?_
            refine J.nil ?_
            refine J.then_n ?_
            refine J.cases 28 rfl (fun hc28 => ?_) (fun hc28 => ?_)
            ·
              first | replace hc28 := X.tt_dec hc28 | replace hc28 := X.tt_not hc28 | replace hc28 := X.ff_dec hc28 | replace hc28 := X.ff_not hc28 | skip
              try (first | (cases hc28; done) | (exfalso; simp at hc28; done))
              all_goals
                refine J.cond_t rfl ?_
                refine J.seq ?_
                refine J.region ?_
                refine J.q rfl rfl (Q.ldN (vs := [_, _, _, _, _]) Try.isAgg41 Try.sizeOf41 rfl (by first | exact ReadsN.pt 0 rfl | exact ReadsN.pt 1 rfl | exact ReadsN.pt 2 rfl | exact ReadsN.pt 3 rfl | exact ReadsN.pt 4 rfl | exact ReadsN.pt 5 rfl | exact ReadsN.pt 6 rfl | exact ReadsN.pt 7 rfl | exact ReadsN.pt 8 rfl | exact ReadsN.pt 9 rfl | exact ReadsN.pt 10 rfl | exact ReadsN.pt 11 rfl | exact ReadsN.pt 12 rfl | exact ReadsN.pt 13 rfl)) ?_
                refine J.call Try.call25 (apart_spec y0.asn y0 hy0) [0] rfl rfl rfl rfl ?_
                rintro _ _ ⟨y, rfl, hy, rfl⟩
                refine J.norm rfl ?_
                first | refine J.c0 rfl (C.stA (i := 0) (vs := [_, _, _, _, _]) Try.sizeOf41 rfl rfl rfl rfl rfl rfl) ?_ | refine J.c0 rfl (C.stA (i := 1) (vs := [_, _, _, _, _]) Try.sizeOf41 rfl rfl rfl rfl rfl rfl) ?_ | refine J.c0 rfl (C.stA (i := 2) (vs := [_, _, _, _, _]) Try.sizeOf41 rfl rfl rfl rfl rfl rfl) ?_ | refine J.c0 rfl (C.stA (i := 3) (vs := [_, _, _, _, _]) Try.sizeOf41 rfl rfl rfl rfl rfl rfl) ?_ | refine J.c0 rfl (C.stA (i := 4) (vs := [_, _, _, _, _]) Try.sizeOf41 rfl rfl rfl rfl rfl rfl) ?_ | refine J.c0 rfl (C.stA (i := 5) (vs := [_, _, _, _, _]) Try.sizeOf41 rfl rfl rfl rfl rfl rfl) ?_ | refine J.c0 rfl (C.stA (i := 6) (vs := [_, _, _, _, _]) Try.sizeOf41 rfl rfl rfl rfl rfl rfl) ?_ | refine J.c0 rfl (C.stA (i := 7) (vs := [_, _, _, _, _]) Try.sizeOf41 rfl rfl rfl rfl rfl rfl) ?_ | refine J.c0 rfl (C.stA (i := 8) (vs := [_, _, _, _, _]) Try.sizeOf41 rfl rfl rfl rfl rfl rfl) ?_ | refine J.c0 rfl (C.stA (i := 9) (vs := [_, _, _, _, _]) Try.sizeOf41 rfl rfl rfl rfl rfl rfl) ?_ | refine J.c0 rfl (C.stA (i := 10) (vs := [_, _, _, _, _]) Try.sizeOf41 rfl rfl rfl rfl rfl rfl) ?_ | refine J.c0 rfl (C.stA (i := 11) (vs := [_, _, _, _, _]) Try.sizeOf41 rfl rfl rfl rfl rfl rfl) ?_ | refine J.c0 rfl (C.stA (i := 12) (vs := [_, _, _, _, _]) Try.sizeOf41 rfl rfl rfl rfl rfl rfl) ?_ | refine J.c0 rfl (C.stA (i := 13) (vs := [_, _, _, _, _]) Try.sizeOf41 rfl rfl rfl rfl rfl rfl) ?_ | refine J.c0 rfl (C.stA (i := 14) (vs := [_, _, _, _, _]) Try.sizeOf41 rfl rfl rfl rfl rfl rfl) ?_ | refine J.c0 rfl (C.stA (i := 15) (vs := [_, _, _, _, _]) Try.sizeOf41 rfl rfl rfl rfl rfl rfl) ?_
                rintro _ _ ⟨rfl, rfl⟩
                refine J.nil ?_
                refine J.then_n ?_
                refine J.cret ?_
                refine J.cut_r ?_
                refine J.shut [1] (dRep x.o.id y0.r (.agg y0.cells.toArray)) rfl (fun h s => ⟨y0, ⟨rfl, rfl⟩, s⟩) ?_
                refine J.mapSame 0 2 ord3_nat hM.ds hD rfl ?_
                refine J.shut [2, 3, 4, 0] (BktAt m M) rfl (fun h s => ⟨z, s⟩) ?_
                refine J.retC [0, 1, 2, 5] (vs := [_, _, _, _, _]) rfl rfl Try.isAgg41 Try.sizeOf41 (ReadsN.pt 3 rfl) rfl (B := [_, _, _]) ⟨_, rfl, hy, rfl⟩
            ·
              first | replace hc28 := X.tt_dec hc28 | replace hc28 := X.tt_not hc28 | replace hc28 := X.ff_dec hc28 | replace hc28 := X.ff_not hc28 | skip
              try (first | (cases hc28; done) | (exfalso; simp at hc28; done))
              all_goals
                refine J.cond_f rfl ?_
                refine J.cskip ?_
                first
                  | (refine J.shut [0] (dRep x.o.id y0.r (.agg y0.cells.toArray)) rfl (fun h s => ⟨y0, ⟨rfl, rfl⟩, s⟩) ?_
                     refine J.mapSame 0 1 ord3_nat hM.ds hD rfl ?_
                     refine J.shut [1, 2, 3, 0] (BktAt m M) rfl (fun h s => ⟨z, s⟩) ?_)
                  | refine J.shut [0, 1, 2, 3] (BktAt m M) rfl (fun h s => ⟨z, s⟩) ?_
                refine J.keep [3, 0, 1, 2, 4] rfl ?_
                refine J.meet () trivial ⟨rfl, rfl, rfl, trivial⟩ rfl
        ·
          first | replace hb23 := X.tt_dec hb23 | replace hb23 := X.tt_not hb23 | replace hb23 := X.ff_dec hb23 | replace hb23 := X.ff_not hb23 | skip
          try (first | (cases hb23; done) | (exfalso; simp at hb23; done))
          all_goals
            refine J.skip rfl rfl ?_
            refine J.skip rfl rfl ?_
            refine J.skip rfl rfl ?_
            refine J.skip rfl rfl ?_
            refine J.q rfl rfl (Q.pick_f rfl rfl) ?_
            refine J.nil ?_
            refine J.then_n ?_
            refine J.cond_f rfl ?_
            refine J.cskip ?_
            first
              | (refine J.shut [0] (dRep x.o.id y0.r (.agg y0.cells.toArray)) rfl (fun h s => ⟨y0, ⟨rfl, rfl⟩, s⟩) ?_
                 refine J.mapSame 0 1 ord3_nat hM.ds hD rfl ?_
                 refine J.shut [1, 2, 3, 0] (BktAt m M) rfl (fun h s => ⟨z, s⟩) ?_)
              | refine J.shut [0, 1, 2, 3] (BktAt m M) rfl (fun h s => ⟨z, s⟩) ?_
            refine J.keep [3, 0, 1, 2, 4] rfl ?_
            refine J.meet () trivial ⟨rfl, rfl, rfl, trivial⟩ rfl
      ·
        refine J.cut (fun w : Nat × RW => w.2.r = (M.act x.o).1) (fun w => [(0, .pointer (some ⟨m, 0, none⟩)), (3, .pointer (some ⟨b3, 0, none⟩)), (4, .pointer (some ⟨b4, 0, none⟩)), (7, .pointer (some ⟨w.1, 0, none⟩))]) (fun w => [pt b3 (.cells x.cells.toArray 26 (0, 0)), BktAt m (M.act x.o).2, w.2.asn, G, pt b4 (.cells [Value.int .i64 0, .int .u64 0, .slice none 0 0, .bool false, .slice none 0 0].toArray 41 (0, 0)), F, pt w.1 (.cells w.2.cells.toArray 41 (0, 0))]) ?_ fun w hw => ?_
        ·
          obtain ⟨fid, hf1, hf2, hf3⟩ := hA
          refine J.drawE [1, 6, 7, 8] 1 Try.mixed (by kernel_rfl) rfl rfl fun hR => ?_
          refine RG.q 0 hR rfl rfl rfl rfl rfl rfl (Q.mv rfl) ?_
          refine RG.q 2 hR rfl rfl rfl rfl rfl rfl (Q.fa (n := 1) Try.runUnderlying26 rfl rfl Try.sizeOf3 rfl) ?_
          refine RG.q 3 hR rfl rfl rfl rfl rfl rfl (Q.ld Try.isAgg3 rfl (by first | exact Reads.pt 0 rfl rfl | exact Reads.pt 1 rfl rfl | exact Reads.pt 2 rfl rfl | exact Reads.pt 3 rfl rfl | exact Reads.pt 4 rfl rfl | exact Reads.pt 5 rfl rfl | exact Reads.pt 6 rfl rfl | exact Reads.pt 7 rfl rfl | exact Reads.pt 8 rfl rfl | exact Reads.pt 9 rfl rfl | exact Reads.pt 10 rfl rfl | exact Reads.pt 11 rfl rfl | exact Reads.pt 12 rfl rfl | exact Reads.pt 13 rfl rfl)) ?_
          refine RG.q 5 hR rfl rfl rfl rfl rfl rfl (Q.ldN (vs := [_, _, _, _, _, _, _, _, _]) Try.isAgg26 Try.sizeOf26 rfl (by first | exact ReadsN.pt 0 rfl | exact ReadsN.pt 1 rfl | exact ReadsN.pt 2 rfl | exact ReadsN.pt 3 rfl | exact ReadsN.pt 4 rfl | exact ReadsN.pt 5 rfl | exact ReadsN.pt 6 rfl | exact ReadsN.pt 7 rfl | exact ReadsN.pt 8 rfl | exact ReadsN.pt 9 rfl | exact ReadsN.pt 10 rfl | exact ReadsN.pt 11 rfl | exact ReadsN.pt 12 rfl | exact ReadsN.pt 13 rfl)) ?_
          refine RG.many hR 1 [7] rfl ⟨?_, ⟨?_, trivial⟩⟩
          ·
            refine RGi.callk rfl rfl rfl rfl Try.call26 (table_spec m) [] rfl rfl ?_
            rintro _ _ ⟨rt, rfl, rfl⟩
            refine ⟨_, X.pick_perm (is := [1]) rfl, ?_⟩
            refine RG.hold ?_
            refine RG.norm rfl ?_
            refine RG.q 4 hR rfl rfl rfl rfl rfl rfl (X.G.Q.lkPlain (i := 1) ord3_int (tab_srt m) Try.runUnderlying66 keyI Try.zeroValue42 rfl rfl rfl hf1) ?_
            refine RG.many hR 6 [7] rfl ⟨?_, ⟨?_, trivial⟩⟩
            ·
              refine RGi.one rfl rfl rfl rfl (OpC.callv hf2 rfl rfl hf3 [2, 3] rfl) ?_
              rintro _ _ ⟨_, ⟨y, rfl, hy, rfl⟩, rfl⟩
              refine ⟨_, X.pick_perm (is := [3, 4]) rfl, ?_⟩
              refine RG.made 7 hR rfl rfl rfl rfl rfl (C.alloc (l := [_, _, _, _, _]) Try.zeroValue41 rfl) ?_
              rintro b7
              refine RG.rot ?_
              refine RG.normE rfl ?_
              first | refine RG.bar 8 hR rfl rfl rfl rfl rfl rfl (C.stA (i := 0) (vs := [_, _, _, _, _]) Try.sizeOf41 rfl rfl rfl rfl rfl rfl) ?_ | refine RG.bar 8 hR rfl rfl rfl rfl rfl rfl (C.stA (i := 1) (vs := [_, _, _, _, _]) Try.sizeOf41 rfl rfl rfl rfl rfl rfl) ?_ | refine RG.bar 8 hR rfl rfl rfl rfl rfl rfl (C.stA (i := 2) (vs := [_, _, _, _, _]) Try.sizeOf41 rfl rfl rfl rfl rfl rfl) ?_ | refine RG.bar 8 hR rfl rfl rfl rfl rfl rfl (C.stA (i := 3) (vs := [_, _, _, _, _]) Try.sizeOf41 rfl rfl rfl rfl rfl rfl) ?_ | refine RG.bar 8 hR rfl rfl rfl rfl rfl rfl (C.stA (i := 4) (vs := [_, _, _, _, _]) Try.sizeOf41 rfl rfl rfl rfl rfl rfl) ?_ | refine RG.bar 8 hR rfl rfl rfl rfl rfl rfl (C.stA (i := 5) (vs := [_, _, _, _, _]) Try.sizeOf41 rfl rfl rfl rfl rfl rfl) ?_ | refine RG.bar 8 hR rfl rfl rfl rfl rfl rfl (C.stA (i := 6) (vs := [_, _, _, _, _]) Try.sizeOf41 rfl rfl rfl rfl rfl rfl) ?_ | refine RG.bar 8 hR rfl rfl rfl rfl rfl rfl (C.stA (i := 7) (vs := [_, _, _, _, _]) Try.sizeOf41 rfl rfl rfl rfl rfl rfl) ?_ | refine RG.bar 8 hR rfl rfl rfl rfl rfl rfl (C.stA (i := 8) (vs := [_, _, _, _, _]) Try.sizeOf41 rfl rfl rfl rfl rfl rfl) ?_ | refine RG.bar 8 hR rfl rfl rfl rfl rfl rfl (C.stA (i := 9) (vs := [_, _, _, _, _]) Try.sizeOf41 rfl rfl rfl rfl rfl rfl) ?_ | refine RG.bar 8 hR rfl rfl rfl rfl rfl rfl (C.stA (i := 10) (vs := [_, _, _, _, _]) Try.sizeOf41 rfl rfl rfl rfl rfl rfl) ?_ | refine RG.bar 8 hR rfl rfl rfl rfl rfl rfl (C.stA (i := 11) (vs := [_, _, _, _, _]) Try.sizeOf41 rfl rfl rfl rfl rfl rfl) ?_ | refine RG.bar 8 hR rfl rfl rfl rfl rfl rfl (C.stA (i := 12) (vs := [_, _, _, _, _]) Try.sizeOf41 rfl rfl rfl rfl rfl rfl) ?_ | refine RG.bar 8 hR rfl rfl rfl rfl rfl rfl (C.stA (i := 13) (vs := [_, _, _, _, _]) Try.sizeOf41 rfl rfl rfl rfl rfl rfl) ?_ | refine RG.bar 8 hR rfl rfl rfl rfl rfl rfl (C.stA (i := 14) (vs := [_, _, _, _, _]) Try.sizeOf41 rfl rfl rfl rfl rfl rfl) ?_ | refine RG.bar 8 hR rfl rfl rfl rfl rfl rfl (C.stA (i := 15) (vs := [_, _, _, _, _]) Try.sizeOf41 rfl rfl rfl rfl rfl rfl) ?_
              rintro _ _ ⟨rfl, rfl⟩
              refine RG.fin hR rfl ?_
              refine J.norm rfl ?_
              refine J.keep [0, 2, 3, 4, 5, 6, 7] rfl ?_
              refine J.meet (b7, y) hy ⟨rfl, rfl, rfl, rfl, trivial⟩ rfl
            ·
              refine RGi.made rfl rfl rfl rfl (C.alloc (l := [_, _, _, _, _]) Try.zeroValue41 rfl) ?_
              rintro b7
              refine RG.rot ?_
              refine RG.normE rfl ?_
              refine RG.many hR 6 [] rfl ⟨?_, trivial⟩
              ·
                refine RGi.one rfl rfl rfl rfl (OpC.callv hf2 rfl rfl hf3 [2, 3] rfl) ?_
                rintro _ _ ⟨_, ⟨y, rfl, hy, rfl⟩, rfl⟩
                refine ⟨_, X.pick_perm (is := [3, 4]) rfl, ?_⟩
                first | refine RG.bar 8 hR rfl rfl rfl rfl rfl rfl (C.stA (i := 0) (vs := [_, _, _, _, _]) Try.sizeOf41 rfl rfl rfl rfl rfl rfl) ?_ | refine RG.bar 8 hR rfl rfl rfl rfl rfl rfl (C.stA (i := 1) (vs := [_, _, _, _, _]) Try.sizeOf41 rfl rfl rfl rfl rfl rfl) ?_ | refine RG.bar 8 hR rfl rfl rfl rfl rfl rfl (C.stA (i := 2) (vs := [_, _, _, _, _]) Try.sizeOf41 rfl rfl rfl rfl rfl rfl) ?_ | refine RG.bar 8 hR rfl rfl rfl rfl rfl rfl (C.stA (i := 3) (vs := [_, _, _, _, _]) Try.sizeOf41 rfl rfl rfl rfl rfl rfl) ?_ | refine RG.bar 8 hR rfl rfl rfl rfl rfl rfl (C.stA (i := 4) (vs := [_, _, _, _, _]) Try.sizeOf41 rfl rfl rfl rfl rfl rfl) ?_ | refine RG.bar 8 hR rfl rfl rfl rfl rfl rfl (C.stA (i := 5) (vs := [_, _, _, _, _]) Try.sizeOf41 rfl rfl rfl rfl rfl rfl) ?_ | refine RG.bar 8 hR rfl rfl rfl rfl rfl rfl (C.stA (i := 6) (vs := [_, _, _, _, _]) Try.sizeOf41 rfl rfl rfl rfl rfl rfl) ?_ | refine RG.bar 8 hR rfl rfl rfl rfl rfl rfl (C.stA (i := 7) (vs := [_, _, _, _, _]) Try.sizeOf41 rfl rfl rfl rfl rfl rfl) ?_ | refine RG.bar 8 hR rfl rfl rfl rfl rfl rfl (C.stA (i := 8) (vs := [_, _, _, _, _]) Try.sizeOf41 rfl rfl rfl rfl rfl rfl) ?_ | refine RG.bar 8 hR rfl rfl rfl rfl rfl rfl (C.stA (i := 9) (vs := [_, _, _, _, _]) Try.sizeOf41 rfl rfl rfl rfl rfl rfl) ?_ | refine RG.bar 8 hR rfl rfl rfl rfl rfl rfl (C.stA (i := 10) (vs := [_, _, _, _, _]) Try.sizeOf41 rfl rfl rfl rfl rfl rfl) ?_ | refine RG.bar 8 hR rfl rfl rfl rfl rfl rfl (C.stA (i := 11) (vs := [_, _, _, _, _]) Try.sizeOf41 rfl rfl rfl rfl rfl rfl) ?_ | refine RG.bar 8 hR rfl rfl rfl rfl rfl rfl (C.stA (i := 12) (vs := [_, _, _, _, _]) Try.sizeOf41 rfl rfl rfl rfl rfl rfl) ?_ | refine RG.bar 8 hR rfl rfl rfl rfl rfl rfl (C.stA (i := 13) (vs := [_, _, _, _, _]) Try.sizeOf41 rfl rfl rfl rfl rfl rfl) ?_ | refine RG.bar 8 hR rfl rfl rfl rfl rfl rfl (C.stA (i := 14) (vs := [_, _, _, _, _]) Try.sizeOf41 rfl rfl rfl rfl rfl rfl) ?_ | refine RG.bar 8 hR rfl rfl rfl rfl rfl rfl (C.stA (i := 15) (vs := [_, _, _, _, _]) Try.sizeOf41 rfl rfl rfl rfl rfl rfl) ?_
                rintro _ _ ⟨rfl, rfl⟩
                refine RG.fin hR rfl ?_
                refine J.norm rfl ?_
                refine J.keep [0, 2, 3, 4, 5, 6, 7] rfl ?_
                refine J.meet (b7, y) hy ⟨rfl, rfl, rfl, rfl, trivial⟩ rfl
          ·
            refine RGi.made rfl rfl rfl rfl (C.alloc (l := [_, _, _, _, _]) Try.zeroValue41 rfl) ?_
            rintro b7
            refine RG.rot ?_
            refine RG.normE rfl ?_
            refine RG.callk 1 hR rfl rfl rfl rfl rfl Try.call26 (table_spec m) [] rfl rfl ?_
            rintro _ _ ⟨rt, rfl, rfl⟩
            refine ⟨_, X.pick_perm (is := [1]) rfl, ?_⟩
            refine RG.hold ?_
            refine RG.norm rfl ?_
            refine RG.q 4 hR rfl rfl rfl rfl rfl rfl (X.G.Q.lkPlain (i := 1) ord3_int (tab_srt m) Try.runUnderlying66 keyI Try.zeroValue42 rfl rfl rfl hf1) ?_
            refine RG.many hR 6 [] rfl ⟨?_, trivial⟩
            ·
              refine RGi.one rfl rfl rfl rfl (OpC.callv hf2 rfl rfl hf3 [2, 3] rfl) ?_
              rintro _ _ ⟨_, ⟨y, rfl, hy, rfl⟩, rfl⟩
              refine ⟨_, X.pick_perm (is := [3, 4]) rfl, ?_⟩
              first | refine RG.bar 8 hR rfl rfl rfl rfl rfl rfl (C.stA (i := 0) (vs := [_, _, _, _, _]) Try.sizeOf41 rfl rfl rfl rfl rfl rfl) ?_ | refine RG.bar 8 hR rfl rfl rfl rfl rfl rfl (C.stA (i := 1) (vs := [_, _, _, _, _]) Try.sizeOf41 rfl rfl rfl rfl rfl rfl) ?_ | refine RG.bar 8 hR rfl rfl rfl rfl rfl rfl (C.stA (i := 2) (vs := [_, _, _, _, _]) Try.sizeOf41 rfl rfl rfl rfl rfl rfl) ?_ | refine RG.bar 8 hR rfl rfl rfl rfl rfl rfl (C.stA (i := 3) (vs := [_, _, _, _, _]) Try.sizeOf41 rfl rfl rfl rfl rfl rfl) ?_ | refine RG.bar 8 hR rfl rfl rfl rfl rfl rfl (C.stA (i := 4) (vs := [_, _, _, _, _]) Try.sizeOf41 rfl rfl rfl rfl rfl rfl) ?_ | refine RG.bar 8 hR rfl rfl rfl rfl rfl rfl (C.stA (i := 5) (vs := [_, _, _, _, _]) Try.sizeOf41 rfl rfl rfl rfl rfl rfl) ?_ | refine RG.bar 8 hR rfl rfl rfl rfl rfl rfl (C.stA (i := 6) (vs := [_, _, _, _, _]) Try.sizeOf41 rfl rfl rfl rfl rfl rfl) ?_ | refine RG.bar 8 hR rfl rfl rfl rfl rfl rfl (C.stA (i := 7) (vs := [_, _, _, _, _]) Try.sizeOf41 rfl rfl rfl rfl rfl rfl) ?_ | refine RG.bar 8 hR rfl rfl rfl rfl rfl rfl (C.stA (i := 8) (vs := [_, _, _, _, _]) Try.sizeOf41 rfl rfl rfl rfl rfl rfl) ?_ | refine RG.bar 8 hR rfl rfl rfl rfl rfl rfl (C.stA (i := 9) (vs := [_, _, _, _, _]) Try.sizeOf41 rfl rfl rfl rfl rfl rfl) ?_ | refine RG.bar 8 hR rfl rfl rfl rfl rfl rfl (C.stA (i := 10) (vs := [_, _, _, _, _]) Try.sizeOf41 rfl rfl rfl rfl rfl rfl) ?_ | refine RG.bar 8 hR rfl rfl rfl rfl rfl rfl (C.stA (i := 11) (vs := [_, _, _, _, _]) Try.sizeOf41 rfl rfl rfl rfl rfl rfl) ?_ | refine RG.bar 8 hR rfl rfl rfl rfl rfl rfl (C.stA (i := 12) (vs := [_, _, _, _, _]) Try.sizeOf41 rfl rfl rfl rfl rfl rfl) ?_ | refine RG.bar 8 hR rfl rfl rfl rfl rfl rfl (C.stA (i := 13) (vs := [_, _, _, _, _]) Try.sizeOf41 rfl rfl rfl rfl rfl rfl) ?_ | refine RG.bar 8 hR rfl rfl rfl rfl rfl rfl (C.stA (i := 14) (vs := [_, _, _, _, _]) Try.sizeOf41 rfl rfl rfl rfl rfl rfl) ?_ | refine RG.bar 8 hR rfl rfl rfl rfl rfl rfl (C.stA (i := 15) (vs := [_, _, _, _, _]) Try.sizeOf41 rfl rfl rfl rfl rfl rfl) ?_
              rintro _ _ ⟨rfl, rfl⟩
              refine RG.fin hR rfl ?_
              refine J.norm rfl ?_
              refine J.keep [0, 2, 3, 4, 5, 6, 7] rfl ?_
              refine J.meet (b7, y) hy ⟨rfl, rfl, rfl, rfl, trivial⟩ rfl
        ·
          obtain ⟨b7, y⟩ := w
          dsimp only at hw
          have hys : y.r.keys.length ≤ 1099511627776 ∧ y.r.data.length ≤ 1099511627776 := by rw [hw]; have := act_small hM hc; omega
          refine J.tells 2 rfl (asn_ok hys) fun hyo => ?_
          refine J.seq ?_
          refine J.seq ?_
          refine J.region ?_
          refine J.q rfl rfl (Q.fa (n := 1) Try.runUnderlying26 rfl rfl Try.sizeOf3 rfl) ?_
          refine J.q rfl rfl (Q.ld Try.isAgg3 rfl (by first | exact Reads.pt 0 rfl rfl | exact Reads.pt 1 rfl rfl | exact Reads.pt 2 rfl rfl | exact Reads.pt 3 rfl rfl | exact Reads.pt 4 rfl rfl | exact Reads.pt 5 rfl rfl | exact Reads.pt 6 rfl rfl | exact Reads.pt 7 rfl rfl | exact Reads.pt 8 rfl rfl | exact Reads.pt 9 rfl rfl | exact Reads.pt 10 rfl rfl | exact Reads.pt 11 rfl rfl | exact Reads.pt 12 rfl rfl | exact Reads.pt 13 rfl rfl)) ?_
          refine J.call Try.call9 (reads_at hrd) [] rfl rfl rfl rfl ?_
          rintro _ _ ⟨rfl, rfl⟩
          refine J.norm rfl ?_
          refine J.q rfl rfl (Q.not rfl) ?_
          refine J.nil ?_
          refine J.then_n ?_
          refine J.cases 41 rfl (fun hc41 => ?_) (fun hc41 => ?_)
          ·
            first | replace hc41 := X.tt_dec hc41 | replace hc41 := X.tt_not hc41 | replace hc41 := X.ff_dec hc41 | replace hc41 := X.ff_not hc41 | skip
            try (first | (cases hc41; done) | (exfalso; simp at hc41; done))
            all_goals
              refine J.cond_t rfl ?_
              refine J.open1 1 rfl (fun _ h => h) fun z => ?_
              refine J.norm rfl ?_
              refine J.keep [0, 4, 9, 1, 2, 3, 5, 6, 7, 8] rfl ?_
              refine J.drawE [7, 8] 3 Try.mixed (by kernel_rfl) rfl rfl fun hR => ?_
              refine RG.q 0 hR rfl rfl rfl rfl rfl rfl (Q.mv rfl) ?_
              refine RG.q 1 hR rfl rfl rfl rfl rfl rfl (Q.nil_ rfl) ?_
              refine RG.q 2 hR rfl rfl rfl rfl rfl rfl (Q.fa (n := 2) Try.runUnderlying62 rfl rfl Try.sizeOf60 rfl) ?_
              refine RG.q 3 hR rfl rfl rfl rfl rfl rfl (Q.ld Try.isAgg60 rfl (by first | exact Reads.pt 0 rfl rfl | exact Reads.pt 1 rfl rfl | exact Reads.pt 2 rfl rfl | exact Reads.pt 3 rfl rfl | exact Reads.pt 4 rfl rfl | exact Reads.pt 5 rfl rfl | exact Reads.pt 6 rfl rfl | exact Reads.pt 7 rfl rfl | exact Reads.pt 8 rfl rfl | exact Reads.pt 9 rfl rfl | exact Reads.pt 10 rfl rfl | exact Reads.pt 11 rfl rfl | exact Reads.pt 12 rfl rfl | exact Reads.pt 13 rfl rfl)) ?_
              refine RG.q 4 hR rfl rfl rfl rfl rfl rfl (Q.fa (n := 0) Try.runUnderlying26 rfl rfl Try.sizeOf22 rfl) ?_
              refine RG.q 5 hR rfl rfl rfl rfl rfl rfl (Q.ld Try.isAgg22 rfl (by first | exact Reads.pt 0 rfl rfl | exact Reads.pt 1 rfl rfl | exact Reads.pt 2 rfl rfl | exact Reads.pt 3 rfl rfl | exact Reads.pt 4 rfl rfl | exact Reads.pt 5 rfl rfl | exact Reads.pt 6 rfl rfl | exact Reads.pt 7 rfl rfl | exact Reads.pt 8 rfl rfl | exact Reads.pt 9 rfl rfl | exact Reads.pt 10 rfl rfl | exact Reads.pt 11 rfl rfl | exact Reads.pt 12 rfl rfl | exact Reads.pt 13 rfl rfl)) ?_
              refine RG.q 6 hR rfl rfl rfl rfl rfl rfl (Q.ldN (vs := [_, _, _, _, _]) Try.isAgg41 Try.sizeOf41 rfl (by first | exact ReadsN.pt 0 rfl | exact ReadsN.pt 1 rfl | exact ReadsN.pt 2 rfl | exact ReadsN.pt 3 rfl | exact ReadsN.pt 4 rfl | exact ReadsN.pt 5 rfl | exact ReadsN.pt 6 rfl | exact ReadsN.pt 7 rfl | exact ReadsN.pt 8 rfl | exact ReadsN.pt 9 rfl | exact ReadsN.pt 10 rfl | exact ReadsN.pt 11 rfl | exact ReadsN.pt 12 rfl | exact ReadsN.pt 13 rfl)) ?_
              refine RG.callk 7 hR rfl rfl rfl rfl rfl Try.call25 (apart_spec y.asn y hyo) [6] rfl rfl ?_
              rintro _ _ ⟨y2, rfl, hy2, rfl⟩
              refine ⟨_, X.pick_perm (is := [2, 3, 4]) rfl, ?_⟩
              refine RG.bar 8 hR rfl rfl rfl rfl rfl rfl (X.G.C.mapPut (rep := dRep) 7 (M.act x.o).1 ord3_nat (by rw [act_done]; exact hM.ds) Try.runUnderlying60 keyU rfl rfl rfl rfl) ?_
              rintro _ _ ⟨rfl, rfl⟩
              refine RG.norm rfl ?_
              refine RG.fin hR rfl ?_
              refine J.norm rfl ?_
              refine J.then_n ?_
              refine J.seq ?_
              refine J.region ?_
              refine J.q rfl rfl (Q.ldN (vs := [_, _, _, _, _]) Try.isAgg41 Try.sizeOf41 rfl (by first | exact ReadsN.pt 0 rfl | exact ReadsN.pt 1 rfl | exact ReadsN.pt 2 rfl | exact ReadsN.pt 3 rfl | exact ReadsN.pt 4 rfl | exact ReadsN.pt 5 rfl | exact ReadsN.pt 6 rfl | exact ReadsN.pt 7 rfl | exact ReadsN.pt 8 rfl | exact ReadsN.pt 9 rfl | exact ReadsN.pt 10 rfl | exact ReadsN.pt 11 rfl | exact ReadsN.pt 12 rfl | exact ReadsN.pt 13 rfl)) ?_
              first | refine J.c0 rfl (C.stA (i := 0) (vs := [_, _, _, _, _]) Try.sizeOf41 rfl rfl rfl rfl rfl rfl) ?_ | refine J.c0 rfl (C.stA (i := 1) (vs := [_, _, _, _, _]) Try.sizeOf41 rfl rfl rfl rfl rfl rfl) ?_ | refine J.c0 rfl (C.stA (i := 2) (vs := [_, _, _, _, _]) Try.sizeOf41 rfl rfl rfl rfl rfl rfl) ?_ | refine J.c0 rfl (C.stA (i := 3) (vs := [_, _, _, _, _]) Try.sizeOf41 rfl rfl rfl rfl rfl rfl) ?_ | refine J.c0 rfl (C.stA (i := 4) (vs := [_, _, _, _, _]) Try.sizeOf41 rfl rfl rfl rfl rfl rfl) ?_ | refine J.c0 rfl (C.stA (i := 5) (vs := [_, _, _, _, _]) Try.sizeOf41 rfl rfl rfl rfl rfl rfl) ?_ | refine J.c0 rfl (C.stA (i := 6) (vs := [_, _, _, _, _]) Try.sizeOf41 rfl rfl rfl rfl rfl rfl) ?_ | refine J.c0 rfl (C.stA (i := 7) (vs := [_, _, _, _, _]) Try.sizeOf41 rfl rfl rfl rfl rfl rfl) ?_ | refine J.c0 rfl (C.stA (i := 8) (vs := [_, _, _, _, _]) Try.sizeOf41 rfl rfl rfl rfl rfl rfl) ?_ | refine J.c0 rfl (C.stA (i := 9) (vs := [_, _, _, _, _]) Try.sizeOf41 rfl rfl rfl rfl rfl rfl) ?_ | refine J.c0 rfl (C.stA (i := 10) (vs := [_, _, _, _, _]) Try.sizeOf41 rfl rfl rfl rfl rfl rfl) ?_ | refine J.c0 rfl (C.stA (i := 11) (vs := [_, _, _, _, _]) Try.sizeOf41 rfl rfl rfl rfl rfl rfl) ?_ | refine J.c0 rfl (C.stA (i := 12) (vs := [_, _, _, _, _]) Try.sizeOf41 rfl rfl rfl rfl rfl rfl) ?_ | refine J.c0 rfl (C.stA (i := 13) (vs := [_, _, _, _, _]) Try.sizeOf41 rfl rfl rfl rfl rfl rfl) ?_ | refine J.c0 rfl (C.stA (i := 14) (vs := [_, _, _, _, _]) Try.sizeOf41 rfl rfl rfl rfl rfl rfl) ?_ | refine J.c0 rfl (C.stA (i := 15) (vs := [_, _, _, _, _]) Try.sizeOf41 rfl rfl rfl rfl rfl rfl) ?_
              rintro _ _ ⟨rfl, rfl⟩
              refine J.nil ?_
              refine J.then_n ?_
              refine J.cret ?_
              refine J.shut [3] (dRep x.o.id (M.act x.o).1 (.agg y2.cells.toArray)) rfl (fun h s => ⟨y2, ⟨hy2.trans hw, rfl⟩, s⟩) ?_
              refine J.mapBack (lt := ltN) 0 7 (M.act x.o).1 ord3_nat (X.G.srtd_put ord3_nat (by rw [act_done]; exact hM.ds) _ _) rfl ?_
              rw [X.G.sput_put ord3_nat (by rw [act_done]; exact hM.ds), act_done]
              refine J.shut [1, 5, 6, 0] (BktAt m { (M.act x.o).2 with done := sput ltN x.o.id (M.act x.o).1 M.done }) rfl (fun h s => ⟨z, s⟩) ?_
              refine J.retC [0, 3, 4, 6] (vs := [_, _, _, _, _]) rfl rfl Try.isAgg41 Try.sizeOf41 (ReadsN.pt 5 rfl) rfl (B := [_, _, _]) ⟨y, rfl, hw, rfl⟩
          ·
            first | replace hc41 := X.tt_dec hc41 | replace hc41 := X.tt_not hc41 | replace hc41 := X.ff_dec hc41 | replace hc41 := X.ff_not hc41 | skip
            try (first | (cases hc41; done) | (exfalso; simp at hc41; done))
            all_goals
              refine J.cond_f rfl ?_
              refine J.cskip ?_
              refine J.then_n ?_
              refine J.seq ?_
              refine J.region ?_
              refine J.q rfl rfl (Q.ldN (vs := [_, _, _, _, _]) Try.isAgg41 Try.sizeOf41 rfl (by first | exact ReadsN.pt 0 rfl | exact ReadsN.pt 1 rfl | exact ReadsN.pt 2 rfl | exact ReadsN.pt 3 rfl | exact ReadsN.pt 4 rfl | exact ReadsN.pt 5 rfl | exact ReadsN.pt 6 rfl | exact ReadsN.pt 7 rfl | exact ReadsN.pt 8 rfl | exact ReadsN.pt 9 rfl | exact ReadsN.pt 10 rfl | exact ReadsN.pt 11 rfl | exact ReadsN.pt 12 rfl | exact ReadsN.pt 13 rfl)) ?_
              first | refine J.c0 rfl (C.stA (i := 0) (vs := [_, _, _, _, _]) Try.sizeOf41 rfl rfl rfl rfl rfl rfl) ?_ | refine J.c0 rfl (C.stA (i := 1) (vs := [_, _, _, _, _]) Try.sizeOf41 rfl rfl rfl rfl rfl rfl) ?_ | refine J.c0 rfl (C.stA (i := 2) (vs := [_, _, _, _, _]) Try.sizeOf41 rfl rfl rfl rfl rfl rfl) ?_ | refine J.c0 rfl (C.stA (i := 3) (vs := [_, _, _, _, _]) Try.sizeOf41 rfl rfl rfl rfl rfl rfl) ?_ | refine J.c0 rfl (C.stA (i := 4) (vs := [_, _, _, _, _]) Try.sizeOf41 rfl rfl rfl rfl rfl rfl) ?_ | refine J.c0 rfl (C.stA (i := 5) (vs := [_, _, _, _, _]) Try.sizeOf41 rfl rfl rfl rfl rfl rfl) ?_ | refine J.c0 rfl (C.stA (i := 6) (vs := [_, _, _, _, _]) Try.sizeOf41 rfl rfl rfl rfl rfl rfl) ?_ | refine J.c0 rfl (C.stA (i := 7) (vs := [_, _, _, _, _]) Try.sizeOf41 rfl rfl rfl rfl rfl rfl) ?_ | refine J.c0 rfl (C.stA (i := 8) (vs := [_, _, _, _, _]) Try.sizeOf41 rfl rfl rfl rfl rfl rfl) ?_ | refine J.c0 rfl (C.stA (i := 9) (vs := [_, _, _, _, _]) Try.sizeOf41 rfl rfl rfl rfl rfl rfl) ?_ | refine J.c0 rfl (C.stA (i := 10) (vs := [_, _, _, _, _]) Try.sizeOf41 rfl rfl rfl rfl rfl rfl) ?_ | refine J.c0 rfl (C.stA (i := 11) (vs := [_, _, _, _, _]) Try.sizeOf41 rfl rfl rfl rfl rfl rfl) ?_ | refine J.c0 rfl (C.stA (i := 12) (vs := [_, _, _, _, _]) Try.sizeOf41 rfl rfl rfl rfl rfl rfl) ?_ | refine J.c0 rfl (C.stA (i := 13) (vs := [_, _, _, _, _]) Try.sizeOf41 rfl rfl rfl rfl rfl rfl) ?_ | refine J.c0 rfl (C.stA (i := 14) (vs := [_, _, _, _, _]) Try.sizeOf41 rfl rfl rfl rfl rfl rfl) ?_ | refine J.c0 rfl (C.stA (i := 15) (vs := [_, _, _, _, _]) Try.sizeOf41 rfl rfl rfl rfl rfl rfl) ?_
              rintro _ _ ⟨rfl, rfl⟩
              refine J.nil ?_
              refine J.then_n ?_
              refine J.cret ?_
              refine J.retC [1, 2, 3, 5] (vs := [_, _, _, _, _]) rfl rfl Try.isAgg41 Try.sizeOf41 (ReadsN.pt 4 rfl) rfl (B := [_, _, _]) ⟨y, rfl, hw, rfl⟩
theorem do_read1 (hA : HasAct m M x G) (hc : x.o.chkB = true) {r : RM} (hD : sget x.o.id M.done = some r) (hrd : readsK x.o.kind = true) : FSpec Try.prog 13 [.pointer (some ⟨m, 0, none⟩), .agg x.cells.toArray] [BktAt m M, G] (ActR m G (M.act x.o)) := by
  refine FSpec.of Try.func13 rfl Try.ntmps13 rfl fun W0 F => ?_
  refine J.seq ?_
  refine J.region ?_
  refine J.c rfl rfl (C.box (l := [_, _, _, _, _, _, _, _, _]) rfl rfl) ?_
  rintro _ _ ⟨b3, rfl, rfl⟩
  refine J.norm rfl ?_
  refine J.c rfl rfl (C.alloc (l := [_, _, _, _, _]) Try.zeroValue41 rfl) ?_
  rintro _ _ ⟨b4, rfl, rfl⟩
  refine J.norm rfl ?_
  refine J.nil ?_
  refine J.then_n ?_
  refine J.seq ?_
  refine J.seq ?_
  refine J.region ?_
  refine J.q rfl rfl (Q.ldN (vs := [_, _, _, _, _, _, _, _, _]) Try.isAgg26 Try.sizeOf26 rfl (by first | exact ReadsN.pt 0 rfl | exact ReadsN.pt 1 rfl | exact ReadsN.pt 2 rfl | exact ReadsN.pt 3 rfl | exact ReadsN.pt 4 rfl | exact ReadsN.pt 5 rfl | exact ReadsN.pt 6 rfl | exact ReadsN.pt 7 rfl | exact ReadsN.pt 8 rfl | exact ReadsN.pt 9 rfl | exact ReadsN.pt 10 rfl | exact ReadsN.pt 11 rfl | exact ReadsN.pt 12 rfl | exact ReadsN.pt 13 rfl)) ?_
  refine J.call Try.call7 ((by first | exact check_yes G x hx hc | exact check_no G x hx hc)) [3] rfl rfl rfl rfl ?_
  rintro _ _ ⟨rfl, rfl⟩
  refine J.norm rfl ?_
  refine J.q rfl rfl (Q.neq rfl rfl) ?_
  refine J.nil ?_
  refine J.then_n ?_
  refine J.cases 10 rfl (fun hc10 => ?_) (fun hc10 => ?_)
  ·
    first | replace hc10 := X.tt_dec hc10 | replace hc10 := X.tt_not hc10 | replace hc10 := X.ff_dec hc10 | replace hc10 := X.ff_not hc10 | skip
    try (first | (cases hc10; done) | (exfalso; simp at hc10; done))
    all_goals
      refine J.cond_t rfl ?_
      refine J.seq ?_
      refine J.region ?_
      refine J.call Try.call24 (status_spec 400) [] rfl rfl rfl rfl ?_
      rintro _ _ ⟨y, rfl, hy, rfl⟩
      refine J.norm rfl ?_
      first | refine J.c0 rfl (C.stA (i := 0) (vs := [_, _, _, _, _]) Try.sizeOf41 rfl rfl rfl rfl rfl rfl) ?_ | refine J.c0 rfl (C.stA (i := 1) (vs := [_, _, _, _, _]) Try.sizeOf41 rfl rfl rfl rfl rfl rfl) ?_ | refine J.c0 rfl (C.stA (i := 2) (vs := [_, _, _, _, _]) Try.sizeOf41 rfl rfl rfl rfl rfl rfl) ?_ | refine J.c0 rfl (C.stA (i := 3) (vs := [_, _, _, _, _]) Try.sizeOf41 rfl rfl rfl rfl rfl rfl) ?_ | refine J.c0 rfl (C.stA (i := 4) (vs := [_, _, _, _, _]) Try.sizeOf41 rfl rfl rfl rfl rfl rfl) ?_ | refine J.c0 rfl (C.stA (i := 5) (vs := [_, _, _, _, _]) Try.sizeOf41 rfl rfl rfl rfl rfl rfl) ?_ | refine J.c0 rfl (C.stA (i := 6) (vs := [_, _, _, _, _]) Try.sizeOf41 rfl rfl rfl rfl rfl rfl) ?_ | refine J.c0 rfl (C.stA (i := 7) (vs := [_, _, _, _, _]) Try.sizeOf41 rfl rfl rfl rfl rfl rfl) ?_ | refine J.c0 rfl (C.stA (i := 8) (vs := [_, _, _, _, _]) Try.sizeOf41 rfl rfl rfl rfl rfl rfl) ?_ | refine J.c0 rfl (C.stA (i := 9) (vs := [_, _, _, _, _]) Try.sizeOf41 rfl rfl rfl rfl rfl rfl) ?_ | refine J.c0 rfl (C.stA (i := 10) (vs := [_, _, _, _, _]) Try.sizeOf41 rfl rfl rfl rfl rfl rfl) ?_ | refine J.c0 rfl (C.stA (i := 11) (vs := [_, _, _, _, _]) Try.sizeOf41 rfl rfl rfl rfl rfl rfl) ?_ | refine J.c0 rfl (C.stA (i := 12) (vs := [_, _, _, _, _]) Try.sizeOf41 rfl rfl rfl rfl rfl rfl) ?_ | refine J.c0 rfl (C.stA (i := 13) (vs := [_, _, _, _, _]) Try.sizeOf41 rfl rfl rfl rfl rfl rfl) ?_ | refine J.c0 rfl (C.stA (i := 14) (vs := [_, _, _, _, _]) Try.sizeOf41 rfl rfl rfl rfl rfl rfl) ?_ | refine J.c0 rfl (C.stA (i := 15) (vs := [_, _, _, _, _]) Try.sizeOf41 rfl rfl rfl rfl rfl rfl) ?_
      rintro _ _ ⟨rfl, rfl⟩
      refine J.nil ?_
      refine J.then_n ?_
      refine J.cret ?_
      refine J.then_r ?_
      refine J.retC [4, 0, 1, 5] (vs := [_, _, _, _, _]) rfl rfl Try.isAgg41 Try.sizeOf41 (ReadsN.pt 2 rfl) rfl (B := [_, _, _]) ⟨_, rfl, hy, rfl⟩
  ·
    first | replace hc10 := X.tt_dec hc10 | replace hc10 := X.tt_not hc10 | replace hc10 := X.ff_dec hc10 | replace hc10 := X.ff_not hc10 | skip
    try (first | (cases hc10; done) | (exfalso; simp at hc10; done))
    all_goals
      refine J.cond_f rfl ?_
      refine J.cskip ?_
      refine J.then_n ?_
      refine J.cut (fun _ : Unit => True) (fun _ => [(0, .pointer (some ⟨m, 0, none⟩)), (3, .pointer (some ⟨b3, 0, none⟩)), (4, .pointer (some ⟨b4, 0, none⟩))]) (fun _ => [pt b3 (.cells x.cells.toArray 26 (0, 0)), BktAt m M, G, pt b4 (.cells [Value.int .i64 0, .int .u64 0, .slice none 0 0, .bool false, .slice none 0 0].toArray 41 (0, 0)), F]) ?_ fun _ _ => ?_
      ·
        refine J.seq ?_
        refine J.open1 3 rfl (fun _ h => h) fun z => ?_
        refine J.norm rfl ?_
        first
          | (refine J.mapFocus 3 hD rfl fun val => ?_
             refine J.norm rfl ?_
             refine J.open_ 0 rfl rfl (fun _ h => h) fun y0 hy0 => ?_
             obtain ⟨hyr, hyv⟩ := hy0
             subst hyv
             subst hyr
             refine J.norm rfl ?_
             have hrs := hM.rs _ _ hD
             refine J.tells 0 rfl (asn_ok ⟨by omega, by omega⟩) fun hy0 => ?_)
          | skip
        refine J.draw [10, 11, 12] Try.mixed (by kernel_rfl) fun hR => ?_
        refine RG.q 0 hR rfl rfl rfl rfl rfl rfl (Q.mv rfl) ?_
        refine RG.q 1 hR rfl rfl rfl rfl rfl rfl (Q.nil_ rfl) ?_
        refine RG.q 2 hR rfl rfl rfl rfl rfl rfl (Q.fa (n := 2) Try.runUnderlying62 rfl rfl Try.sizeOf60 rfl) ?_
        refine RG.q 3 hR rfl rfl rfl rfl rfl rfl (Q.ld Try.isAgg60 rfl (by first | exact Reads.pt 0 rfl rfl | exact Reads.pt 1 rfl rfl | exact Reads.pt 2 rfl rfl | exact Reads.pt 3 rfl rfl | exact Reads.pt 4 rfl rfl | exact Reads.pt 5 rfl rfl | exact Reads.pt 6 rfl rfl | exact Reads.pt 7 rfl rfl | exact Reads.pt 8 rfl rfl | exact Reads.pt 9 rfl rfl | exact Reads.pt 10 rfl rfl | exact Reads.pt 11 rfl rfl | exact Reads.pt 12 rfl rfl | exact Reads.pt 13 rfl rfl)) ?_
        refine RG.q 4 hR rfl rfl rfl rfl rfl rfl (Q.fa (n := 0) Try.runUnderlying26 rfl rfl Try.sizeOf22 rfl) ?_
        refine RG.q 5 hR rfl rfl rfl rfl rfl rfl (Q.ld Try.isAgg22 rfl (by first | exact Reads.pt 0 rfl rfl | exact Reads.pt 1 rfl rfl | exact Reads.pt 2 rfl rfl | exact Reads.pt 3 rfl rfl | exact Reads.pt 4 rfl rfl | exact Reads.pt 5 rfl rfl | exact Reads.pt 6 rfl rfl | exact Reads.pt 7 rfl rfl | exact Reads.pt 8 rfl rfl | exact Reads.pt 9 rfl rfl | exact Reads.pt 10 rfl rfl | exact Reads.pt 11 rfl rfl | exact Reads.pt 12 rfl rfl | exact Reads.pt 13 rfl rfl)) ?_
        refine RG.q 6 hR rfl rfl rfl rfl rfl rfl (by first | exact X.G.Q.lk2No (i := 3) Try.runUnderlying60 keyU Try.zeroValue41 rfl rfl rfl hD | exact X.G.Q.lk2Yes (i := 1) Try.runUnderlying60 keyU Try.zeroValue41 rfl rfl rfl) ?_
        refine RG.q 7 hR rfl rfl rfl rfl rfl rfl (Q.mv rfl) ?_
        refine RG.q 8 hR rfl rfl rfl rfl rfl rfl (Q.ext rfl rfl) ?_
        refine RG.q 9 hR rfl rfl rfl rfl rfl rfl (Q.ext rfl rfl) ?_
        refine RG.made 10 hR rfl rfl rfl rfl rfl (C.alloc (l := [_, _, _, _, _]) Try.zeroValue41 rfl) ?_
        rintro b5
        first | refine RG.stAk 11 (j := 0) (vs := [_, _, _, _, _]) hR rfl rfl rfl rfl Try.sizeOf41 rfl rfl rfl rfl rfl rfl ?_ | refine RG.stAk 11 (j := 1) (vs := [_, _, _, _, _]) hR rfl rfl rfl rfl Try.sizeOf41 rfl rfl rfl rfl rfl rfl ?_ | refine RG.stAk 11 (j := 2) (vs := [_, _, _, _, _]) hR rfl rfl rfl rfl Try.sizeOf41 rfl rfl rfl rfl rfl rfl ?_ | refine RG.stAk 11 (j := 3) (vs := [_, _, _, _, _]) hR rfl rfl rfl rfl Try.sizeOf41 rfl rfl rfl rfl rfl rfl ?_ | refine RG.stAk 11 (j := 4) (vs := [_, _, _, _, _]) hR rfl rfl rfl rfl Try.sizeOf41 rfl rfl rfl rfl rfl rfl ?_ | refine RG.stAk 11 (j := 5) (vs := [_, _, _, _, _]) hR rfl rfl rfl rfl Try.sizeOf41 rfl rfl rfl rfl rfl rfl ?_ | refine RG.stAk 11 (j := 6) (vs := [_, _, _, _, _]) hR rfl rfl rfl rfl Try.sizeOf41 rfl rfl rfl rfl rfl rfl ?_ | refine RG.stAk 11 (j := 7) (vs := [_, _, _, _, _]) hR rfl rfl rfl rfl Try.sizeOf41 rfl rfl rfl rfl rfl rfl ?_ | refine RG.stAk 11 (j := 8) (vs := [_, _, _, _, _]) hR rfl rfl rfl rfl Try.sizeOf41 rfl rfl rfl rfl rfl rfl ?_ | refine RG.stAk 11 (j := 9) (vs := [_, _, _, _, _]) hR rfl rfl rfl rfl Try.sizeOf41 rfl rfl rfl rfl rfl rfl ?_ | refine RG.stAk 11 (j := 10) (vs := [_, _, _, _, _]) hR rfl rfl rfl rfl Try.sizeOf41 rfl rfl rfl rfl rfl rfl ?_ | refine RG.stAk 11 (j := 11) (vs := [_, _, _, _, _]) hR rfl rfl rfl rfl Try.sizeOf41 rfl rfl rfl rfl rfl rfl ?_ | refine RG.stAk 11 (j := 12) (vs := [_, _, _, _, _]) hR rfl rfl rfl rfl Try.sizeOf41 rfl rfl rfl rfl rfl rfl ?_ | refine RG.stAk 11 (j := 13) (vs := [_, _, _, _, _]) hR rfl rfl rfl rfl Try.sizeOf41 rfl rfl rfl rfl rfl rfl ?_ | refine RG.stAk 11 (j := 14) (vs := [_, _, _, _, _]) hR rfl rfl rfl rfl Try.sizeOf41 rfl rfl rfl rfl rfl rfl ?_ | refine RG.stAk 11 (j := 15) (vs := [_, _, _, _, _]) hR rfl rfl rfl rfl Try.sizeOf41 rfl rfl rfl rfl rfl rfl ?_
        refine RG.bar 12 hR rfl rfl rfl rfl rfl rfl (Q.asg rfl).toC ?_
        rintro _ _ ⟨rfl, rfl⟩
        refine RG.norm rfl ?_
        refine RG.fin hR rfl ?_
        refine J.norm rfl ?_
        refine J.then_n ?_
        refine J.seq ?_
        refine J.region ?_
        refine J.q rfl rfl (Q.mv rfl) ?_
        refine J.q rfl rfl (Q.mv rfl) ?_
        refine J.cases 23 rfl (fun hb23 => ?_) (fun hb23 => ?_)
        ·
          first | replace hb23 := X.tt_dec hb23 | replace hb23 := X.tt_not hb23 | replace hb23 := X.ff_dec hb23 | replace hb23 := X.ff_not hb23 | skip
          try (first | (cases hb23; done) | (exfalso; simp at hb23; done))
          all_goals
            refine J.q rfl rfl (Q.fa (n := 1) Try.runUnderlying26 rfl rfl Try.sizeOf3 rfl) ?_
            refine J.q rfl rfl (Q.ld Try.isAgg3 rfl (by first | exact Reads.pt 0 rfl rfl | exact Reads.pt 1 rfl rfl | exact Reads.pt 2 rfl rfl | exact Reads.pt 3 rfl rfl | exact Reads.pt 4 rfl rfl | exact Reads.pt 5 rfl rfl | exact Reads.pt 6 rfl rfl | exact Reads.pt 7 rfl rfl | exact Reads.pt 8 rfl rfl | exact Reads.pt 9 rfl rfl | exact Reads.pt 10 rfl rfl | exact Reads.pt 11 rfl rfl | exact Reads.pt 12 rfl rfl | exact Reads.pt 13 rfl rfl)) ?_
            refine J.call Try.call9 (reads_at hrd) [] rfl rfl rfl rfl ?_
            rintro _ _ ⟨rfl, rfl⟩
            refine J.norm rfl ?_
            refine J.q rfl rfl (Q.not rfl) ?_
            refine J.q rfl rfl (Q.pick_t rfl rfl) ?_
            refine J.nil ?_
            refine J.then_n ?_
            refine J.cases 28 rfl (fun hc28 => ?_) (fun hc28 => ?_)
            ·
              first | replace hc28 := X.tt_dec hc28 | replace hc28 := X.tt_not hc28 | replace hc28 := X.ff_dec hc28 | replace hc28 := X.ff_not hc28 | skip
              try (first | (cases hc28; done) | (exfalso; simp at hc28; done))
              all_goals
                refine J.cond_t rfl ?_
                refine J.seq ?_
                refine J.region ?_
                refine J.q rfl rfl (Q.ldN (vs := [_, _, _, _, _]) Try.isAgg41 Try.sizeOf41 rfl (by first | exact ReadsN.pt 0 rfl | exact ReadsN.pt 1 rfl | exact ReadsN.pt 2 rfl | exact ReadsN.pt 3 rfl | exact ReadsN.pt 4 rfl | exact ReadsN.pt 5 rfl | exact ReadsN.pt 6 rfl | exact ReadsN.pt 7 rfl | exact ReadsN.pt 8 rfl | exact ReadsN.pt 9 rfl | exact ReadsN.pt 10 rfl | exact ReadsN.pt 11 rfl | exact ReadsN.pt 12 rfl | exact ReadsN.pt 13 rfl)) ?_
                refine J.call Try.call25 (apart_spec y0.asn y0 hy0) [0] rfl rfl rfl rfl ?_
                rintro _ _ ⟨y, rfl, hy, rfl⟩
                refine J.norm rfl ?_
                first | refine J.c0 rfl (C.stA (i := 0) (vs := [_, _, _, _, _]) Try.sizeOf41 rfl rfl rfl rfl rfl rfl) ?_ | refine J.c0 rfl (C.stA (i := 1) (vs := [_, _, _, _, _]) Try.sizeOf41 rfl rfl rfl rfl rfl rfl) ?_ | refine J.c0 rfl (C.stA (i := 2) (vs := [_, _, _, _, _]) Try.sizeOf41 rfl rfl rfl rfl rfl rfl) ?_ | refine J.c0 rfl (C.stA (i := 3) (vs := [_, _, _, _, _]) Try.sizeOf41 rfl rfl rfl rfl rfl rfl) ?_ | refine J.c0 rfl (C.stA (i := 4) (vs := [_, _, _, _, _]) Try.sizeOf41 rfl rfl rfl rfl rfl rfl) ?_ | refine J.c0 rfl (C.stA (i := 5) (vs := [_, _, _, _, _]) Try.sizeOf41 rfl rfl rfl rfl rfl rfl) ?_ | refine J.c0 rfl (C.stA (i := 6) (vs := [_, _, _, _, _]) Try.sizeOf41 rfl rfl rfl rfl rfl rfl) ?_ | refine J.c0 rfl (C.stA (i := 7) (vs := [_, _, _, _, _]) Try.sizeOf41 rfl rfl rfl rfl rfl rfl) ?_ | refine J.c0 rfl (C.stA (i := 8) (vs := [_, _, _, _, _]) Try.sizeOf41 rfl rfl rfl rfl rfl rfl) ?_ | refine J.c0 rfl (C.stA (i := 9) (vs := [_, _, _, _, _]) Try.sizeOf41 rfl rfl rfl rfl rfl rfl) ?_ | refine J.c0 rfl (C.stA (i := 10) (vs := [_, _, _, _, _]) Try.sizeOf41 rfl rfl rfl rfl rfl rfl) ?_ | refine J.c0 rfl (C.stA (i := 11) (vs := [_, _, _, _, _]) Try.sizeOf41 rfl rfl rfl rfl rfl rfl) ?_ | refine J.c0 rfl (C.stA (i := 12) (vs := [_, _, _, _, _]) Try.sizeOf41 rfl rfl rfl rfl rfl rfl) ?_ | refine J.c0 rfl (C.stA (i := 13) (vs := [_, _, _, _, _]) Try.sizeOf41 rfl rfl rfl rfl rfl rfl) ?_ | refine J.c0 rfl (C.stA (i := 14) (vs := [_, _, _, _, _]) Try.sizeOf41 rfl rfl rfl rfl rfl rfl) ?_ | refine J.c0 rfl (C.stA (i := 15) (vs := [_, _, _, _, _]) Try.sizeOf41 rfl rfl rfl rfl rfl rfl) ?_
                rintro _ _ ⟨rfl, rfl⟩
                refine J.nil ?_
                refine J.then_n ?_
                refine J.cret ?_
                refine J.cut_r ?_
                refine J.shut [1] (dRep x.o.id y0.r (.agg y0.cells.toArray)) rfl (fun h s => ⟨y0, ⟨rfl, rfl⟩, s⟩) ?_
                refine J.mapSame 0 2 ord3_nat hM.ds hD rfl ?_
                refine J.shut [2, 3, 4, 0] (BktAt m M) rfl (fun h s => ⟨z, s⟩) ?_
                refine J.retC [0, 1, 2, 5] (vs := [_, _, _, _, _]) rfl rfl Try.isAgg41 Try.sizeOf41 (ReadsN.pt 3 rfl) rfl (B := [_, _, _]) ⟨_, rfl, hy, rfl⟩
            ·
              first | replace hc28 := X.tt_dec hc28 | replace hc28 := X.tt_not hc28 | replace hc28 := X.ff_dec hc28 | replace hc28 := X.ff_not hc28 | skip
              try (first | (cases hc28; done) | (exfalso; simp at hc28; done))
              all_goals
                refine J.cond_f rfl ?_
                refine J.cskip ?_
                first
                  | (refine J.shut [0] (dRep x.o.id y0.r (.agg y0.cells.toArray)) rfl (fun h s => ⟨y0, ⟨rfl, rfl⟩, s⟩) ?_
                     refine J.mapSame 0 1 ord3_nat hM.ds hD rfl ?_
                     refine J.shut [1, 2, 3, 0] (BktAt m M) rfl (fun h s => ⟨z, s⟩) ?_)
                  | refine J.shut [0, 1, 2, 3] (BktAt m M) rfl (fun h s => ⟨z, s⟩) ?_
                refine J.keep [3, 0, 1, 2, 4] rfl ?_
                refine J.meet () trivial ⟨rfl, rfl, rfl, trivial⟩ rfl
        ·
          first | replace hb23 := X.tt_dec hb23 | replace hb23 := X.tt_not hb23 | replace hb23 := X.ff_dec hb23 | replace hb23 := X.ff_not hb23 | skip
          try (first | (cases hb23; done) | (exfalso; simp at hb23; done))
          all_goals
            refine J.skip rfl rfl ?_
            refine J.skip rfl rfl ?_
            refine J.skip rfl rfl ?_
            refine J.skip rfl rfl ?_
            refine J.q rfl rfl (Q.pick_f rfl rfl) ?_
            refine J.nil ?_
            refine J.then_n ?_
            refine J.cond_f rfl ?_
            refine J.cskip ?_
            first
              | (refine J.shut [0] (dRep x.o.id y0.r (.agg y0.cells.toArray)) rfl (fun h s => ⟨y0, ⟨rfl, rfl⟩, s⟩) ?_
                 refine J.mapSame 0 1 ord3_nat hM.ds hD rfl ?_
                 refine J.shut [1, 2, 3, 0] (BktAt m M) rfl (fun h s => ⟨z, s⟩) ?_)
              | refine J.shut [0, 1, 2, 3] (BktAt m M) rfl (fun h s => ⟨z, s⟩) ?_
            refine J.keep [3, 0, 1, 2, 4] rfl ?_
            refine J.meet () trivial ⟨rfl, rfl, rfl, trivial⟩ rfl
      ·
        refine J.cut (fun w : Nat × RW => w.2.r = (M.act x.o).1) (fun w => [(0, .pointer (some ⟨m, 0, none⟩)), (3, .pointer (some ⟨b3, 0, none⟩)), (4, .pointer (some ⟨b4, 0, none⟩)), (7, .pointer (some ⟨w.1, 0, none⟩))]) (fun w => [pt b3 (.cells x.cells.toArray 26 (0, 0)), BktAt m (M.act x.o).2, w.2.asn, G, pt b4 (.cells [Value.int .i64 0, .int .u64 0, .slice none 0 0, .bool false, .slice none 0 0].toArray 41 (0, 0)), F, pt w.1 (.cells w.2.cells.toArray 41 (0, 0))]) ?_ fun w hw => ?_
        ·
          obtain ⟨fid, hf1, hf2, hf3⟩ := hA
          refine J.drawE [1, 6, 7, 8] 1 Try.mixed (by kernel_rfl) rfl rfl fun hR => ?_
          refine RG.q 0 hR rfl rfl rfl rfl rfl rfl (Q.mv rfl) ?_
          refine RG.q 2 hR rfl rfl rfl rfl rfl rfl (Q.fa (n := 1) Try.runUnderlying26 rfl rfl Try.sizeOf3 rfl) ?_
          refine RG.q 3 hR rfl rfl rfl rfl rfl rfl (Q.ld Try.isAgg3 rfl (by first | exact Reads.pt 0 rfl rfl | exact Reads.pt 1 rfl rfl | exact Reads.pt 2 rfl rfl | exact Reads.pt 3 rfl rfl | exact Reads.pt 4 rfl rfl | exact Reads.pt 5 rfl rfl | exact Reads.pt 6 rfl rfl | exact Reads.pt 7 rfl rfl | exact Reads.pt 8 rfl rfl | exact Reads.pt 9 rfl rfl | exact Reads.pt 10 rfl rfl | exact Reads.pt 11 rfl rfl | exact Reads.pt 12 rfl rfl | exact Reads.pt 13 rfl rfl)) ?_
          refine RG.q 5 hR rfl rfl rfl rfl rfl rfl (Q.ldN (vs := [_, _, _, _, _, _, _, _, _]) Try.isAgg26 Try.sizeOf26 rfl (by first | exact ReadsN.pt 0 rfl | exact ReadsN.pt 1 rfl | exact ReadsN.pt 2 rfl | exact ReadsN.pt 3 rfl | exact ReadsN.pt 4 rfl | exact ReadsN.pt 5 rfl | exact ReadsN.pt 6 rfl | exact ReadsN.pt 7 rfl | exact ReadsN.pt 8 rfl | exact ReadsN.pt 9 rfl | exact ReadsN.pt 10 rfl | exact ReadsN.pt 11 rfl | exact ReadsN.pt 12 rfl | exact ReadsN.pt 13 rfl)) ?_
          refine RG.many hR 1 [7] rfl ⟨?_, ⟨?_, trivial⟩⟩
          ·
            refine RGi.callk rfl rfl rfl rfl Try.call26 (table_spec m) [] rfl rfl ?_
            rintro _ _ ⟨rt, rfl, rfl⟩
            refine ⟨_, X.pick_perm (is := [1]) rfl, ?_⟩
            refine RG.hold ?_
            refine RG.norm rfl ?_
            refine RG.q 4 hR rfl rfl rfl rfl rfl rfl (X.G.Q.lkPlain (i := 1) ord3_int (tab_srt m) Try.runUnderlying66 keyI Try.zeroValue42 rfl rfl rfl hf1) ?_
            refine RG.many hR 6 [7] rfl ⟨?_, ⟨?_, trivial⟩⟩
            ·
              refine RGi.one rfl rfl rfl rfl (OpC.callv hf2 rfl rfl hf3 [2, 3] rfl) ?_
              rintro _ _ ⟨_, ⟨y, rfl, hy, rfl⟩, rfl⟩
              refine ⟨_, X.pick_perm (is := [3, 4]) rfl, ?_⟩
              refine RG.made 7 hR rfl rfl rfl rfl rfl (C.alloc (l := [_, _, _, _, _]) Try.zeroValue41 rfl) ?_
              rintro b7
              refine RG.rot ?_
              refine RG.normE rfl ?_
              first | refine RG.bar 8 hR rfl rfl rfl rfl rfl rfl (C.stA (i := 0) (vs := [_, _, _, _, _]) Try.sizeOf41 rfl rfl rfl rfl rfl rfl) ?_ | refine RG.bar 8 hR rfl rfl rfl rfl rfl rfl (C.stA (i := 1) (vs := [_, _, _, _, _]) Try.sizeOf41 rfl rfl rfl rfl rfl rfl) ?_ | refine RG.bar 8 hR rfl rfl rfl rfl rfl rfl (C.stA (i := 2) (vs := [_, _, _, _, _]) Try.sizeOf41 rfl rfl rfl rfl rfl rfl) ?_ | refine RG.bar 8 hR rfl rfl rfl rfl rfl rfl (C.stA (i := 3) (vs := [_, _, _, _, _]) Try.sizeOf41 rfl rfl rfl rfl rfl rfl) ?_ | refine RG.bar 8 hR rfl rfl rfl rfl rfl rfl (C.stA (i := 4) (vs := [_, _, _, _, _]) Try.sizeOf41 rfl rfl rfl rfl rfl rfl) ?_ | refine RG.bar 8 hR rfl rfl rfl rfl rfl rfl (C.stA (i := 5) (vs := [_, _, _, _, _]) Try.sizeOf41 rfl rfl rfl rfl rfl rfl) ?_ | refine RG.bar 8 hR rfl rfl rfl rfl rfl rfl (C.stA (i := 6) (vs := [_, _, _, _, _]) Try.sizeOf41 rfl rfl rfl rfl rfl rfl) ?_ | refine RG.bar 8 hR rfl rfl rfl rfl rfl rfl (C.stA (i := 7) (vs := [_, _, _, _, _]) Try.sizeOf41 rfl rfl rfl rfl rfl rfl) ?_ | refine RG.bar 8 hR rfl rfl rfl rfl rfl rfl (C.stA (i := 8) (vs := [_, _, _, _, _]) Try.sizeOf41 rfl rfl rfl rfl rfl rfl) ?_ | refine RG.bar 8 hR rfl rfl rfl rfl rfl rfl (C.stA (i := 9) (vs := [_, _, _, _, _]) Try.sizeOf41 rfl rfl rfl rfl rfl rfl) ?_ | refine RG.bar 8 hR rfl rfl rfl rfl rfl rfl (C.stA (i := 10) (vs := [_, _, _, _, _]) Try.sizeOf41 rfl rfl rfl rfl rfl rfl) ?_ | refine RG.bar 8 hR rfl rfl rfl rfl rfl rfl (C.stA (i := 11) (vs := [_, _, _, _, _]) Try.sizeOf41 rfl rfl rfl rfl rfl rfl) ?_ | refine RG.bar 8 hR rfl rfl rfl rfl rfl rfl (C.stA (i := 12) (vs := [_, _, _, _, _]) Try.sizeOf41 rfl rfl rfl rfl rfl rfl) ?_ | refine RG.bar 8 hR rfl rfl rfl rfl rfl rfl (C.stA (i := 13) (vs := [_, _, _, _, _]) Try.sizeOf41 rfl rfl rfl rfl rfl rfl) ?_ | refine RG.bar 8 hR rfl rfl rfl rfl rfl rfl (C.stA (i := 14) (vs := [_, _, _, _, _]) Try.sizeOf41 rfl rfl rfl rfl rfl rfl) ?_ | refine RG.bar 8 hR rfl rfl rfl rfl rfl rfl (C.stA (i := 15) (vs := [_, _, _, _, _]) Try.sizeOf41 rfl rfl rfl rfl rfl rfl) ?_
              rintro _ _ ⟨rfl, rfl⟩
              refine RG.fin hR rfl ?_
              refine J.norm rfl ?_
              refine J.keep [0, 2, 3, 4, 5, 6, 7] rfl ?_
              refine J.meet (b7, y) hy ⟨rfl, rfl, rfl, rfl, trivial⟩ rfl
            ·
              refine RGi.made rfl rfl rfl rfl (C.alloc (l := [_, _, _, _, _]) Try.zeroValue41 rfl) ?_
              rintro b7
              refine RG.rot ?_
              refine RG.normE rfl ?_
              refine RG.many hR 6 [] rfl ⟨?_, trivial⟩
              ·
                refine RGi.one rfl rfl rfl rfl (OpC.callv hf2 rfl rfl hf3 [2, 3] rfl) ?_
                rintro _ _ ⟨_, ⟨y, rfl, hy, rfl⟩, rfl⟩
                refine ⟨_, X.pick_perm (is := [3, 4]) rfl, ?_⟩
                first | refine RG.bar 8 hR rfl rfl rfl rfl rfl rfl (C.stA (i := 0) (vs := [_, _, _, _, _]) Try.sizeOf41 rfl rfl rfl rfl rfl rfl) ?_ | refine RG.bar 8 hR rfl rfl rfl rfl rfl rfl (C.stA (i := 1) (vs := [_, _, _, _, _]) Try.sizeOf41 rfl rfl rfl rfl rfl rfl) ?_ | refine RG.bar 8 hR rfl rfl rfl rfl rfl rfl (C.stA (i := 2) (vs := [_, _, _, _, _]) Try.sizeOf41 rfl rfl rfl rfl rfl rfl) ?_ | refine RG.bar 8 hR rfl rfl rfl rfl rfl rfl (C.stA (i := 3) (vs := [_, _, _, _, _]) Try.sizeOf41 rfl rfl rfl rfl rfl rfl) ?_ | refine RG.bar 8 hR rfl rfl rfl rfl rfl rfl (C.stA (i := 4) (vs := [_, _, _, _, _]) Try.sizeOf41 rfl rfl rfl rfl rfl rfl) ?_ | refine RG.bar 8 hR rfl rfl rfl rfl rfl rfl (C.stA (i := 5) (vs := [_, _, _, _, _]) Try.sizeOf41 rfl rfl rfl rfl rfl rfl) ?_ | refine RG.bar 8 hR rfl rfl rfl rfl rfl rfl (C.stA (i := 6) (vs := [_, _, _, _, _]) Try.sizeOf41 rfl rfl rfl rfl rfl rfl) ?_ | refine RG.bar 8 hR rfl rfl rfl rfl rfl rfl (C.stA (i := 7) (vs := [_, _, _, _, _]) Try.sizeOf41 rfl rfl rfl rfl rfl rfl) ?_ | refine RG.bar 8 hR rfl rfl rfl rfl rfl rfl (C.stA (i := 8) (vs := [_, _, _, _, _]) Try.sizeOf41 rfl rfl rfl rfl rfl rfl) ?_ | refine RG.bar 8 hR rfl rfl rfl rfl rfl rfl (C.stA (i := 9) (vs := [_, _, _, _, _]) Try.sizeOf41 rfl rfl rfl rfl rfl rfl) ?_ | refine RG.bar 8 hR rfl rfl rfl rfl rfl rfl (C.stA (i := 10) (vs := [_, _, _, _, _]) Try.sizeOf41 rfl rfl rfl rfl rfl rfl) ?_ | refine RG.bar 8 hR rfl rfl rfl rfl rfl rfl (C.stA (i := 11) (vs := [_, _, _, _, _]) Try.sizeOf41 rfl rfl rfl rfl rfl rfl) ?_ | refine RG.bar 8 hR rfl rfl rfl rfl rfl rfl (C.stA (i := 12) (vs := [_, _, _, _, _]) Try.sizeOf41 rfl rfl rfl rfl rfl rfl) ?_ | refine RG.bar 8 hR rfl rfl rfl rfl rfl rfl (C.stA (i := 13) (vs := [_, _, _, _, _]) Try.sizeOf41 rfl rfl rfl rfl rfl rfl) ?_ | refine RG.bar 8 hR rfl rfl rfl rfl rfl rfl (C.stA (i := 14) (vs := [_, _, _, _, _]) Try.sizeOf41 rfl rfl rfl rfl rfl rfl) ?_ | refine RG.bar 8 hR rfl rfl rfl rfl rfl rfl (C.stA (i := 15) (vs := [_, _, _, _, _]) Try.sizeOf41 rfl rfl rfl rfl rfl rfl) ?_
                rintro _ _ ⟨rfl, rfl⟩
                refine RG.fin hR rfl ?_
                refine J.norm rfl ?_
                refine J.keep [0, 2, 3, 4, 5, 6, 7] rfl ?_
                refine J.meet (b7, y) hy ⟨rfl, rfl, rfl, rfl, trivial⟩ rfl
          ·
            refine RGi.made rfl rfl rfl rfl (C.alloc (l := [_, _, _, _, _]) Try.zeroValue41 rfl) ?_
            rintro b7
            refine RG.rot ?_
            refine RG.normE rfl ?_
            refine RG.callk 1 hR rfl rfl rfl rfl rfl Try.call26 (table_spec m) [] rfl rfl ?_
            rintro _ _ ⟨rt, rfl, rfl⟩
            refine ⟨_, X.pick_perm (is := [1]) rfl, ?_⟩
            refine RG.hold ?_
            refine RG.norm rfl ?_
            refine RG.q 4 hR rfl rfl rfl rfl rfl rfl (X.G.Q.lkPlain (i := 1) ord3_int (tab_srt m) Try.runUnderlying66 keyI Try.zeroValue42 rfl rfl rfl hf1) ?_
            refine RG.many hR 6 [] rfl ⟨?_, trivial⟩
            ·
              refine RGi.one rfl rfl rfl rfl (OpC.callv hf2 rfl rfl hf3 [2, 3] rfl) ?_
              rintro _ _ ⟨_, ⟨y, rfl, hy, rfl⟩, rfl⟩
              refine ⟨_, X.pick_perm (is := [3, 4]) rfl, ?_⟩
              first | refine RG.bar 8 hR rfl rfl rfl rfl rfl rfl (C.stA (i := 0) (vs := [_, _, _, _, _]) Try.sizeOf41 rfl rfl rfl rfl rfl rfl) ?_ | refine RG.bar 8 hR rfl rfl rfl rfl rfl rfl (C.stA (i := 1) (vs := [_, _, _, _, _]) Try.sizeOf41 rfl rfl rfl rfl rfl rfl) ?_ | refine RG.bar 8 hR rfl rfl rfl rfl rfl rfl (C.stA (i := 2) (vs := [_, _, _, _, _]) Try.sizeOf41 rfl rfl rfl rfl rfl rfl) ?_ | refine RG.bar 8 hR rfl rfl rfl rfl rfl rfl (C.stA (i := 3) (vs := [_, _, _, _, _]) Try.sizeOf41 rfl rfl rfl rfl rfl rfl) ?_ | refine RG.bar 8 hR rfl rfl rfl rfl rfl rfl (C.stA (i := 4) (vs := [_, _, _, _, _]) Try.sizeOf41 rfl rfl rfl rfl rfl rfl) ?_ | refine RG.bar 8 hR rfl rfl rfl rfl rfl rfl (C.stA (i := 5) (vs := [_, _, _, _, _]) Try.sizeOf41 rfl rfl rfl rfl rfl rfl) ?_ | refine RG.bar 8 hR rfl rfl rfl rfl rfl rfl (C.stA (i := 6) (vs := [_, _, _, _, _]) Try.sizeOf41 rfl rfl rfl rfl rfl rfl) ?_ | refine RG.bar 8 hR rfl rfl rfl rfl rfl rfl (C.stA (i := 7) (vs := [_, _, _, _, _]) Try.sizeOf41 rfl rfl rfl rfl rfl rfl) ?_ | refine RG.bar 8 hR rfl rfl rfl rfl rfl rfl (C.stA (i := 8) (vs := [_, _, _, _, _]) Try.sizeOf41 rfl rfl rfl rfl rfl rfl) ?_ | refine RG.bar 8 hR rfl rfl rfl rfl rfl rfl (C.stA (i := 9) (vs := [_, _, _, _, _]) Try.sizeOf41 rfl rfl rfl rfl rfl rfl) ?_ | refine RG.bar 8 hR rfl rfl rfl rfl rfl rfl (C.stA (i := 10) (vs := [_, _, _, _, _]) Try.sizeOf41 rfl rfl rfl rfl rfl rfl) ?_ | refine RG.bar 8 hR rfl rfl rfl rfl rfl rfl (C.stA (i := 11) (vs := [_, _, _, _, _]) Try.sizeOf41 rfl rfl rfl rfl rfl rfl) ?_ | refine RG.bar 8 hR rfl rfl rfl rfl rfl rfl (C.stA (i := 12) (vs := [_, _, _, _, _]) Try.sizeOf41 rfl rfl rfl rfl rfl rfl) ?_ | refine RG.bar 8 hR rfl rfl rfl rfl rfl rfl (C.stA (i := 13) (vs := [_, _, _, _, _]) Try.sizeOf41 rfl rfl rfl rfl rfl rfl) ?_ | refine RG.bar 8 hR rfl rfl rfl rfl rfl rfl (C.stA (i := 14) (vs := [_, _, _, _, _]) Try.sizeOf41 rfl rfl rfl rfl rfl rfl) ?_ | refine RG.bar 8 hR rfl rfl rfl rfl rfl rfl (C.stA (i := 15) (vs := [_, _, _, _, _]) Try.sizeOf41 rfl rfl rfl rfl rfl rfl) ?_
              rintro _ _ ⟨rfl, rfl⟩
              refine RG.fin hR rfl ?_
              refine J.norm rfl ?_
              refine J.keep [0, 2, 3, 4, 5, 6, 7] rfl ?_
              refine J.meet (b7, y) hy ⟨rfl, rfl, rfl, rfl, trivial⟩ rfl
        ·
          obtain ⟨b7, y⟩ := w
          dsimp only at hw
          have hys : y.r.keys.length ≤ 1099511627776 ∧ y.r.data.length ≤ 1099511627776 := by rw [hw]; have := act_small hM hc; omega
          refine J.tells 2 rfl (asn_ok hys) fun hyo => ?_
          refine J.seq ?_
          refine J.seq ?_
          refine J.region ?_
          refine J.q rfl rfl (Q.fa (n := 1) Try.runUnderlying26 rfl rfl Try.sizeOf3 rfl) ?_
          refine J.q rfl rfl (Q.ld Try.isAgg3 rfl (by first | exact Reads.pt 0 rfl rfl | exact Reads.pt 1 rfl rfl | exact Reads.pt 2 rfl rfl | exact Reads.pt 3 rfl rfl | exact Reads.pt 4 rfl rfl | exact Reads.pt 5 rfl rfl | exact Reads.pt 6 rfl rfl | exact Reads.pt 7 rfl rfl | exact Reads.pt 8 rfl rfl | exact Reads.pt 9 rfl rfl | exact Reads.pt 10 rfl rfl | exact Reads.pt 11 rfl rfl | exact Reads.pt 12 rfl rfl | exact Reads.pt 13 rfl rfl)) ?_
          refine J.call Try.call9 (reads_at hrd) [] rfl rfl rfl rfl ?_
          rintro _ _ ⟨rfl, rfl⟩
          refine J.norm rfl ?_
          refine J.q rfl rfl (Q.not rfl) ?_
          refine J.nil ?_
          refine J.then_n ?_
          refine J.cases 41 rfl (fun hc41 => ?_) (fun hc41 => ?_)
          ·
            first | replace hc41 := X.tt_dec hc41 | replace hc41 := X.tt_not hc41 | replace hc41 := X.ff_dec hc41 | replace hc41 := X.ff_not hc41 | skip
            try (first | (cases hc41; done) | (exfalso; simp at hc41; done))
            all_goals
              refine J.cond_t rfl ?_
              refine J.open1 1 rfl (fun _ h => h) fun z => ?_
              refine J.norm rfl ?_
              refine J.keep [0, 4, 9, 1, 2, 3, 5, 6, 7, 8] rfl ?_
              refine J.drawE [7, 8] 3 Try.mixed (by kernel_rfl) rfl rfl fun hR => ?_
              refine RG.q 0 hR rfl rfl rfl rfl rfl rfl (Q.mv rfl) ?_
              refine RG.q 1 hR rfl rfl rfl rfl rfl rfl (Q.nil_ rfl) ?_
              refine RG.q 2 hR rfl rfl rfl rfl rfl rfl (Q.fa (n := 2) Try.runUnderlying62 rfl rfl Try.sizeOf60 rfl) ?_
              refine RG.q 3 hR rfl rfl rfl rfl rfl rfl (Q.ld Try.isAgg60 rfl (by first | exact Reads.pt 0 rfl rfl | exact Reads.pt 1 rfl rfl | exact Reads.pt 2 rfl rfl | exact Reads.pt 3 rfl rfl | exact Reads.pt 4 rfl rfl | exact Reads.pt 5 rfl rfl | exact Reads.pt 6 rfl rfl | exact Reads.pt 7 rfl rfl | exact Reads.pt 8 rfl rfl | exact Reads.pt 9 rfl rfl | exact Reads.pt 10 rfl rfl | exact Reads.pt 11 rfl rfl | exact Reads.pt 12 rfl rfl | exact Reads.pt 13 rfl rfl)) ?_
              refine RG.q 4 hR rfl rfl rfl rfl rfl rfl (Q.fa (n := 0) Try.runUnderlying26 rfl rfl Try.sizeOf22 rfl) ?_
              refine RG.q 5 hR rfl rfl rfl rfl rfl rfl (Q.ld Try.isAgg22 rfl (by first | exact Reads.pt 0 rfl rfl | exact Reads.pt 1 rfl rfl | exact Reads.pt 2 rfl rfl | exact Reads.pt 3 rfl rfl | exact Reads.pt 4 rfl rfl | exact Reads.pt 5 rfl rfl | exact Reads.pt 6 rfl rfl | exact Reads.pt 7 rfl rfl | exact Reads.pt 8 rfl rfl | exact Reads.pt 9 rfl rfl | exact Reads.pt 10 rfl rfl | exact Reads.pt 11 rfl rfl | exact Reads.pt 12 rfl rfl | exact Reads.pt 13 rfl rfl)) ?_
              refine RG.q 6 hR rfl rfl rfl rfl rfl rfl (Q.ldN (vs := [_, _, _, _, _]) Try.isAgg41 Try.sizeOf41 rfl (by first | exact ReadsN.pt 0 rfl | exact ReadsN.pt 1 rfl | exact ReadsN.pt 2 rfl | exact ReadsN.pt 3 rfl | exact ReadsN.pt 4 rfl | exact ReadsN.pt 5 rfl | exact ReadsN.pt 6 rfl | exact ReadsN.pt 7 rfl | exact ReadsN.pt 8 rfl | exact ReadsN.pt 9 rfl | exact ReadsN.pt 10 rfl | exact ReadsN.pt 11 rfl | exact ReadsN.pt 12 rfl | exact ReadsN.pt 13 rfl)) ?_
              refine RG.callk 7 hR rfl rfl rfl rfl rfl Try.call25 (apart_spec y.asn y hyo) [6] rfl rfl ?_
              rintro _ _ ⟨y2, rfl, hy2, rfl⟩
              refine ⟨_, X.pick_perm (is := [2, 3, 4]) rfl, ?_⟩
              refine RG.bar 8 hR rfl rfl rfl rfl rfl rfl (X.G.C.mapPut (rep := dRep) 7 (M.act x.o).1 ord3_nat (by rw [act_done]; exact hM.ds) Try.runUnderlying60 keyU rfl rfl rfl rfl) ?_
              rintro _ _ ⟨rfl, rfl⟩
              refine RG.norm rfl ?_
              refine RG.fin hR rfl ?_
              refine J.norm rfl ?_
              refine J.then_n ?_
              refine J.seq ?_
              refine J.region ?_
              refine J.q rfl rfl (Q.ldN (vs := [_, _, _, _, _]) Try.isAgg41 Try.sizeOf41 rfl (by first | exact ReadsN.pt 0 rfl | exact ReadsN.pt 1 rfl | exact ReadsN.pt 2 rfl | exact ReadsN.pt 3 rfl | exact ReadsN.pt 4 rfl | exact ReadsN.pt 5 rfl | exact ReadsN.pt 6 rfl | exact ReadsN.pt 7 rfl | exact ReadsN.pt 8 rfl | exact ReadsN.pt 9 rfl | exact ReadsN.pt 10 rfl | exact ReadsN.pt 11 rfl | exact ReadsN.pt 12 rfl | exact ReadsN.pt 13 rfl)) ?_
              first | refine J.c0 rfl (C.stA (i := 0) (vs := [_, _, _, _, _]) Try.sizeOf41 rfl rfl rfl rfl rfl rfl) ?_ | refine J.c0 rfl (C.stA (i := 1) (vs := [_, _, _, _, _]) Try.sizeOf41 rfl rfl rfl rfl rfl rfl) ?_ | refine J.c0 rfl (C.stA (i := 2) (vs := [_, _, _, _, _]) Try.sizeOf41 rfl rfl rfl rfl rfl rfl) ?_ | refine J.c0 rfl (C.stA (i := 3) (vs := [_, _, _, _, _]) Try.sizeOf41 rfl rfl rfl rfl rfl rfl) ?_ | refine J.c0 rfl (C.stA (i := 4) (vs := [_, _, _, _, _]) Try.sizeOf41 rfl rfl rfl rfl rfl rfl) ?_ | refine J.c0 rfl (C.stA (i := 5) (vs := [_, _, _, _, _]) Try.sizeOf41 rfl rfl rfl rfl rfl rfl) ?_ | refine J.c0 rfl (C.stA (i := 6) (vs := [_, _, _, _, _]) Try.sizeOf41 rfl rfl rfl rfl rfl rfl) ?_ | refine J.c0 rfl (C.stA (i := 7) (vs := [_, _, _, _, _]) Try.sizeOf41 rfl rfl rfl rfl rfl rfl) ?_ | refine J.c0 rfl (C.stA (i := 8) (vs := [_, _, _, _, _]) Try.sizeOf41 rfl rfl rfl rfl rfl rfl) ?_ | refine J.c0 rfl (C.stA (i := 9) (vs := [_, _, _, _, _]) Try.sizeOf41 rfl rfl rfl rfl rfl rfl) ?_ | refine J.c0 rfl (C.stA (i := 10) (vs := [_, _, _, _, _]) Try.sizeOf41 rfl rfl rfl rfl rfl rfl) ?_ | refine J.c0 rfl (C.stA (i := 11) (vs := [_, _, _, _, _]) Try.sizeOf41 rfl rfl rfl rfl rfl rfl) ?_ | refine J.c0 rfl (C.stA (i := 12) (vs := [_, _, _, _, _]) Try.sizeOf41 rfl rfl rfl rfl rfl rfl) ?_ | refine J.c0 rfl (C.stA (i := 13) (vs := [_, _, _, _, _]) Try.sizeOf41 rfl rfl rfl rfl rfl rfl) ?_ | refine J.c0 rfl (C.stA (i := 14) (vs := [_, _, _, _, _]) Try.sizeOf41 rfl rfl rfl rfl rfl rfl) ?_ | refine J.c0 rfl (C.stA (i := 15) (vs := [_, _, _, _, _]) Try.sizeOf41 rfl rfl rfl rfl rfl rfl) ?_
              rintro _ _ ⟨rfl, rfl⟩
              refine J.nil ?_
              refine J.then_n ?_
              refine J.cret ?_
              refine J.shut [3] (dRep x.o.id (M.act x.o).1 (.agg y2.cells.toArray)) rfl (fun h s => ⟨y2, ⟨hy2.trans hw, rfl⟩, s⟩) ?_
              refine J.mapBack (lt := ltN) 0 7 (M.act x.o).1 ord3_nat (X.G.srtd_put ord3_nat (by rw [act_done]; exact hM.ds) _ _) rfl ?_
              rw [X.G.sput_put ord3_nat (by rw [act_done]; exact hM.ds), act_done]
              refine J.shut [1, 5, 6, 0] (BktAt m { (M.act x.o).2 with done := sput ltN x.o.id (M.act x.o).1 M.done }) rfl (fun h s => ⟨z, s⟩) ?_
              refine J.retC [0, 3, 4, 6] (vs := [_, _, _, _, _]) rfl rfl Try.isAgg41 Try.sizeOf41 (ReadsN.pt 5 rfl) rfl (B := [_, _, _]) ⟨y, rfl, hw, rfl⟩
          ·
            first | replace hc41 := X.tt_dec hc41 | replace hc41 := X.tt_not hc41 | replace hc41 := X.ff_dec hc41 | replace hc41 := X.ff_not hc41 | skip
            try (first | (cases hc41; done) | (exfalso; simp at hc41; done))
            all_goals
              refine J.cond_f rfl ?_
              refine J.cskip ?_
              refine J.then_n ?_
              refine J.seq ?_
              refine J.region ?_
              refine J.q rfl rfl (Q.ldN (vs := [_, _, _, _, _]) Try.isAgg41 Try.sizeOf41 rfl (by first | exact ReadsN.pt 0 rfl | exact ReadsN.pt 1 rfl | exact ReadsN.pt 2 rfl | exact ReadsN.pt 3 rfl | exact ReadsN.pt 4 rfl | exact ReadsN.pt 5 rfl | exact ReadsN.pt 6 rfl | exact ReadsN.pt 7 rfl | exact ReadsN.pt 8 rfl | exact ReadsN.pt 9 rfl | exact ReadsN.pt 10 rfl | exact ReadsN.pt 11 rfl | exact ReadsN.pt 12 rfl | exact ReadsN.pt 13 rfl)) ?_
              first | refine J.c0 rfl (C.stA (i := 0) (vs := [_, _, _, _, _]) Try.sizeOf41 rfl rfl rfl rfl rfl rfl) ?_ | refine J.c0 rfl (C.stA (i := 1) (vs := [_, _, _, _, _]) Try.sizeOf41 rfl rfl rfl rfl rfl rfl) ?_ | refine J.c0 rfl (C.stA (i := 2) (vs := [_, _, _, _, _]) Try.sizeOf41 rfl rfl rfl rfl rfl rfl) ?_ | refine J.c0 rfl (C.stA (i := 3) (vs := [_, _, _, _, _]) Try.sizeOf41 rfl rfl rfl rfl rfl rfl) ?_ | refine J.c0 rfl (C.stA (i := 4) (vs := [_, _, _, _, _]) Try.sizeOf41 rfl rfl rfl rfl rfl rfl) ?_ | refine J.c0 rfl (C.stA (i := 5) (vs := [_, _, _, _, _]) Try.sizeOf41 rfl rfl rfl rfl rfl rfl) ?_ | refine J.c0 rfl (C.stA (i := 6) (vs := [_, _, _, _, _]) Try.sizeOf41 rfl rfl rfl rfl rfl rfl) ?_ | refine J.c0 rfl (C.stA (i := 7) (vs := [_, _, _, _, _]) Try.sizeOf41 rfl rfl rfl rfl rfl rfl) ?_ | refine J.c0 rfl (C.stA (i := 8) (vs := [_, _, _, _, _]) Try.sizeOf41 rfl rfl rfl rfl rfl rfl) ?_ | refine J.c0 rfl (C.stA (i := 9) (vs := [_, _, _, _, _]) Try.sizeOf41 rfl rfl rfl rfl rfl rfl) ?_ | refine J.c0 rfl (C.stA (i := 10) (vs := [_, _, _, _, _]) Try.sizeOf41 rfl rfl rfl rfl rfl rfl) ?_ | refine J.c0 rfl (C.stA (i := 11) (vs := [_, _, _, _, _]) Try.sizeOf41 rfl rfl rfl rfl rfl rfl) ?_ | refine J.c0 rfl (C.stA (i := 12) (vs := [_, _, _, _, _]) Try.sizeOf41 rfl rfl rfl rfl rfl rfl) ?_ | refine J.c0 rfl (C.stA (i := 13) (vs := [_, _, _, _, _]) Try.sizeOf41 rfl rfl rfl rfl rfl rfl) ?_ | refine J.c0 rfl (C.stA (i := 14) (vs := [_, _, _, _, _]) Try.sizeOf41 rfl rfl rfl rfl rfl rfl) ?_ | refine J.c0 rfl (C.stA (i := 15) (vs := [_, _, _, _, _]) Try.sizeOf41 rfl rfl rfl rfl rfl rfl) ?_
              rintro _ _ ⟨rfl, rfl⟩
              refine J.nil ?_
              refine J.then_n ?_
              refine J.cret ?_
              refine J.retC [1, 2, 3, 5] (vs := [_, _, _, _, _]) rfl rfl Try.isAgg41 Try.sizeOf41 (ReadsN.pt 4 rfl) rfl (B := [_, _, _]) ⟨y, rfl, hw, rfl⟩
theorem do_new (hA : HasAct m M x G) (hc : x.o.chkB = true) (hD : sget x.o.id M.done = none) (hrd : readsK x.o.kind = false) : FSpec Try.prog 13 [.pointer (some ⟨m, 0, none⟩), .agg x.cells.toArray] [BktAt m M, G] (ActR m G ((M.act x.o).1, { (M.act x.o).2 with done := sput ltN x.o.id (M.act x.o).1 M.done })) := by
  refine FSpec.of Try.func13 rfl Try.ntmps13 rfl fun W0 F => ?_
  refine J.seq ?_
  refine J.region ?_
  refine J.c rfl rfl (C.box (l := [_, _, _, _, _, _, _, _, _]) rfl rfl) ?_
  rintro _ _ ⟨b3, rfl, rfl⟩
  refine J.norm rfl ?_
  refine J.c rfl rfl (C.alloc (l := [_, _, _, _, _]) Try.zeroValue41 rfl) ?_
  rintro _ _ ⟨b4, rfl, rfl⟩
  refine J.norm rfl ?_
  refine J.nil ?_
  refine J.then_n ?_
  refine J.seq ?_
  refine J.seq ?_
  refine J.region ?_
  refine J.q rfl rfl (Q.ldN (vs := [_, _, _, _, _, _, _, _, _]) Try.isAgg26 Try.sizeOf26 rfl (by first | exact ReadsN.pt 0 rfl | exact ReadsN.pt 1 rfl | exact ReadsN.pt 2 rfl | exact ReadsN.pt 3 rfl | exact ReadsN.pt 4 rfl | exact ReadsN.pt 5 rfl | exact ReadsN.pt 6 rfl | exact ReadsN.pt 7 rfl | exact ReadsN.pt 8 rfl | exact ReadsN.pt 9 rfl | exact ReadsN.pt 10 rfl | exact ReadsN.pt 11 rfl | exact ReadsN.pt 12 rfl | exact ReadsN.pt 13 rfl)) ?_
  refine J.call Try.call7 ((by first | exact check_yes G x hx hc | exact check_no G x hx hc)) [3] rfl rfl rfl rfl ?_
  rintro _ _ ⟨rfl, rfl⟩
  refine J.norm rfl ?_
  refine J.q rfl rfl (Q.neq rfl rfl) ?_
  refine J.nil ?_
  refine J.then_n ?_
  refine J.cases 10 rfl (fun hc10 => ?_) (fun hc10 => ?_)
  ·
    first | replace hc10 := X.tt_dec hc10 | replace hc10 := X.tt_not hc10 | replace hc10 := X.ff_dec hc10 | replace hc10 := X.ff_not hc10 | skip
    try (first | (cases hc10; done) | (exfalso; simp at hc10; done))
    all_goals
      refine J.cond_t rfl ?_
      refine J.seq ?_
      refine J.region ?_
      refine J.call Try.call24 (status_spec 400) [] rfl rfl rfl rfl ?_
      rintro _ _ ⟨y, rfl, hy, rfl⟩
      refine J.norm rfl ?_
      first | refine J.c0 rfl (C.stA (i := 0) (vs := [_, _, _, _, _]) Try.sizeOf41 rfl rfl rfl rfl rfl rfl) ?_ | refine J.c0 rfl (C.stA (i := 1) (vs := [_, _, _, _, _]) Try.sizeOf41 rfl rfl rfl rfl rfl rfl) ?_ | refine J.c0 rfl (C.stA (i := 2) (vs := [_, _, _, _, _]) Try.sizeOf41 rfl rfl rfl rfl rfl rfl) ?_ | refine J.c0 rfl (C.stA (i := 3) (vs := [_, _, _, _, _]) Try.sizeOf41 rfl rfl rfl rfl rfl rfl) ?_ | refine J.c0 rfl (C.stA (i := 4) (vs := [_, _, _, _, _]) Try.sizeOf41 rfl rfl rfl rfl rfl rfl) ?_ | refine J.c0 rfl (C.stA (i := 5) (vs := [_, _, _, _, _]) Try.sizeOf41 rfl rfl rfl rfl rfl rfl) ?_ | refine J.c0 rfl (C.stA (i := 6) (vs := [_, _, _, _, _]) Try.sizeOf41 rfl rfl rfl rfl rfl rfl) ?_ | refine J.c0 rfl (C.stA (i := 7) (vs := [_, _, _, _, _]) Try.sizeOf41 rfl rfl rfl rfl rfl rfl) ?_ | refine J.c0 rfl (C.stA (i := 8) (vs := [_, _, _, _, _]) Try.sizeOf41 rfl rfl rfl rfl rfl rfl) ?_ | refine J.c0 rfl (C.stA (i := 9) (vs := [_, _, _, _, _]) Try.sizeOf41 rfl rfl rfl rfl rfl rfl) ?_ | refine J.c0 rfl (C.stA (i := 10) (vs := [_, _, _, _, _]) Try.sizeOf41 rfl rfl rfl rfl rfl rfl) ?_ | refine J.c0 rfl (C.stA (i := 11) (vs := [_, _, _, _, _]) Try.sizeOf41 rfl rfl rfl rfl rfl rfl) ?_ | refine J.c0 rfl (C.stA (i := 12) (vs := [_, _, _, _, _]) Try.sizeOf41 rfl rfl rfl rfl rfl rfl) ?_ | refine J.c0 rfl (C.stA (i := 13) (vs := [_, _, _, _, _]) Try.sizeOf41 rfl rfl rfl rfl rfl rfl) ?_ | refine J.c0 rfl (C.stA (i := 14) (vs := [_, _, _, _, _]) Try.sizeOf41 rfl rfl rfl rfl rfl rfl) ?_ | refine J.c0 rfl (C.stA (i := 15) (vs := [_, _, _, _, _]) Try.sizeOf41 rfl rfl rfl rfl rfl rfl) ?_
      rintro _ _ ⟨rfl, rfl⟩
      refine J.nil ?_
      refine J.then_n ?_
      refine J.cret ?_
      refine J.then_r ?_
      refine J.retC [4, 0, 1, 5] (vs := [_, _, _, _, _]) rfl rfl Try.isAgg41 Try.sizeOf41 (ReadsN.pt 2 rfl) rfl (B := [_, _, _]) ⟨_, rfl, hy, rfl⟩
  ·
    first | replace hc10 := X.tt_dec hc10 | replace hc10 := X.tt_not hc10 | replace hc10 := X.ff_dec hc10 | replace hc10 := X.ff_not hc10 | skip
    try (first | (cases hc10; done) | (exfalso; simp at hc10; done))
    all_goals
      refine J.cond_f rfl ?_
      refine J.cskip ?_
      refine J.then_n ?_
      refine J.cut (fun _ : Unit => True) (fun _ => [(0, .pointer (some ⟨m, 0, none⟩)), (3, .pointer (some ⟨b3, 0, none⟩)), (4, .pointer (some ⟨b4, 0, none⟩))]) (fun _ => [pt b3 (.cells x.cells.toArray 26 (0, 0)), BktAt m M, G, pt b4 (.cells [Value.int .i64 0, .int .u64 0, .slice none 0 0, .bool false, .slice none 0 0].toArray 41 (0, 0)), F]) ?_ fun _ _ => ?_
      ·
        refine J.seq ?_
        refine J.open1 3 rfl (fun _ h => h) fun z => ?_
        refine J.norm rfl ?_
        first
          | (refine J.mapFocus 3 hD rfl fun val => ?_
             refine J.norm rfl ?_
             refine J.open_ 0 rfl rfl (fun _ h => h) fun y0 hy0 => ?_
             obtain ⟨hyr, hyv⟩ := hy0
             subst hyv
             subst hyr
             refine J.norm rfl ?_
             have hrs := hM.rs _ _ hD
             refine J.tells 0 rfl (asn_ok ⟨by omega, by omega⟩) fun hy0 => ?_)
          | skip
        refine J.draw [10, 11, 12] Try.mixed (by kernel_rfl) fun hR => ?_
        refine RG.q 0 hR rfl rfl rfl rfl rfl rfl (Q.mv rfl) ?_
        refine RG.q 1 hR rfl rfl rfl rfl rfl rfl (Q.nil_ rfl) ?_
        refine RG.q 2 hR rfl rfl rfl rfl rfl rfl (Q.fa (n := 2) Try.runUnderlying62 rfl rfl Try.sizeOf60 rfl) ?_
        refine RG.q 3 hR rfl rfl rfl rfl rfl rfl (Q.ld Try.isAgg60 rfl (by first | exact Reads.pt 0 rfl rfl | exact Reads.pt 1 rfl rfl | exact Reads.pt 2 rfl rfl | exact Reads.pt 3 rfl rfl | exact Reads.pt 4 rfl rfl | exact Reads.pt 5 rfl rfl | exact Reads.pt 6 rfl rfl | exact Reads.pt 7 rfl rfl | exact Reads.pt 8 rfl rfl | exact Reads.pt 9 rfl rfl | exact Reads.pt 10 rfl rfl | exact Reads.pt 11 rfl rfl | exact Reads.pt 12 rfl rfl | exact Reads.pt 13 rfl rfl)) ?_
        refine RG.q 4 hR rfl rfl rfl rfl rfl rfl (Q.fa (n := 0) Try.runUnderlying26 rfl rfl Try.sizeOf22 rfl) ?_
        refine RG.q 5 hR rfl rfl rfl rfl rfl rfl (Q.ld Try.isAgg22 rfl (by first | exact Reads.pt 0 rfl rfl | exact Reads.pt 1 rfl rfl | exact Reads.pt 2 rfl rfl | exact Reads.pt 3 rfl rfl | exact Reads.pt 4 rfl rfl | exact Reads.pt 5 rfl rfl | exact Reads.pt 6 rfl rfl | exact Reads.pt 7 rfl rfl | exact Reads.pt 8 rfl rfl | exact Reads.pt 9 rfl rfl | exact Reads.pt 10 rfl rfl | exact Reads.pt 11 rfl rfl | exact Reads.pt 12 rfl rfl | exact Reads.pt 13 rfl rfl)) ?_
        refine RG.q 6 hR rfl rfl rfl rfl rfl rfl (by first | exact X.G.Q.lk2No (i := 3) Try.runUnderlying60 keyU Try.zeroValue41 rfl rfl rfl hD | exact X.G.Q.lk2Yes (i := 1) Try.runUnderlying60 keyU Try.zeroValue41 rfl rfl rfl) ?_
        refine RG.q 7 hR rfl rfl rfl rfl rfl rfl (Q.mv rfl) ?_
        refine RG.q 8 hR rfl rfl rfl rfl rfl rfl (Q.ext rfl rfl) ?_
        refine RG.q 9 hR rfl rfl rfl rfl rfl rfl (Q.ext rfl rfl) ?_
        refine RG.made 10 hR rfl rfl rfl rfl rfl (C.alloc (l := [_, _, _, _, _]) Try.zeroValue41 rfl) ?_
        rintro b5
        first | refine RG.stAk 11 (j := 0) (vs := [_, _, _, _, _]) hR rfl rfl rfl rfl Try.sizeOf41 rfl rfl rfl rfl rfl rfl ?_ | refine RG.stAk 11 (j := 1) (vs := [_, _, _, _, _]) hR rfl rfl rfl rfl Try.sizeOf41 rfl rfl rfl rfl rfl rfl ?_ | refine RG.stAk 11 (j := 2) (vs := [_, _, _, _, _]) hR rfl rfl rfl rfl Try.sizeOf41 rfl rfl rfl rfl rfl rfl ?_ | refine RG.stAk 11 (j := 3) (vs := [_, _, _, _, _]) hR rfl rfl rfl rfl Try.sizeOf41 rfl rfl rfl rfl rfl rfl ?_ | refine RG.stAk 11 (j := 4) (vs := [_, _, _, _, _]) hR rfl rfl rfl rfl Try.sizeOf41 rfl rfl rfl rfl rfl rfl ?_ | refine RG.stAk 11 (j := 5) (vs := [_, _, _, _, _]) hR rfl rfl rfl rfl Try.sizeOf41 rfl rfl rfl rfl rfl rfl ?_ | refine RG.stAk 11 (j := 6) (vs := [_, _, _, _, _]) hR rfl rfl rfl rfl Try.sizeOf41 rfl rfl rfl rfl rfl rfl ?_ | refine RG.stAk 11 (j := 7) (vs := [_, _, _, _, _]) hR rfl rfl rfl rfl Try.sizeOf41 rfl rfl rfl rfl rfl rfl ?_ | refine RG.stAk 11 (j := 8) (vs := [_, _, _, _, _]) hR rfl rfl rfl rfl Try.sizeOf41 rfl rfl rfl rfl rfl rfl ?_ | refine RG.stAk 11 (j := 9) (vs := [_, _, _, _, _]) hR rfl rfl rfl rfl Try.sizeOf41 rfl rfl rfl rfl rfl rfl ?_ | refine RG.stAk 11 (j := 10) (vs := [_, _, _, _, _]) hR rfl rfl rfl rfl Try.sizeOf41 rfl rfl rfl rfl rfl rfl ?_ | refine RG.stAk 11 (j := 11) (vs := [_, _, _, _, _]) hR rfl rfl rfl rfl Try.sizeOf41 rfl rfl rfl rfl rfl rfl ?_ | refine RG.stAk 11 (j := 12) (vs := [_, _, _, _, _]) hR rfl rfl rfl rfl Try.sizeOf41 rfl rfl rfl rfl rfl rfl ?_ | refine RG.stAk 11 (j := 13) (vs := [_, _, _, _, _]) hR rfl rfl rfl rfl Try.sizeOf41 rfl rfl rfl rfl rfl rfl ?_ | refine RG.stAk 11 (j := 14) (vs := [_, _, _, _, _]) hR rfl rfl rfl rfl Try.sizeOf41 rfl rfl rfl rfl rfl rfl ?_ | refine RG.stAk 11 (j := 15) (vs := [_, _, _, _, _]) hR rfl rfl rfl rfl Try.sizeOf41 rfl rfl rfl rfl rfl rfl ?_
        refine RG.bar 12 hR rfl rfl rfl rfl rfl rfl (Q.asg rfl).toC ?_
        rintro _ _ ⟨rfl, rfl⟩
        refine RG.norm rfl ?_
        refine RG.fin hR rfl ?_
        refine J.norm rfl ?_
        refine J.then_n ?_
        refine J.seq ?_
        refine J.region ?_
        refine J.q rfl rfl (Q.mv rfl) ?_
        refine J.q rfl rfl (Q.mv rfl) ?_
        refine J.cases 23 rfl (fun hb23 => ?_) (fun hb23 => ?_)
        ·
          first | replace hb23 := X.tt_dec hb23 | replace hb23 := X.tt_not hb23 | replace hb23 := X.ff_dec hb23 | replace hb23 := X.ff_not hb23 | skip
          try (first | (cases hb23; done) | (exfalso; simp at hb23; done))
          all_goals
            refine J.q rfl rfl (Q.fa (n := 1) Try.runUnderlying26 rfl rfl Try.sizeOf3 rfl) ?_
            refine J.q rfl rfl (Q.ld Try.isAgg3 rfl (by first | exact Reads.pt 0 rfl rfl | exact Reads.pt 1 rfl rfl | exact Reads.pt 2 rfl rfl | exact Reads.pt 3 rfl rfl | exact Reads.pt 4 rfl rfl | exact Reads.pt 5 rfl rfl | exact Reads.pt 6 rfl rfl | exact Reads.pt 7 rfl rfl | exact Reads.pt 8 rfl rfl | exact Reads.pt 9 rfl rfl | exact Reads.pt 10 rfl rfl | exact Reads.pt 11 rfl rfl | exact Reads.pt 12 rfl rfl | exact Reads.pt 13 rfl rfl)) ?_
            refine J.call Try.call9 (reads_at hrd) [] rfl rfl rfl rfl ?_
            rintro _ _ ⟨rfl, rfl⟩
            refine J.norm rfl ?_
            refine J.q rfl rfl (Q.not rfl) ?_
            refine J.q rfl rfl (Q.pick_t rfl rfl) ?_
            refine J.nil ?_
            refine J.then_n ?_
            refine J.cases 28 rfl (fun hc28 => ?_) (fun hc28 => ?_)
            ·
              first | replace hc28 := X.tt_dec hc28 | replace hc28 := X.tt_not hc28 | replace hc28 := X.ff_dec hc28 | replace hc28 := X.ff_not hc28 | skip
              try (first | (cases hc28; done) | (exfalso; simp at hc28; done))
              all_goals
                refine J.cond_t rfl ?_
                refine J.seq ?_
                refine J.region ?_
                refine J.q rfl rfl (Q.ldN (vs := [_, _, _, _, _]) Try.isAgg41 Try.sizeOf41 rfl (by first | exact ReadsN.pt 0 rfl | exact ReadsN.pt 1 rfl | exact ReadsN.pt 2 rfl | exact ReadsN.pt 3 rfl | exact ReadsN.pt 4 rfl | exact ReadsN.pt 5 rfl | exact ReadsN.pt 6 rfl | exact ReadsN.pt 7 rfl | exact ReadsN.pt 8 rfl | exact ReadsN.pt 9 rfl | exact ReadsN.pt 10 rfl | exact ReadsN.pt 11 rfl | exact ReadsN.pt 12 rfl | exact ReadsN.pt 13 rfl)) ?_
                refine J.call Try.call25 (apart_spec y0.asn y0 hy0) [0] rfl rfl rfl rfl ?_
                rintro _ _ ⟨y, rfl, hy, rfl⟩
                refine J.norm rfl ?_
                first | refine J.c0 rfl (C.stA (i := 0) (vs := [_, _, _, _, _]) Try.sizeOf41 rfl rfl rfl rfl rfl rfl) ?_ | refine J.c0 rfl (C.stA (i := 1) (vs := [_, _, _, _, _]) Try.sizeOf41 rfl rfl rfl rfl rfl rfl) ?_ | refine J.c0 rfl (C.stA (i := 2) (vs := [_, _, _, _, _]) Try.sizeOf41 rfl rfl rfl rfl rfl rfl) ?_ | refine J.c0 rfl (C.stA (i := 3) (vs := [_, _, _, _, _]) Try.sizeOf41 rfl rfl rfl rfl rfl rfl) ?_ | refine J.c0 rfl (C.stA (i := 4) (vs := [_, _, _, _, _]) Try.sizeOf41 rfl rfl rfl rfl rfl rfl) ?_ | refine J.c0 rfl (C.stA (i := 5) (vs := [_, _, _, _, _]) Try.sizeOf41 rfl rfl rfl rfl rfl rfl) ?_ | refine J.c0 rfl (C.stA (i := 6) (vs := [_, _, _, _, _]) Try.sizeOf41 rfl rfl rfl rfl rfl rfl) ?_ | refine J.c0 rfl (C.stA (i := 7) (vs := [_, _, _, _, _]) Try.sizeOf41 rfl rfl rfl rfl rfl rfl) ?_ | refine J.c0 rfl (C.stA (i := 8) (vs := [_, _, _, _, _]) Try.sizeOf41 rfl rfl rfl rfl rfl rfl) ?_ | refine J.c0 rfl (C.stA (i := 9) (vs := [_, _, _, _, _]) Try.sizeOf41 rfl rfl rfl rfl rfl rfl) ?_ | refine J.c0 rfl (C.stA (i := 10) (vs := [_, _, _, _, _]) Try.sizeOf41 rfl rfl rfl rfl rfl rfl) ?_ | refine J.c0 rfl (C.stA (i := 11) (vs := [_, _, _, _, _]) Try.sizeOf41 rfl rfl rfl rfl rfl rfl) ?_ | refine J.c0 rfl (C.stA (i := 12) (vs := [_, _, _, _, _]) Try.sizeOf41 rfl rfl rfl rfl rfl rfl) ?_ | refine J.c0 rfl (C.stA (i := 13) (vs := [_, _, _, _, _]) Try.sizeOf41 rfl rfl rfl rfl rfl rfl) ?_ | refine J.c0 rfl (C.stA (i := 14) (vs := [_, _, _, _, _]) Try.sizeOf41 rfl rfl rfl rfl rfl rfl) ?_ | refine J.c0 rfl (C.stA (i := 15) (vs := [_, _, _, _, _]) Try.sizeOf41 rfl rfl rfl rfl rfl rfl) ?_
                rintro _ _ ⟨rfl, rfl⟩
                refine J.nil ?_
                refine J.then_n ?_
                refine J.cret ?_
                refine J.cut_r ?_
                refine J.shut [1] (dRep x.o.id y0.r (.agg y0.cells.toArray)) rfl (fun h s => ⟨y0, ⟨rfl, rfl⟩, s⟩) ?_
                refine J.mapSame 0 2 ord3_nat hM.ds hD rfl ?_
                refine J.shut [2, 3, 4, 0] (BktAt m M) rfl (fun h s => ⟨z, s⟩) ?_
                refine J.retC [0, 1, 2, 5] (vs := [_, _, _, _, _]) rfl rfl Try.isAgg41 Try.sizeOf41 (ReadsN.pt 3 rfl) rfl (B := [_, _, _]) ⟨_, rfl, hy, rfl⟩
            ·
              first | replace hc28 := X.tt_dec hc28 | replace hc28 := X.tt_not hc28 | replace hc28 := X.ff_dec hc28 | replace hc28 := X.ff_not hc28 | skip
              try (first | (cases hc28; done) | (exfalso; simp at hc28; done))
              all_goals
                refine J.cond_f rfl ?_
                refine J.cskip ?_
                first
                  | (refine J.shut [0] (dRep x.o.id y0.r (.agg y0.cells.toArray)) rfl (fun h s => ⟨y0, ⟨rfl, rfl⟩, s⟩) ?_
                     refine J.mapSame 0 1 ord3_nat hM.ds hD rfl ?_
                     refine J.shut [1, 2, 3, 0] (BktAt m M) rfl (fun h s => ⟨z, s⟩) ?_)
                  | refine J.shut [0, 1, 2, 3] (BktAt m M) rfl (fun h s => ⟨z, s⟩) ?_
                refine J.keep [3, 0, 1, 2, 4] rfl ?_
                refine J.meet () trivial ⟨rfl, rfl, rfl, trivial⟩ rfl
        ·
          first | replace hb23 := X.tt_dec hb23 | replace hb23 := X.tt_not hb23 | replace hb23 := X.ff_dec hb23 | replace hb23 := X.ff_not hb23 | skip
          try (first | (cases hb23; done) | (exfalso; simp at hb23; done))
          all_goals
            refine J.skip rfl rfl ?_
            refine J.skip rfl rfl ?_
            refine J.skip rfl rfl ?_
            refine J.skip rfl rfl ?_
            refine J.q rfl rfl (Q.pick_f rfl rfl) ?_
            refine J.nil ?_
            refine J.then_n ?_
            refine J.cond_f rfl ?_
            refine J.cskip ?_
            first
              | (refine J.shut [0] (dRep x.o.id y0.r (.agg y0.cells.toArray)) rfl (fun h s => ⟨y0, ⟨rfl, rfl⟩, s⟩) ?_
                 refine J.mapSame 0 1 ord3_nat hM.ds hD rfl ?_
                 refine J.shut [1, 2, 3, 0] (BktAt m M) rfl (fun h s => ⟨z, s⟩) ?_)
              | refine J.shut [0, 1, 2, 3] (BktAt m M) rfl (fun h s => ⟨z, s⟩) ?_
            refine J.keep [3, 0, 1, 2, 4] rfl ?_
            refine J.meet () trivial ⟨rfl, rfl, rfl, trivial⟩ rfl
      ·
        refine J.cut (fun w : Nat × RW => w.2.r = (M.act x.o).1) (fun w => [(0, .pointer (some ⟨m, 0, none⟩)), (3, .pointer (some ⟨b3, 0, none⟩)), (4, .pointer (some ⟨b4, 0, none⟩)), (7, .pointer (some ⟨w.1, 0, none⟩))]) (fun w => [pt b3 (.cells x.cells.toArray 26 (0, 0)), BktAt m (M.act x.o).2, w.2.asn, G, pt b4 (.cells [Value.int .i64 0, .int .u64 0, .slice none 0 0, .bool false, .slice none 0 0].toArray 41 (0, 0)), F, pt w.1 (.cells w.2.cells.toArray 41 (0, 0))]) ?_ fun w hw => ?_
        ·
          obtain ⟨fid, hf1, hf2, hf3⟩ := hA
          refine J.drawE [1, 6, 7, 8] 1 Try.mixed (by kernel_rfl) rfl rfl fun hR => ?_
          refine RG.q 0 hR rfl rfl rfl rfl rfl rfl (Q.mv rfl) ?_
          refine RG.q 2 hR rfl rfl rfl rfl rfl rfl (Q.fa (n := 1) Try.runUnderlying26 rfl rfl Try.sizeOf3 rfl) ?_
          refine RG.q 3 hR rfl rfl rfl rfl rfl rfl (Q.ld Try.isAgg3 rfl (by first | exact Reads.pt 0 rfl rfl | exact Reads.pt 1 rfl rfl | exact Reads.pt 2 rfl rfl | exact Reads.pt 3 rfl rfl | exact Reads.pt 4 rfl rfl | exact Reads.pt 5 rfl rfl | exact Reads.pt 6 rfl rfl | exact Reads.pt 7 rfl rfl | exact Reads.pt 8 rfl rfl | exact Reads.pt 9 rfl rfl | exact Reads.pt 10 rfl rfl | exact Reads.pt 11 rfl rfl | exact Reads.pt 12 rfl rfl | exact Reads.pt 13 rfl rfl)) ?_
          refine RG.q 5 hR rfl rfl rfl rfl rfl rfl (Q.ldN (vs := [_, _, _, _, _, _, _, _, _]) Try.isAgg26 Try.sizeOf26 rfl (by first | exact ReadsN.pt 0 rfl | exact ReadsN.pt 1 rfl | exact ReadsN.pt 2 rfl | exact ReadsN.pt 3 rfl | exact ReadsN.pt 4 rfl | exact ReadsN.pt 5 rfl | exact ReadsN.pt 6 rfl | exact ReadsN.pt 7 rfl | exact ReadsN.pt 8 rfl | exact ReadsN.pt 9 rfl | exact ReadsN.pt 10 rfl | exact ReadsN.pt 11 rfl | exact ReadsN.pt 12 rfl | exact ReadsN.pt 13 rfl)) ?_
          refine RG.many hR 1 [7] rfl ⟨?_, ⟨?_, trivial⟩⟩
          ·
            refine RGi.callk rfl rfl rfl rfl Try.call26 (table_spec m) [] rfl rfl ?_
            rintro _ _ ⟨rt, rfl, rfl⟩
            refine ⟨_, X.pick_perm (is := [1]) rfl, ?_⟩
            refine RG.hold ?_
            refine RG.norm rfl ?_
            refine RG.q 4 hR rfl rfl rfl rfl rfl rfl (X.G.Q.lkPlain (i := 1) ord3_int (tab_srt m) Try.runUnderlying66 keyI Try.zeroValue42 rfl rfl rfl hf1) ?_
            refine RG.many hR 6 [7] rfl ⟨?_, ⟨?_, trivial⟩⟩
            ·
              refine RGi.one rfl rfl rfl rfl (OpC.callv hf2 rfl rfl hf3 [2, 3] rfl) ?_
              rintro _ _ ⟨_, ⟨y, rfl, hy, rfl⟩, rfl⟩
              refine ⟨_, X.pick_perm (is := [3, 4]) rfl, ?_⟩
              refine RG.made 7 hR rfl rfl rfl rfl rfl (C.alloc (l := [_, _, _, _, _]) Try.zeroValue41 rfl) ?_
              rintro b7
              refine RG.rot ?_
              refine RG.normE rfl ?_
              first | refine RG.bar 8 hR rfl rfl rfl rfl rfl rfl (C.stA (i := 0) (vs := [_, _, _, _, _]) Try.sizeOf41 rfl rfl rfl rfl rfl rfl) ?_ | refine RG.bar 8 hR rfl rfl rfl rfl rfl rfl (C.stA (i := 1) (vs := [_, _, _, _, _]) Try.sizeOf41 rfl rfl rfl rfl rfl rfl) ?_ | refine RG.bar 8 hR rfl rfl rfl rfl rfl rfl (C.stA (i := 2) (vs := [_, _, _, _, _]) Try.sizeOf41 rfl rfl rfl rfl rfl rfl) ?_ | refine RG.bar 8 hR rfl rfl rfl rfl rfl rfl (C.stA (i := 3) (vs := [_, _, _, _, _]) Try.sizeOf41 rfl rfl rfl rfl rfl rfl) ?_ | refine RG.bar 8 hR rfl rfl rfl rfl rfl rfl (C.stA (i := 4) (vs := [_, _, _, _, _]) Try.sizeOf41 rfl rfl rfl rfl rfl rfl) ?_ | refine RG.bar 8 hR rfl rfl rfl rfl rfl rfl (C.stA (i := 5) (vs := [_, _, _, _, _]) Try.sizeOf41 rfl rfl rfl rfl rfl rfl) ?_ | refine RG.bar 8 hR rfl rfl rfl rfl rfl rfl (C.stA (i := 6) (vs := [_, _, _, _, _]) Try.sizeOf41 rfl rfl rfl rfl rfl rfl) ?_ | refine RG.bar 8 hR rfl rfl rfl rfl rfl rfl (C.stA (i := 7) (vs := [_, _, _, _, _]) Try.sizeOf41 rfl rfl rfl rfl rfl rfl) ?_ | refine RG.bar 8 hR rfl rfl rfl rfl rfl rfl (C.stA (i := 8) (vs := [_, _, _, _, _]) Try.sizeOf41 rfl rfl rfl rfl rfl rfl) ?_ | refine RG.bar 8 hR rfl rfl rfl rfl rfl rfl (C.stA (i := 9) (vs := [_, _, _, _, _]) Try.sizeOf41 rfl rfl rfl rfl rfl rfl) ?_ | refine RG.bar 8 hR rfl rfl rfl rfl rfl rfl (C.stA (i := 10) (vs := [_, _, _, _, _]) Try.sizeOf41 rfl rfl rfl rfl rfl rfl) ?_ | refine RG.bar 8 hR rfl rfl rfl rfl rfl rfl (C.stA (i := 11) (vs := [_, _, _, _, _]) Try.sizeOf41 rfl rfl rfl rfl rfl rfl) ?_ | refine RG.bar 8 hR rfl rfl rfl rfl rfl rfl (C.stA (i := 12) (vs := [_, _, _, _, _]) Try.sizeOf41 rfl rfl rfl rfl rfl rfl) ?_ | refine RG.bar 8 hR rfl rfl rfl rfl rfl rfl (C.stA (i := 13) (vs := [_, _, _, _, _]) Try.sizeOf41 rfl rfl rfl rfl rfl rfl) ?_ | refine RG.bar 8 hR rfl rfl rfl rfl rfl rfl (C.stA (i := 14) (vs := [_, _, _, _, _]) Try.sizeOf41 rfl rfl rfl rfl rfl rfl) ?_ | refine RG.bar 8 hR rfl rfl rfl rfl rfl rfl (C.stA (i := 15) (vs := [_, _, _, _, _]) Try.sizeOf41 rfl rfl rfl rfl rfl rfl) ?_
              rintro _ _ ⟨rfl, rfl⟩
              refine RG.fin hR rfl ?_
              refine J.norm rfl ?_
              refine J.keep [0, 2, 3, 4, 5, 6, 7] rfl ?_
              refine J.meet (b7, y) hy ⟨rfl, rfl, rfl, rfl, trivial⟩ rfl
            ·
              refine RGi.made rfl rfl rfl rfl (C.alloc (l := [_, _, _, _, _]) Try.zeroValue41 rfl) ?_
              rintro b7
              refine RG.rot ?_
              refine RG.normE rfl ?_
              refine RG.many hR 6 [] rfl ⟨?_, trivial⟩
              ·
                refine RGi.one rfl rfl rfl rfl (OpC.callv hf2 rfl rfl hf3 [2, 3] rfl) ?_
                rintro _ _ ⟨_, ⟨y, rfl, hy, rfl⟩, rfl⟩
                refine ⟨_, X.pick_perm (is := [3, 4]) rfl, ?_⟩
                first | refine RG.bar 8 hR rfl rfl rfl rfl rfl rfl (C.stA (i := 0) (vs := [_, _, _, _, _]) Try.sizeOf41 rfl rfl rfl rfl rfl rfl) ?_ | refine RG.bar 8 hR rfl rfl rfl rfl rfl rfl (C.stA (i := 1) (vs := [_, _, _, _, _]) Try.sizeOf41 rfl rfl rfl rfl rfl rfl) ?_ | refine RG.bar 8 hR rfl rfl rfl rfl rfl rfl (C.stA (i := 2) (vs := [_, _, _, _, _]) Try.sizeOf41 rfl rfl rfl rfl rfl rfl) ?_ | refine RG.bar 8 hR rfl rfl rfl rfl rfl rfl (C.stA (i := 3) (vs := [_, _, _, _, _]) Try.sizeOf41 rfl rfl rfl rfl rfl rfl) ?_ | refine RG.bar 8 hR rfl rfl rfl rfl rfl rfl (C.stA (i := 4) (vs := [_, _, _, _, _]) Try.sizeOf41 rfl rfl rfl rfl rfl rfl) ?_ | refine RG.bar 8 hR rfl rfl rfl rfl rfl rfl (C.stA (i := 5) (vs := [_, _, _, _, _]) Try.sizeOf41 rfl rfl rfl rfl rfl rfl) ?_ | refine RG.bar 8 hR rfl rfl rfl rfl rfl rfl (C.stA (i := 6) (vs := [_, _, _, _, _]) Try.sizeOf41 rfl rfl rfl rfl rfl rfl) ?_ | refine RG.bar 8 hR rfl rfl rfl rfl rfl rfl (C.stA (i := 7) (vs := [_, _, _, _, _]) Try.sizeOf41 rfl rfl rfl rfl rfl rfl) ?_ | refine RG.bar 8 hR rfl rfl rfl rfl rfl rfl (C.stA (i := 8) (vs := [_, _, _, _, _]) Try.sizeOf41 rfl rfl rfl rfl rfl rfl) ?_ | refine RG.bar 8 hR rfl rfl rfl rfl rfl rfl (C.stA (i := 9) (vs := [_, _, _, _, _]) Try.sizeOf41 rfl rfl rfl rfl rfl rfl) ?_ | refine RG.bar 8 hR rfl rfl rfl rfl rfl rfl (C.stA (i := 10) (vs := [_, _, _, _, _]) Try.sizeOf41 rfl rfl rfl rfl rfl rfl) ?_ | refine RG.bar 8 hR rfl rfl rfl rfl rfl rfl (C.stA (i := 11) (vs := [_, _, _, _, _]) Try.sizeOf41 rfl rfl rfl rfl rfl rfl) ?_ | refine RG.bar 8 hR rfl rfl rfl rfl rfl rfl (C.stA (i := 12) (vs := [_, _, _, _, _]) Try.sizeOf41 rfl rfl rfl rfl rfl rfl) ?_ | refine RG.bar 8 hR rfl rfl rfl rfl rfl rfl (C.stA (i := 13) (vs := [_, _, _, _, _]) Try.sizeOf41 rfl rfl rfl rfl rfl rfl) ?_ | refine RG.bar 8 hR rfl rfl rfl rfl rfl rfl (C.stA (i := 14) (vs := [_, _, _, _, _]) Try.sizeOf41 rfl rfl rfl rfl rfl rfl) ?_ | refine RG.bar 8 hR rfl rfl rfl rfl rfl rfl (C.stA (i := 15) (vs := [_, _, _, _, _]) Try.sizeOf41 rfl rfl rfl rfl rfl rfl) ?_
                rintro _ _ ⟨rfl, rfl⟩
                refine RG.fin hR rfl ?_
                refine J.norm rfl ?_
                refine J.keep [0, 2, 3, 4, 5, 6, 7] rfl ?_
                refine J.meet (b7, y) hy ⟨rfl, rfl, rfl, rfl, trivial⟩ rfl
          ·
            refine RGi.made rfl rfl rfl rfl (C.alloc (l := [_, _, _, _, _]) Try.zeroValue41 rfl) ?_
            rintro b7
            refine RG.rot ?_
            refine RG.normE rfl ?_
            refine RG.callk 1 hR rfl rfl rfl rfl rfl Try.call26 (table_spec m) [] rfl rfl ?_
            rintro _ _ ⟨rt, rfl, rfl⟩
            refine ⟨_, X.pick_perm (is := [1]) rfl, ?_⟩
            refine RG.hold ?_
            refine RG.norm rfl ?_
            refine RG.q 4 hR rfl rfl rfl rfl rfl rfl (X.G.Q.lkPlain (i := 1) ord3_int (tab_srt m) Try.runUnderlying66 keyI Try.zeroValue42 rfl rfl rfl hf1) ?_
            refine RG.many hR 6 [] rfl ⟨?_, trivial⟩
            ·
              refine RGi.one rfl rfl rfl rfl (OpC.callv hf2 rfl rfl hf3 [2, 3] rfl) ?_
              rintro _ _ ⟨_, ⟨y, rfl, hy, rfl⟩, rfl⟩
              refine ⟨_, X.pick_perm (is := [3, 4]) rfl, ?_⟩
              first | refine RG.bar 8 hR rfl rfl rfl rfl rfl rfl (C.stA (i := 0) (vs := [_, _, _, _, _]) Try.sizeOf41 rfl rfl rfl rfl rfl rfl) ?_ | refine RG.bar 8 hR rfl rfl rfl rfl rfl rfl (C.stA (i := 1) (vs := [_, _, _, _, _]) Try.sizeOf41 rfl rfl rfl rfl rfl rfl) ?_ | refine RG.bar 8 hR rfl rfl rfl rfl rfl rfl (C.stA (i := 2) (vs := [_, _, _, _, _]) Try.sizeOf41 rfl rfl rfl rfl rfl rfl) ?_ | refine RG.bar 8 hR rfl rfl rfl rfl rfl rfl (C.stA (i := 3) (vs := [_, _, _, _, _]) Try.sizeOf41 rfl rfl rfl rfl rfl rfl) ?_ | refine RG.bar 8 hR rfl rfl rfl rfl rfl rfl (C.stA (i := 4) (vs := [_, _, _, _, _]) Try.sizeOf41 rfl rfl rfl rfl rfl rfl) ?_ | refine RG.bar 8 hR rfl rfl rfl rfl rfl rfl (C.stA (i := 5) (vs := [_, _, _, _, _]) Try.sizeOf41 rfl rfl rfl rfl rfl rfl) ?_ | refine RG.bar 8 hR rfl rfl rfl rfl rfl rfl (C.stA (i := 6) (vs := [_, _, _, _, _]) Try.sizeOf41 rfl rfl rfl rfl rfl rfl) ?_ | refine RG.bar 8 hR rfl rfl rfl rfl rfl rfl (C.stA (i := 7) (vs := [_, _, _, _, _]) Try.sizeOf41 rfl rfl rfl rfl rfl rfl) ?_ | refine RG.bar 8 hR rfl rfl rfl rfl rfl rfl (C.stA (i := 8) (vs := [_, _, _, _, _]) Try.sizeOf41 rfl rfl rfl rfl rfl rfl) ?_ | refine RG.bar 8 hR rfl rfl rfl rfl rfl rfl (C.stA (i := 9) (vs := [_, _, _, _, _]) Try.sizeOf41 rfl rfl rfl rfl rfl rfl) ?_ | refine RG.bar 8 hR rfl rfl rfl rfl rfl rfl (C.stA (i := 10) (vs := [_, _, _, _, _]) Try.sizeOf41 rfl rfl rfl rfl rfl rfl) ?_ | refine RG.bar 8 hR rfl rfl rfl rfl rfl rfl (C.stA (i := 11) (vs := [_, _, _, _, _]) Try.sizeOf41 rfl rfl rfl rfl rfl rfl) ?_ | refine RG.bar 8 hR rfl rfl rfl rfl rfl rfl (C.stA (i := 12) (vs := [_, _, _, _, _]) Try.sizeOf41 rfl rfl rfl rfl rfl rfl) ?_ | refine RG.bar 8 hR rfl rfl rfl rfl rfl rfl (C.stA (i := 13) (vs := [_, _, _, _, _]) Try.sizeOf41 rfl rfl rfl rfl rfl rfl) ?_ | refine RG.bar 8 hR rfl rfl rfl rfl rfl rfl (C.stA (i := 14) (vs := [_, _, _, _, _]) Try.sizeOf41 rfl rfl rfl rfl rfl rfl) ?_ | refine RG.bar 8 hR rfl rfl rfl rfl rfl rfl (C.stA (i := 15) (vs := [_, _, _, _, _]) Try.sizeOf41 rfl rfl rfl rfl rfl rfl) ?_
              rintro _ _ ⟨rfl, rfl⟩
              refine RG.fin hR rfl ?_
              refine J.norm rfl ?_
              refine J.keep [0, 2, 3, 4, 5, 6, 7] rfl ?_
              refine J.meet (b7, y) hy ⟨rfl, rfl, rfl, rfl, trivial⟩ rfl
        ·
          obtain ⟨b7, y⟩ := w
          dsimp only at hw
          have hys : y.r.keys.length ≤ 1099511627776 ∧ y.r.data.length ≤ 1099511627776 := by rw [hw]; have := act_small hM hc; omega
          refine J.tells 2 rfl (asn_ok hys) fun hyo => ?_
          refine J.seq ?_
          refine J.seq ?_
          refine J.region ?_
          refine J.q rfl rfl (Q.fa (n := 1) Try.runUnderlying26 rfl rfl Try.sizeOf3 rfl) ?_
          refine J.q rfl rfl (Q.ld Try.isAgg3 rfl (by first | exact Reads.pt 0 rfl rfl | exact Reads.pt 1 rfl rfl | exact Reads.pt 2 rfl rfl | exact Reads.pt 3 rfl rfl | exact Reads.pt 4 rfl rfl | exact Reads.pt 5 rfl rfl | exact Reads.pt 6 rfl rfl | exact Reads.pt 7 rfl rfl | exact Reads.pt 8 rfl rfl | exact Reads.pt 9 rfl rfl | exact Reads.pt 10 rfl rfl | exact Reads.pt 11 rfl rfl | exact Reads.pt 12 rfl rfl | exact Reads.pt 13 rfl rfl)) ?_
          refine J.call Try.call9 (reads_at hrd) [] rfl rfl rfl rfl ?_
          rintro _ _ ⟨rfl, rfl⟩
          refine J.norm rfl ?_
          refine J.q rfl rfl (Q.not rfl) ?_
          refine J.nil ?_
          refine J.then_n ?_
          refine J.cases 41 rfl (fun hc41 => ?_) (fun hc41 => ?_)
          ·
            first | replace hc41 := X.tt_dec hc41 | replace hc41 := X.tt_not hc41 | replace hc41 := X.ff_dec hc41 | replace hc41 := X.ff_not hc41 | skip
            try (first | (cases hc41; done) | (exfalso; simp at hc41; done))
            all_goals
              refine J.cond_t rfl ?_
              refine J.open1 1 rfl (fun _ h => h) fun z => ?_
              refine J.norm rfl ?_
              refine J.keep [0, 4, 9, 1, 2, 3, 5, 6, 7, 8] rfl ?_
              refine J.drawE [7, 8] 3 Try.mixed (by kernel_rfl) rfl rfl fun hR => ?_
              refine RG.q 0 hR rfl rfl rfl rfl rfl rfl (Q.mv rfl) ?_
              refine RG.q 1 hR rfl rfl rfl rfl rfl rfl (Q.nil_ rfl) ?_
              refine RG.q 2 hR rfl rfl rfl rfl rfl rfl (Q.fa (n := 2) Try.runUnderlying62 rfl rfl Try.sizeOf60 rfl) ?_
              refine RG.q 3 hR rfl rfl rfl rfl rfl rfl (Q.ld Try.isAgg60 rfl (by first | exact Reads.pt 0 rfl rfl | exact Reads.pt 1 rfl rfl | exact Reads.pt 2 rfl rfl | exact Reads.pt 3 rfl rfl | exact Reads.pt 4 rfl rfl | exact Reads.pt 5 rfl rfl | exact Reads.pt 6 rfl rfl | exact Reads.pt 7 rfl rfl | exact Reads.pt 8 rfl rfl | exact Reads.pt 9 rfl rfl | exact Reads.pt 10 rfl rfl | exact Reads.pt 11 rfl rfl | exact Reads.pt 12 rfl rfl | exact Reads.pt 13 rfl rfl)) ?_
              refine RG.q 4 hR rfl rfl rfl rfl rfl rfl (Q.fa (n := 0) Try.runUnderlying26 rfl rfl Try.sizeOf22 rfl) ?_
              refine RG.q 5 hR rfl rfl rfl rfl rfl rfl (Q.ld Try.isAgg22 rfl (by first | exact Reads.pt 0 rfl rfl | exact Reads.pt 1 rfl rfl | exact Reads.pt 2 rfl rfl | exact Reads.pt 3 rfl rfl | exact Reads.pt 4 rfl rfl | exact Reads.pt 5 rfl rfl | exact Reads.pt 6 rfl rfl | exact Reads.pt 7 rfl rfl | exact Reads.pt 8 rfl rfl | exact Reads.pt 9 rfl rfl | exact Reads.pt 10 rfl rfl | exact Reads.pt 11 rfl rfl | exact Reads.pt 12 rfl rfl | exact Reads.pt 13 rfl rfl)) ?_
              refine RG.q 6 hR rfl rfl rfl rfl rfl rfl (Q.ldN (vs := [_, _, _, _, _]) Try.isAgg41 Try.sizeOf41 rfl (by first | exact ReadsN.pt 0 rfl | exact ReadsN.pt 1 rfl | exact ReadsN.pt 2 rfl | exact ReadsN.pt 3 rfl | exact ReadsN.pt 4 rfl | exact ReadsN.pt 5 rfl | exact ReadsN.pt 6 rfl | exact ReadsN.pt 7 rfl | exact ReadsN.pt 8 rfl | exact ReadsN.pt 9 rfl | exact ReadsN.pt 10 rfl | exact ReadsN.pt 11 rfl | exact ReadsN.pt 12 rfl | exact ReadsN.pt 13 rfl)) ?_
              refine RG.callk 7 hR rfl rfl rfl rfl rfl Try.call25 (apart_spec y.asn y hyo) [6] rfl rfl ?_
              rintro _ _ ⟨y2, rfl, hy2, rfl⟩
              refine ⟨_, X.pick_perm (is := [2, 3, 4]) rfl, ?_⟩
              refine RG.bar 8 hR rfl rfl rfl rfl rfl rfl (X.G.C.mapPut (rep := dRep) 7 (M.act x.o).1 ord3_nat (by rw [act_done]; exact hM.ds) Try.runUnderlying60 keyU rfl rfl rfl rfl) ?_
              rintro _ _ ⟨rfl, rfl⟩
              refine RG.norm rfl ?_
              refine RG.fin hR rfl ?_
              refine J.norm rfl ?_
              refine J.then_n ?_
              refine J.seq ?_
              refine J.region ?_
              refine J.q rfl rfl (Q.ldN (vs := [_, _, _, _, _]) Try.isAgg41 Try.sizeOf41 rfl (by first | exact ReadsN.pt 0 rfl | exact ReadsN.pt 1 rfl | exact ReadsN.pt 2 rfl | exact ReadsN.pt 3 rfl | exact ReadsN.pt 4 rfl | exact ReadsN.pt 5 rfl | exact ReadsN.pt 6 rfl | exact ReadsN.pt 7 rfl | exact ReadsN.pt 8 rfl | exact ReadsN.pt 9 rfl | exact ReadsN.pt 10 rfl | exact ReadsN.pt 11 rfl | exact ReadsN.pt 12 rfl | exact ReadsN.pt 13 rfl)) ?_
              first | refine J.c0 rfl (C.stA (i := 0) (vs := [_, _, _, _, _]) Try.sizeOf41 rfl rfl rfl rfl rfl rfl) ?_ | refine J.c0 rfl (C.stA (i := 1) (vs := [_, _, _, _, _]) Try.sizeOf41 rfl rfl rfl rfl rfl rfl) ?_ | refine J.c0 rfl (C.stA (i := 2) (vs := [_, _, _, _, _]) Try.sizeOf41 rfl rfl rfl rfl rfl rfl) ?_ | refine J.c0 rfl (C.stA (i := 3) (vs := [_, _, _, _, _]) Try.sizeOf41 rfl rfl rfl rfl rfl rfl) ?_ | refine J.c0 rfl (C.stA (i := 4) (vs := [_, _, _, _, _]) Try.sizeOf41 rfl rfl rfl rfl rfl rfl) ?_ | refine J.c0 rfl (C.stA (i := 5) (vs := [_, _, _, _, _]) Try.sizeOf41 rfl rfl rfl rfl rfl rfl) ?_ | refine J.c0 rfl (C.stA (i := 6) (vs := [_, _, _, _, _]) Try.sizeOf41 rfl rfl rfl rfl rfl rfl) ?_ | refine J.c0 rfl (C.stA (i := 7) (vs := [_, _, _, _, _]) Try.sizeOf41 rfl rfl rfl rfl rfl rfl) ?_ | refine J.c0 rfl (C.stA (i := 8) (vs := [_, _, _, _, _]) Try.sizeOf41 rfl rfl rfl rfl rfl rfl) ?_ | refine J.c0 rfl (C.stA (i := 9) (vs := [_, _, _, _, _]) Try.sizeOf41 rfl rfl rfl rfl rfl rfl) ?_ | refine J.c0 rfl (C.stA (i := 10) (vs := [_, _, _, _, _]) Try.sizeOf41 rfl rfl rfl rfl rfl rfl) ?_ | refine J.c0 rfl (C.stA (i := 11) (vs := [_, _, _, _, _]) Try.sizeOf41 rfl rfl rfl rfl rfl rfl) ?_ | refine J.c0 rfl (C.stA (i := 12) (vs := [_, _, _, _, _]) Try.sizeOf41 rfl rfl rfl rfl rfl rfl) ?_ | refine J.c0 rfl (C.stA (i := 13) (vs := [_, _, _, _, _]) Try.sizeOf41 rfl rfl rfl rfl rfl rfl) ?_ | refine J.c0 rfl (C.stA (i := 14) (vs := [_, _, _, _, _]) Try.sizeOf41 rfl rfl rfl rfl rfl rfl) ?_ | refine J.c0 rfl (C.stA (i := 15) (vs := [_, _, _, _, _]) Try.sizeOf41 rfl rfl rfl rfl rfl rfl) ?_
              rintro _ _ ⟨rfl, rfl⟩
              refine J.nil ?_
              refine J.then_n ?_
              refine J.cret ?_
              refine J.shut [3] (dRep x.o.id (M.act x.o).1 (.agg y2.cells.toArray)) rfl (fun h s => ⟨y2, ⟨hy2.trans hw, rfl⟩, s⟩) ?_
              refine J.mapBack (lt := ltN) 0 7 (M.act x.o).1 ord3_nat (X.G.srtd_put ord3_nat (by rw [act_done]; exact hM.ds) _ _) rfl ?_
              rw [X.G.sput_put ord3_nat (by rw [act_done]; exact hM.ds), act_done]
              refine J.shut [1, 5, 6, 0] (BktAt m { (M.act x.o).2 with done := sput ltN x.o.id (M.act x.o).1 M.done }) rfl (fun h s => ⟨z, s⟩) ?_
              refine J.retC [0, 3, 4, 6] (vs := [_, _, _, _, _]) rfl rfl Try.isAgg41 Try.sizeOf41 (ReadsN.pt 5 rfl) rfl (B := [_, _, _]) ⟨y, rfl, hw, rfl⟩
          ·
            first | replace hc41 := X.tt_dec hc41 | replace hc41 := X.tt_not hc41 | replace hc41 := X.ff_dec hc41 | replace hc41 := X.ff_not hc41 | skip
            try (first | (cases hc41; done) | (exfalso; simp at hc41; done))
            all_goals
              refine J.cond_f rfl ?_
              refine J.cskip ?_
              refine J.then_n ?_
              refine J.seq ?_
              refine J.region ?_
              refine J.q rfl rfl (Q.ldN (vs := [_, _, _, _, _]) Try.isAgg41 Try.sizeOf41 rfl (by first | exact ReadsN.pt 0 rfl | exact ReadsN.pt 1 rfl | exact ReadsN.pt 2 rfl | exact ReadsN.pt 3 rfl | exact ReadsN.pt 4 rfl | exact ReadsN.pt 5 rfl | exact ReadsN.pt 6 rfl | exact ReadsN.pt 7 rfl | exact ReadsN.pt 8 rfl | exact ReadsN.pt 9 rfl | exact ReadsN.pt 10 rfl | exact ReadsN.pt 11 rfl | exact ReadsN.pt 12 rfl | exact ReadsN.pt 13 rfl)) ?_
              first | refine J.c0 rfl (C.stA (i := 0) (vs := [_, _, _, _, _]) Try.sizeOf41 rfl rfl rfl rfl rfl rfl) ?_ | refine J.c0 rfl (C.stA (i := 1) (vs := [_, _, _, _, _]) Try.sizeOf41 rfl rfl rfl rfl rfl rfl) ?_ | refine J.c0 rfl (C.stA (i := 2) (vs := [_, _, _, _, _]) Try.sizeOf41 rfl rfl rfl rfl rfl rfl) ?_ | refine J.c0 rfl (C.stA (i := 3) (vs := [_, _, _, _, _]) Try.sizeOf41 rfl rfl rfl rfl rfl rfl) ?_ | refine J.c0 rfl (C.stA (i := 4) (vs := [_, _, _, _, _]) Try.sizeOf41 rfl rfl rfl rfl rfl rfl) ?_ | refine J.c0 rfl (C.stA (i := 5) (vs := [_, _, _, _, _]) Try.sizeOf41 rfl rfl rfl rfl rfl rfl) ?_ | refine J.c0 rfl (C.stA (i := 6) (vs := [_, _, _, _, _]) Try.sizeOf41 rfl rfl rfl rfl rfl rfl) ?_ | refine J.c0 rfl (C.stA (i := 7) (vs := [_, _, _, _, _]) Try.sizeOf41 rfl rfl rfl rfl rfl rfl) ?_ | refine J.c0 rfl (C.stA (i := 8) (vs := [_, _, _, _, _]) Try.sizeOf41 rfl rfl rfl rfl rfl rfl) ?_ | refine J.c0 rfl (C.stA (i := 9) (vs := [_, _, _, _, _]) Try.sizeOf41 rfl rfl rfl rfl rfl rfl) ?_ | refine J.c0 rfl (C.stA (i := 10) (vs := [_, _, _, _, _]) Try.sizeOf41 rfl rfl rfl rfl rfl rfl) ?_ | refine J.c0 rfl (C.stA (i := 11) (vs := [_, _, _, _, _]) Try.sizeOf41 rfl rfl rfl rfl rfl rfl) ?_ | refine J.c0 rfl (C.stA (i := 12) (vs := [_, _, _, _, _]) Try.sizeOf41 rfl rfl rfl rfl rfl rfl) ?_ | refine J.c0 rfl (C.stA (i := 13) (vs := [_, _, _, _, _]) Try.sizeOf41 rfl rfl rfl rfl rfl rfl) ?_ | refine J.c0 rfl (C.stA (i := 14) (vs := [_, _, _, _, _]) Try.sizeOf41 rfl rfl rfl rfl rfl rfl) ?_ | refine J.c0 rfl (C.stA (i := 15) (vs := [_, _, _, _, _]) Try.sizeOf41 rfl rfl rfl rfl rfl rfl) ?_
              rintro _ _ ⟨rfl, rfl⟩
              refine J.nil ?_
              refine J.then_n ?_
              refine J.cret ?_
              refine J.retC [1, 2, 3, 5] (vs := [_, _, _, _, _]) rfl rfl Try.isAgg41 Try.sizeOf41 (ReadsN.pt 4 rfl) rfl (B := [_, _, _]) ⟨y, rfl, hw, rfl⟩

theorem do_spec (hA : x.o.chkB = true → HasAct m M x G) : FSpec Try.prog 13 [.pointer (some ⟨m, 0, none⟩), .agg x.cells.toArray] [BktAt m M, G] (ActR m G (M.run x.o)) := by
  unfold BM.run
  by_cases hc : x.o.chkB = true
  · rw [if_pos hc]
    have hA := hA hc
    by_cases hr : readsK x.o.kind = true
    · rw [if_pos hr]
      cases hD : sget x.o.id M.done with
      | none => exact do_read0 m M hM x G hx hA hc hD hr
      | some r => exact do_read1 m M hM x G hx hA hc hD hr
    · rw [if_neg hr]
      have hr : readsK x.o.kind = false := by simpa using hr
      cases hD : sget x.o.id M.done with
      | none => exact do_new m M hM x G hx hA hc hD hr
      | some r => exact do_kept m M hM x G hx hc hD hr
  · rw [if_neg hc]; exact do_bad m M hM x G hx (by simpa using hc)

theorem hasAct (hc : x.o.chkB = true) (h6 : x.o.kind = 6 → FSpec Try.prog 38 [.pointer (some ⟨m, 0, none⟩), .agg x.cells.toArray] [BktAt m M, G] (ActR m G (M.list x.o))) : HasAct m M x G := by
  obtain ⟨k1, k2⟩ := chk_kind hc
  have h9 := chk_9 hc
  by_cases e1 : x.o.kind = 1
  · exact ⟨33, by rw [e1]; rfl, Try.call33, by unfold BM.act; rw [if_pos e1]; exact make_spec m M hM x G hx⟩
  by_cases e2 : x.o.kind = 2
  · exact ⟨34, by rw [e2]; rfl, Try.call34, by unfold BM.act; rw [if_neg e1, if_pos e2]; exact unmake_spec m M hM x G hx⟩
  by_cases e3 : x.o.kind = 3
  · exact ⟨35, by rw [e3]; rfl, Try.call35, by unfold BM.act; rw [if_neg e1, if_neg e2, if_pos e3]; exact put_spec m M hM x G hx (chk_len hc)⟩
  by_cases e4 : x.o.kind = 4
  · exact ⟨36, by rw [e4]; rfl, Try.call36, by unfold BM.act; rw [if_neg e1, if_neg e2, if_neg e3, if_pos e4]; exact get_spec m M hM x G hx⟩
  by_cases e5 : x.o.kind = 5
  · exact ⟨37, by rw [e5]; rfl, Try.call37, by unfold BM.act; rw [if_neg e1, if_neg e2, if_neg e3, if_neg e4, if_pos e5]; exact delete_spec m M hM x G hx⟩
  by_cases e6 : x.o.kind = 6
  · exact ⟨38, by rw [e6]; rfl, Try.call38, by unfold BM.act; rw [if_neg e1, if_neg e2, if_neg e3, if_neg e4, if_neg e5, if_pos e6]; exact h6 e6⟩
  by_cases e7 : x.o.kind = 7
  · exact ⟨39, by rw [e7]; rfl, Try.call39, by unfold BM.act; rw [if_neg e1, if_neg e2, if_neg e3, if_neg e4, if_neg e5, if_neg e6, if_pos e7]; exact begin_spec m M hM x G hx⟩
  by_cases e8 : x.o.kind = 8
  · exact ⟨40, by rw [e8]; rfl, Try.call40, by unfold BM.act; rw [if_neg e1, if_neg e2, if_neg e3, if_neg e4, if_neg e5, if_neg e6, if_neg e7, if_pos e8]; exact part_spec m M hM x G hx (chk_len hc)⟩
  by_cases e9 : x.o.kind = 9
  · exact ⟨41, by rw [e9]; rfl, Try.call41, by unfold BM.act; rw [if_neg e1, if_neg e2, if_neg e3, if_neg e4, if_neg e5, if_neg e6, if_neg e7, if_neg e8, if_pos e9]; exact complete_spec m M hM x G hx (h9 e9)⟩
  · have e10 : x.o.kind = 10 := by omega
    exact ⟨42, by rw [e10]; rfl, Try.call42, by unfold BM.act; rw [if_neg e1, if_neg e2, if_neg e3, if_neg e4, if_neg e5, if_neg e6, if_neg e7, if_neg e8, if_neg e9]; exact abort_spec m M hM x G hx⟩
end
end Go.Proofs.Ytdancegklkifaaa
