/-
  The chapter's example: what the law asks ahead of all.
-/
import Derived.Test.YtdancegklkifaaaBktJ
namespace Go.Proofs.Ytdancegklkifaaa
set_option linter.unusedSectionVars false
set_option linter.unusedSimpArgs false
set_option linter.unusedVariables false
open Go.X
open Go.X.G (Ord3 ord3_nat ord3_int ord3_str ltB sget sput sdel Srtd MapAt MapHole)

def bt (l : List UInt8) : ByteArray := ⟨l.toArray⟩
def exOps (b9 b12 b15 : Nat) : List OW :=
  [⟨⟨1, 1, bt [98], bt [], bt [], 0, 0, [], []⟩, none, 0, none, 0⟩, ⟨⟨7, 7, bt [98], bt [107], bt [], 0, 0, [], []⟩, none, 0, none, 0⟩, ⟨⟨2, 8, bt [], bt [], bt [], 2, 7, [], [121, 121]⟩, none, 0, some ⟨b9, 0, none⟩, 2⟩,
   ⟨⟨3, 8, bt [], bt [], bt [], 1, 7, [], [120]⟩, none, 0, some ⟨b12, 0, none⟩, 1⟩, ⟨⟨4, 9, bt [], bt [], bt [], 0, 7, [1, 2], []⟩, some ⟨b15, 0, none⟩, 2, none, 0⟩, ⟨⟨5, 4, bt [98], bt [107], bt [], 0, 0, [], []⟩, none, 0, none, 0⟩, ⟨⟨6, 2, bt [98], bt [], bt [], 0, 0, [], []⟩, none, 0, none, 0⟩]
theorem exRes (b9 b12 b15 : Nat) : ((⟨[], [], []⟩ : BM).runs ((exOps b9 b12 b15).map (·.o))).1 = [st 200, ⟨200, 7, [], false, []⟩, st 200, st 200, st 200, ⟨200, 0, [], false, [120, 121, 121]⟩, st 409] := by kernel_rfl

def exG (b9 b12 b15 b19 : Nat) : Assn := star [pt b19 (.cells ((exOps b9 b12 b15).flatMap OW.cells).toArray 26 (0, 0)), pt b15 (.cells [Value.int .i64 1, .int .i64 2].toArray 3 (0, 0)), pt b12 (.cells (bytesV [120]).toArray 5 (1, 2)), pt b9 (.cells (bytesV [121, 121]).toArray 5 (2, 3))]


theorem exOk (b9 b12 b15 b19 : Nat) : Ops (exG b9 b12 b15 b19) (some ⟨b19, 0, none⟩) 7 7 (exOps b9 b12 b15) := by
  refine ⟨(SlR.pt (D := [pt b19 (.cells ((exOps b9 b12 b15).flatMap OW.cells).toArray 26 (0, 0))]) 0 rfl rfl (fun j u h => by rw [Nat.zero_add]; exact h)).into 0 rfl, ?_, by decide⟩
  have e0 : ∀ {sz : Nat}, SlR [exG b9 b12 b15 b19] sz (.slice none 0 0) [] := .inl ⟨none, 0, rfl, rfl⟩
  have d9 : SlR [exG b9 b12 b15 b19] 1 (.slice (some ⟨b9, 0, none⟩) 2 2) (bytesV [121, 121]) := (SlR.pt (D := [pt b9 (.cells (bytesV [121, 121]).toArray 5 (2, 3))]) 0 rfl rfl (fun j u h => by rw [Nat.zero_add]; exact h)).into 3 rfl
  have d12 : SlR [exG b9 b12 b15 b19] 1 (.slice (some ⟨b12, 0, none⟩) 1 1) (bytesV [120]) := (SlR.pt (D := [pt b12 (.cells (bytesV [120]).toArray 5 (1, 2))]) 0 rfl rfl (fun j u h => by rw [Nat.zero_add]; exact h)).into 2 rfl
  have p15 : SlR [exG b9 b12 b15 b19] 1 (.slice (some ⟨b15, 0, none⟩) 2 2) [Value.int .i64 1, .int .i64 2] := (SlR.pt (D := [pt b15 (.cells [Value.int .i64 1, .int .i64 2].toArray 3 (0, 0))]) 0 rfl rfl (fun j u h => by rw [Nat.zero_add]; exact h)).into 1 rfl
  intro x hx
  simp only [exOps, List.mem_cons, List.not_mem_nil, or_false] at hx
  rcases hx with rfl | rfl | rfl | rfl | rfl | rfl | rfl
  · exact ⟨e0, e0, (by refine ⟨?_, ?_, ?_, ?_, ?_⟩ <;> exact Nat.le_of_ble_eq_true rfl)⟩
  · exact ⟨e0, e0, (by refine ⟨?_, ?_, ?_, ?_, ?_⟩ <;> exact Nat.le_of_ble_eq_true rfl)⟩
  · exact ⟨e0, d9, (by refine ⟨?_, ?_, ?_, ?_, ?_⟩ <;> exact Nat.le_of_ble_eq_true rfl)⟩
  · exact ⟨e0, d12, (by refine ⟨?_, ?_, ?_, ?_, ?_⟩ <;> exact Nat.le_of_ble_eq_true rfl)⟩
  · exact ⟨p15, e0, (by refine ⟨?_, ?_, ?_, ?_, ?_⟩ <;> exact Nat.le_of_ble_eq_true rfl)⟩
  · exact ⟨e0, e0, (by refine ⟨?_, ?_, ?_, ?_, ?_⟩ <;> exact Nat.le_of_ble_eq_true rfl)⟩
  · exact ⟨e0, e0, (by refine ⟨?_, ?_, ?_, ?_, ?_⟩ <;> exact Nat.le_of_ble_eq_true rfl)⟩

theorem exActs (K m b9 b12 b15 b19 : Nat) : HasActs K m (exOps b9 b12 b15) (exG b9 b12 b15 b19) := by
  intro k M _ hM x hx hc
  refine hasAct m M hM x _ ((exOk b9 b12 b15 b19).ok x hx) hc fun h6 => ?_
  exfalso
  simp only [exOps, List.mem_cons, List.not_mem_nil, or_false] at hx
  rcases hx with rfl | rfl | rfl | rfl | rfl | rfl | rfl <;> simp at h6

theorem seven {α : Type} {l : List α} (h : l.length = 7) : ∃ a b c d e f g, l = [a, b, c, d, e, f, g] := by
  match l with
  | [a, b, c, d, e, f, g] => exact ⟨a, b, c, d, e, f, g, rfl⟩

theorem known_spec : FSpec Try.prog 6 [] [] (fun v B => v = .bool true ∧ B = []) := by
  refine FSpec.of Try.func6 rfl Try.ntmps6 rfl fun W0 F => ?_
  refine J.seq ?_
  refine J.region ?_
  refine J.q rfl rfl (Q.asg rfl) ?_
  refine J.nil ?_
  refine J.then_n ?_
  refine J.seq ?_
  refine J.region ?_
  refine J.call Try.call11 (new_spec) [] rfl rfl rfl rfl ?_
  rintro _ _ ⟨m, rfl, rfl⟩
  refine J.norm rfl ?_
  refine J.q rfl rfl (Q.asg rfl) ?_
  refine J.nil ?_
  refine J.then_n ?_
  refine J.seq ?_
  refine J.seq ?_
  refine J.region ?_
  refine J.q rfl rfl (Q.mv rfl) ?_
  refine J.q rfl rfl (Q.eqlp Try.runUnderlying34 rfl rfl) ?_
  refine J.nil ?_
  refine J.then_n ?_
  refine J.cases 5 rfl (fun hc5 => ?_) (fun hc5 => ?_)
  ·
    first | replace hc5 := X.tt_dec hc5 | replace hc5 := X.tt_not hc5 | replace hc5 := X.ff_dec hc5 | replace hc5 := X.ff_not hc5 | skip
    try (first | (cases hc5; done) | (exfalso; simp at hc5; done))
    all_goals
      refine J.cond_t rfl ?_
      refine J.seq ?_
      refine J.region ?_
      refine J.q rfl rfl (Q.asg rfl) ?_
      refine J.nil ?_
      refine J.then_n ?_
      refine J.cret ?_
      refine J.then_r ?_
      refine J.keep [10] rfl ?_
      refine J.ret1 (B := []) rfl rfl ⟨?_, rfl⟩ rfl
      first | rfl | (simp_all; done)
  ·
    first | replace hc5 := X.tt_dec hc5 | replace hc5 := X.tt_not hc5 | replace hc5 := X.ff_dec hc5 | replace hc5 := X.ff_not hc5 | skip
    try (first | (cases hc5; done) | (exfalso; simp at hc5; done))
    all_goals
      refine J.cond_f rfl ?_
      refine J.cskip ?_
      refine J.then_n ?_
      refine J.seq ?_
      refine J.region ?_
      refine J.q rfl rfl (Q.mv rfl) ?_
      refine J.q rfl rfl (Q.bld (l := [_, _, _, _, _, _, _, _, _]) Try.runUnderlying26 Try.zeroValue26 Try.places26 rfl rfl) ?_
      refine J.q rfl rfl (Q.bld (l := [_, _, _, _, _, _, _, _, _]) Try.runUnderlying26 Try.zeroValue26 Try.places26 rfl rfl) ?_
      refine J.c rfl rfl (C.bslG (l := [_, _]) Try.runUnderlying24 Try.sizeOf5 Try.zeroValue5 (by decide) rfl rfl rfl rfl rfl) ?_
      rintro _ _ ⟨b9, rfl, rfl⟩
      refine J.norm rfl ?_
      refine J.c rfl rfl (C.stringish (i := 0) Try.runUnderlying24 Try.runUnderlying5 rfl rfl rfl) ?_
      rintro _ _ ⟨rfl, rfl⟩
      refine J.norm rfl ?_
      refine J.q rfl rfl (Q.bld (l := [_, _, _, _, _, _, _, _, _]) Try.runUnderlying26 Try.zeroValue26 Try.places26 rfl rfl) ?_
      refine J.c rfl rfl (C.bslG (l := [_]) Try.runUnderlying24 Try.sizeOf5 Try.zeroValue5 (by decide) rfl rfl rfl rfl rfl) ?_
      rintro _ _ ⟨b12, rfl, rfl⟩
      refine J.norm rfl ?_
      refine J.c rfl rfl (C.stringish (i := 0) Try.runUnderlying24 Try.runUnderlying5 rfl rfl rfl) ?_
      rintro _ _ ⟨rfl, rfl⟩
      refine J.norm rfl ?_
      refine J.q rfl rfl (Q.bld (l := [_, _, _, _, _, _, _, _, _]) Try.runUnderlying26 Try.zeroValue26 Try.places26 rfl rfl) ?_
      refine J.c rfl rfl (C.bslG (l := [_, _]) Try.runUnderlying23 Try.sizeOf3 Try.zeroValue3 (by decide) rfl rfl rfl rfl rfl) ?_
      rintro _ _ ⟨b15, rfl, rfl⟩
      refine J.norm rfl ?_
      refine J.q rfl rfl (Q.bld (l := [_, _, _, _, _, _, _, _, _]) Try.runUnderlying26 Try.zeroValue26 Try.places26 rfl rfl) ?_
      refine J.q rfl rfl (Q.bld (l := [_, _, _, _, _, _, _, _, _]) Try.runUnderlying26 Try.zeroValue26 Try.places26 rfl rfl) ?_
      refine J.q rfl rfl (Q.bld (l := [_, _, _, _, _, _, _, _, _]) Try.runUnderlying26 Try.zeroValue26 Try.places26 rfl rfl) ?_
      refine J.c rfl rfl (C.bslG (l := [_, _, _, _, _, _, _, _, _, _, _, _, _, _, _, _, _, _, _, _, _, _, _, _, _, _, _, _, _, _, _, _, _, _, _, _, _, _, _, _, _, _, _, _, _, _, _, _, _, _, _, _, _, _, _, _, _, _, _, _, _, _, _]) Try.runUnderlying45 Try.sizeOf26 Try.zeroValue26 (by decide) rfl rfl rfl rfl rfl) ?_
      rintro _ _ ⟨b19, rfl, rfl⟩
      refine J.norm rfl ?_
      refine J.pack [0, 1, 2, 3] rfl ?_
      refine J.conv (Y := exG b9 b12 b15 b19) 0 rfl (fun h hh => hh) ?_
      refine J.call Try.call12 (run_spec (K := 100) m ⟨[], [], []⟩ BM.ok.new (exG b9 b12 b15 b19) (some ⟨b19, 0, none⟩) 7 7 (exOps b9 b12 b15) (exOk b9 b12 b15 b19) (exActs 100 m b9 b12 b15 b19) (by decide)) [1, 0] rfl rfl rfl rfl ?_
      rintro _ _ ⟨rs, p20, c20, rfl, hrs, rfl⟩
      refine J.norm rfl ?_
      rw [exRes] at hrs
      have hrl : rs.length = 7 := by have := congrArg List.length hrs; simpa using this
      obtain ⟨⟨r0, k0, l0, d0, e0⟩, ⟨r1, k1, l1, d1, e1⟩, ⟨r2, k2, l2, d2, e2⟩, ⟨r3, k3, l3, d3, e3⟩, ⟨r4, k4, l4, d4, e4⟩, ⟨r5, k5, l5, d5, e5⟩, ⟨r6, k6, l6, d6, e6⟩, rfl⟩ := seven hrl
      simp only [List.map_cons, List.map_nil, List.cons.injEq, and_true] at hrs
      obtain ⟨rfl, rfl, rfl, rfl, rfl, rfl, rfl⟩ := hrs
      refine J.slr1 0 rfl fun hs20 => ?_
      refine J.unpack 1 rfl rfl ?_
      refine J.tells 5 rfl (asn_ok ⟨Nat.le_of_ble_eq_true rfl, Nat.le_of_ble_eq_true rfl⟩) fun hy5 => ?_
      obtain ⟨b20, o20, rfl, hr20⟩ := hs20.some_ (Nat.succ_pos _)
      refine J.q rfl rfl (Q.asg rfl) ?_
      refine J.nil ?_
      refine J.then_n ?_
      refine J.seq ?_
      refine J.region ?_
      refine J.q rfl rfl (Q.mv rfl) ?_
      refine J.q rfl rfl (Q.lenSl Try.runUnderlying36 rfl) ?_
      refine J.q rfl rfl (Q.eql rfl rfl) ?_
      refine J.q rfl rfl (Q.mv rfl) ?_
      refine J.cases 24 rfl (fun hb24 => ?_) (fun hb24 => ?_)
      ·
        first | replace hb24 := X.tt_dec hb24 | replace hb24 := X.tt_not hb24 | replace hb24 := X.ff_dec hb24 | replace hb24 := X.ff_not hb24 | skip
        try (first | (cases hb24; done) | (exfalso; simp at hb24; done))
        all_goals
          refine J.q rfl rfl (Q.mv rfl) ?_
          refine J.q rfl rfl (Q.ia Try.runUnderlying36 Try.sizeOf41 rfl rfl (by omega) (by omega)) ?_
          refine J.q rfl rfl (Q.fa (n := 1) Try.runUnderlying41 rfl rfl Try.sizeOf22 rfl) ?_
          refine J.q rfl rfl (Q.ld Try.isAgg22 rfl ((hr20 6 (.int .u64 7) rfl).within (i := 7) rfl)) ?_
          refine J.q rfl rfl (Q.eql rfl rfl) ?_
          refine J.q rfl rfl (Q.pick_t rfl rfl) ?_
          refine J.q rfl rfl (Q.mv rfl) ?_
          refine J.cases 31 rfl (fun hb31 => ?_) (fun hb31 => ?_)
          ·
            first | replace hb31 := X.tt_dec hb31 | replace hb31 := X.tt_not hb31 | replace hb31 := X.ff_dec hb31 | replace hb31 := X.ff_not hb31 | skip
            try (first | (cases hb31; done) | (exfalso; simp at hb31; done))
            all_goals
              refine J.q rfl rfl (Q.mv rfl) ?_
              refine J.q rfl rfl (Q.ia Try.runUnderlying36 Try.sizeOf41 rfl rfl (by omega) (by omega)) ?_
              refine J.q rfl rfl (Q.fa (n := 4) Try.runUnderlying41 rfl rfl Try.sizeOf24 rfl) ?_
              refine J.q rfl rfl (Q.ld Try.isAgg24 rfl ((hr20 29 _ rfl).within (i := 7) rfl)) ?_
              refine J.q rfl rfl (Q.b2s (bs := [120, 121, 121]) Try.runUnderlying24 Try.runUnderlying9 Try.runUnderlying5 rfl (hy5.data.within (i := 5) rfl)) ?_
              refine J.q rfl rfl (Q.eqls rfl rfl) ?_
              refine J.q rfl rfl (Q.pick_t rfl rfl) ?_
              refine J.q rfl rfl (Q.mv rfl) ?_
              refine J.cases 39 rfl (fun hb39 => ?_) (fun hb39 => ?_)
              ·
                first | replace hb39 := X.tt_dec hb39 | replace hb39 := X.tt_not hb39 | replace hb39 := X.ff_dec hb39 | replace hb39 := X.ff_not hb39 | skip
                try (first | (cases hb39; done) | (exfalso; simp at hb39; done))
                all_goals
                  refine J.q rfl rfl (Q.mv rfl) ?_
                  refine J.q rfl rfl (Q.ia Try.runUnderlying36 Try.sizeOf41 rfl rfl (by omega) (by omega)) ?_
                  refine J.q rfl rfl (Q.fa (n := 0) Try.runUnderlying41 rfl rfl Try.sizeOf3 rfl) ?_
                  refine J.q rfl rfl (Q.ld Try.isAgg3 rfl ((hr20 30 (.int .i64 409) rfl).within (i := 7) rfl)) ?_
                  refine J.q rfl rfl (Q.eql rfl rfl) ?_
                  refine J.q rfl rfl (Q.pick_t rfl rfl) ?_
                  refine J.q rfl rfl (Q.asg rfl) ?_
                  refine J.nil ?_
                  refine J.then_n ?_
                  refine J.cret ?_
                  refine J.keep [10] rfl ?_
                  refine J.ret1 (B := []) rfl rfl ⟨?_, rfl⟩ rfl
                  first | rfl | (simp_all; done)
              ·
                first | replace hb39 := X.tt_dec hb39 | replace hb39 := X.tt_not hb39 | replace hb39 := X.ff_dec hb39 | replace hb39 := X.ff_not hb39 | skip
                try (first | (cases hb39; done) | (exfalso; simp at hb39; done))
                all_goals
                  refine J.skip rfl rfl ?_
                  refine J.skip rfl rfl ?_
                  refine J.skip rfl rfl ?_
                  refine J.skip rfl rfl ?_
                  refine J.skip rfl rfl ?_
                  refine J.q rfl rfl (Q.pick_f rfl rfl) ?_
                  refine J.q rfl rfl (Q.asg rfl) ?_
                  refine J.nil ?_
                  refine J.then_n ?_
                  refine J.cret ?_
                  refine J.keep [10] rfl ?_
                  refine J.ret1 (B := []) rfl rfl ⟨?_, rfl⟩ rfl
                  first | rfl | (simp_all; done)
          ·
            first | replace hb31 := X.tt_dec hb31 | replace hb31 := X.tt_not hb31 | replace hb31 := X.ff_dec hb31 | replace hb31 := X.ff_not hb31 | skip
            try (first | (cases hb31; done) | (exfalso; simp at hb31; done))
            all_goals
              refine J.skip rfl rfl ?_
              refine J.skip rfl rfl ?_
              refine J.skip rfl rfl ?_
              refine J.skip rfl rfl ?_
              refine J.skip rfl rfl ?_
              refine J.skip rfl rfl ?_
              refine J.q rfl rfl (Q.pick_f rfl rfl) ?_
              refine J.q rfl rfl (Q.mv rfl) ?_
              refine J.skip rfl rfl ?_
              refine J.skip rfl rfl ?_
              refine J.skip rfl rfl ?_
              refine J.skip rfl rfl ?_
              refine J.skip rfl rfl ?_
              refine J.q rfl rfl (Q.pick_f rfl rfl) ?_
              refine J.q rfl rfl (Q.asg rfl) ?_
              refine J.nil ?_
              refine J.then_n ?_
              refine J.cret ?_
              refine J.keep [10] rfl ?_
              refine J.ret1 (B := []) rfl rfl ⟨?_, rfl⟩ rfl
              first | rfl | (simp_all; done)
      ·
        first | replace hb24 := X.tt_dec hb24 | replace hb24 := X.tt_not hb24 | replace hb24 := X.ff_dec hb24 | replace hb24 := X.ff_not hb24 | skip
        try (first | (cases hb24; done) | (exfalso; simp at hb24; done))
        all_goals
          refine J.skip rfl rfl ?_
          refine J.skip rfl rfl ?_
          refine J.skip rfl rfl ?_
          refine J.skip rfl rfl ?_
          refine J.skip rfl rfl ?_
          refine J.q rfl rfl (Q.pick_f rfl rfl) ?_
          refine J.q rfl rfl (Q.mv rfl) ?_
          refine J.skip rfl rfl ?_
          refine J.skip rfl rfl ?_
          refine J.skip rfl rfl ?_
          refine J.skip rfl rfl ?_
          refine J.skip rfl rfl ?_
          refine J.skip rfl rfl ?_
          refine J.q rfl rfl (Q.pick_f rfl rfl) ?_
          refine J.q rfl rfl (Q.mv rfl) ?_
          refine J.skip rfl rfl ?_
          refine J.skip rfl rfl ?_
          refine J.skip rfl rfl ?_
          refine J.skip rfl rfl ?_
          refine J.skip rfl rfl ?_
          refine J.q rfl rfl (Q.pick_f rfl rfl) ?_
          refine J.q rfl rfl (Q.asg rfl) ?_
          refine J.nil ?_
          refine J.then_n ?_
          refine J.cret ?_
          refine J.keep [10] rfl ?_
          refine J.ret1 (B := []) rfl rfl ⟨?_, rfl⟩ rfl
          first | rfl | (simp_all; done)
end Go.Proofs.Ytdancegklkifaaa
