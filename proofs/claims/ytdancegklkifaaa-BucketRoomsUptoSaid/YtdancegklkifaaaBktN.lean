/-
  A listing by pieces.
-/
import Derived.Test.YtdancegklkifaaaBktM
namespace Go.Proofs.Ytdancegklkifaaa
set_option linter.unusedSectionVars false
set_option linter.unusedSimpArgs false
set_option linter.unusedVariables false
open Go.X
open Go.X.G (Ord3 ord3_nat ord3_int ord3_str ltB sget sput sdel Srtd MapAt MapHole Ent Ents mobj)

theorem prefix_spec (s p : ByteArray) : FSpec Try.prog 51 [.string s, .string p] [] (fun v B => v = .bool (beg s p) ∧ B = []) := by
  refine FSpec.of Try.func51 rfl Try.ntmps51 rfl fun W0 F => ?_
  refine J.seq ?_
  refine J.region ?_
  refine J.q rfl rfl (Q.asg rfl) ?_
  refine J.nil ?_
  refine J.then_n ?_
  refine J.seq ?_
  refine J.region ?_
  refine J.q rfl rfl (Q.mv rfl) ?_
  refine J.q rfl rfl (Q.lenS Try.runUnderlying9 rfl) ?_
  refine J.q rfl rfl (Q.mv rfl) ?_
  refine J.q rfl rfl (Q.lenS Try.runUnderlying9 rfl) ?_
  refine J.q rfl rfl (Q.geq rfl rfl) ?_
  refine J.q rfl rfl (Q.mv rfl) ?_
  refine J.cases 10 rfl (fun hb10 => ?_) (fun hb10 => ?_)
  ·
    first | replace hb10 := X.tt_dec hb10 | replace hb10 := X.tt_not hb10 | replace hb10 := X.ff_dec hb10 | replace hb10 := X.ff_not hb10 | skip
    refine J.q rfl rfl (Q.mv rfl) ?_
    refine J.q rfl rfl (Q.mv rfl) ?_
    refine J.q rfl rfl (Q.lenS Try.runUnderlying9 rfl) ?_
    refine J.q rfl rfl (Q.strH Try.runUnderlying9 rfl rfl (by omega) (by omega)) ?_
    refine J.q rfl rfl (Q.mv rfl) ?_
    refine J.q rfl rfl (Q.eqls rfl rfl) ?_
    refine J.q rfl rfl (Q.pick_t rfl rfl) ?_
    refine J.q rfl rfl (Q.asg rfl) ?_
    refine J.nil ?_
    refine J.then_n ?_
    refine J.cret ?_
    refine J.ret1 (B := []) rfl rfl ⟨?_, rfl⟩ rfl
    unfold beg
    first
      | (rw [decide_eq_true (show p.size ≤ s.size by omega)]; simp only [Bool.true_and, Int.toNat_natCast]; done)
      | (rw [decide_eq_true (show p.size ≤ s.size by omega)]; rfl)
      | (rw [decide_eq_false (show ¬ p.size ≤ s.size by omega)]; rfl)
  ·
    first | replace hb10 := X.tt_dec hb10 | replace hb10 := X.tt_not hb10 | replace hb10 := X.ff_dec hb10 | replace hb10 := X.ff_not hb10 | skip
    refine J.skip rfl rfl ?_
    refine J.skip rfl rfl ?_
    refine J.skip rfl rfl ?_
    refine J.skip rfl rfl ?_
    refine J.skip rfl rfl ?_
    refine J.skip rfl rfl ?_
    refine J.q rfl rfl (Q.pick_f rfl rfl) ?_
    refine J.q rfl rfl (Q.asg rfl) ?_
    refine J.nil ?_
    refine J.then_n ?_
    refine J.cret ?_
    refine J.ret1 (B := []) rfl rfl ⟨?_, rfl⟩ rfl
    unfold beg
    first
      | (rw [decide_eq_true (show p.size ≤ s.size by omega)]; simp only [Bool.true_and, Int.toNat_natCast]; done)
      | (rw [decide_eq_true (show p.size ≤ s.size by omega)]; rfl)
      | (rw [decide_eq_false (show ¬ p.size ≤ s.size by omega)]; rfl)
theorem hasPrefix_spec (s p : ByteArray) : FSpec Try.prog 47 [.string s, .string p] [] (fun v B => v = .bool (beg s p) ∧ B = []) := by
  refine FSpec.of Try.func47 rfl Try.ntmps47 rfl fun W0 F => ?_
  refine J.seq ?_
  refine J.region ?_
  refine J.q rfl rfl (Q.asg rfl) ?_
  refine J.nil ?_
  refine J.then_n ?_
  refine J.seq ?_
  refine J.region ?_
  refine J.q rfl rfl (Q.mv rfl) ?_
  refine J.q rfl rfl (Q.mv rfl) ?_
  refine J.call Try.call51 (prefix_spec s p) [] rfl rfl rfl rfl ?_
  rintro _ _ ⟨rfl, rfl⟩
  refine J.norm rfl ?_
  refine J.q rfl rfl (Q.asg rfl) ?_
  refine J.nil ?_
  refine J.then_n ?_
  refine J.cret ?_
  refine J.ret1 (B := []) rfl rfl ⟨rfl, rfl⟩ rfl

/-- What a listing is of. -/
def lsel (o : OM) (a : ByteArray) : Bool := beg a o.key && ltB o.after a
theorem filter_take {p : ByteArray → Bool} {l : List ByteArray} {j : Nat} {a : ByteArray} (h : l[j]? = some a) : (l.take (j + 1)).filter p = (l.take j).filter p ++ (if p a then [a] else []) := by
  obtain ⟨h1, h2⟩ := List.getElem?_eq_some_iff.1 h
  rw [List.take_succ_eq_append_getElem h1, List.filter_append, h2]
  cases hp : p a <;> simp [List.filter, hp]
theorem filter_more {p : ByteArray → Bool} {l : List ByteArray} {j : Nat} {a : ByteArray} (h : l[j]? = some a) (hp : p a = true) : ∃ r, l.filter p = (l.take j).filter p ++ a :: r := by
  obtain ⟨h1, h2⟩ := List.getElem?_eq_some_iff.1 h
  refine ⟨(l.drop (j + 1)).filter p, ?_⟩
  conv => lhs; rw [← List.take_append_drop j l, List.filter_append, List.drop_eq_getElem_cons h1, h2]
  rw [List.filter_cons, if_pos hp]

section
variable {k : Nat} (m : Nat) (M : BM) (hM : M.ok k) (hK : M.kok) (hk : k ≤ 1048576) (x : OW) (G : Assn) (hx : x.ok G) (hc : x.o.chkB = true) (h6 : x.o.kind = 6)
include hM hK hk hx hc h6
theorem list_no (hB : sget x.o.bucket M.buckets = none) : FSpec Try.prog 38 [.pointer (some ⟨m, 0, none⟩), .agg x.cells.toArray] [BktAt m M, G] (ActR m G (st 404, M)) := by
  have hn := chk_6 hc h6
  try have hO := hM.os _ _ hB
  try have hke : keysM M x.o.bucket = objs.map (·.1) := by unfold keysM; rw [hB]
  refine FSpec.of Try.func38 rfl Try.ntmps38 rfl fun W0 F => ?_
  refine J.seq ?_
  refine J.region ?_
  refine J.c rfl rfl (C.box (l := [_, _, _, _, _, _, _, _, _]) rfl rfl) ?_
  rintro _ _ ⟨b3, rfl, rfl⟩
  refine J.norm rfl ?_
  refine J.c rfl rfl (C.alloc (l := [_, _, _, _, _]) Try.zeroValue41 rfl) ?_
  rintro _ _ ⟨b4, rfl, rfl⟩
  refine J.norm rfl ?_
  refine J.nil ?_
  refine J.then_n ?_
  refine J.seq ?_
  refine J.seq ?_
  refine J.region ?_
  refine J.q rfl rfl (Q.mv rfl) ?_
  refine J.q rfl rfl (Q.ldN (vs := [_, _, _, _, _, _, _, _, _]) Try.isAgg26 Try.sizeOf26 rfl (by first | exact ReadsN.pt 0 rfl | exact ReadsN.pt 1 rfl | exact ReadsN.pt 2 rfl | exact ReadsN.pt 3 rfl | exact ReadsN.pt 4 rfl | exact ReadsN.pt 5 rfl | exact ReadsN.pt 6 rfl | exact ReadsN.pt 7 rfl | exact ReadsN.pt 8 rfl | exact ReadsN.pt 9 rfl | exact ReadsN.pt 10 rfl | exact ReadsN.pt 11 rfl | exact ReadsN.pt 12 rfl | exact ReadsN.pt 13 rfl)) ?_
  refine J.call Try.call46 ((by first | exact known_no m M x hB | exact known_yes m M hM x hB)) [2] rfl rfl rfl rfl ?_
  rintro _ _ ⟨rfl, rfl⟩
  refine J.norm rfl ?_
  refine J.q rfl rfl (Q.not rfl) ?_
  refine J.nil ?_
  refine J.then_n ?_
  refine J.cases 11 rfl (fun hc11 => ?_) (fun hc11 => ?_)
  ·
    first | replace hc11 := X.tt_dec hc11 | replace hc11 := X.tt_not hc11 | replace hc11 := X.ff_dec hc11 | replace hc11 := X.ff_not hc11 | skip
    try (first | (cases hc11; done) | (exfalso; simp at hc11; done))
    all_goals
      refine J.cond_t rfl ?_
      refine J.seq ?_
      refine J.region ?_
      refine J.call Try.call24 (status_spec 404) [] rfl rfl rfl rfl ?_
      rintro _ _ ⟨y, rfl, hy, rfl⟩
      refine J.norm rfl ?_
      first | refine J.c0 rfl (C.stA (i := 0) (vs := [_, _, _, _, _]) Try.sizeOf41 rfl rfl rfl rfl rfl rfl) ?_ | refine J.c0 rfl (C.stA (i := 1) (vs := [_, _, _, _, _]) Try.sizeOf41 rfl rfl rfl rfl rfl rfl) ?_ | refine J.c0 rfl (C.stA (i := 2) (vs := [_, _, _, _, _]) Try.sizeOf41 rfl rfl rfl rfl rfl rfl) ?_ | refine J.c0 rfl (C.stA (i := 3) (vs := [_, _, _, _, _]) Try.sizeOf41 rfl rfl rfl rfl rfl rfl) ?_ | refine J.c0 rfl (C.stA (i := 4) (vs := [_, _, _, _, _]) Try.sizeOf41 rfl rfl rfl rfl rfl rfl) ?_ | refine J.c0 rfl (C.stA (i := 5) (vs := [_, _, _, _, _]) Try.sizeOf41 rfl rfl rfl rfl rfl rfl) ?_ | refine J.c0 rfl (C.stA (i := 6) (vs := [_, _, _, _, _]) Try.sizeOf41 rfl rfl rfl rfl rfl rfl) ?_ | refine J.c0 rfl (C.stA (i := 7) (vs := [_, _, _, _, _]) Try.sizeOf41 rfl rfl rfl rfl rfl rfl) ?_ | refine J.c0 rfl (C.stA (i := 8) (vs := [_, _, _, _, _]) Try.sizeOf41 rfl rfl rfl rfl rfl rfl) ?_ | refine J.c0 rfl (C.stA (i := 9) (vs := [_, _, _, _, _]) Try.sizeOf41 rfl rfl rfl rfl rfl rfl) ?_ | refine J.c0 rfl (C.stA (i := 10) (vs := [_, _, _, _, _]) Try.sizeOf41 rfl rfl rfl rfl rfl rfl) ?_ | refine J.c0 rfl (C.stA (i := 11) (vs := [_, _, _, _, _]) Try.sizeOf41 rfl rfl rfl rfl rfl rfl) ?_ | refine J.c0 rfl (C.stA (i := 12) (vs := [_, _, _, _, _]) Try.sizeOf41 rfl rfl rfl rfl rfl rfl) ?_ | refine J.c0 rfl (C.stA (i := 13) (vs := [_, _, _, _, _]) Try.sizeOf41 rfl rfl rfl rfl rfl rfl) ?_ | refine J.c0 rfl (C.stA (i := 14) (vs := [_, _, _, _, _]) Try.sizeOf41 rfl rfl rfl rfl rfl rfl) ?_ | refine J.c0 rfl (C.stA (i := 15) (vs := [_, _, _, _, _]) Try.sizeOf41 rfl rfl rfl rfl rfl rfl) ?_
      rintro _ _ ⟨rfl, rfl⟩
      refine J.nil ?_
      refine J.then_n ?_
      refine J.cret ?_
      refine J.then_r ?_
      refine J.retC [1, 0, 4, 5] (vs := [_, _, _, _, _]) rfl rfl Try.isAgg41 Try.sizeOf41 (ReadsN.pt 2 rfl) rfl (B := [_, _, _]) ⟨_, rfl, hy, rfl⟩
  ·
    first | replace hc11 := X.tt_dec hc11 | replace hc11 := X.tt_not hc11 | replace hc11 := X.ff_dec hc11 | replace hc11 := X.ff_not hc11 | skip
    try (first | (cases hc11; done) | (exfalso; simp at hc11; done))
    all_goals
      refine J.cond_f rfl ?_
      refine J.cskip ?_
      refine J.then_n ?_
      refine J.seq ?_
      refine J.region ?_
      refine J.call Try.call24 (status_spec 200) [] rfl rfl rfl rfl ?_
      rintro _ _ ⟨y, rfl, hy, rfl⟩
      refine J.norm rfl ?_
      obtain ⟨yr, kp, kc, dp, dc⟩ := y
      dsimp only at hy
      subst hy
      refine J.c rfl rfl (C.alloc (l := [_, _, _, _, _]) Try.zeroValue41 rfl) ?_
      rintro _ _ ⟨b5, rfl, rfl⟩
      refine J.norm rfl ?_
      first | refine J.c0 rfl (C.stA (i := 0) (vs := [_, _, _, _, _]) Try.sizeOf41 rfl rfl rfl rfl rfl rfl) ?_ | refine J.c0 rfl (C.stA (i := 1) (vs := [_, _, _, _, _]) Try.sizeOf41 rfl rfl rfl rfl rfl rfl) ?_ | refine J.c0 rfl (C.stA (i := 2) (vs := [_, _, _, _, _]) Try.sizeOf41 rfl rfl rfl rfl rfl rfl) ?_ | refine J.c0 rfl (C.stA (i := 3) (vs := [_, _, _, _, _]) Try.sizeOf41 rfl rfl rfl rfl rfl rfl) ?_ | refine J.c0 rfl (C.stA (i := 4) (vs := [_, _, _, _, _]) Try.sizeOf41 rfl rfl rfl rfl rfl rfl) ?_ | refine J.c0 rfl (C.stA (i := 5) (vs := [_, _, _, _, _]) Try.sizeOf41 rfl rfl rfl rfl rfl rfl) ?_ | refine J.c0 rfl (C.stA (i := 6) (vs := [_, _, _, _, _]) Try.sizeOf41 rfl rfl rfl rfl rfl rfl) ?_ | refine J.c0 rfl (C.stA (i := 7) (vs := [_, _, _, _, _]) Try.sizeOf41 rfl rfl rfl rfl rfl rfl) ?_ | refine J.c0 rfl (C.stA (i := 8) (vs := [_, _, _, _, _]) Try.sizeOf41 rfl rfl rfl rfl rfl rfl) ?_ | refine J.c0 rfl (C.stA (i := 9) (vs := [_, _, _, _, _]) Try.sizeOf41 rfl rfl rfl rfl rfl rfl) ?_ | refine J.c0 rfl (C.stA (i := 10) (vs := [_, _, _, _, _]) Try.sizeOf41 rfl rfl rfl rfl rfl rfl) ?_ | refine J.c0 rfl (C.stA (i := 11) (vs := [_, _, _, _, _]) Try.sizeOf41 rfl rfl rfl rfl rfl rfl) ?_ | refine J.c0 rfl (C.stA (i := 12) (vs := [_, _, _, _, _]) Try.sizeOf41 rfl rfl rfl rfl rfl rfl) ?_ | refine J.c0 rfl (C.stA (i := 13) (vs := [_, _, _, _, _]) Try.sizeOf41 rfl rfl rfl rfl rfl rfl) ?_ | refine J.c0 rfl (C.stA (i := 14) (vs := [_, _, _, _, _]) Try.sizeOf41 rfl rfl rfl rfl rfl rfl) ?_ | refine J.c0 rfl (C.stA (i := 15) (vs := [_, _, _, _, _]) Try.sizeOf41 rfl rfl rfl rfl rfl rfl) ?_
      rintro _ _ ⟨rfl, rfl⟩
      refine J.nil ?_
      refine J.then_n ?_
      refine J.cut (fun w : List ByteArray × Option Addr × Nat × Bool => w.1 = (listed x.o objs).take x.o.n.toNat ∧ w.2.2.2 = decide (x.o.n.toNat < (listed x.o objs).length)) (fun w => [(4, .pointer (some ⟨b4, 0, none⟩)), (5, .pointer (some ⟨b5, 0, none⟩))]) (fun w => [own 9 1 (.slice w.2.1 w.1.length w.2.2.1) (w.1.map Value.string), own 5 1 (.slice dp 0 dc) [], BktAt m M, pt b5 (.cells [Value.int .i64 200, .int .u64 0, .slice w.2.1 w.1.length w.2.2.1, .bool w.2.2.2, .slice dp 0 dc].toArray 41 (0, 0)), pt b4 (.cells [Value.int .i64 0, .int .u64 0, .slice none 0 0, .bool false, .slice none 0 0].toArray 41 (0, 0)), G, F]) ?_ fun w hw => ?_
      ·
        refine J.seq ?_
        refine J.region ?_
        refine J.q rfl rfl (Q.mv rfl) ?_
        refine J.q rfl rfl (Q.fa (n := 2) Try.runUnderlying26 rfl rfl Try.sizeOf9 rfl) ?_
        refine J.q rfl rfl (Q.ld Try.isAgg9 rfl (by first | exact Reads.pt 0 rfl rfl | exact Reads.pt 1 rfl rfl | exact Reads.pt 2 rfl rfl | exact Reads.pt 3 rfl rfl | exact Reads.pt 4 rfl rfl | exact Reads.pt 5 rfl rfl | exact Reads.pt 6 rfl rfl | exact Reads.pt 7 rfl rfl | exact Reads.pt 8 rfl rfl | exact Reads.pt 9 rfl rfl | exact Reads.pt 10 rfl rfl | exact Reads.pt 11 rfl rfl | exact Reads.pt 12 rfl rfl | exact Reads.pt 13 rfl rfl)) ?_
        refine J.call Try.call16 (objects_spec m M hM hK hk x.o.bucket) [2] rfl rfl rfl rfl ?_
        rintro _ _ ⟨p17, c17, rfl, rfl⟩
        refine J.norm rfl ?_
        obtain ⟨ks, hks⟩ : ∃ ks, ks = keysM M x.o.bucket := ⟨_, rfl⟩
        rw [← hks]
        have hkl : ks.length ≤ 1048576 := by rw [hks, hke, List.length_map]; omega
        have hlst : listed x.o objs = ks.filter (lsel x.o) := by rw [hks, hke]; rfl
        refine J.unpack 3 rfl rfl ?_
        refine J.norm rfl ?_
        refine J.slr1 2 rfl fun hs17 => ?_
        refine J.q rfl rfl (Q.lenSl Try.runUnderlying39 rfl) ?_
        refine J.q rfl rfl (Q.mv rfl) ?_
        refine J.nil ?_
        refine J.then_n ?_
        refine J.block ?_
        refine J.loop (fun w : Nat × Option Addr × Nat => w.1 ≤ ks.length ∧ ((ks.take w.1).filter (lsel x.o)).length ≤ x.o.n.toNat) (fun w => ks.length - w.1) (fun w => [(3, .pointer (some ⟨b3, 0, none⟩)), (4, .pointer (some ⟨b4, 0, none⟩)), (5, .pointer (some ⟨b5, 0, none⟩)), (17, .slice p17 ks.length c17), (18, .int .i64 ks.length), (19, .int .i64 w.1)])
          (fun w => [own 9 1 (.slice w.2.1 ((ks.take w.1).filter (lsel x.o)).length w.2.2) (((ks.take w.1).filter (lsel x.o)).map Value.string), own 5 1 (.slice dp 0 dc) [], own 9 1 (.slice p17 ks.length c17) (ks.map Value.string), BktAt m M, pt b5 (.cells [Value.int .i64 200, .int .u64 0, .slice w.2.1 ((ks.take w.1).filter (lsel x.o)).length w.2.2, .bool false, .slice dp 0 dc].toArray 41 (0, 0)), pt b4 (.cells [Value.int .i64 0, .int .u64 0, .slice none 0 0, .bool false, .slice none 0 0].toArray 41 (0, 0)), pt b3 (.cells x.cells.toArray 26 (0, 0)), G, F]) (0, kp, kc) ⟨Nat.zero_le _, Nat.zero_le _⟩ ⟨rfl, rfl, rfl, rfl, rfl, rfl, trivial⟩ rfl fun w hw => ?_
        obtain ⟨j, pa, ca⟩ := w
        obtain ⟨hj, ha⟩ := hw
        dsimp only at hj ha
        refine J.seq ?_
        refine J.region ?_
        refine J.q rfl rfl (Q.lss rfl rfl) ?_
        refine J.nil ?_
        refine J.then_n ?_
        refine J.seq ?_
        refine J.cases 20 rfl (fun hc20 => ?_) (fun hc20 => ?_)
        ·
          first | replace hc20 := X.tt_dec hc20 | replace hc20 := X.tt_not hc20 | replace hc20 := X.ff_dec hc20 | replace hc20 := X.ff_not hc20 | skip
          try (first | (cases hc20; done) | (exfalso; simp at hc20; done))
          all_goals
            refine J.cond_t rfl ?_
            refine J.cskip ?_
            refine J.then_n ?_
            refine J.seq ?_
            refine J.block ?_
            refine J.seq ?_
            obtain ⟨bb, ob, hpp, hrd⟩ := hs17.some_ (by omega)
            obtain ⟨a, hka⟩ : ∃ a, ks[j]? = some a := ⟨_, List.getElem?_eq_getElem (by omega)⟩
            have hft := filter_take (p := lsel x.o) hka
            refine J.slot 17 (.slice (some ⟨bb, ob, none⟩) ks.length c17) rfl (by rw [hpp]) ?_
            refine J.region ?_
            refine J.q rfl rfl (Q.ia Try.runUnderlying39 Try.sizeOf9 rfl rfl (by omega) (by omega)) ?_
            refine J.q rfl rfl (Q.ld Try.isAgg9 rfl (((hrd j (.string a) (by simp [hka])).within (i := 2) rfl).cast (by simp))) ?_
            refine J.q rfl rfl (Q.asg rfl) ?_
            refine J.nil ?_
            refine J.then_n ?_
            refine J.seq ?_
            refine J.seq ?_
            refine J.region ?_
            refine J.q rfl rfl (Q.mv rfl) ?_
            refine J.q rfl rfl (Q.fa (n := 3) Try.runUnderlying26 rfl rfl Try.sizeOf9 rfl) ?_
            refine J.q rfl rfl (Q.ld Try.isAgg9 rfl (by first | exact Reads.pt 0 rfl rfl | exact Reads.pt 1 rfl rfl | exact Reads.pt 2 rfl rfl | exact Reads.pt 3 rfl rfl | exact Reads.pt 4 rfl rfl | exact Reads.pt 5 rfl rfl | exact Reads.pt 6 rfl rfl | exact Reads.pt 7 rfl rfl | exact Reads.pt 8 rfl rfl | exact Reads.pt 9 rfl rfl | exact Reads.pt 10 rfl rfl | exact Reads.pt 11 rfl rfl | exact Reads.pt 12 rfl rfl | exact Reads.pt 13 rfl rfl)) ?_
            refine J.call Try.call47 (hasPrefix_spec a x.o.key) [] rfl rfl rfl rfl ?_
            rintro _ _ ⟨rfl, rfl⟩
            refine J.norm rfl ?_
            refine J.q rfl rfl (Q.not rfl) ?_
            refine J.q rfl rfl (Q.mv rfl) ?_
            refine J.cases 28 rfl (fun hb28 => ?_) (fun hb28 => ?_)
            ·
              first | replace hb28 := X.tt_dec hb28 | replace hb28 := X.tt_not hb28 | replace hb28 := X.ff_dec hb28 | replace hb28 := X.ff_not hb28 | skip
              try (first | (cases hb28; done) | (exfalso; simp at hb28; done))
              all_goals
                refine J.skip rfl rfl ?_
                refine J.skip rfl rfl ?_
                refine J.skip rfl rfl ?_
                refine J.skip rfl rfl ?_
                refine J.q rfl rfl (Q.pick_t rfl rfl) ?_
                refine J.nil ?_
                refine J.then_n ?_
                refine J.cond_t rfl ?_
                refine J.exit ?_
                refine J.then_x ?_
                refine J.blk_x ?_
                refine J.then_n ?_
                refine J.region ?_
                refine J.q rfl rfl (Q.add64 rfl rfl (by omega)) ?_
                refine J.q rfl rfl (Q.mv rfl) ?_
                refine J.nil ?_
                have hsel : lsel x.o a = false := by unfold lsel; first | (have h1 := hb28; have h2 : ltB x.o.after a = false := decide_eq_false hc33; revert h1 h2; cases beg a x.o.key <;> cases ltB x.o.after a <;> decide) | (have h1 := hb28; revert h1; cases beg a x.o.key <;> cases ltB x.o.after a <;> decide)
                rw [hsel] at hft
                simp only [Bool.false_eq_true, if_false, List.append_nil] at hft
                refine J.again (j + 1, pa, ca) ⟨by show j + 1 ≤ _; omega, by show ((ks.take (j + 1)).filter (lsel x.o)).length ≤ _; rw [hft]; exact ha⟩ (by show ks.length - (j + 1) < ks.length - j; omega) ⟨rfl, rfl, rfl, (by show _ = some (Value.slice p17 _ _); rw [hpp]; rfl), rfl, rfl, trivial⟩ ?_
                show _ = [own 9 1 (.slice pa ((ks.take (j + 1)).filter (lsel x.o)).length ca) (((ks.take (j + 1)).filter (lsel x.o)).map Value.string), _, _, _, pt b5 (.cells [Value.int .i64 200, .int .u64 0, .slice pa ((ks.take (j + 1)).filter (lsel x.o)).length ca, .bool false, .slice dp 0 dc].toArray 41 (0, 0)), _, _, _, _]
                rw [hft]
            ·
              first | replace hb28 := X.tt_dec hb28 | replace hb28 := X.tt_not hb28 | replace hb28 := X.ff_dec hb28 | replace hb28 := X.ff_not hb28 | skip
              try (first | (cases hb28; done) | (exfalso; simp at hb28; done))
              all_goals
                refine J.q rfl rfl (Q.mv rfl) ?_
                refine J.q rfl rfl (Q.fa (n := 4) Try.runUnderlying26 rfl rfl Try.sizeOf9 rfl) ?_
                refine J.q rfl rfl (Q.ld Try.isAgg9 rfl (by first | exact Reads.pt 0 rfl rfl | exact Reads.pt 1 rfl rfl | exact Reads.pt 2 rfl rfl | exact Reads.pt 3 rfl rfl | exact Reads.pt 4 rfl rfl | exact Reads.pt 5 rfl rfl | exact Reads.pt 6 rfl rfl | exact Reads.pt 7 rfl rfl | exact Reads.pt 8 rfl rfl | exact Reads.pt 9 rfl rfl | exact Reads.pt 10 rfl rfl | exact Reads.pt 11 rfl rfl | exact Reads.pt 12 rfl rfl | exact Reads.pt 13 rfl rfl)) ?_
                refine J.q rfl rfl (leqs rfl rfl) ?_
                refine J.q rfl rfl (Q.pick_f rfl rfl) ?_
                refine J.nil ?_
                refine J.then_n ?_
                refine J.cases 33 rfl (fun hc33 => ?_) (fun hc33 => ?_)
                ·
                  first | replace hc33 := X.tt_dec hc33 | replace hc33 := X.tt_not hc33 | replace hc33 := X.ff_dec hc33 | replace hc33 := X.ff_not hc33 | skip
                  try (first | (cases hc33; done) | (exfalso; simp at hc33; done))
                  all_goals
                    refine J.cond_t rfl ?_
                    refine J.exit ?_
                    refine J.then_x ?_
                    refine J.blk_x ?_
                    refine J.then_n ?_
                    refine J.region ?_
                    refine J.q rfl rfl (Q.add64 rfl rfl (by omega)) ?_
                    refine J.q rfl rfl (Q.mv rfl) ?_
                    refine J.nil ?_
                    have hsel : lsel x.o a = false := by unfold lsel; first | (have h1 := hb28; have h2 : ltB x.o.after a = false := decide_eq_false hc33; revert h1 h2; cases beg a x.o.key <;> cases ltB x.o.after a <;> decide) | (have h1 := hb28; revert h1; cases beg a x.o.key <;> cases ltB x.o.after a <;> decide)
                    rw [hsel] at hft
                    simp only [Bool.false_eq_true, if_false, List.append_nil] at hft
                    refine J.again (j + 1, pa, ca) ⟨by show j + 1 ≤ _; omega, by show ((ks.take (j + 1)).filter (lsel x.o)).length ≤ _; rw [hft]; exact ha⟩ (by show ks.length - (j + 1) < ks.length - j; omega) ⟨rfl, rfl, rfl, (by show _ = some (Value.slice p17 _ _); rw [hpp]; rfl), rfl, rfl, trivial⟩ ?_
                    show _ = [own 9 1 (.slice pa ((ks.take (j + 1)).filter (lsel x.o)).length ca) (((ks.take (j + 1)).filter (lsel x.o)).map Value.string), _, _, _, pt b5 (.cells [Value.int .i64 200, .int .u64 0, .slice pa ((ks.take (j + 1)).filter (lsel x.o)).length ca, .bool false, .slice dp 0 dc].toArray 41 (0, 0)), _, _, _, _]
                    rw [hft]
                ·
                  first | replace hc33 := X.tt_dec hc33 | replace hc33 := X.tt_not hc33 | replace hc33 := X.ff_dec hc33 | replace hc33 := X.ff_not hc33 | skip
                  try (first | (cases hc33; done) | (exfalso; simp at hc33; done))
                  all_goals
                    refine J.cond_f rfl ?_
                    refine J.cskip ?_
                    refine J.then_n ?_
                    refine J.seq ?_
                    refine J.seq ?_
                    refine J.region ?_
                    refine J.q rfl rfl (Q.fa (n := 2) Try.runUnderlying41 rfl rfl Try.sizeOf39 rfl) ?_
                    refine J.q rfl rfl (Q.ld Try.isAgg39 rfl (by first | exact Reads.pt 0 rfl rfl | exact Reads.pt 1 rfl rfl | exact Reads.pt 2 rfl rfl | exact Reads.pt 3 rfl rfl | exact Reads.pt 4 rfl rfl | exact Reads.pt 5 rfl rfl | exact Reads.pt 6 rfl rfl | exact Reads.pt 7 rfl rfl | exact Reads.pt 8 rfl rfl | exact Reads.pt 9 rfl rfl | exact Reads.pt 10 rfl rfl | exact Reads.pt 11 rfl rfl | exact Reads.pt 12 rfl rfl | exact Reads.pt 13 rfl rfl)) ?_
                    refine J.q rfl rfl (Q.lenSl Try.runUnderlying39 rfl) ?_
                    refine J.q rfl rfl (Q.fa (n := 5) Try.runUnderlying26 rfl rfl Try.sizeOf3 rfl) ?_
                    refine J.q rfl rfl (Q.ld Try.isAgg3 rfl (by first | exact Reads.pt 0 rfl rfl | exact Reads.pt 1 rfl rfl | exact Reads.pt 2 rfl rfl | exact Reads.pt 3 rfl rfl | exact Reads.pt 4 rfl rfl | exact Reads.pt 5 rfl rfl | exact Reads.pt 6 rfl rfl | exact Reads.pt 7 rfl rfl | exact Reads.pt 8 rfl rfl | exact Reads.pt 9 rfl rfl | exact Reads.pt 10 rfl rfl | exact Reads.pt 11 rfl rfl | exact Reads.pt 12 rfl rfl | exact Reads.pt 13 rfl rfl)) ?_
                    refine J.q rfl rfl (Q.eql rfl rfl) ?_
                    refine J.q rfl rfl (Q.fa (n := 3) Try.runUnderlying41 rfl rfl Try.sizeOf4 rfl) ?_
                    first | refine J.st (i := 0) rfl Try.sizeOf4 rfl rfl rfl rfl rfl rfl rfl ?_ | refine J.st (i := 1) rfl Try.sizeOf4 rfl rfl rfl rfl rfl rfl rfl ?_ | refine J.st (i := 2) rfl Try.sizeOf4 rfl rfl rfl rfl rfl rfl rfl ?_ | refine J.st (i := 3) rfl Try.sizeOf4 rfl rfl rfl rfl rfl rfl rfl ?_ | refine J.st (i := 4) rfl Try.sizeOf4 rfl rfl rfl rfl rfl rfl rfl ?_ | refine J.st (i := 5) rfl Try.sizeOf4 rfl rfl rfl rfl rfl rfl rfl ?_ | refine J.st (i := 6) rfl Try.sizeOf4 rfl rfl rfl rfl rfl rfl rfl ?_ | refine J.st (i := 7) rfl Try.sizeOf4 rfl rfl rfl rfl rfl rfl rfl ?_ | refine J.st (i := 8) rfl Try.sizeOf4 rfl rfl rfl rfl rfl rfl rfl ?_ | refine J.st (i := 9) rfl Try.sizeOf4 rfl rfl rfl rfl rfl rfl rfl ?_ | refine J.st (i := 10) rfl Try.sizeOf4 rfl rfl rfl rfl rfl rfl rfl ?_ | refine J.st (i := 11) rfl Try.sizeOf4 rfl rfl rfl rfl rfl rfl rfl ?_ | refine J.st (i := 12) rfl Try.sizeOf4 rfl rfl rfl rfl rfl rfl rfl ?_ | refine J.st (i := 13) rfl Try.sizeOf4 rfl rfl rfl rfl rfl rfl rfl ?_ | refine J.st (i := 14) rfl Try.sizeOf4 rfl rfl rfl rfl rfl rfl rfl ?_ | refine J.st (i := 15) rfl Try.sizeOf4 rfl rfl rfl rfl rfl rfl rfl ?_
                    refine J.nil ?_
                    refine J.then_n ?_
                    refine J.seq ?_
                    refine J.region ?_
                    refine J.q rfl rfl (Q.fa (n := 3) Try.runUnderlying41 rfl rfl Try.sizeOf4 rfl) ?_
                    refine J.q rfl rfl (Q.ld Try.isAgg4 rfl (by first | exact Reads.pt 0 rfl rfl | exact Reads.pt 1 rfl rfl | exact Reads.pt 2 rfl rfl | exact Reads.pt 3 rfl rfl | exact Reads.pt 4 rfl rfl | exact Reads.pt 5 rfl rfl | exact Reads.pt 6 rfl rfl | exact Reads.pt 7 rfl rfl | exact Reads.pt 8 rfl rfl | exact Reads.pt 9 rfl rfl | exact Reads.pt 10 rfl rfl | exact Reads.pt 11 rfl rfl | exact Reads.pt 12 rfl rfl | exact Reads.pt 13 rfl rfl)) ?_
                    refine J.nil ?_
                    refine J.then_n ?_
                    refine J.cases 42 rfl (fun hc42 => ?_) (fun hc42 => ?_)
                    ·
                      first | replace hc42 := X.tt_dec hc42 | replace hc42 := X.tt_not hc42 | replace hc42 := X.ff_dec hc42 | replace hc42 := X.ff_not hc42 | skip
                      try (first | (cases hc42; done) | (exfalso; simp at hc42; done))
                      all_goals
                        refine J.cond_t rfl ?_
                        refine J.exit ?_
                        refine J.then_x ?_
                        refine J.blk_o rfl ?_
                        refine J.then_x ?_
                        refine J.lp_x ?_
                        refine J.blk_x ?_
                        have hsel : lsel x.o a = true := by unfold lsel; first | (have h1 := hb28; have h2 : ltB x.o.after a = true := decide_eq_true hc33; revert h1 h2; cases beg a x.o.key <;> cases ltB x.o.after a <;> decide) | (have h1 := hb28; revert h1; cases beg a x.o.key <;> cases ltB x.o.after a <;> decide)
                        obtain ⟨r, hr⟩ := filter_more hka hsel
                        have hdt := decide_eq_true hc42
                        dsimp only at hc42
                        have hal : ((ks.take j).filter (lsel x.o)).length = x.o.n.toNat := by omega
                        refine J.keep [0, 1, 3, 4, 5, 7, 8] rfl ?_
                        refine J.meet ((ks.take j).filter (lsel x.o), pa, ca, true) ⟨?_, ?_⟩ ⟨rfl, rfl, trivial⟩ ?_
                        · show _ = List.take _ _
                          rw [hlst, hr, ← hal, List.take_left]
                        · show true = _
                          rw [hlst, hr, ← hal, List.length_append, List.length_cons]
                          simp
                        · rw [hdt]
                    ·
                      first | replace hc42 := X.tt_dec hc42 | replace hc42 := X.tt_not hc42 | replace hc42 := X.ff_dec hc42 | replace hc42 := X.ff_not hc42 | skip
                      try (first | (cases hc42; done) | (exfalso; simp at hc42; done))
                      all_goals
                        refine J.cond_f rfl ?_
                        refine J.cskip ?_
                        refine J.then_n ?_
                        refine J.region ?_
                        refine J.q rfl rfl (Q.fa (n := 2) Try.runUnderlying41 rfl rfl Try.sizeOf39 rfl) ?_
                        refine J.q rfl rfl (Q.ld Try.isAgg39 rfl (by first | exact Reads.pt 0 rfl rfl | exact Reads.pt 1 rfl rfl | exact Reads.pt 2 rfl rfl | exact Reads.pt 3 rfl rfl | exact Reads.pt 4 rfl rfl | exact Reads.pt 5 rfl rfl | exact Reads.pt 6 rfl rfl | exact Reads.pt 7 rfl rfl | exact Reads.pt 8 rfl rfl | exact Reads.pt 9 rfl rfl | exact Reads.pt 10 rfl rfl | exact Reads.pt 11 rfl rfl | exact Reads.pt 12 rfl rfl | exact Reads.pt 13 rfl rfl)) ?_
                        refine J.q rfl rfl (Q.mv rfl) ?_
                        refine J.c rfl rfl (C.bslG (l := [_]) Try.runUnderlying39 Try.sizeOf9 Try.zeroValue9 (by decide) rfl rfl rfl rfl rfl) ?_
                        rintro _ _ ⟨b46, rfl, rfl⟩
                        refine J.norm rfl ?_
                        refine J.conv (Y := own 9 1 (.slice (some ⟨b46, 0, none⟩) 1 1) [.string a]) 0 rfl (own_of_block rfl) ?_
                        refine J.slr1 0 rfl fun hs46 => ?_
                        refine J.c rfl rfl (C.app (i := 1) Try.runUnderlying39 Try.runUnderlying39 Try.typeInfo9 Try.sizeOf9 Try.zeroValue9 rfl rfl rfl (hs46.within (i := 0) rfl) (by intro v hv; simp at hv; subst hv; rfl) (by rw [show Try.t9.bytes = 16 from rfl]; show (_ + 1) * 16 ≤ _; dsimp only; omega) (by decide)) ?_
                        rintro _ _ ⟨p47, c47, rfl, rfl⟩
                        refine J.norm rfl ?_
                        refine J.q rfl rfl (Q.fa (n := 2) Try.runUnderlying41 rfl rfl Try.sizeOf39 rfl) ?_
                        first | refine J.st (i := 0) rfl Try.sizeOf39 rfl rfl rfl rfl rfl rfl rfl ?_ | refine J.st (i := 1) rfl Try.sizeOf39 rfl rfl rfl rfl rfl rfl rfl ?_ | refine J.st (i := 2) rfl Try.sizeOf39 rfl rfl rfl rfl rfl rfl rfl ?_ | refine J.st (i := 3) rfl Try.sizeOf39 rfl rfl rfl rfl rfl rfl rfl ?_ | refine J.st (i := 4) rfl Try.sizeOf39 rfl rfl rfl rfl rfl rfl rfl ?_ | refine J.st (i := 5) rfl Try.sizeOf39 rfl rfl rfl rfl rfl rfl rfl ?_ | refine J.st (i := 6) rfl Try.sizeOf39 rfl rfl rfl rfl rfl rfl rfl ?_ | refine J.st (i := 7) rfl Try.sizeOf39 rfl rfl rfl rfl rfl rfl rfl ?_ | refine J.st (i := 8) rfl Try.sizeOf39 rfl rfl rfl rfl rfl rfl rfl ?_ | refine J.st (i := 9) rfl Try.sizeOf39 rfl rfl rfl rfl rfl rfl rfl ?_ | refine J.st (i := 10) rfl Try.sizeOf39 rfl rfl rfl rfl rfl rfl rfl ?_ | refine J.st (i := 11) rfl Try.sizeOf39 rfl rfl rfl rfl rfl rfl rfl ?_ | refine J.st (i := 12) rfl Try.sizeOf39 rfl rfl rfl rfl rfl rfl rfl ?_ | refine J.st (i := 13) rfl Try.sizeOf39 rfl rfl rfl rfl rfl rfl rfl ?_ | refine J.st (i := 14) rfl Try.sizeOf39 rfl rfl rfl rfl rfl rfl rfl ?_ | refine J.st (i := 15) rfl Try.sizeOf39 rfl rfl rfl rfl rfl rfl rfl ?_
                        refine J.nil ?_
                        refine J.blk_n ?_
                        refine J.then_n ?_
                        refine J.region ?_
                        refine J.q rfl rfl (Q.add64 rfl rfl (by omega)) ?_
                        refine J.q rfl rfl (Q.mv rfl) ?_
                        refine J.nil ?_
                        have hsel : lsel x.o a = true := by unfold lsel; first | (have h1 := hb28; have h2 : ltB x.o.after a = true := decide_eq_true hc33; revert h1 h2; cases beg a x.o.key <;> cases ltB x.o.after a <;> decide) | (have h1 := hb28; revert h1; cases beg a x.o.key <;> cases ltB x.o.after a <;> decide)
                        have e1 : (ks.take (j + 1)).filter (lsel x.o) = (ks.take j).filter (lsel x.o) ++ [a] := by rw [hft, hsel]; rfl
                        have hdf := decide_eq_false hc42
                        refine J.keep [1, 2, 3, 4, 5, 6, 7, 8, 9] rfl ?_
                        refine J.again (j + 1, p47, c47) ⟨by show j + 1 ≤ _; omega, by show ((ks.take (j + 1)).filter (lsel x.o)).length ≤ _; rw [e1, List.length_append]; dsimp only at hc42; simp only [List.length_cons, List.length_nil]; omega⟩ (by show ks.length - (j + 1) < ks.length - j; omega) ⟨rfl, rfl, rfl, (by show _ = some (Value.slice p17 _ _); rw [hpp]; rfl), rfl, rfl, trivial⟩ ?_
                        show _ = [own 9 1 (.slice p47 ((ks.take (j + 1)).filter (lsel x.o)).length c47) (((ks.take (j + 1)).filter (lsel x.o)).map Value.string), _, _, _, pt b5 (.cells [Value.int .i64 200, .int .u64 0, .slice p47 ((ks.take (j + 1)).filter (lsel x.o)).length c47, .bool false, .slice dp 0 dc].toArray 41 (0, 0)), _, _, _, _]
                        rw [e1, List.length_append, List.map_append, hdf]
                        rfl
        ·
          first | replace hc20 := X.tt_dec hc20 | replace hc20 := X.tt_not hc20 | replace hc20 := X.ff_dec hc20 | replace hc20 := X.ff_not hc20 | skip
          try (first | (cases hc20; done) | (exfalso; simp at hc20; done))
          all_goals
            refine J.cond_f rfl ?_
            refine J.exit ?_
            refine J.then_x ?_
            refine J.lp_x ?_
            refine J.blk_x ?_
            have hjn : j = ks.length := by omega
            subst hjn
            rw [List.take_length] at ha ⊢
            refine J.keep [0, 1, 3, 4, 5, 7, 8] rfl ?_
            refine J.meet (ks.filter (lsel x.o), pa, ca, false) ⟨?_, ?_⟩ ⟨rfl, rfl, trivial⟩ rfl
            · show _ = List.take _ _
              rw [hlst, List.take_of_length_le ha]
            · show false = _
              rw [hlst]
              simp; omega
      ·
        obtain ⟨kl, pk, ck, more⟩ := w
        obtain ⟨h1, h2⟩ := hw
        dsimp only at h1 h2
        refine J.seq ?_
        refine J.region ?_
        refine J.q rfl rfl (Q.ldN (vs := [_, _, _, _, _]) Try.isAgg41 Try.sizeOf41 rfl (by first | exact ReadsN.pt 0 rfl | exact ReadsN.pt 1 rfl | exact ReadsN.pt 2 rfl | exact ReadsN.pt 3 rfl | exact ReadsN.pt 4 rfl | exact ReadsN.pt 5 rfl | exact ReadsN.pt 6 rfl | exact ReadsN.pt 7 rfl | exact ReadsN.pt 8 rfl | exact ReadsN.pt 9 rfl | exact ReadsN.pt 10 rfl | exact ReadsN.pt 11 rfl | exact ReadsN.pt 12 rfl | exact ReadsN.pt 13 rfl)) ?_
        first | refine J.c0 rfl (C.stA (i := 0) (vs := [_, _, _, _, _]) Try.sizeOf41 rfl rfl rfl rfl rfl rfl) ?_ | refine J.c0 rfl (C.stA (i := 1) (vs := [_, _, _, _, _]) Try.sizeOf41 rfl rfl rfl rfl rfl rfl) ?_ | refine J.c0 rfl (C.stA (i := 2) (vs := [_, _, _, _, _]) Try.sizeOf41 rfl rfl rfl rfl rfl rfl) ?_ | refine J.c0 rfl (C.stA (i := 3) (vs := [_, _, _, _, _]) Try.sizeOf41 rfl rfl rfl rfl rfl rfl) ?_ | refine J.c0 rfl (C.stA (i := 4) (vs := [_, _, _, _, _]) Try.sizeOf41 rfl rfl rfl rfl rfl rfl) ?_ | refine J.c0 rfl (C.stA (i := 5) (vs := [_, _, _, _, _]) Try.sizeOf41 rfl rfl rfl rfl rfl rfl) ?_ | refine J.c0 rfl (C.stA (i := 6) (vs := [_, _, _, _, _]) Try.sizeOf41 rfl rfl rfl rfl rfl rfl) ?_ | refine J.c0 rfl (C.stA (i := 7) (vs := [_, _, _, _, _]) Try.sizeOf41 rfl rfl rfl rfl rfl rfl) ?_ | refine J.c0 rfl (C.stA (i := 8) (vs := [_, _, _, _, _]) Try.sizeOf41 rfl rfl rfl rfl rfl rfl) ?_ | refine J.c0 rfl (C.stA (i := 9) (vs := [_, _, _, _, _]) Try.sizeOf41 rfl rfl rfl rfl rfl rfl) ?_ | refine J.c0 rfl (C.stA (i := 10) (vs := [_, _, _, _, _]) Try.sizeOf41 rfl rfl rfl rfl rfl rfl) ?_ | refine J.c0 rfl (C.stA (i := 11) (vs := [_, _, _, _, _]) Try.sizeOf41 rfl rfl rfl rfl rfl rfl) ?_ | refine J.c0 rfl (C.stA (i := 12) (vs := [_, _, _, _, _]) Try.sizeOf41 rfl rfl rfl rfl rfl rfl) ?_ | refine J.c0 rfl (C.stA (i := 13) (vs := [_, _, _, _, _]) Try.sizeOf41 rfl rfl rfl rfl rfl rfl) ?_ | refine J.c0 rfl (C.stA (i := 14) (vs := [_, _, _, _, _]) Try.sizeOf41 rfl rfl rfl rfl rfl rfl) ?_ | refine J.c0 rfl (C.stA (i := 15) (vs := [_, _, _, _, _]) Try.sizeOf41 rfl rfl rfl rfl rfl rfl) ?_
        rintro _ _ ⟨rfl, rfl⟩
        refine J.nil ?_
        refine J.then_n ?_
        refine J.cret ?_
        refine J.pack [0, 1] rfl ?_
        refine J.retC [1, 0, 4, 5] (vs := [_, _, _, _, _]) rfl rfl Try.isAgg41 Try.sizeOf41 (ReadsN.pt 3 rfl) rfl (B := [_, _, _]) ⟨⟨⟨200, 0, kl, more, []⟩, pk, ck, dp, dc⟩, rfl, ?_, rfl⟩
        rw [h1, h2]
theorem list_yes {objs : Objs} (hB : sget x.o.bucket M.buckets = some objs) : FSpec Try.prog 38 [.pointer (some ⟨m, 0, none⟩), .agg x.cells.toArray] [BktAt m M, G] (ActR m G (⟨200, 0, (listed x.o objs).take x.o.n.toNat, decide (x.o.n.toNat < (listed x.o objs).length), []⟩, M)) := by
  have hn := chk_6 hc h6
  try have hO := hM.os _ _ hB
  try have hke : keysM M x.o.bucket = objs.map (·.1) := by unfold keysM; rw [hB]
  refine FSpec.of Try.func38 rfl Try.ntmps38 rfl fun W0 F => ?_
  refine J.seq ?_
  refine J.region ?_
  refine J.c rfl rfl (C.box (l := [_, _, _, _, _, _, _, _, _]) rfl rfl) ?_
  rintro _ _ ⟨b3, rfl, rfl⟩
  refine J.norm rfl ?_
  refine J.c rfl rfl (C.alloc (l := [_, _, _, _, _]) Try.zeroValue41 rfl) ?_
  rintro _ _ ⟨b4, rfl, rfl⟩
  refine J.norm rfl ?_
  refine J.nil ?_
  refine J.then_n ?_
  refine J.seq ?_
  refine J.seq ?_
  refine J.region ?_
  refine J.q rfl rfl (Q.mv rfl) ?_
  refine J.q rfl rfl (Q.ldN (vs := [_, _, _, _, _, _, _, _, _]) Try.isAgg26 Try.sizeOf26 rfl (by first | exact ReadsN.pt 0 rfl | exact ReadsN.pt 1 rfl | exact ReadsN.pt 2 rfl | exact ReadsN.pt 3 rfl | exact ReadsN.pt 4 rfl | exact ReadsN.pt 5 rfl | exact ReadsN.pt 6 rfl | exact ReadsN.pt 7 rfl | exact ReadsN.pt 8 rfl | exact ReadsN.pt 9 rfl | exact ReadsN.pt 10 rfl | exact ReadsN.pt 11 rfl | exact ReadsN.pt 12 rfl | exact ReadsN.pt 13 rfl)) ?_
  refine J.call Try.call46 ((by first | exact known_no m M x hB | exact known_yes m M hM x hB)) [2] rfl rfl rfl rfl ?_
  rintro _ _ ⟨rfl, rfl⟩
  refine J.norm rfl ?_
  refine J.q rfl rfl (Q.not rfl) ?_
  refine J.nil ?_
  refine J.then_n ?_
  refine J.cases 11 rfl (fun hc11 => ?_) (fun hc11 => ?_)
  ·
    first | replace hc11 := X.tt_dec hc11 | replace hc11 := X.tt_not hc11 | replace hc11 := X.ff_dec hc11 | replace hc11 := X.ff_not hc11 | skip
    try (first | (cases hc11; done) | (exfalso; simp at hc11; done))
    all_goals
      refine J.cond_t rfl ?_
      refine J.seq ?_
      refine J.region ?_
      refine J.call Try.call24 (status_spec 404) [] rfl rfl rfl rfl ?_
      rintro _ _ ⟨y, rfl, hy, rfl⟩
      refine J.norm rfl ?_
      first | refine J.c0 rfl (C.stA (i := 0) (vs := [_, _, _, _, _]) Try.sizeOf41 rfl rfl rfl rfl rfl rfl) ?_ | refine J.c0 rfl (C.stA (i := 1) (vs := [_, _, _, _, _]) Try.sizeOf41 rfl rfl rfl rfl rfl rfl) ?_ | refine J.c0 rfl (C.stA (i := 2) (vs := [_, _, _, _, _]) Try.sizeOf41 rfl rfl rfl rfl rfl rfl) ?_ | refine J.c0 rfl (C.stA (i := 3) (vs := [_, _, _, _, _]) Try.sizeOf41 rfl rfl rfl rfl rfl rfl) ?_ | refine J.c0 rfl (C.stA (i := 4) (vs := [_, _, _, _, _]) Try.sizeOf41 rfl rfl rfl rfl rfl rfl) ?_ | refine J.c0 rfl (C.stA (i := 5) (vs := [_, _, _, _, _]) Try.sizeOf41 rfl rfl rfl rfl rfl rfl) ?_ | refine J.c0 rfl (C.stA (i := 6) (vs := [_, _, _, _, _]) Try.sizeOf41 rfl rfl rfl rfl rfl rfl) ?_ | refine J.c0 rfl (C.stA (i := 7) (vs := [_, _, _, _, _]) Try.sizeOf41 rfl rfl rfl rfl rfl rfl) ?_ | refine J.c0 rfl (C.stA (i := 8) (vs := [_, _, _, _, _]) Try.sizeOf41 rfl rfl rfl rfl rfl rfl) ?_ | refine J.c0 rfl (C.stA (i := 9) (vs := [_, _, _, _, _]) Try.sizeOf41 rfl rfl rfl rfl rfl rfl) ?_ | refine J.c0 rfl (C.stA (i := 10) (vs := [_, _, _, _, _]) Try.sizeOf41 rfl rfl rfl rfl rfl rfl) ?_ | refine J.c0 rfl (C.stA (i := 11) (vs := [_, _, _, _, _]) Try.sizeOf41 rfl rfl rfl rfl rfl rfl) ?_ | refine J.c0 rfl (C.stA (i := 12) (vs := [_, _, _, _, _]) Try.sizeOf41 rfl rfl rfl rfl rfl rfl) ?_ | refine J.c0 rfl (C.stA (i := 13) (vs := [_, _, _, _, _]) Try.sizeOf41 rfl rfl rfl rfl rfl rfl) ?_ | refine J.c0 rfl (C.stA (i := 14) (vs := [_, _, _, _, _]) Try.sizeOf41 rfl rfl rfl rfl rfl rfl) ?_ | refine J.c0 rfl (C.stA (i := 15) (vs := [_, _, _, _, _]) Try.sizeOf41 rfl rfl rfl rfl rfl rfl) ?_
      rintro _ _ ⟨rfl, rfl⟩
      refine J.nil ?_
      refine J.then_n ?_
      refine J.cret ?_
      refine J.then_r ?_
      refine J.retC [1, 0, 4, 5] (vs := [_, _, _, _, _]) rfl rfl Try.isAgg41 Try.sizeOf41 (ReadsN.pt 2 rfl) rfl (B := [_, _, _]) ⟨_, rfl, hy, rfl⟩
  ·
    first | replace hc11 := X.tt_dec hc11 | replace hc11 := X.tt_not hc11 | replace hc11 := X.ff_dec hc11 | replace hc11 := X.ff_not hc11 | skip
    try (first | (cases hc11; done) | (exfalso; simp at hc11; done))
    all_goals
      refine J.cond_f rfl ?_
      refine J.cskip ?_
      refine J.then_n ?_
      refine J.seq ?_
      refine J.region ?_
      refine J.call Try.call24 (status_spec 200) [] rfl rfl rfl rfl ?_
      rintro _ _ ⟨y, rfl, hy, rfl⟩
      refine J.norm rfl ?_
      obtain ⟨yr, kp, kc, dp, dc⟩ := y
      dsimp only at hy
      subst hy
      refine J.c rfl rfl (C.alloc (l := [_, _, _, _, _]) Try.zeroValue41 rfl) ?_
      rintro _ _ ⟨b5, rfl, rfl⟩
      refine J.norm rfl ?_
      first | refine J.c0 rfl (C.stA (i := 0) (vs := [_, _, _, _, _]) Try.sizeOf41 rfl rfl rfl rfl rfl rfl) ?_ | refine J.c0 rfl (C.stA (i := 1) (vs := [_, _, _, _, _]) Try.sizeOf41 rfl rfl rfl rfl rfl rfl) ?_ | refine J.c0 rfl (C.stA (i := 2) (vs := [_, _, _, _, _]) Try.sizeOf41 rfl rfl rfl rfl rfl rfl) ?_ | refine J.c0 rfl (C.stA (i := 3) (vs := [_, _, _, _, _]) Try.sizeOf41 rfl rfl rfl rfl rfl rfl) ?_ | refine J.c0 rfl (C.stA (i := 4) (vs := [_, _, _, _, _]) Try.sizeOf41 rfl rfl rfl rfl rfl rfl) ?_ | refine J.c0 rfl (C.stA (i := 5) (vs := [_, _, _, _, _]) Try.sizeOf41 rfl rfl rfl rfl rfl rfl) ?_ | refine J.c0 rfl (C.stA (i := 6) (vs := [_, _, _, _, _]) Try.sizeOf41 rfl rfl rfl rfl rfl rfl) ?_ | refine J.c0 rfl (C.stA (i := 7) (vs := [_, _, _, _, _]) Try.sizeOf41 rfl rfl rfl rfl rfl rfl) ?_ | refine J.c0 rfl (C.stA (i := 8) (vs := [_, _, _, _, _]) Try.sizeOf41 rfl rfl rfl rfl rfl rfl) ?_ | refine J.c0 rfl (C.stA (i := 9) (vs := [_, _, _, _, _]) Try.sizeOf41 rfl rfl rfl rfl rfl rfl) ?_ | refine J.c0 rfl (C.stA (i := 10) (vs := [_, _, _, _, _]) Try.sizeOf41 rfl rfl rfl rfl rfl rfl) ?_ | refine J.c0 rfl (C.stA (i := 11) (vs := [_, _, _, _, _]) Try.sizeOf41 rfl rfl rfl rfl rfl rfl) ?_ | refine J.c0 rfl (C.stA (i := 12) (vs := [_, _, _, _, _]) Try.sizeOf41 rfl rfl rfl rfl rfl rfl) ?_ | refine J.c0 rfl (C.stA (i := 13) (vs := [_, _, _, _, _]) Try.sizeOf41 rfl rfl rfl rfl rfl rfl) ?_ | refine J.c0 rfl (C.stA (i := 14) (vs := [_, _, _, _, _]) Try.sizeOf41 rfl rfl rfl rfl rfl rfl) ?_ | refine J.c0 rfl (C.stA (i := 15) (vs := [_, _, _, _, _]) Try.sizeOf41 rfl rfl rfl rfl rfl rfl) ?_
      rintro _ _ ⟨rfl, rfl⟩
      refine J.nil ?_
      refine J.then_n ?_
      refine J.cut (fun w : List ByteArray × Option Addr × Nat × Bool => w.1 = (listed x.o objs).take x.o.n.toNat ∧ w.2.2.2 = decide (x.o.n.toNat < (listed x.o objs).length)) (fun w => [(4, .pointer (some ⟨b4, 0, none⟩)), (5, .pointer (some ⟨b5, 0, none⟩))]) (fun w => [own 9 1 (.slice w.2.1 w.1.length w.2.2.1) (w.1.map Value.string), own 5 1 (.slice dp 0 dc) [], BktAt m M, pt b5 (.cells [Value.int .i64 200, .int .u64 0, .slice w.2.1 w.1.length w.2.2.1, .bool w.2.2.2, .slice dp 0 dc].toArray 41 (0, 0)), pt b4 (.cells [Value.int .i64 0, .int .u64 0, .slice none 0 0, .bool false, .slice none 0 0].toArray 41 (0, 0)), G, F]) ?_ fun w hw => ?_
      ·
        refine J.seq ?_
        refine J.region ?_
        refine J.q rfl rfl (Q.mv rfl) ?_
        refine J.q rfl rfl (Q.fa (n := 2) Try.runUnderlying26 rfl rfl Try.sizeOf9 rfl) ?_
        refine J.q rfl rfl (Q.ld Try.isAgg9 rfl (by first | exact Reads.pt 0 rfl rfl | exact Reads.pt 1 rfl rfl | exact Reads.pt 2 rfl rfl | exact Reads.pt 3 rfl rfl | exact Reads.pt 4 rfl rfl | exact Reads.pt 5 rfl rfl | exact Reads.pt 6 rfl rfl | exact Reads.pt 7 rfl rfl | exact Reads.pt 8 rfl rfl | exact Reads.pt 9 rfl rfl | exact Reads.pt 10 rfl rfl | exact Reads.pt 11 rfl rfl | exact Reads.pt 12 rfl rfl | exact Reads.pt 13 rfl rfl)) ?_
        refine J.call Try.call16 (objects_spec m M hM hK hk x.o.bucket) [2] rfl rfl rfl rfl ?_
        rintro _ _ ⟨p17, c17, rfl, rfl⟩
        refine J.norm rfl ?_
        obtain ⟨ks, hks⟩ : ∃ ks, ks = keysM M x.o.bucket := ⟨_, rfl⟩
        rw [← hks]
        have hkl : ks.length ≤ 1048576 := by rw [hks, hke, List.length_map]; omega
        have hlst : listed x.o objs = ks.filter (lsel x.o) := by rw [hks, hke]; rfl
        refine J.unpack 3 rfl rfl ?_
        refine J.norm rfl ?_
        refine J.slr1 2 rfl fun hs17 => ?_
        refine J.q rfl rfl (Q.lenSl Try.runUnderlying39 rfl) ?_
        refine J.q rfl rfl (Q.mv rfl) ?_
        refine J.nil ?_
        refine J.then_n ?_
        refine J.block ?_
        refine J.loop (fun w : Nat × Option Addr × Nat => w.1 ≤ ks.length ∧ ((ks.take w.1).filter (lsel x.o)).length ≤ x.o.n.toNat) (fun w => ks.length - w.1) (fun w => [(3, .pointer (some ⟨b3, 0, none⟩)), (4, .pointer (some ⟨b4, 0, none⟩)), (5, .pointer (some ⟨b5, 0, none⟩)), (17, .slice p17 ks.length c17), (18, .int .i64 ks.length), (19, .int .i64 w.1)])
          (fun w => [own 9 1 (.slice w.2.1 ((ks.take w.1).filter (lsel x.o)).length w.2.2) (((ks.take w.1).filter (lsel x.o)).map Value.string), own 5 1 (.slice dp 0 dc) [], own 9 1 (.slice p17 ks.length c17) (ks.map Value.string), BktAt m M, pt b5 (.cells [Value.int .i64 200, .int .u64 0, .slice w.2.1 ((ks.take w.1).filter (lsel x.o)).length w.2.2, .bool false, .slice dp 0 dc].toArray 41 (0, 0)), pt b4 (.cells [Value.int .i64 0, .int .u64 0, .slice none 0 0, .bool false, .slice none 0 0].toArray 41 (0, 0)), pt b3 (.cells x.cells.toArray 26 (0, 0)), G, F]) (0, kp, kc) ⟨Nat.zero_le _, Nat.zero_le _⟩ ⟨rfl, rfl, rfl, rfl, rfl, rfl, trivial⟩ rfl fun w hw => ?_
        obtain ⟨j, pa, ca⟩ := w
        obtain ⟨hj, ha⟩ := hw
        dsimp only at hj ha
        refine J.seq ?_
        refine J.region ?_
        refine J.q rfl rfl (Q.lss rfl rfl) ?_
        refine J.nil ?_
        refine J.then_n ?_
        refine J.seq ?_
        refine J.cases 20 rfl (fun hc20 => ?_) (fun hc20 => ?_)
        ·
          first | replace hc20 := X.tt_dec hc20 | replace hc20 := X.tt_not hc20 | replace hc20 := X.ff_dec hc20 | replace hc20 := X.ff_not hc20 | skip
          try (first | (cases hc20; done) | (exfalso; simp at hc20; done))
          all_goals
            refine J.cond_t rfl ?_
            refine J.cskip ?_
            refine J.then_n ?_
            refine J.seq ?_
            refine J.block ?_
            refine J.seq ?_
            obtain ⟨bb, ob, hpp, hrd⟩ := hs17.some_ (by omega)
            obtain ⟨a, hka⟩ : ∃ a, ks[j]? = some a := ⟨_, List.getElem?_eq_getElem (by omega)⟩
            have hft := filter_take (p := lsel x.o) hka
            refine J.slot 17 (.slice (some ⟨bb, ob, none⟩) ks.length c17) rfl (by rw [hpp]) ?_
            refine J.region ?_
            refine J.q rfl rfl (Q.ia Try.runUnderlying39 Try.sizeOf9 rfl rfl (by omega) (by omega)) ?_
            refine J.q rfl rfl (Q.ld Try.isAgg9 rfl (((hrd j (.string a) (by simp [hka])).within (i := 2) rfl).cast (by simp))) ?_
            refine J.q rfl rfl (Q.asg rfl) ?_
            refine J.nil ?_
            refine J.then_n ?_
            refine J.seq ?_
            refine J.seq ?_
            refine J.region ?_
            refine J.q rfl rfl (Q.mv rfl) ?_
            refine J.q rfl rfl (Q.fa (n := 3) Try.runUnderlying26 rfl rfl Try.sizeOf9 rfl) ?_
            refine J.q rfl rfl (Q.ld Try.isAgg9 rfl (by first | exact Reads.pt 0 rfl rfl | exact Reads.pt 1 rfl rfl | exact Reads.pt 2 rfl rfl | exact Reads.pt 3 rfl rfl | exact Reads.pt 4 rfl rfl | exact Reads.pt 5 rfl rfl | exact Reads.pt 6 rfl rfl | exact Reads.pt 7 rfl rfl | exact Reads.pt 8 rfl rfl | exact Reads.pt 9 rfl rfl | exact Reads.pt 10 rfl rfl | exact Reads.pt 11 rfl rfl | exact Reads.pt 12 rfl rfl | exact Reads.pt 13 rfl rfl)) ?_
            refine J.call Try.call47 (hasPrefix_spec a x.o.key) [] rfl rfl rfl rfl ?_
            rintro _ _ ⟨rfl, rfl⟩
            refine J.norm rfl ?_
            refine J.q rfl rfl (Q.not rfl) ?_
            refine J.q rfl rfl (Q.mv rfl) ?_
            refine J.cases 28 rfl (fun hb28 => ?_) (fun hb28 => ?_)
            ·
              first | replace hb28 := X.tt_dec hb28 | replace hb28 := X.tt_not hb28 | replace hb28 := X.ff_dec hb28 | replace hb28 := X.ff_not hb28 | skip
              try (first | (cases hb28; done) | (exfalso; simp at hb28; done))
              all_goals
                refine J.skip rfl rfl ?_
                refine J.skip rfl rfl ?_
                refine J.skip rfl rfl ?_
                refine J.skip rfl rfl ?_
                refine J.q rfl rfl (Q.pick_t rfl rfl) ?_
                refine J.nil ?_
                refine J.then_n ?_
                refine J.cond_t rfl ?_
                refine J.exit ?_
                refine J.then_x ?_
                refine J.blk_x ?_
                refine J.then_n ?_
                refine J.region ?_
                refine J.q rfl rfl (Q.add64 rfl rfl (by omega)) ?_
                refine J.q rfl rfl (Q.mv rfl) ?_
                refine J.nil ?_
                have hsel : lsel x.o a = false := by unfold lsel; first | (have h1 := hb28; have h2 : ltB x.o.after a = false := decide_eq_false hc33; revert h1 h2; cases beg a x.o.key <;> cases ltB x.o.after a <;> decide) | (have h1 := hb28; revert h1; cases beg a x.o.key <;> cases ltB x.o.after a <;> decide)
                rw [hsel] at hft
                simp only [Bool.false_eq_true, if_false, List.append_nil] at hft
                refine J.again (j + 1, pa, ca) ⟨by show j + 1 ≤ _; omega, by show ((ks.take (j + 1)).filter (lsel x.o)).length ≤ _; rw [hft]; exact ha⟩ (by show ks.length - (j + 1) < ks.length - j; omega) ⟨rfl, rfl, rfl, (by show _ = some (Value.slice p17 _ _); rw [hpp]; rfl), rfl, rfl, trivial⟩ ?_
                show _ = [own 9 1 (.slice pa ((ks.take (j + 1)).filter (lsel x.o)).length ca) (((ks.take (j + 1)).filter (lsel x.o)).map Value.string), _, _, _, pt b5 (.cells [Value.int .i64 200, .int .u64 0, .slice pa ((ks.take (j + 1)).filter (lsel x.o)).length ca, .bool false, .slice dp 0 dc].toArray 41 (0, 0)), _, _, _, _]
                rw [hft]
            ·
              first | replace hb28 := X.tt_dec hb28 | replace hb28 := X.tt_not hb28 | replace hb28 := X.ff_dec hb28 | replace hb28 := X.ff_not hb28 | skip
              try (first | (cases hb28; done) | (exfalso; simp at hb28; done))
              all_goals
                refine J.q rfl rfl (Q.mv rfl) ?_
                refine J.q rfl rfl (Q.fa (n := 4) Try.runUnderlying26 rfl rfl Try.sizeOf9 rfl) ?_
                refine J.q rfl rfl (Q.ld Try.isAgg9 rfl (by first | exact Reads.pt 0 rfl rfl | exact Reads.pt 1 rfl rfl | exact Reads.pt 2 rfl rfl | exact Reads.pt 3 rfl rfl | exact Reads.pt 4 rfl rfl | exact Reads.pt 5 rfl rfl | exact Reads.pt 6 rfl rfl | exact Reads.pt 7 rfl rfl | exact Reads.pt 8 rfl rfl | exact Reads.pt 9 rfl rfl | exact Reads.pt 10 rfl rfl | exact Reads.pt 11 rfl rfl | exact Reads.pt 12 rfl rfl | exact Reads.pt 13 rfl rfl)) ?_
                refine J.q rfl rfl (leqs rfl rfl) ?_
                refine J.q rfl rfl (Q.pick_f rfl rfl) ?_
                refine J.nil ?_
                refine J.then_n ?_
                refine J.cases 33 rfl (fun hc33 => ?_) (fun hc33 => ?_)
                ·
                  first | replace hc33 := X.tt_dec hc33 | replace hc33 := X.tt_not hc33 | replace hc33 := X.ff_dec hc33 | replace hc33 := X.ff_not hc33 | skip
                  try (first | (cases hc33; done) | (exfalso; simp at hc33; done))
                  all_goals
                    refine J.cond_t rfl ?_
                    refine J.exit ?_
                    refine J.then_x ?_
                    refine J.blk_x ?_
                    refine J.then_n ?_
                    refine J.region ?_
                    refine J.q rfl rfl (Q.add64 rfl rfl (by omega)) ?_
                    refine J.q rfl rfl (Q.mv rfl) ?_
                    refine J.nil ?_
                    have hsel : lsel x.o a = false := by unfold lsel; first | (have h1 := hb28; have h2 : ltB x.o.after a = false := decide_eq_false hc33; revert h1 h2; cases beg a x.o.key <;> cases ltB x.o.after a <;> decide) | (have h1 := hb28; revert h1; cases beg a x.o.key <;> cases ltB x.o.after a <;> decide)
                    rw [hsel] at hft
                    simp only [Bool.false_eq_true, if_false, List.append_nil] at hft
                    refine J.again (j + 1, pa, ca) ⟨by show j + 1 ≤ _; omega, by show ((ks.take (j + 1)).filter (lsel x.o)).length ≤ _; rw [hft]; exact ha⟩ (by show ks.length - (j + 1) < ks.length - j; omega) ⟨rfl, rfl, rfl, (by show _ = some (Value.slice p17 _ _); rw [hpp]; rfl), rfl, rfl, trivial⟩ ?_
                    show _ = [own 9 1 (.slice pa ((ks.take (j + 1)).filter (lsel x.o)).length ca) (((ks.take (j + 1)).filter (lsel x.o)).map Value.string), _, _, _, pt b5 (.cells [Value.int .i64 200, .int .u64 0, .slice pa ((ks.take (j + 1)).filter (lsel x.o)).length ca, .bool false, .slice dp 0 dc].toArray 41 (0, 0)), _, _, _, _]
                    rw [hft]
                ·
                  first | replace hc33 := X.tt_dec hc33 | replace hc33 := X.tt_not hc33 | replace hc33 := X.ff_dec hc33 | replace hc33 := X.ff_not hc33 | skip
                  try (first | (cases hc33; done) | (exfalso; simp at hc33; done))
                  all_goals
                    refine J.cond_f rfl ?_
                    refine J.cskip ?_
                    refine J.then_n ?_
                    refine J.seq ?_
                    refine J.seq ?_
                    refine J.region ?_
                    refine J.q rfl rfl (Q.fa (n := 2) Try.runUnderlying41 rfl rfl Try.sizeOf39 rfl) ?_
                    refine J.q rfl rfl (Q.ld Try.isAgg39 rfl (by first | exact Reads.pt 0 rfl rfl | exact Reads.pt 1 rfl rfl | exact Reads.pt 2 rfl rfl | exact Reads.pt 3 rfl rfl | exact Reads.pt 4 rfl rfl | exact Reads.pt 5 rfl rfl | exact Reads.pt 6 rfl rfl | exact Reads.pt 7 rfl rfl | exact Reads.pt 8 rfl rfl | exact Reads.pt 9 rfl rfl | exact Reads.pt 10 rfl rfl | exact Reads.pt 11 rfl rfl | exact Reads.pt 12 rfl rfl | exact Reads.pt 13 rfl rfl)) ?_
                    refine J.q rfl rfl (Q.lenSl Try.runUnderlying39 rfl) ?_
                    refine J.q rfl rfl (Q.fa (n := 5) Try.runUnderlying26 rfl rfl Try.sizeOf3 rfl) ?_
                    refine J.q rfl rfl (Q.ld Try.isAgg3 rfl (by first | exact Reads.pt 0 rfl rfl | exact Reads.pt 1 rfl rfl | exact Reads.pt 2 rfl rfl | exact Reads.pt 3 rfl rfl | exact Reads.pt 4 rfl rfl | exact Reads.pt 5 rfl rfl | exact Reads.pt 6 rfl rfl | exact Reads.pt 7 rfl rfl | exact Reads.pt 8 rfl rfl | exact Reads.pt 9 rfl rfl | exact Reads.pt 10 rfl rfl | exact Reads.pt 11 rfl rfl | exact Reads.pt 12 rfl rfl | exact Reads.pt 13 rfl rfl)) ?_
                    refine J.q rfl rfl (Q.eql rfl rfl) ?_
                    refine J.q rfl rfl (Q.fa (n := 3) Try.runUnderlying41 rfl rfl Try.sizeOf4 rfl) ?_
                    first | refine J.st (i := 0) rfl Try.sizeOf4 rfl rfl rfl rfl rfl rfl rfl ?_ | refine J.st (i := 1) rfl Try.sizeOf4 rfl rfl rfl rfl rfl rfl rfl ?_ | refine J.st (i := 2) rfl Try.sizeOf4 rfl rfl rfl rfl rfl rfl rfl ?_ | refine J.st (i := 3) rfl Try.sizeOf4 rfl rfl rfl rfl rfl rfl rfl ?_ | refine J.st (i := 4) rfl Try.sizeOf4 rfl rfl rfl rfl rfl rfl rfl ?_ | refine J.st (i := 5) rfl Try.sizeOf4 rfl rfl rfl rfl rfl rfl rfl ?_ | refine J.st (i := 6) rfl Try.sizeOf4 rfl rfl rfl rfl rfl rfl rfl ?_ | refine J.st (i := 7) rfl Try.sizeOf4 rfl rfl rfl rfl rfl rfl rfl ?_ | refine J.st (i := 8) rfl Try.sizeOf4 rfl rfl rfl rfl rfl rfl rfl ?_ | refine J.st (i := 9) rfl Try.sizeOf4 rfl rfl rfl rfl rfl rfl rfl ?_ | refine J.st (i := 10) rfl Try.sizeOf4 rfl rfl rfl rfl rfl rfl rfl ?_ | refine J.st (i := 11) rfl Try.sizeOf4 rfl rfl rfl rfl rfl rfl rfl ?_ | refine J.st (i := 12) rfl Try.sizeOf4 rfl rfl rfl rfl rfl rfl rfl ?_ | refine J.st (i := 13) rfl Try.sizeOf4 rfl rfl rfl rfl rfl rfl rfl ?_ | refine J.st (i := 14) rfl Try.sizeOf4 rfl rfl rfl rfl rfl rfl rfl ?_ | refine J.st (i := 15) rfl Try.sizeOf4 rfl rfl rfl rfl rfl rfl rfl ?_
                    refine J.nil ?_
                    refine J.then_n ?_
                    refine J.seq ?_
                    refine J.region ?_
                    refine J.q rfl rfl (Q.fa (n := 3) Try.runUnderlying41 rfl rfl Try.sizeOf4 rfl) ?_
                    refine J.q rfl rfl (Q.ld Try.isAgg4 rfl (by first | exact Reads.pt 0 rfl rfl | exact Reads.pt 1 rfl rfl | exact Reads.pt 2 rfl rfl | exact Reads.pt 3 rfl rfl | exact Reads.pt 4 rfl rfl | exact Reads.pt 5 rfl rfl | exact Reads.pt 6 rfl rfl | exact Reads.pt 7 rfl rfl | exact Reads.pt 8 rfl rfl | exact Reads.pt 9 rfl rfl | exact Reads.pt 10 rfl rfl | exact Reads.pt 11 rfl rfl | exact Reads.pt 12 rfl rfl | exact Reads.pt 13 rfl rfl)) ?_
                    refine J.nil ?_
                    refine J.then_n ?_
                    refine J.cases 42 rfl (fun hc42 => ?_) (fun hc42 => ?_)
                    ·
                      first | replace hc42 := X.tt_dec hc42 | replace hc42 := X.tt_not hc42 | replace hc42 := X.ff_dec hc42 | replace hc42 := X.ff_not hc42 | skip
                      try (first | (cases hc42; done) | (exfalso; simp at hc42; done))
                      all_goals
                        refine J.cond_t rfl ?_
                        refine J.exit ?_
                        refine J.then_x ?_
                        refine J.blk_o rfl ?_
                        refine J.then_x ?_
                        refine J.lp_x ?_
                        refine J.blk_x ?_
                        have hsel : lsel x.o a = true := by unfold lsel; first | (have h1 := hb28; have h2 : ltB x.o.after a = true := decide_eq_true hc33; revert h1 h2; cases beg a x.o.key <;> cases ltB x.o.after a <;> decide) | (have h1 := hb28; revert h1; cases beg a x.o.key <;> cases ltB x.o.after a <;> decide)
                        obtain ⟨r, hr⟩ := filter_more hka hsel
                        have hdt := decide_eq_true hc42
                        dsimp only at hc42
                        have hal : ((ks.take j).filter (lsel x.o)).length = x.o.n.toNat := by omega
                        refine J.keep [0, 1, 3, 4, 5, 7, 8] rfl ?_
                        refine J.meet ((ks.take j).filter (lsel x.o), pa, ca, true) ⟨?_, ?_⟩ ⟨rfl, rfl, trivial⟩ ?_
                        · show _ = List.take _ _
                          rw [hlst, hr, ← hal, List.take_left]
                        · show true = _
                          rw [hlst, hr, ← hal, List.length_append, List.length_cons]
                          simp
                        · rw [hdt]
                    ·
                      first | replace hc42 := X.tt_dec hc42 | replace hc42 := X.tt_not hc42 | replace hc42 := X.ff_dec hc42 | replace hc42 := X.ff_not hc42 | skip
                      try (first | (cases hc42; done) | (exfalso; simp at hc42; done))
                      all_goals
                        refine J.cond_f rfl ?_
                        refine J.cskip ?_
                        refine J.then_n ?_
                        refine J.region ?_
                        refine J.q rfl rfl (Q.fa (n := 2) Try.runUnderlying41 rfl rfl Try.sizeOf39 rfl) ?_
                        refine J.q rfl rfl (Q.ld Try.isAgg39 rfl (by first | exact Reads.pt 0 rfl rfl | exact Reads.pt 1 rfl rfl | exact Reads.pt 2 rfl rfl | exact Reads.pt 3 rfl rfl | exact Reads.pt 4 rfl rfl | exact Reads.pt 5 rfl rfl | exact Reads.pt 6 rfl rfl | exact Reads.pt 7 rfl rfl | exact Reads.pt 8 rfl rfl | exact Reads.pt 9 rfl rfl | exact Reads.pt 10 rfl rfl | exact Reads.pt 11 rfl rfl | exact Reads.pt 12 rfl rfl | exact Reads.pt 13 rfl rfl)) ?_
                        refine J.q rfl rfl (Q.mv rfl) ?_
                        refine J.c rfl rfl (C.bslG (l := [_]) Try.runUnderlying39 Try.sizeOf9 Try.zeroValue9 (by decide) rfl rfl rfl rfl rfl) ?_
                        rintro _ _ ⟨b46, rfl, rfl⟩
                        refine J.norm rfl ?_
                        refine J.conv (Y := own 9 1 (.slice (some ⟨b46, 0, none⟩) 1 1) [.string a]) 0 rfl (own_of_block rfl) ?_
                        refine J.slr1 0 rfl fun hs46 => ?_
                        refine J.c rfl rfl (C.app (i := 1) Try.runUnderlying39 Try.runUnderlying39 Try.typeInfo9 Try.sizeOf9 Try.zeroValue9 rfl rfl rfl (hs46.within (i := 0) rfl) (by intro v hv; simp at hv; subst hv; rfl) (by rw [show Try.t9.bytes = 16 from rfl]; show (_ + 1) * 16 ≤ _; dsimp only; omega) (by decide)) ?_
                        rintro _ _ ⟨p47, c47, rfl, rfl⟩
                        refine J.norm rfl ?_
                        refine J.q rfl rfl (Q.fa (n := 2) Try.runUnderlying41 rfl rfl Try.sizeOf39 rfl) ?_
                        first | refine J.st (i := 0) rfl Try.sizeOf39 rfl rfl rfl rfl rfl rfl rfl ?_ | refine J.st (i := 1) rfl Try.sizeOf39 rfl rfl rfl rfl rfl rfl rfl ?_ | refine J.st (i := 2) rfl Try.sizeOf39 rfl rfl rfl rfl rfl rfl rfl ?_ | refine J.st (i := 3) rfl Try.sizeOf39 rfl rfl rfl rfl rfl rfl rfl ?_ | refine J.st (i := 4) rfl Try.sizeOf39 rfl rfl rfl rfl rfl rfl rfl ?_ | refine J.st (i := 5) rfl Try.sizeOf39 rfl rfl rfl rfl rfl rfl rfl ?_ | refine J.st (i := 6) rfl Try.sizeOf39 rfl rfl rfl rfl rfl rfl rfl ?_ | refine J.st (i := 7) rfl Try.sizeOf39 rfl rfl rfl rfl rfl rfl rfl ?_ | refine J.st (i := 8) rfl Try.sizeOf39 rfl rfl rfl rfl rfl rfl rfl ?_ | refine J.st (i := 9) rfl Try.sizeOf39 rfl rfl rfl rfl rfl rfl rfl ?_ | refine J.st (i := 10) rfl Try.sizeOf39 rfl rfl rfl rfl rfl rfl rfl ?_ | refine J.st (i := 11) rfl Try.sizeOf39 rfl rfl rfl rfl rfl rfl rfl ?_ | refine J.st (i := 12) rfl Try.sizeOf39 rfl rfl rfl rfl rfl rfl rfl ?_ | refine J.st (i := 13) rfl Try.sizeOf39 rfl rfl rfl rfl rfl rfl rfl ?_ | refine J.st (i := 14) rfl Try.sizeOf39 rfl rfl rfl rfl rfl rfl rfl ?_ | refine J.st (i := 15) rfl Try.sizeOf39 rfl rfl rfl rfl rfl rfl rfl ?_
                        refine J.nil ?_
                        refine J.blk_n ?_
                        refine J.then_n ?_
                        refine J.region ?_
                        refine J.q rfl rfl (Q.add64 rfl rfl (by omega)) ?_
                        refine J.q rfl rfl (Q.mv rfl) ?_
                        refine J.nil ?_
                        have hsel : lsel x.o a = true := by unfold lsel; first | (have h1 := hb28; have h2 : ltB x.o.after a = true := decide_eq_true hc33; revert h1 h2; cases beg a x.o.key <;> cases ltB x.o.after a <;> decide) | (have h1 := hb28; revert h1; cases beg a x.o.key <;> cases ltB x.o.after a <;> decide)
                        have e1 : (ks.take (j + 1)).filter (lsel x.o) = (ks.take j).filter (lsel x.o) ++ [a] := by rw [hft, hsel]; rfl
                        have hdf := decide_eq_false hc42
                        refine J.keep [1, 2, 3, 4, 5, 6, 7, 8, 9] rfl ?_
                        refine J.again (j + 1, p47, c47) ⟨by show j + 1 ≤ _; omega, by show ((ks.take (j + 1)).filter (lsel x.o)).length ≤ _; rw [e1, List.length_append]; dsimp only at hc42; simp only [List.length_cons, List.length_nil]; omega⟩ (by show ks.length - (j + 1) < ks.length - j; omega) ⟨rfl, rfl, rfl, (by show _ = some (Value.slice p17 _ _); rw [hpp]; rfl), rfl, rfl, trivial⟩ ?_
                        show _ = [own 9 1 (.slice p47 ((ks.take (j + 1)).filter (lsel x.o)).length c47) (((ks.take (j + 1)).filter (lsel x.o)).map Value.string), _, _, _, pt b5 (.cells [Value.int .i64 200, .int .u64 0, .slice p47 ((ks.take (j + 1)).filter (lsel x.o)).length c47, .bool false, .slice dp 0 dc].toArray 41 (0, 0)), _, _, _, _]
                        rw [e1, List.length_append, List.map_append, hdf]
                        rfl
        ·
          first | replace hc20 := X.tt_dec hc20 | replace hc20 := X.tt_not hc20 | replace hc20 := X.ff_dec hc20 | replace hc20 := X.ff_not hc20 | skip
          try (first | (cases hc20; done) | (exfalso; simp at hc20; done))
          all_goals
            refine J.cond_f rfl ?_
            refine J.exit ?_
            refine J.then_x ?_
            refine J.lp_x ?_
            refine J.blk_x ?_
            have hjn : j = ks.length := by omega
            subst hjn
            rw [List.take_length] at ha ⊢
            refine J.keep [0, 1, 3, 4, 5, 7, 8] rfl ?_
            refine J.meet (ks.filter (lsel x.o), pa, ca, false) ⟨?_, ?_⟩ ⟨rfl, rfl, trivial⟩ rfl
            · show _ = List.take _ _
              rw [hlst, List.take_of_length_le ha]
            · show false = _
              rw [hlst]
              simp; omega
      ·
        obtain ⟨kl, pk, ck, more⟩ := w
        obtain ⟨h1, h2⟩ := hw
        dsimp only at h1 h2
        refine J.seq ?_
        refine J.region ?_
        refine J.q rfl rfl (Q.ldN (vs := [_, _, _, _, _]) Try.isAgg41 Try.sizeOf41 rfl (by first | exact ReadsN.pt 0 rfl | exact ReadsN.pt 1 rfl | exact ReadsN.pt 2 rfl | exact ReadsN.pt 3 rfl | exact ReadsN.pt 4 rfl | exact ReadsN.pt 5 rfl | exact ReadsN.pt 6 rfl | exact ReadsN.pt 7 rfl | exact ReadsN.pt 8 rfl | exact ReadsN.pt 9 rfl | exact ReadsN.pt 10 rfl | exact ReadsN.pt 11 rfl | exact ReadsN.pt 12 rfl | exact ReadsN.pt 13 rfl)) ?_
        first | refine J.c0 rfl (C.stA (i := 0) (vs := [_, _, _, _, _]) Try.sizeOf41 rfl rfl rfl rfl rfl rfl) ?_ | refine J.c0 rfl (C.stA (i := 1) (vs := [_, _, _, _, _]) Try.sizeOf41 rfl rfl rfl rfl rfl rfl) ?_ | refine J.c0 rfl (C.stA (i := 2) (vs := [_, _, _, _, _]) Try.sizeOf41 rfl rfl rfl rfl rfl rfl) ?_ | refine J.c0 rfl (C.stA (i := 3) (vs := [_, _, _, _, _]) Try.sizeOf41 rfl rfl rfl rfl rfl rfl) ?_ | refine J.c0 rfl (C.stA (i := 4) (vs := [_, _, _, _, _]) Try.sizeOf41 rfl rfl rfl rfl rfl rfl) ?_ | refine J.c0 rfl (C.stA (i := 5) (vs := [_, _, _, _, _]) Try.sizeOf41 rfl rfl rfl rfl rfl rfl) ?_ | refine J.c0 rfl (C.stA (i := 6) (vs := [_, _, _, _, _]) Try.sizeOf41 rfl rfl rfl rfl rfl rfl) ?_ | refine J.c0 rfl (C.stA (i := 7) (vs := [_, _, _, _, _]) Try.sizeOf41 rfl rfl rfl rfl rfl rfl) ?_ | refine J.c0 rfl (C.stA (i := 8) (vs := [_, _, _, _, _]) Try.sizeOf41 rfl rfl rfl rfl rfl rfl) ?_ | refine J.c0 rfl (C.stA (i := 9) (vs := [_, _, _, _, _]) Try.sizeOf41 rfl rfl rfl rfl rfl rfl) ?_ | refine J.c0 rfl (C.stA (i := 10) (vs := [_, _, _, _, _]) Try.sizeOf41 rfl rfl rfl rfl rfl rfl) ?_ | refine J.c0 rfl (C.stA (i := 11) (vs := [_, _, _, _, _]) Try.sizeOf41 rfl rfl rfl rfl rfl rfl) ?_ | refine J.c0 rfl (C.stA (i := 12) (vs := [_, _, _, _, _]) Try.sizeOf41 rfl rfl rfl rfl rfl rfl) ?_ | refine J.c0 rfl (C.stA (i := 13) (vs := [_, _, _, _, _]) Try.sizeOf41 rfl rfl rfl rfl rfl rfl) ?_ | refine J.c0 rfl (C.stA (i := 14) (vs := [_, _, _, _, _]) Try.sizeOf41 rfl rfl rfl rfl rfl rfl) ?_ | refine J.c0 rfl (C.stA (i := 15) (vs := [_, _, _, _, _]) Try.sizeOf41 rfl rfl rfl rfl rfl rfl) ?_
        rintro _ _ ⟨rfl, rfl⟩
        refine J.nil ?_
        refine J.then_n ?_
        refine J.cret ?_
        refine J.pack [0, 1] rfl ?_
        refine J.retC [1, 0, 4, 5] (vs := [_, _, _, _, _]) rfl rfl Try.isAgg41 Try.sizeOf41 (ReadsN.pt 3 rfl) rfl (B := [_, _, _]) ⟨⟨⟨200, 0, kl, more, []⟩, pk, ck, dp, dc⟩, rfl, ?_, rfl⟩
        rw [h1, h2]
theorem list_spec : FSpec Try.prog 38 [.pointer (some ⟨m, 0, none⟩), .agg x.cells.toArray] [BktAt m M, G] (ActR m G (M.list x.o)) := by
  unfold BM.list
  cases hB : sget x.o.bucket M.buckets with
  | none => exact list_no m M hM hK hk x G hx hc h6 hB
  | some objs => exact list_yes m M hM hK hk x G hx hc h6 hB
end

/-- Each op, whatever its kind. -/
theorem do_all {k : Nat} (m : Nat) (M : BM) (hM : M.ok k) (hK : M.kok) (hk : k ≤ 1048576) (x : OW) (G : Assn) (hx : x.ok G) : FSpec Try.prog 13 [.pointer (some ⟨m, 0, none⟩), .agg x.cells.toArray] [BktAt m M, G] (ActR m G (M.run x.o)) :=
  do_spec m M hM x G hx fun hc => hasAct m M hM x G hx hc fun h6 => list_spec m M hM hK hk x G hx hc h6
end Go.Proofs.Ytdancegklkifaaa
