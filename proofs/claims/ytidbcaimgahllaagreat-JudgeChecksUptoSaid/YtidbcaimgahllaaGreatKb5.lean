/-
  What the proof of the last of these texts leans on: part 5 of 7.
-/
import Derived.KernelRfl
import Derived.ProofKit
import Derived.OpenShut
import Derived.ShutString
import Derived.ChangeOld
import Derived.Below
import Derived.WideShapes
import Derived.ChangeArms
import Derived.Test.YtidbcaimgahllaaGreatKb4
set_option linter.unusedSectionVars false
set_option linter.unusedVariables false
set_option linter.unusedSimpArgs false
namespace Go.Proofs.YtidbcaimgahllaaGreat
open Go.Proofs.Tryz
open Go.X
open Go.X.G (Ord3 ord3_nat ord3_int ord3_str ltB sget sput sdel Srtd)

theorem ins_cells {α : Type} {cl : α → List Value} {sz : Nat} (hc : ∀ x, (cl x).length = sz) {l : List α} {i : Nat} {x : α} : [] ++ (l.flatMap cl).take (i * sz) ++ cl x ++ (l.flatMap cl).drop (i * sz) = (l.take i ++ x :: l.drop i).flatMap cl := by
  rw [flat_take hc, flat_drop hc]; simp
theorem cut_cells {α : Type} {cl : α → List Value} {sz : Nat} (hc : ∀ x, (cl x).length = sz) {l : List α} {i : Nat} : [] ++ (l.flatMap cl).take (i * sz) ++ (l.flatMap cl).drop ((i + 1) * sz) = (l.eraseIdx i).flatMap cl := by
  rw [flat_take hc, flat_drop hc, List.eraseIdx_eq_take_drop_succ]; simp
theorem ins_len {α : Type} {l : List α} {i : Nat} {x : α} (hi : i ≤ l.length) : 0 + i + 1 + (l.length - i) = (l.take i ++ x :: l.drop i).length := by simp; omega
theorem cut_len {α : Type} {l : List α} {i : Nat} (hi : i < l.length) : 0 + i + (l.length - (i + 1)) = (l.eraseIdx i).length := by rw [List.length_eraseIdx]; split <;> omega
theorem map_ins {α β : Type} {f : α → β} {l : List α} {i : Nat} {x : α} : (l.take i ++ x :: l.drop i).map f = (l.map f).take i ++ f x :: (l.map f).drop i := by rw [List.map_append, List.map_cons, List.map_take, List.map_drop]
theorem map_cut {α β : Type} {f : α → β} {l : List α} {i : Nat} : (l.eraseIdx i).map f = (l.map f).eraseIdx i := by rw [List.eraseIdx_eq_take_drop_succ, List.eraseIdx_eq_take_drop_succ, List.map_append, List.map_take, List.map_drop]
theorem two_nil {E F : Nat} : star [own E F (.slice none 0 0) [], star []] (fun _ => none) :=
  ⟨fun _ => none, fun _ => none, own.nil _ _ _, ⟨fun _ => none, fun _ => none, trivial, trivial, fun _ => .inl rfl, Sub.refl _, Sub.refl _⟩, fun _ => .inl rfl, Sub.refl _, Sub.refl _⟩

abbrev bareV (r : RM) : Value := .agg [.int .i64 r.status, .int .u64 r.upload, .slice none 0 0, .bool false, .slice none 0 0].toArray
theorem ris_spec (n : Int) : FSpec Tryz.prog 30 [.int .i64 n] [] (fun v B => v = bareV (st n) ∧ B = []) := by
  refine FSpec.of func30 rfl ntmps30 rfl fun W0 F => ?_
  refine J.seq <| J.region ?_
  refine J.c rfl rfl (C.alloc (l := [_, _, _, _, _]) zeroValue44 rfl) ?_
  rintro _ _ ⟨b2, rfl, rfl⟩
  refine J.norm rfl <| J.nil <| J.then_n <| J.seq <| J.region <| J.m rfl <| J.p rfl (Q.bld (l := [_, _, _, _, _]) runUnderlying44 zeroValue44 places44 rfl rfl) ?_
  refine J.stAJ (vs := [_, _, _, _, _]) rfl sizeOf44 rfl rfl ?_
  refine J.nil <| J.then_n <| J.cret ?_
  refine J.retCI (vs := [_, _, _, _, _]) [] rfl rfl isAgg44 sizeOf44 rnI ⟨rfl, rfl⟩
theorem rbegins_spec (s p : ByteArray) : FSpec Tryz.prog 79 [.string s, .string p] [] (fun v B => v = .bool (beg s p) ∧ B = []) := by
  refine FSpec.of func79 rfl ntmps79 rfl fun W0 F => ?_
  refine J.seq <| J.region <| J.p rfl (Q.asg rfl) <| J.nil <| J.then_n <| J.seq <| J.region <| J.m rfl <| J.p rfl (Q.lenS runUnderlying9 rfl) <| J.m rfl <| J.p rfl (Q.lenS runUnderlying9 rfl) <| J.p rfl (Q.geq rfl rfl) <| J.m rfl ?_
  refine J.kases 10 rfl (fun hb10 => ?_) (fun hb10 => ?_)
  ·
   refine J.m rfl <| J.m rfl <| J.p rfl (Q.lenS runUnderlying9 rfl) <| J.p rfl (Q.strH runUnderlying9 rfl rfl (by omega) (by omega)) <| J.m rfl <| J.p rfl (Q.eqls rfl rfl) <| J.p rfl (Q.pick_t rfl rfl) <| J.p rfl (Q.asg rfl) <| J.nil <| J.then_n <| J.cret ?_
   refine J.ret1 (B := []) rfl rfl ⟨?_, rfl⟩ rfl
   unfold beg
   first
     | (rw [decide_eq_true (show p.size ≤ s.size by omega)]; simp only [Bool.true_and, Int.toNat_natCast]; done)
     | (rw [decide_eq_true (show p.size ≤ s.size by omega)]; rfl)
     | (rw [decide_eq_false (show ¬ p.size ≤ s.size by omega)]; rfl)
  refine J.k rfl <| J.k rfl <| J.k rfl <| J.k rfl <| J.k rfl <| J.k rfl <| J.p rfl (Q.pick_f rfl rfl) <| J.p rfl (Q.asg rfl) <| J.nil <| J.then_n <| J.cret ?_
  refine J.ret1 (B := []) rfl rfl ⟨?_, rfl⟩ rfl
  unfold beg
  first
    | (rw [decide_eq_true (show p.size ≤ s.size by omega)]; simp only [Bool.true_and, Int.toNat_natCast]; done)
    | (rw [decide_eq_true (show p.size ≤ s.size by omega)]; rfl)
    | (rw [decide_eq_false (show ¬ p.size ≤ s.size by omega)]; rfl)
theorem rnew_spec : FSpec Tryz.prog 11 [] [] (fun v B => ∃ m, v = .pointer (some ⟨m, 0, none⟩) ∧ B = [RefAt m ⟨[], [], []⟩]) := by
  refine FSpec.of func11 rfl ntmps11 rfl fun W0 F => ?_
  refine J.seq <| J.region <| J.p rfl (Q.asg rfl) <| J.nil <| J.then_n <| J.seq <| J.region <| J.p rfl (Q.bld (l := [_, _, _]) runUnderlying98 zeroValue98 places98 rfl rfl) ?_
  refine J.c rfl rfl (C.box (l := [_, _, _]) rfl rfl) ?_
  rintro _ _ ⟨b2, rfl, rfl⟩
  refine J.norm rfl <| J.p rfl (Q.asg rfl) <| J.nil <| J.then_n <| J.cret ?_
  refine J.give (X := bksO none 0 []) (own.nil _ _ _) ?_
  refine J.give (X := upsO none 0 []) (own.nil _ _ _) ?_
  refine J.give (X := kpsO none 0 []) (own.nil _ _ _) ?_
  refine J.give (X := star (([] : List RBk).map RBk.asn)) trivial ?_
  refine J.give (X := star (([] : List RUp).map RUp.asn)) trivial ?_
  refine J.shut [5, 4, 3, 2, 1, 0] (RefAt b2 ⟨[], [], []⟩) rfl (RefAt.mk (M := ⟨[], [], []⟩) ⟨none, 0, [], none, 0, [], none, 0⟩ ⟨rfl, rfl, by intro p h; cases h⟩) ?_
  refine J.ret1I [RefAt b2 ⟨[], [], []⟩] rfl rfl ⟨b2, rfl, rfl⟩

abbrev refL (m : Nat) (M : BM) (p1 : Option Addr) (c1 : Nat) (bs : List RBk) (p2 : Option Addr) (c2 : Nat) (us : List RUp) (p3 : Option Addr) (c3 : Nat) : List Assn :=
  [refP m (.slice p1 bs.length c1) (.slice p2 us.length c2) (.slice p3 M.done.length c3), bksO p1 c1 bs, upsO p2 c2 us, kpsO p3 c3 M.done, star (bs.map RBk.asn), star (us.map RUp.asn)]
theorem RefAt.of {m : Nat} {M : BM} {p1 : Option Addr} {c1 : Nat} {bs : List RBk} {p2 : Option Addr} {c2 : Nat} {us : List RUp} {p3 : Option Addr} {c3 : Nat} (hb : bs.map RBk.kv = M.buckets) (hu : us.map RUp.kv = M.uploads) (hk : M.bare) :
    ∀ h, HSat h (refL m M p1 c1 bs p2 c2 us p3 c3) → RefAt m M h := RefAt.mk ⟨p1, c1, bs, p2, c2, us, p3, c3⟩ ⟨hb, hu, hk⟩
theorem J.openRef {W0 : World} {N : Nat} {L : Slots} {A D : List Assn} {G : Act → World → Prop} {m : Nat} {M : BM} [h : PickO A (RefAt m M) D]
    (j : ∀ p1 c1 bs p2 c2 us p3 c3, bs.map RBk.kv = M.buckets → us.map RUp.kv = M.uploads → M.bare → J W0 N L (refL m M p1 c1 bs p2 c2 us p3 c3 ++ D) G) : J W0 N L A G :=
  J.openI (RefAt m M) (fun _ h => h) fun y hy => j _ _ _ _ _ _ _ _ hy.b hy.u hy.k
theorem at_map {α β : Type} {f : α → β} {l : List α} {i : Nat} {y : β} (h : (l.map f)[i]? = some y) : ∃ x, l[i]? = some x ∧ f x = y := by
  rw [List.getElem?_map, Option.map_eq_some_iff] at h; exact h

section
variable (m : Nat) (M : BM) (hM : M.lite) (x : OW)
include hM
theorem rmake_spec : FSpec Tryz.prog 33 [.pointer (some ⟨m, 0, none⟩), .agg x.cells.toArray] [RefAt m M] (fun v B => v = bareV (M.make x.o).1 ∧ B = [RefAt m (M.make x.o).2]) := by
  refine FSpec.of func33 rfl ntmps33 rfl fun W0 F => ?_
  refine J.seq <| J.region ?_
  refine J.c rfl rfl (C.box (l := [_, _, _, _, _, _, _, _, _]) rfl rfl) ?_
  rintro _ _ ⟨b3, rfl, rfl⟩
  refine J.norm rfl ?_
  refine J.c rfl rfl (C.alloc (l := [_, _, _, _, _]) zeroValue44 rfl) ?_
  rintro _ _ ⟨b4, rfl, rfl⟩
  refine J.norm rfl <| J.nil <| J.then_n <| J.seq ?_
  refine J.openI (RefAt m M) (fun _ h => h) fun y hy => ?_
  refine J.norm rfl ?_
  have hbs : Srtd ltB (y.bs.map RBk.kv) := by rw [hy.b]; exact hM.bs
  have hus : Srtd ltN (y.us.map RUp.kv) := by rw [hy.u]; exact hM.us
  have hbl := hy.bl
  have hul := hy.ul
  have hlen := hM.len
  refine J.slrI (E0 := 136) (sz := 2) (p := y.p1) (n := y.bs.length) (c := y.c1) (xs := y.bs.flatMap RBk.cells) fun hsb => ?_
  refine J.slrI (E0 := 143) (sz := 4) (p := y.p2) (n := y.us.length) (c := y.c2) (xs := y.us.flatMap RUp.cells) fun hsu => ?_
  refine J.tells 1 rfl own.len fun hcb => ?_
  refine J.tells 2 rfl own.len fun hcu => ?_
  have hcb' : y.bs.length ≤ y.c1 := hcb.2
  have hcu' : y.us.length ≤ y.c2 := hcu.2
  refine J.region <| J.m rfl <| J.p rfl (Q.fa (n := 2) runUnderlying52 rfl rfl sizeOf9 rfl) ?_
  refine J.p rfl (Q.ldI isAgg9 rfl) ?_
  refine J.callI call54 (rbucket_spec m y.p1 y.c1 y.bs (.slice y.p2 y.us.length y.c2) (.slice y.p3 M.done.length y.c3) x.o.bucket hbs (by omega)) rfl rfl rfl ?_
  rintro _ _ ⟨i, rfl, hi, rfl⟩
  refine J.norm rfl ?_
  rw [hy.b] at hi ⊢
  have hle : i ≤ y.bs.length := by have := hi.le; omega
  refine J.m rfl <| J.p rfl (Q.ext rfl rfl) <| J.p rfl (Q.ext rfl rfl) <| J.p rfl (Q.asg rfl) <| J.p rfl (Q.asg rfl) <| J.nil <| J.then_n <| J.seq <| J.seq <| J.region <| J.m rfl <| J.nil <| J.then_n ?_
  refine J.kases 15 rfl (fun hc15 => ?_) (fun hc15 => ?_)
  ·
   refine J.cond_t rfl <| J.seq <| J.region ?_
   refine J.callI call30 (ris_spec 409) rfl rfl rfl ?_
   rintro _ _ ⟨rfl, rfl⟩
   refine J.norm rfl ?_
   refine J.stAJ (vs := [_, _, _, _, _]) rfl sizeOf44 rfl rfl ?_
   refine J.nil <| J.then_n <| J.cret <| J.then_r ?_
   obtain ⟨q, hq⟩ := Option.isSome_iff_exists.1 hc15
   have e : M.make x.o = (st 409, M) := by unfold BM.make; rw [hq]
   refine J.shutI (y.asns m M) (RefAt m M) (RefAt.mk y hy) ?_
   rw [e]
   refine J.retCI (vs := [_, _, _, _, _]) [RefAt m M] rfl rfl isAgg44 sizeOf44 rnI ⟨rfl, rfl⟩
  refine J.cond_f rfl <| J.cskip <| J.then_n ?_
  have hno : sget x.o.bucket M.buckets = none := Option.not_isSome_iff_eq_none.1 (by rw [hc15]; exact Bool.false_ne_true)
  obtain ⟨z, hz⟩ : ∃ z : RBk, z = ⟨x.o.bucket, none, 0, []⟩ := ⟨_, rfl⟩
  refine J.cut (fun _ : Option Addr × Nat => True) (fun w => [(0, .pointer (some ⟨m, 0, none⟩)), (4, .pointer (some ⟨b4, 0, none⟩)), (5, .int .i64 i), (7, .slice w.1 (0 + i + 1) w.2)])
   (fun w => y.asns m M ++ [pt b4 (.cells [Value.int .i64 0, .int .u64 0, .slice none 0 0, .bool false, .slice none 0 0].toArray 44 (0, 0)), own 136 2 (.slice w.1 (0 + i + 1) w.2) ([] ++ (y.bs.flatMap RBk.cells).take (i * 2) ++ z.cells), F]) ?_ fun w _ => ?_
  ·
   obtain ⟨hq23, hr23⟩ := slH_ (P := Tryz.prog) (T := 94) runUnderlying94 sizeOf136 hsb (hi := i) hle hcb'
   refine J.draw [0, 7, 11, 12, 13] Tryz.mixed (by kernel_rfl) fun hR => ?_
   refine RG.p 1 hR rfl (Q.mv rfl) <| RG.p 2 hR rfl (Q.nil_ rfl) <| RG.p 3 hR rfl (Q.fa (n := 0) runUnderlying98 rfl rfl sizeOf94 rfl) ?_
   refine RG.p 4 hR rfl (Q.ldI isAgg94 rfl) ?_
   refine RG.p 5 hR rfl (Q.mv rfl) ?_
   refine RG.p 6 hR rfl (hq23 _ _ _ _ _ _ rfl rfl) ?_
   refine RG.p 8 hR rfl (Q.fa (n := 2) runUnderlying52 rfl rfl sizeOf9 rfl) ?_
   refine RG.p 9 hR rfl (Q.ldI isAgg9 rfl) ?_
   refine RG.p 10 hR rfl (Q.bld (l := [_, _]) runUnderlying136 zeroValue136 places136 rfl rfl) ?_
   refine RG.slot 27 (.agg z.cells.toArray) rfl (by rw [hz]; rfl) ?_
   refine RG.many hR 0 [11] rfl ⟨?_, ⟨?_, trivial⟩⟩
   ·
    refine RGi.made rfl rfl rfl rfl (C.bslG (l := []) runUnderlying94 sizeOf136 zeroValue136 (by decide) rfl rfl rfl rfl rfl) ?_
    rintro b17
    refine RG.many hR 7 [11] rfl ⟨?_, ⟨?_, trivial⟩⟩
    ·
     refine RGi.appI rfl rfl rfl rfl runUnderlying94 runUnderlying94 typeInfo136 sizeOf136 zeroValue136 rfl rfl (hr23.inI) (take_one (flat_one RBk.one)) (by simp [Tryz.t136] <;> omega) (by decide) ?_
     rintro p24 c24
     refine RG.normE rfl ?_
     refine RG.made 11 hR rfl rfl rfl rfl rfl (C.bslG (l := [_, _]) runUnderlying94 sizeOf136 zeroValue136 (by decide) rfl rfl rfl rfl rfl) ?_
     rintro b28
     refine RG.many hR 12 [] rfl ⟨?_, trivial⟩
     ·
      refine RGi.appI rfl rfl rfl rfl runUnderlying94 runUnderlying94 typeInfo136 sizeOf136 zeroValue136 rfl rfl (SlR.ptI rfl) (RBk.one z) (by simp [Tryz.t136] <;> omega) (by decide) ?_
      rintro p29 c29
      refine RG.normE rfl ?_
      refine RG.bar 13 hR rfl rfl rfl rfl rfl rfl (Q.asg rfl).toC ?_
      rintro _ _ ⟨rfl, rfl⟩
      refine RG.norm rfl ?_
      refine RG.fin hR rfl ?_
      refine J.norm rfl ?_
      exact J.meetI (p29, c29) trivial ⟨rfl, rfl, rfl, rfl, trivial⟩
    ·
     refine RGi.made rfl rfl rfl rfl (C.bslG (l := [_, _]) runUnderlying94 sizeOf136 zeroValue136 (by decide) rfl rfl rfl rfl rfl) ?_
     rintro b28
     refine RG.many hR 7 [] rfl ⟨?_, trivial⟩
     ·
      refine RGi.appI rfl rfl rfl rfl runUnderlying94 runUnderlying94 typeInfo136 sizeOf136 zeroValue136 rfl rfl (hr23.inI) (take_one (flat_one RBk.one)) (by simp [Tryz.t136] <;> omega) (by decide) ?_
      rintro p24 c24
      refine RG.normE rfl ?_
      refine RG.many hR 12 [] rfl ⟨?_, trivial⟩
      ·
       refine RGi.appI rfl rfl rfl rfl runUnderlying94 runUnderlying94 typeInfo136 sizeOf136 zeroValue136 rfl rfl (SlR.ptI rfl) (RBk.one z) (by simp [Tryz.t136] <;> omega) (by decide) ?_
       rintro p29 c29
       refine RG.normE rfl ?_
       refine RG.bar 13 hR rfl rfl rfl rfl rfl rfl (Q.asg rfl).toC ?_
       rintro _ _ ⟨rfl, rfl⟩
       refine RG.norm rfl ?_
       refine RG.fin hR rfl ?_
       refine J.norm rfl ?_
       exact J.meetI (p29, c29) trivial ⟨rfl, rfl, rfl, rfl, trivial⟩
   ·
    refine RGi.made rfl rfl rfl rfl (C.bslG (l := [_, _]) runUnderlying94 sizeOf136 zeroValue136 (by decide) rfl rfl rfl rfl rfl) ?_
    rintro b28
    refine RG.made 0 hR rfl rfl rfl rfl rfl (C.bslG (l := []) runUnderlying94 sizeOf136 zeroValue136 (by decide) rfl rfl rfl rfl rfl) ?_
    rintro b17
    refine RG.many hR 7 [] rfl ⟨?_, trivial⟩
    ·
     refine RGi.appI rfl rfl rfl rfl runUnderlying94 runUnderlying94 typeInfo136 sizeOf136 zeroValue136 rfl rfl (hr23.inI) (take_one (flat_one RBk.one)) (by simp [Tryz.t136] <;> omega) (by decide) ?_
     rintro p24 c24
     refine RG.normE rfl ?_
     refine RG.many hR 12 [] rfl ⟨?_, trivial⟩
     ·
      refine RGi.appI rfl rfl rfl rfl runUnderlying94 runUnderlying94 typeInfo136 sizeOf136 zeroValue136 rfl rfl (SlR.ptI rfl) (RBk.one z) (by simp [Tryz.t136] <;> omega) (by decide) ?_
      rintro p29 c29
      refine RG.normE rfl ?_
      refine RG.bar 13 hR rfl rfl rfl rfl rfl rfl (Q.asg rfl).toC ?_
      rintro _ _ ⟨rfl, rfl⟩
      refine RG.norm rfl ?_
      refine RG.fin hR rfl ?_
      refine J.norm rfl ?_
      exact J.meetI (p29, c29) trivial ⟨rfl, rfl, rfl, rfl, trivial⟩
  refine J.norm rfl ?_
  obtain ⟨p37, c37, hq37, hr37⟩ := slL_ (P := Tryz.prog) (T := 94) runUnderlying94 sizeOf136 hsb (lo := i) hle hcb'
  refine J.seq <| J.region <| J.m rfl <| J.m rfl <| J.m rfl <| J.p rfl (Q.nil_ rfl) <| J.p rfl (Q.fa (n := 0) runUnderlying98 rfl rfl sizeOf94 rfl) ?_
  refine J.p rfl (Q.ldI isAgg94 rfl) ?_
  refine J.m rfl ?_
  refine J.p rfl (hq37 _ _ _ _ _ _ rfl rfl) ?_
  refine J.c rfl rfl (C.appI runUnderlying94 runUnderlying94 typeInfo136 sizeOf136 zeroValue136 rfl rfl (hr37.inI) (drop_one (flat_one RBk.one)) (by simp [Tryz.t136] <;> omega) (by decide)) ?_
  rintro _ _ ⟨p38, c38, rfl, rfl⟩
  refine J.norm rfl <| J.p rfl (Q.nil_ rfl) <| J.p rfl (Q.fa (n := 0) runUnderlying98 rfl rfl sizeOf94 rfl) ?_
  refine J.stJ rfl sizeOf94 rfl rfl rfl ?_
  refine J.nil <| J.then_n <| J.seq <| J.region ?_
  refine J.callI call30 (ris_spec 200) rfl rfl rfl ?_
  rintro _ _ ⟨rfl, rfl⟩
  refine J.norm rfl ?_
  refine J.stAJ (vs := [_, _, _, _, _]) rfl sizeOf44 rfl rfl ?_
  refine J.nil <| J.then_n <| J.cret ?_
  have e : M.make x.o = (st 200, { M with buckets := sput ltB x.o.bucket [] M.buckets }) := by unfold BM.make; rw [hno]
  rw [ins_len (x := z) hle, ins_cells RBk.len]
  refine J.give (X := z.asn) (by rw [hz]; exact two_nil) ?_
  refine J.shutI [z.asn, star (y.bs.map RBk.asn)] (star ((y.bs.take i ++ z :: y.bs.drop i).map RBk.asn)) (star_ins1 i z) ?_
  refine J.shutI (RMx.asns m M { y with p1 := p38, c1 := c38, bs := y.bs.take i ++ z :: y.bs.drop i }) (RefAt m { M with buckets := sput ltB x.o.bucket [] M.buckets }) (RefAt.mk (M := { M with buckets := sput ltB x.o.bucket [] M.buckets }) _ ⟨by rw [map_ins, hy.b, hi.put_no ord3_str hM.bs hno, hz]; rfl, hy.u, hy.k⟩) ?_
  rw [e]
  refine J.retCI (vs := [_, _, _, _, _]) [RefAt m { M with buckets := sput ltB x.o.bucket [] M.buckets }] rfl rfl isAgg44 sizeOf44 rnI ⟨rfl, rfl⟩
theorem rgone_spec {n : Nat} {u : UM} {i : Nat} (hi : AtK ltN n M.uploads i) (hu : sget n M.uploads = some u) : FSpec Tryz.prog 57 [.pointer (some ⟨m, 0, none⟩), .int .i64 i] [RefAt m M] (fun v B => v = .tuple #[] ∧ B = [RefAt m { M with uploads := sdel n M.uploads }]) := by
  refine FSpec.of func57 rfl ntmps57 rfl fun W0 F => ?_
  refine J.openRef (m := m) (M := M) fun p1 c1 bs p2 c2 us p3 c3 hyb hyu hyk => ?_
  refine J.norm rfl ?_
  have hbs : Srtd ltB (bs.map RBk.kv) := by rw [hyb]; exact hM.bs
  have hus : Srtd ltN (us.map RUp.kv) := by rw [hyu]; exact hM.us
  have hbl : bs.length = M.buckets.length := by rw [← hyb, List.length_map]
  have hul : us.length = M.uploads.length := by rw [← hyu, List.length_map]
  have hlen := hM.len
  refine J.slrI (E0 := 136) (sz := 2) (p := p1) (n := bs.length) (c := c1) (xs := bs.flatMap RBk.cells) fun hsb => ?_
  refine J.slrI (E0 := 143) (sz := 4) (p := p2) (n := us.length) (c := c2) (xs := us.flatMap RUp.cells) fun hsu => ?_
  refine J.tells 1 rfl own.len fun hcb => ?_
  refine J.tells 2 rfl own.len fun hcu => ?_
  have hcb' : bs.length ≤ c1 := hcb.2
  have hcu' : us.length ≤ c2 := hcu.2
  have hil : i < us.length := by have := (List.getElem?_eq_some_iff.1 (hi.here ord3_nat hM.us hu)).1; omega
  obtain ⟨hq11, hr11⟩ := slH_ (P := Tryz.prog) (T := 95) runUnderlying95 sizeOf143 hsu (hi := i) (by omega) hcu'
  obtain ⟨p19, c19, hq19, hr19⟩ := slL_ (P := Tryz.prog) (T := 95) runUnderlying95 sizeOf143 hsu (lo := i + 1) (by omega) hcu'
  refine J.draw [1, 8, 16, 19] Tryz.mixed (by kernel_rfl) fun hR => ?_
  refine RG.p 0 hR rfl (Q.mv rfl) <| RG.p 2 hR rfl (Q.mv rfl) <| RG.p 3 hR rfl (Q.nil_ rfl) <| RG.p 4 hR rfl (Q.fa (n := 1) runUnderlying98 rfl rfl sizeOf95 rfl) ?_
  refine RG.p 5 hR rfl (Q.ldI isAgg95 rfl) ?_
  refine RG.p 6 hR rfl (Q.mv rfl) ?_
  refine RG.p 7 hR rfl (hq11 _ _ _ _ _ _ rfl rfl) ?_
  refine RG.p 9 hR rfl (Q.mv rfl) <| RG.p 10 hR rfl (Q.nil_ rfl) <| RG.p 11 hR rfl (Q.fa (n := 1) runUnderlying98 rfl rfl sizeOf95 rfl) ?_
  refine RG.p 12 hR rfl (Q.ldI isAgg95 rfl) ?_
  refine RG.p 13 hR rfl (Q.mv rfl) <| RG.p 14 hR rfl (Q.add64 rfl rfl (by omega)) ?_
  refine RG.p 15 hR rfl (hq19 _ _ _ _ _ _ rfl rfl) ?_
  refine RG.made 1 hR rfl rfl rfl rfl rfl (C.bslG (l := []) runUnderlying95 sizeOf143 zeroValue143 (by decide) rfl rfl rfl rfl rfl) ?_
  rintro b5
  refine RG.many hR 8 [] rfl ⟨?_, trivial⟩
  ·
   refine RGi.appI rfl rfl rfl rfl runUnderlying95 runUnderlying95 typeInfo143 sizeOf143 zeroValue143 rfl rfl (hr11.inI) (take_one (flat_one RUp.one)) (by simp [Tryz.t143] <;> omega) (by decide) ?_
   rintro p12 c12
   refine RG.normE rfl ?_
   refine RG.many hR 16 [] rfl ⟨?_, trivial⟩
   ·
    refine RGi.appI rfl rfl rfl rfl runUnderlying95 runUnderlying95 typeInfo143 sizeOf143 zeroValue143 rfl rfl (hr19.inI) (drop_one (flat_one RUp.one)) (by simp [Tryz.t143] <;> omega) (by decide) ?_
    rintro p20 c20
    refine RG.normE rfl <| RG.p 17 hR rfl (Q.nil_ rfl) <| RG.p 18 hR rfl (Q.fa (n := 1) runUnderlying98 rfl rfl sizeOf95 rfl) ?_
    refine RG.stI 19 hR rfl rfl rfl rfl rfl sizeOf95 rfl rfl rfl (by exact rfl) (by exact rfl) (by exact rfl) ?_
    refine RG.fin hR rfl ?_
    refine J.norm rfl ?_
    rw [cut_len hil, cut_cells RUp.len]
    refine J.convI (star (us.map RUp.asn)) (star ((us.eraseIdx i).map RUp.asn)) (star_drop1 i) ?_
    refine J.shutI (refL m { M with uploads := sdel n M.uploads } p1 c1 bs p20 c20 (us.eraseIdx i) p3 c3) (RefAt m { M with uploads := sdel n M.uploads }) (RefAt.of (M := { M with uploads := sdel n M.uploads }) hyb (by rw [map_cut, hyu, hi.del ord3_nat hM.us hu]) hyk) ?_
    refine J.end0I [RefAt m { M with uploads := sdel n M.uploads }] rfl ⟨rfl, rfl⟩
theorem rbegin_spec (hno : sget x.o.id M.uploads = none) : FSpec Tryz.prog 62 [.pointer (some ⟨m, 0, none⟩), .agg x.cells.toArray] [RefAt m M]
    (fun v B => v = bareV ⟨200, x.o.id, [], false, []⟩ ∧ B = [RefAt m { M with uploads := sput ltN x.o.id ⟨x.o.bucket, x.o.key, []⟩ M.uploads }]) := by
  refine FSpec.of func62 rfl ntmps62 rfl fun W0 F => ?_
  refine J.seq <| J.region ?_
  refine J.c rfl rfl (C.box (l := [_, _, _, _, _, _, _, _, _]) rfl rfl) ?_
  rintro _ _ ⟨b3, rfl, rfl⟩
  refine J.norm rfl ?_
  refine J.c rfl rfl (C.alloc (l := [_, _, _, _, _]) zeroValue44 rfl) ?_
  rintro _ _ ⟨b4, rfl, rfl⟩
  refine J.norm rfl <| J.nil <| J.then_n <| J.seq ?_
  refine J.openRef (m := m) (M := M) fun p1 c1 bs p2 c2 us p3 c3 hyb hyu hyk => ?_
  refine J.norm rfl ?_
  have hbs : Srtd ltB (bs.map RBk.kv) := by rw [hyb]; exact hM.bs
  have hus : Srtd ltN (us.map RUp.kv) := by rw [hyu]; exact hM.us
  have hbl : bs.length = M.buckets.length := by rw [← hyb, List.length_map]
  have hul : us.length = M.uploads.length := by rw [← hyu, List.length_map]
  have hlen := hM.len
  refine J.slrI (E0 := 136) (sz := 2) (p := p1) (n := bs.length) (c := c1) (xs := bs.flatMap RBk.cells) fun hsb => ?_
  refine J.slrI (E0 := 143) (sz := 4) (p := p2) (n := us.length) (c := c2) (xs := us.flatMap RUp.cells) fun hsu => ?_
  refine J.tells 1 rfl own.len fun hcb => ?_
  refine J.tells 2 rfl own.len fun hcu => ?_
  have hcb' : bs.length ≤ c1 := hcb.2
  have hcu' : us.length ≤ c2 := hcu.2
  refine J.region <| J.m rfl <| J.p rfl (Q.fa (n := 0) runUnderlying52 rfl rfl sizeOf40 rfl) ?_
  refine J.p rfl (Q.ldI isAgg40 rfl) ?_
  refine J.callI call55 (rupload_spec m p2 c2 us (.slice p1 bs.length c1) (.slice p3 M.done.length c3) x.o.id hus (by omega)) rfl rfl rfl ?_
  rintro _ _ ⟨i, rfl, hi, rfl⟩
  refine J.norm rfl ?_
  rw [hyu] at hi ⊢
  have hle : i ≤ us.length := by have := hi.le; omega
  refine J.m rfl <| J.p rfl (Q.ext rfl rfl) <| J.p rfl (Q.ext rfl rfl) <| J.p rfl (Q.asg rfl) <| J.p rfl (Q.asg rfl) <| J.nil <| J.then_n ?_
  obtain ⟨z, hz⟩ : ∃ z : RUp, z = ⟨x.o.id, x.o.bucket, x.o.key, none, 0, []⟩ := ⟨_, rfl⟩
  refine J.cut (fun _ : Option Addr × Nat => True) (fun w => [(0, .pointer (some ⟨m, 0, none⟩)), (3, .pointer (some ⟨b3, 0, none⟩)), (4, .pointer (some ⟨b4, 0, none⟩)), (5, .int .i64 i), (7, .slice w.1 (0 + i + 1) w.2)])
   (fun w => refL m M p1 c1 bs p2 c2 us p3 c3 ++ [pt b3 (.cells x.cells.toArray 52 (0, 0)), pt b4 (.cells [Value.int .i64 0, .int .u64 0, .slice none 0 0, .bool false, .slice none 0 0].toArray 44 (0, 0)), own 143 4 (.slice w.1 (0 + i + 1) w.2) ([] ++ (us.flatMap RUp.cells).take (i * 4) ++ z.cells), F]) ?_ fun w _ => ?_
  ·
   obtain ⟨hq22, hr22⟩ := slH_ (P := Tryz.prog) (T := 95) runUnderlying95 sizeOf143 hsu (hi := i) hle hcu'
   refine J.draw [0, 7, 15, 16, 17] Tryz.mixed (by kernel_rfl) fun hR => ?_
   refine RG.p 1 hR rfl (Q.mv rfl) <| RG.p 2 hR rfl (Q.nil_ rfl) <| RG.p 3 hR rfl (Q.fa (n := 1) runUnderlying98 rfl rfl sizeOf95 rfl) ?_
   refine RG.p 4 hR rfl (Q.ldI isAgg95 rfl) ?_
   refine RG.p 5 hR rfl (Q.mv rfl) ?_
   refine RG.p 6 hR rfl (hq22 _ _ _ _ _ _ rfl rfl) ?_
   refine RG.p 8 hR rfl (Q.fa (n := 0) runUnderlying52 rfl rfl sizeOf40 rfl) ?_
   refine RG.p 9 hR rfl (Q.ldI isAgg40 rfl) ?_
   refine RG.p 10 hR rfl (Q.fa (n := 2) runUnderlying52 rfl rfl sizeOf9 rfl) ?_
   refine RG.p 11 hR rfl (Q.ldI isAgg9 rfl) ?_
   refine RG.p 12 hR rfl (Q.fa (n := 3) runUnderlying52 rfl rfl sizeOf9 rfl) ?_
   refine RG.p 13 hR rfl (Q.ldI isAgg9 rfl) ?_
   refine RG.p 14 hR rfl (Q.bld (l := [_, _, _, _]) runUnderlying143 zeroValue143 places143 rfl rfl) ?_
   refine RG.slot 30 (.agg z.cells.toArray) rfl (by rw [hz]; rfl) ?_
   refine RG.many hR 0 [15] rfl ⟨?_, ⟨?_, trivial⟩⟩
   ·
    refine RGi.made rfl rfl rfl rfl (C.bslG (l := []) runUnderlying95 sizeOf143 zeroValue143 (by decide) rfl rfl rfl rfl rfl) ?_
    rintro b16
    refine RG.many hR 7 [15] rfl ⟨?_, ⟨?_, trivial⟩⟩
    ·
     refine RGi.appI rfl rfl rfl rfl runUnderlying95 runUnderlying95 typeInfo143 sizeOf143 zeroValue143 rfl rfl (hr22.inI) (take_one (flat_one RUp.one)) (by simp [Tryz.t143] <;> omega) (by decide) ?_
     rintro p23 c23
     refine RG.normE rfl ?_
     refine RG.made 15 hR rfl rfl rfl rfl rfl (C.bslG (l := [_, _, _, _]) runUnderlying95 sizeOf143 zeroValue143 (by decide) rfl rfl rfl rfl rfl) ?_
     rintro b31
     refine RG.many hR 16 [] rfl ⟨?_, trivial⟩
     ·
      refine RGi.appI rfl rfl rfl rfl runUnderlying95 runUnderlying95 typeInfo143 sizeOf143 zeroValue143 rfl rfl (SlR.ptI rfl) (RUp.one z) (by simp [Tryz.t143] <;> omega) (by decide) ?_
      rintro p32 c32
      refine RG.normE rfl ?_
      refine RG.bar 17 hR rfl rfl rfl rfl rfl rfl (Q.asg rfl).toC ?_
      rintro _ _ ⟨rfl, rfl⟩
      refine RG.norm rfl ?_
      refine RG.fin hR rfl ?_
      refine J.norm rfl ?_
      exact J.meetI (p32, c32) trivial ⟨rfl, rfl, rfl, rfl, rfl, trivial⟩
    ·
     refine RGi.made rfl rfl rfl rfl (C.bslG (l := [_, _, _, _]) runUnderlying95 sizeOf143 zeroValue143 (by decide) rfl rfl rfl rfl rfl) ?_
     rintro b31
     refine RG.many hR 7 [] rfl ⟨?_, trivial⟩
     ·
      refine RGi.appI rfl rfl rfl rfl runUnderlying95 runUnderlying95 typeInfo143 sizeOf143 zeroValue143 rfl rfl (hr22.inI) (take_one (flat_one RUp.one)) (by simp [Tryz.t143] <;> omega) (by decide) ?_
      rintro p23 c23
      refine RG.normE rfl ?_
      refine RG.many hR 16 [] rfl ⟨?_, trivial⟩
      ·
       refine RGi.appI rfl rfl rfl rfl runUnderlying95 runUnderlying95 typeInfo143 sizeOf143 zeroValue143 rfl rfl (SlR.ptI rfl) (RUp.one z) (by simp [Tryz.t143] <;> omega) (by decide) ?_
       rintro p32 c32
       refine RG.normE rfl ?_
       refine RG.bar 17 hR rfl rfl rfl rfl rfl rfl (Q.asg rfl).toC ?_
       rintro _ _ ⟨rfl, rfl⟩
       refine RG.norm rfl ?_
       refine RG.fin hR rfl ?_
       refine J.norm rfl ?_
       exact J.meetI (p32, c32) trivial ⟨rfl, rfl, rfl, rfl, rfl, trivial⟩
   ·
    refine RGi.made rfl rfl rfl rfl (C.bslG (l := [_, _, _, _]) runUnderlying95 sizeOf143 zeroValue143 (by decide) rfl rfl rfl rfl rfl) ?_
    rintro b31
    refine RG.made 0 hR rfl rfl rfl rfl rfl (C.bslG (l := []) runUnderlying95 sizeOf143 zeroValue143 (by decide) rfl rfl rfl rfl rfl) ?_
    rintro b16
    refine RG.many hR 7 [] rfl ⟨?_, trivial⟩
    ·
     refine RGi.appI rfl rfl rfl rfl runUnderlying95 runUnderlying95 typeInfo143 sizeOf143 zeroValue143 rfl rfl (hr22.inI) (take_one (flat_one RUp.one)) (by simp [Tryz.t143] <;> omega) (by decide) ?_
     rintro p23 c23
     refine RG.normE rfl ?_
     refine RG.many hR 16 [] rfl ⟨?_, trivial⟩
     ·
      refine RGi.appI rfl rfl rfl rfl runUnderlying95 runUnderlying95 typeInfo143 sizeOf143 zeroValue143 rfl rfl (SlR.ptI rfl) (RUp.one z) (by simp [Tryz.t143] <;> omega) (by decide) ?_
      rintro p32 c32
      refine RG.normE rfl ?_
      refine RG.bar 17 hR rfl rfl rfl rfl rfl rfl (Q.asg rfl).toC ?_
      rintro _ _ ⟨rfl, rfl⟩
      refine RG.norm rfl ?_
      refine RG.fin hR rfl ?_
      refine J.norm rfl ?_
      exact J.meetI (p32, c32) trivial ⟨rfl, rfl, rfl, rfl, rfl, trivial⟩
  refine J.norm rfl ?_
  obtain ⟨p40, c40, hq40, hr40⟩ := slL_ (P := Tryz.prog) (T := 95) runUnderlying95 sizeOf143 hsu (lo := i) hle hcu'
  refine J.seq <| J.region <| J.m rfl <| J.m rfl <| J.m rfl <| J.p rfl (Q.nil_ rfl) <| J.p rfl (Q.fa (n := 1) runUnderlying98 rfl rfl sizeOf95 rfl) ?_
  refine J.p rfl (Q.ldI isAgg95 rfl) ?_
  refine J.m rfl ?_
  refine J.p rfl (hq40 _ _ _ _ _ _ rfl rfl) ?_
  refine J.c rfl rfl (C.appI runUnderlying95 runUnderlying95 typeInfo143 sizeOf143 zeroValue143 rfl rfl (hr40.inI) (drop_one (flat_one RUp.one)) (by simp [Tryz.t143] <;> omega) (by decide)) ?_
  rintro _ _ ⟨p41, c41, rfl, rfl⟩
  refine J.norm rfl <| J.p rfl (Q.nil_ rfl) <| J.p rfl (Q.fa (n := 1) runUnderlying98 rfl rfl sizeOf95 rfl) ?_
  refine J.stJ rfl sizeOf95 rfl rfl rfl ?_
  refine J.nil <| J.then_n <| J.seq <| J.region ?_
  refine J.callI call30 (ris_spec 200) rfl rfl rfl ?_
  rintro _ _ ⟨rfl, rfl⟩
  refine J.norm rfl ?_
  refine J.c rfl rfl (C.alloc (l := [_, _, _, _, _]) zeroValue44 rfl) ?_
  rintro _ _ ⟨b8, rfl, rfl⟩
  refine J.norm rfl ?_
  refine J.stAJ (vs := [_, _, _, _, _]) rfl sizeOf44 rfl rfl ?_
  refine J.nil <| J.then_n <| J.seq <| J.region <| J.p rfl (Q.fa (n := 0) runUnderlying52 rfl rfl sizeOf40 rfl) ?_
  refine J.p rfl (Q.ldI isAgg40 rfl) ?_
  refine J.p rfl (Q.fa (n := 1) runUnderlying44 rfl rfl sizeOf40 rfl) ?_
  refine J.stJ rfl sizeOf40 rfl rfl rfl ?_
  refine J.nil <| J.then_n <| J.seq <| J.region ?_
  refine J.p rfl (Q.ldN (vs := [_, _, _, _, _]) isAgg44 sizeOf44 rfl rnI) ?_
  refine J.stAJ (vs := [_, _, _, _, _]) rfl sizeOf44 rfl rfl ?_
  refine J.nil <| J.then_n <| J.cret ?_
  rw [ins_len (x := z) hle, ins_cells RUp.len]
  refine J.give (X := z.asn) (by rw [hz]; exact two_nil) ?_
  refine J.shutI [z.asn, star (us.map RUp.asn)] (star ((us.take i ++ z :: us.drop i).map RUp.asn)) (star_ins1 i z) ?_
  refine J.shutI (refL m { M with uploads := sput ltN x.o.id ⟨x.o.bucket, x.o.key, []⟩ M.uploads } p1 c1 bs p41 c41 (us.take i ++ z :: us.drop i) p3 c3) (RefAt m { M with uploads := sput ltN x.o.id ⟨x.o.bucket, x.o.key, []⟩ M.uploads }) (RefAt.of (M := { M with uploads := sput ltN x.o.id ⟨x.o.bucket, x.o.key, []⟩ M.uploads }) hyb (by rw [map_ins, hyu, hi.put_no ord3_nat hM.us hno, hz]; rfl) hyk) ?_
  refine J.retCI (vs := [_, _, _, _, _]) [RefAt m { M with uploads := sput ltN x.o.id ⟨x.o.bucket, x.o.key, []⟩ M.uploads }] rfl rfl isAgg44 sizeOf44 rnI ⟨rfl, rfl⟩
theorem runmake_spec {objs : Objs} (hB : sget x.o.bucket M.buckets = some objs) {i : Nat} (hi : AtK ltB x.o.bucket M.buckets i) : FSpec Tryz.prog 59 [.pointer (some ⟨m, 0, none⟩), .int .i64 i] [RefAt m M]
    (fun v B => v = bareV (M.unmake x.o).1 ∧ B = [RefAt m (M.unmake x.o).2]) := by
  refine FSpec.of func59 rfl ntmps59 rfl fun W0 F => ?_
  refine J.seq <| J.region ?_
  refine J.c rfl rfl (C.alloc (l := [_, _, _, _, _]) zeroValue44 rfl) ?_
  rintro _ _ ⟨b4, rfl, rfl⟩
  refine J.norm rfl <| J.nil <| J.then_n <| J.seq <| J.seq ?_
  refine J.openRef (m := m) (M := M) fun p1 c1 bs p2 c2 us p3 c3 hyb hyu hyk => ?_
  refine J.norm rfl ?_
  have hbs : Srtd ltB (bs.map RBk.kv) := by rw [hyb]; exact hM.bs
  have hus : Srtd ltN (us.map RUp.kv) := by rw [hyu]; exact hM.us
  have hbl : bs.length = M.buckets.length := by rw [← hyb, List.length_map]
  have hul : us.length = M.uploads.length := by rw [← hyu, List.length_map]
  have hlen := hM.len
  refine J.slrI (E0 := 136) (sz := 2) (p := p1) (n := bs.length) (c := c1) (xs := bs.flatMap RBk.cells) fun hsb => ?_
  refine J.slrI (E0 := 143) (sz := 4) (p := p2) (n := us.length) (c := c2) (xs := us.flatMap RUp.cells) fun hsu => ?_
  refine J.tells 1 rfl own.len fun hcb => ?_
  refine J.tells 2 rfl own.len fun hcu => ?_
  have hcb' : bs.length ≤ c1 := hcb.2
  have hcu' : us.length ≤ c2 := hcu.2
  obtain ⟨y, hyi, hyq⟩ := at_map (by rw [hyb]; exact hi.here ord3_str hM.bs hB)
  have hyn : y.k = x.o.bucket := congrArg Prod.fst hyq
  have hyo : y.l.length = objs.length := by rw [← show y.l.map ROb.kv = objs from congrArg Prod.snd hyq, List.length_map]
  have hil := (List.getElem?_eq_some_iff.1 hyi).1
  obtain ⟨bb, off, rfl, hrd⟩ := hsb.some_ (by omega)
  refine J.region <| J.p rfl (Q.asg rfl) <| J.nil <| J.then_n <| J.block ?_
  refine J.loop (fun j : Nat => j ≤ us.length ∧ ((us.take j).any fun u => decide (u.b = x.o.bucket)) = false) (fun j => us.length - j) (fun j => [(0, .pointer (some ⟨m, 0, none⟩)), (1, .int .i64 i), (4, .pointer (some ⟨b4, 0, none⟩)), (5, .int .i64 j)])
   (fun _ => refL m M (some ⟨bb, off, none⟩) c1 bs p2 c2 us p3 c3 ++ [pt b4 (.cells [Value.int .i64 0, .int .u64 0, .slice none 0 0, .bool false, .slice none 0 0].toArray 44 (0, 0)), F]) 0 ⟨Nat.zero_le _, rfl⟩ ⟨rfl, rfl, rfl, rfl, trivial⟩ rfl fun j hj => ?_
  obtain ⟨hj, hno⟩ := hj
  refine J.norm rfl <| J.seq <| J.seq <| J.region <| J.m rfl <| J.m rfl <| J.p rfl (Q.nil_ rfl) <| J.p rfl (Q.fa (n := 1) runUnderlying98 rfl rfl sizeOf95 rfl) ?_
  refine J.p rfl (Q.ldI isAgg95 rfl) ?_
  refine J.p rfl (Q.lenSl runUnderlying95 rfl) <| J.p rfl (Q.lss rfl rfl) <| J.nil <| J.then_n ?_
  refine J.kases 12 rfl (fun hc12 => ?_) (fun hc12 => ?_)
  ·
   refine J.cond_t rfl <| J.cskip <| J.then_n <| J.seq <| J.block <| J.seq ?_
   obtain ⟨b2, o2, rfl, hrd2⟩ := hsu.some_ (by omega)
   obtain ⟨u, hu⟩ : ∃ u, us[j]? = some u := ⟨_, List.getElem?_eq_getElem (by omega)⟩
   have huj := (List.getElem?_eq_some_iff.1 hu).1
   refine J.draw [] Tryz.mixed (by kernel_rfl) fun hR => ?_
   refine RG.p 0 hR rfl (Q.mv rfl) <| RG.p 1 hR rfl (Q.nil_ rfl) <| RG.p 2 hR rfl (Q.fa (n := 1) runUnderlying98 rfl rfl sizeOf95 rfl) ?_
   refine RG.p 3 hR rfl (Q.ldI isAgg95 rfl) ?_
   refine RG.p 4 hR rfl (Q.mv rfl) <| RG.p 5 hR rfl (Q.ia runUnderlying95 sizeOf143 rfl rfl (by omega) (by omega)) <| RG.p 6 hR rfl (Q.fa (n := 1) runUnderlying143 rfl rfl sizeOf9 rfl) <| RG.p 7 hR rfl (Q.ld isAgg9 rfl (rfO 1 RUp.len hu (show _ = some (Value.string u.b) from rfl) (by omega))) <| RG.p 8 hR rfl (Q.mv rfl) ?_
   refine RG.p 9 hR rfl (Q.nil_ rfl) <| RG.p 10 hR rfl (Q.fa (n := 0) runUnderlying98 rfl rfl sizeOf94 rfl) ?_
   refine RG.p 11 hR rfl (Q.ldI isAgg94 rfl) ?_
   refine RG.p 12 hR rfl (Q.mv rfl) <| RG.p 13 hR rfl (Q.ia runUnderlying94 sizeOf136 rfl rfl (by omega) (by omega)) <| RG.p 14 hR rfl (Q.fa (n := 0) runUnderlying136 rfl rfl sizeOf9 rfl) <| RG.p 15 hR rfl (Q.ld isAgg9 rfl (rfO 0 RBk.len hyi (show _ = some (Value.string y.k) from rfl) (by omega))) <| RG.p 16 hR rfl (Q.eqls rfl rfl) ?_
   refine RG.fin hR rfl ?_
   refine J.norm rfl <| J.then_n ?_
   refine J.kases 31 rfl (fun hc31 => ?_) (fun hc31 => ?_)
   ·
    refine J.cond_t rfl <| J.seq <| J.region ?_
    refine J.callI call30 (ris_spec 409) rfl rfl rfl ?_
    rintro _ _ ⟨rfl, rfl⟩
    refine J.norm rfl ?_
    refine J.stAJ (vs := [_, _, _, _, _]) rfl sizeOf44 rfl rfl ?_
    refine J.nil <| J.then_n <| J.cret <| J.blk_r <| J.then_r <| J.lp_r <| J.blk_r <| J.then_r ?_
    have hus1 : M.uses x.o.bucket = true := by
     unfold BM.uses
     rw [← hyu, List.any_map, List.any_eq_true]
     refine ⟨u, List.mem_of_getElem? hu, ?_⟩
     show decide (u.b = x.o.bucket) = true
     rw [← hyn, ← bytes_eq, hc31]; first | rfl | exact decide_eq_true rfl
    have e : M.unmake x.o = (st 409, M) := by unfold BM.unmake; rw [hB]; dsimp only; rw [hus1, Bool.or_true, if_pos rfl]
    refine J.shutI (refL m M (some ⟨bb, off, none⟩) c1 bs (some ⟨b2, o2, none⟩) c2 us p3 c3) (RefAt m M) (RefAt.of hyb hyu hyk) ?_
    rw [e]
    refine J.retCI (vs := [_, _, _, _, _]) [RefAt m M] rfl rfl isAgg44 sizeOf44 rnI ⟨rfl, rfl⟩
   refine J.cond_f rfl <| J.cskip <| J.blk_n <| J.then_n <| J.region <| J.m rfl <| J.p rfl (Q.add64 rfl rfl (by omega)) <| J.p rfl (Q.asg rfl) <| J.nil ?_
   have hnu : decide (u.b = x.o.bucket) = false := by rw [← hyn, ← bytes_eq]; first | exact decide_eq_false hc31 | simpa using hc31
   refine J.againI (j + 1) ⟨by show j + 1 ≤ _; omega, by
    obtain ⟨h1, h2⟩ := List.getElem?_eq_some_iff.1 hu
    show ((us.take (j + 1)).any _) = false
    rw [List.take_succ_eq_append_getElem h1, List.any_append, hno, h2]; simpa using hnu⟩ (by show us.length - (j + 1) < us.length - j; omega) ⟨rfl, rfl, rfl, rfl, trivial⟩
  refine J.cond_f rfl <| J.exit <| J.then_x <| J.lp_x <| J.blk_x <| J.then_n <| J.seq <| J.seq ?_
  have hus0 : M.uses x.o.bucket = false := by
   unfold BM.uses
   rw [← hyu, List.any_map]
   rw [List.take_of_length_le (by omega)] at hno
   exact hno
  refine J.region <| J.m rfl <| J.p rfl (Q.nil_ rfl) <| J.p rfl (Q.fa (n := 0) runUnderlying98 rfl rfl sizeOf94 rfl) ?_
  refine J.p rfl (Q.ldI isAgg94 rfl) ?_
  refine J.m rfl <| J.p rfl (Q.ia runUnderlying94 sizeOf136 rfl rfl (by omega) (by omega)) <| J.p rfl (Q.fa (n := 1) runUnderlying136 rfl rfl sizeOf134 rfl) <| J.p rfl (Q.ld isAgg134 rfl (rfO 1 RBk.len hyi (show _ = some (Value.slice y.p y.l.length y.c) from rfl) (by omega))) <| J.p rfl (Q.lenSl runUnderlying134 rfl) <| J.p rfl (Q.gtr rfl rfl) ?_
  refine J.nil <| J.then_n ?_
  refine J.kases 42 rfl (fun hc42 => ?_) (fun hc42 => ?_)
  ·
   refine J.cond_t rfl <| J.seq <| J.region ?_
   refine J.callI call30 (ris_spec 409) rfl rfl rfl ?_
   rintro _ _ ⟨rfl, rfl⟩
   refine J.norm rfl ?_
   refine J.stAJ (vs := [_, _, _, _, _]) rfl sizeOf44 rfl rfl ?_
   refine J.nil <| J.then_n <| J.cret <| J.then_r ?_
   have e : M.unmake x.o = (st 409, M) := by unfold BM.unmake; rw [hB]; dsimp only; rw [decide_eq_true (show 0 < objs.length by omega), Bool.true_or, if_pos rfl]
   refine J.shutI (refL m M (some ⟨bb, off, none⟩) c1 bs p2 c2 us p3 c3) (RefAt m M) (RefAt.of hyb hyu hyk) ?_
   rw [e]
   refine J.retCI (vs := [_, _, _, _, _]) [RefAt m M] rfl rfl isAgg44 sizeOf44 rnI ⟨rfl, rfl⟩
  refine J.cond_f rfl <| J.cskip <| J.then_n <| J.seq ?_
  obtain ⟨hq51, hr51⟩ := slH_ (P := Tryz.prog) (T := 94) runUnderlying94 sizeOf136 hsb (hi := i) (by omega) hcb'
  obtain ⟨p59, c59, hq59, hr59⟩ := slL_ (P := Tryz.prog) (T := 94) runUnderlying94 sizeOf136 hsb (lo := i + 1) (by omega) hcb'
  refine J.draw [1, 8, 16, 19] Tryz.mixed (by kernel_rfl) fun hR => ?_
  refine RG.p 0 hR rfl (Q.mv rfl) <| RG.p 2 hR rfl (Q.mv rfl) <| RG.p 3 hR rfl (Q.nil_ rfl) <| RG.p 4 hR rfl (Q.fa (n := 0) runUnderlying98 rfl rfl sizeOf94 rfl) ?_
  refine RG.p 5 hR rfl (Q.ldI isAgg94 rfl) ?_
  refine RG.p 6 hR rfl (Q.mv rfl) ?_
  refine RG.p 7 hR rfl (hq51 _ _ _ _ _ _ rfl rfl) ?_
  refine RG.p 9 hR rfl (Q.mv rfl) <| RG.p 10 hR rfl (Q.nil_ rfl) <| RG.p 11 hR rfl (Q.fa (n := 0) runUnderlying98 rfl rfl sizeOf94 rfl) ?_
  refine RG.p 12 hR rfl (Q.ldI isAgg94 rfl) ?_
  refine RG.p 13 hR rfl (Q.mv rfl) <| RG.p 14 hR rfl (Q.add64 rfl rfl (by omega)) ?_
  refine RG.p 15 hR rfl (hq59 _ _ _ _ _ _ rfl rfl) ?_
  refine RG.made 1 hR rfl rfl rfl rfl rfl (C.bslG (l := []) runUnderlying94 sizeOf136 zeroValue136 (by decide) rfl rfl rfl rfl rfl) ?_
  rintro b45
  refine RG.many hR 8 [] rfl ⟨?_, trivial⟩
  ·
   refine RGi.appI rfl rfl rfl rfl runUnderlying94 runUnderlying94 typeInfo136 sizeOf136 zeroValue136 rfl rfl (hr51.inI) (take_one (flat_one RBk.one)) (by simp [Tryz.t136] <;> omega) (by decide) ?_
   rintro p52 c52
   refine RG.normE rfl ?_
   refine RG.many hR 16 [] rfl ⟨?_, trivial⟩
   ·
    refine RGi.appI rfl rfl rfl rfl runUnderlying94 runUnderlying94 typeInfo136 sizeOf136 zeroValue136 rfl rfl (hr59.inI) (drop_one (flat_one RBk.one)) (by simp [Tryz.t136] <;> omega) (by decide) ?_
    rintro p60 c60
    refine RG.normE rfl <| RG.p 17 hR rfl (Q.nil_ rfl) <| RG.p 18 hR rfl (Q.fa (n := 0) runUnderlying98 rfl rfl sizeOf94 rfl) ?_
    refine RG.stI 19 hR rfl rfl rfl rfl rfl sizeOf94 rfl rfl rfl (by exact rfl) (by exact rfl) (by exact rfl) ?_
    refine RG.fin hR rfl ?_
    refine J.norm rfl <| J.then_n <| J.seq <| J.region ?_
    refine J.callI call30 (ris_spec 200) rfl rfl rfl ?_
    rintro _ _ ⟨rfl, rfl⟩
    refine J.norm rfl ?_
    refine J.stAJ (vs := [_, _, _, _, _]) rfl sizeOf44 rfl rfl ?_
    refine J.nil <| J.then_n <| J.cret ?_
    have e : M.unmake x.o = (st 200, { M with buckets := sdel x.o.bucket M.buckets }) := by unfold BM.unmake; rw [hB]; dsimp only; rw [hus0, decide_eq_false (show ¬ 0 < objs.length by omega), Bool.or_false, if_neg Bool.false_ne_true]
    rw [cut_len hil, cut_cells RBk.len]
    refine J.convI (star (bs.map RBk.asn)) (star ((bs.eraseIdx i).map RBk.asn)) (star_drop1 i) ?_
    refine J.shutI (refL m { M with buckets := sdel x.o.bucket M.buckets } p60 c60 (bs.eraseIdx i) p2 c2 us p3 c3) (RefAt m { M with buckets := sdel x.o.bucket M.buckets }) (RefAt.of (M := { M with buckets := sdel x.o.bucket M.buckets }) (by rw [map_cut, hyb, hi.del ord3_str hM.bs hB]) hyu hyk) ?_
    rw [e]
    refine J.retCI (vs := [_, _, _, _, _]) [RefAt m { M with buckets := sdel x.o.bucket M.buckets }] rfl rfl isAgg44 sizeOf44 rnI ⟨rfl, rfl⟩
end

theorem rdone_spec (m : Nat) (M : BM) (hM : M.lite) (n : Nat) : FSpec Tryz.prog 31 [.pointer (some ⟨m, 0, none⟩), .int .u64 n] [RefAt m M]
    (fun v B => v = .tuple #[bareV ((sget n M.done).getD ⟨0, 0, [], false, []⟩), .bool (sget n M.done).isSome] ∧ B = [RefAt m M]) := by
  refine FSpec.of func31 rfl ntmps31 rfl fun W0 F => ?_
  refine J.seq <| J.region ?_
  refine J.c rfl rfl (C.alloc (l := [_, _, _, _, _]) zeroValue44 rfl) ?_
  rintro _ _ ⟨b4, rfl, rfl⟩
  refine J.norm rfl <| J.p rfl (Q.asg rfl) <| J.nil <| J.then_n <| J.seq <| J.seq ?_
  refine J.openRef (m := m) (M := M) fun p1 c1 bs p2 c2 us p3 c3 hyb hyu hyk => ?_
  refine J.norm rfl ?_
  have hbs : Srtd ltB (bs.map RBk.kv) := by rw [hyb]; exact hM.bs
  have hus : Srtd ltN (us.map RUp.kv) := by rw [hyu]; exact hM.us
  have hbl : bs.length = M.buckets.length := by rw [← hyb, List.length_map]
  have hul : us.length = M.uploads.length := by rw [← hyu, List.length_map]
  have hlen := hM.len
  refine J.slrI (E0 := 136) (sz := 2) (p := p1) (n := bs.length) (c := c1) (xs := bs.flatMap RBk.cells) fun hsb => ?_
  refine J.slrI (E0 := 143) (sz := 4) (p := p2) (n := us.length) (c := c2) (xs := us.flatMap RUp.cells) fun hsu => ?_
  refine J.tells 3 rfl own.len fun hck => ?_
  refine J.slrI (E0 := 105) (sz := 6) (p := p3) (n := M.done.length) (c := c3) (xs := M.done.flatMap RKp.cells) fun hsk => ?_
  refine J.region <| J.p rfl (Q.asg rfl) <| J.nil <| J.then_n <| J.block ?_
  refine J.loop (fun j : Nat => j ≤ M.done.length ∧ ∀ q, q ∈ M.done.take j → q.1 ≠ n) (fun j => M.done.length - j) (fun j => [(0, .pointer (some ⟨m, 0, none⟩)), (1, .int .u64 n), (4, .pointer (some ⟨b4, 0, none⟩)), (6, .int .i64 j)])
   (fun _ => refL m M p1 c1 bs p2 c2 us p3 c3 ++ [pt b4 (.cells [Value.int .i64 0, .int .u64 0, .slice none 0 0, .bool false, .slice none 0 0].toArray 44 (0, 0)), F]) 0 ⟨Nat.zero_le _, (fun _ h => by cases h)⟩ ⟨rfl, rfl, rfl, rfl, trivial⟩ rfl fun j hj => ?_
  obtain ⟨hj, hno⟩ := hj
  refine J.norm rfl <| J.seq <| J.seq <| J.region <| J.m rfl <| J.m rfl <| J.p rfl (Q.nil_ rfl) <| J.p rfl (Q.fa (n := 2) runUnderlying98 rfl rfl sizeOf96 rfl) ?_
  refine J.p rfl (Q.ldI isAgg96 rfl) ?_
  refine J.p rfl (Q.lenSl runUnderlying96 rfl) <| J.p rfl (Q.lss rfl rfl) <| J.nil <| J.then_n ?_
  refine J.kases 13 rfl (fun hc13 => ?_) (fun hc13 => ?_)
  ·
   refine J.cond_t rfl <| J.cskip <| J.then_n <| J.seq <| J.block <| J.seq ?_
   obtain ⟨bb, off, rfl, hrd⟩ := hsk.some_ (by omega)
   obtain ⟨q, hq⟩ : ∃ q, M.done[j]? = some q := ⟨_, List.getElem?_eq_getElem (by omega)⟩
   refine J.region <| J.m rfl <| J.p rfl (Q.nil_ rfl) <| J.p rfl (Q.fa (n := 2) runUnderlying98 rfl rfl sizeOf96 rfl) ?_
   refine J.p rfl (Q.ldI isAgg96 rfl) ?_
   refine J.m rfl <| J.p rfl (Q.ia runUnderlying96 sizeOf105 rfl rfl (by omega) (by omega)) <| J.p rfl (Q.fa (n := 0) runUnderlying105 rfl rfl sizeOf40 rfl) <| J.p rfl (Q.ld isAgg40 rfl (rfO 0 RKp.len hq (show _ = some (Value.int .u64 q.1) from rfl) (by omega))) <| J.m rfl <| J.p rfl (Q.eql rfl rfl) <| J.nil <| J.then_n ?_
   refine J.kases 25 rfl (fun hc25 => ?_) (fun hc25 => ?_)
   ·
    refine J.cond_t rfl <| J.seq <| J.region <| J.m rfl <| J.p rfl (Q.nil_ rfl) <| J.p rfl (Q.fa (n := 2) runUnderlying98 rfl rfl sizeOf96 rfl) ?_
    refine J.p rfl (Q.ldI isAgg96 rfl) ?_
    refine J.m rfl <| J.p rfl (Q.ia runUnderlying96 sizeOf105 rfl rfl (by omega) (by omega)) <| J.p rfl (Q.fa (n := 1) runUnderlying105 rfl rfl sizeOf44 rfl) <| J.p rfl (Q.ldN (vs := [_, _, _, _, _]) isAgg44 sizeOf44 rfl (rnOd (vs := [.int .i64 q.2.status, .int .u64 q.2.upload, .slice none 0 0, .bool false, .slice none 0 0]) 1 RKp.len hq (fun _ _ h => h) (by omega))) ?_
    refine J.stAJ (vs := [_, _, _, _, _]) rfl sizeOf44 rfl rfl ?_
    refine J.p rfl (Q.asg rfl) <| J.nil <| J.then_n <| J.cret <| J.blk_r <| J.then_r <| J.lp_r <| J.blk_r <| J.then_r ?_
    have hg : sget n M.done = some q.2 := by
     have h1 := X.G.sget_of_mem (hM.ds.nodup ord3_nat) (show (q.1, q.2) ∈ M.done from List.mem_of_getElem? hq)
     have : q.1 = n := by omega
     rwa [this] at h1
    refine J.shutI (refL m M p1 c1 bs p2 c2 us (some ⟨bb, off, none⟩) c3) (RefAt m M) (RefAt.of hyb hyu hyk) ?_
    refine J.retC2I (vs := [_, _, _, _, _]) [RefAt m M] rfl rfl rfl isAgg44 sizeOf44 rnI ⟨by rw [hg]; rfl, rfl⟩
   refine J.cond_f rfl <| J.cskip <| J.blk_n <| J.then_n <| J.region <| J.m rfl <| J.p rfl (Q.add64 rfl rfl (by omega)) <| J.p rfl (Q.asg rfl) <| J.nil ?_
   refine J.againI (j + 1) ⟨by show j + 1 ≤ _; omega, by
    obtain ⟨h1, h2⟩ := List.getElem?_eq_some_iff.1 hq
    intro p hp
    rw [List.take_succ_eq_append_getElem h1, h2, List.mem_append] at hp
    rcases hp with hp | hp
    · exact hno p hp
    · rw [List.mem_singleton.1 hp]; omega⟩ (by show M.done.length - (j + 1) < M.done.length - j; omega) ⟨rfl, rfl, rfl, rfl, trivial⟩
  refine J.cond_f rfl <| J.exit <| J.then_x <| J.lp_x <| J.blk_x <| J.then_n <| J.seq <| J.region <| J.p rfl (Q.bld (l := [_, _, _, _, _]) runUnderlying44 zeroValue44 places44 rfl rfl) ?_
  refine J.stAJ (vs := [_, _, _, _, _]) rfl sizeOf44 rfl rfl ?_
  refine J.p rfl (Q.asg rfl) <| J.nil <| J.then_n <| J.cret ?_
  have hg : sget n M.done = none := by
   rw [List.take_of_length_le (by omega)] at hno
   exact X.G.sget_none.2 hno
  refine J.shutI (refL m M p1 c1 bs p2 c2 us p3 c3) (RefAt m M) (RefAt.of hyb hyu hyk) ?_
  refine J.retC2I (vs := [_, _, _, _, _]) [RefAt m M] rfl rfl rfl isAgg44 sizeOf44 rnI ⟨by rw [hg]; rfl, rfl⟩

theorem rlist_spec (b0 o0 c0 : Nat) (bs : List RBk) {i : Nat} {y : RBk} (hy : bs[i]? = some y) (x : OW) (hn : 1 ≤ x.o.n ∧ x.o.n ≤ 1000) (hl : y.l.length ≤ 32768) :
    FSpec Tryz.prog 61 [.pointer (some ⟨b0, o0 + i * 2, none⟩), .agg x.cells.toArray] [bksO (some ⟨b0, o0, none⟩) c0 bs, y.own]
    (fun v B => ∃ r : RW, v = .agg r.cells.toArray ∧ r.r = ⟨200, 0, (listed x.o (y.l.map ROb.kv)).take x.o.n.toNat, decide (x.o.n.toNat < (listed x.o (y.l.map ROb.kv)).length), []⟩ ∧ B = [bksO (some ⟨b0, o0, none⟩) c0 bs, y.own, r.asn]) := by
  obtain ⟨yk, yp, yc, yl⟩ := y
  dsimp only [RBk.own, RBk.kv, RBk.cells] at *
  have hj := (List.getElem?_eq_some_iff.1 hy).1
  refine FSpec.of func61 rfl ntmps61 rfl fun W0 F => ?_
  refine J.slrI (E0 := 150) (sz := 2) (p := yp) (n := yl.length) (c := yc) (xs := yl.flatMap ROb.cells) fun hsl => ?_
  obtain ⟨ks, hks⟩ : ∃ ks, ks = yl.map ROb.k := ⟨_, rfl⟩
  have hkl : ks.length = yl.length := by rw [hks, List.length_map]
  have hlst : listed x.o (yl.map ROb.kv) = ks.filter (lsel x.o) := by rw [hks]; unfold listed; rw [List.map_map]; rfl
  refine J.seq <| J.region ?_
  refine J.c rfl rfl (C.box (l := [_, _, _, _, _, _, _, _, _]) rfl rfl) ?_
  rintro _ _ ⟨b3, rfl, rfl⟩
  refine J.norm rfl ?_
  refine J.c rfl rfl (C.alloc (l := [_, _, _, _, _]) zeroValue44 rfl) ?_
  rintro _ _ ⟨b4, rfl, rfl⟩
  refine J.norm rfl <| J.nil <| J.then_n <| J.seq <| J.region ?_
  refine J.callI call30 (ris_spec 200) rfl rfl rfl ?_
  rintro _ _ ⟨rfl, rfl⟩
  refine J.norm rfl ?_
  refine J.c rfl rfl (C.alloc (l := [_, _, _, _, _]) zeroValue44 rfl) ?_
  rintro _ _ ⟨b5, rfl, rfl⟩
  refine J.norm rfl ?_
  refine J.stAJ (vs := [_, _, _, _, _]) rfl sizeOf44 rfl rfl ?_
  refine J.nil <| J.then_n <| J.seq <| J.seq <| J.region <| J.p rfl (Q.asg rfl) <| J.nil <| J.then_n <| J.block ?_
  refine J.give (X := own 9 1 (.slice none 0 0) []) (own.nil _ _ _) ?_
  refine J.keepI [own 9 1 (.slice none 0 0) [], bksO (some ⟨b0, o0, none⟩) c0 bs, own 150 2 (.slice yp yl.length yc) (yl.flatMap ROb.cells), pt b5 (.cells [Value.int .i64 (st 200).status, .int .u64 (st 200).upload, .slice none 0 0, .bool false, .slice none 0 0].toArray 44 (0, 0)), pt b4 (.cells [Value.int .i64 0, .int .u64 0, .slice none 0 0, .bool false, .slice none 0 0].toArray 44 (0, 0)), pt b3 (.cells x.cells.toArray 52 (0, 0)), F] ?_
  refine J.loop3 (fun (j : Nat) (_ : Option Addr) (_ : Nat) => j ≤ yl.length ∧ ((ks.take j).filter (lsel x.o)).length ≤ x.o.n.toNat) (fun j _ _ => yl.length - j) (fun j _ _ => [(0, .pointer (some ⟨b0, o0 + i * 2, none⟩)), (3, .pointer (some ⟨b3, 0, none⟩)), (4, .pointer (some ⟨b4, 0, none⟩)), (5, .pointer (some ⟨b5, 0, none⟩)), (6, .int .i64 j)])
   (fun j pa ca => [own 9 1 (.slice pa ((ks.take j).filter (lsel x.o)).length ca) (((ks.take j).filter (lsel x.o)).map Value.string), bksO (some ⟨b0, o0, none⟩) c0 bs, own 150 2 (.slice yp yl.length yc) (yl.flatMap ROb.cells), pt b5 (.cells [Value.int .i64 200, .int .u64 0, .slice pa ((ks.take j).filter (lsel x.o)).length ca, .bool false, .slice none 0 0].toArray 44 (0, 0)), pt b4 (.cells [Value.int .i64 0, .int .u64 0, .slice none 0 0, .bool false, .slice none 0 0].toArray 44 (0, 0)), pt b3 (.cells x.cells.toArray 52 (0, 0)), F])
   0 none 0 ⟨Nat.zero_le _, by simp⟩ ⟨rfl, rfl, rfl, rfl, rfl, trivial⟩ rfl fun j pa ca hw => ?_
  obtain ⟨hj2, ha⟩ := hw
  refine J.seq <| J.seq <| J.region <| J.m rfl <| J.m rfl <| J.p rfl (Q.nil_ rfl) <| J.p rfl (Q.fa (n := 1) runUnderlying136 rfl rfl sizeOf134 rfl) <| J.p rfl (Q.ld isAgg134 rfl (rfO 1 RBk.len hy (show _ = some (Value.slice yp yl.length yc) from rfl) (by omega))) <| J.p rfl (Q.lenSl runUnderlying134 rfl) <| J.p rfl (Q.lss rfl rfl) <| J.nil ?_
  refine J.then_n ?_
  refine J.kases 15 rfl (fun hc15 => ?_) (fun hc15 => ?_)
  ·
   refine J.cond_t rfl <| J.cskip <| J.then_n <| J.seq <| J.block <| J.seq ?_
   obtain ⟨bb, off, rfl, hrd⟩ := hsl.some_ (by omega)
   obtain ⟨a, hya⟩ : ∃ a, yl[j]? = some a := ⟨_, List.getElem?_eq_getElem (by omega)⟩
   have hka : ks[j]? = some a.k := by rw [hks, List.getElem?_map, hya]; rfl
   have hft := filter_take (p := lsel x.o) hka
   refine J.region <| J.m rfl <| J.p rfl (Q.nil_ rfl) <| J.p rfl (Q.fa (n := 1) runUnderlying136 rfl rfl sizeOf134 rfl) <| J.p rfl (Q.ld isAgg134 rfl (rfO 1 RBk.len hy (show _ = some (Value.slice (some ⟨bb, off, none⟩) yl.length yc) from rfl) (by omega))) <| J.m rfl <| J.p rfl (Q.ia runUnderlying134 sizeOf150 rfl rfl (by omega) (by omega)) ?_
   refine J.p rfl (Q.fa (n := 0) runUnderlying150 rfl rfl sizeOf9 rfl) <| J.p rfl (Q.ld isAgg9 rfl (rfO 0 ROb.len hya (show _ = some (Value.string a.k) from rfl) (by omega))) <| J.p rfl (Q.asg rfl) <| J.nil <| J.then_n <| J.seq <| J.seq <| J.region <| J.m rfl <| J.p rfl (Q.fa (n := 3) runUnderlying52 rfl rfl sizeOf9 rfl) ?_
   refine J.p rfl (Q.ldI isAgg9 rfl) ?_
   refine J.callI call79 (rbegins_spec a.k x.o.key) rfl rfl rfl ?_
   rintro _ _ ⟨rfl, rfl⟩
   refine J.norm rfl <| J.p rfl (Q.not rfl) <| J.m rfl ?_
   refine J.kases 31 rfl (fun hb31 => ?_) (fun hb31 => ?_)
   ·
    refine J.k rfl <| J.k rfl <| J.k rfl <| J.k rfl <| J.p rfl (Q.pick_t rfl rfl) <| J.nil <| J.then_n <| J.cond_t rfl <| J.exit <| J.then_x <| J.blk_x <| J.then_n <| J.region <| J.m rfl <| J.p rfl (Q.add64 rfl rfl (by omega)) <| J.p rfl (Q.asg rfl) <| J.nil ?_
    have hsel : lsel x.o a.k = false := by unfold lsel; first | (have h1 := hb31; have h2 : ltB x.o.after a.k = false := (by simpa using hc36); revert h1 h2; cases beg a.k x.o.key <;> cases ltB x.o.after a.k <;> decide) | (have h1 := hb31; revert h1; cases beg a.k x.o.key <;> cases ltB x.o.after a.k <;> decide)
    rw [hsel] at hft
    simp only [Bool.false_eq_true, if_false, List.append_nil] at hft
    rw [← hft] at ha ⊢
    refine J.againI (j + 1, pa, ca) ⟨by show j + 1 ≤ _; omega, ha⟩ (by show yl.length - (j + 1) < yl.length - j; omega) ⟨rfl, rfl, rfl, rfl, rfl, trivial⟩
   refine J.m rfl <| J.p rfl (Q.fa (n := 4) runUnderlying52 rfl rfl sizeOf9 rfl) ?_
   refine J.p rfl (Q.ldI isAgg9 rfl) ?_
   refine J.p rfl (leqs rfl rfl) ?_
   refine J.p rfl (Q.pick_f rfl rfl) <| J.nil <| J.then_n ?_
   refine J.kases 36 rfl (fun hc36 => ?_) (fun hc36 => ?_)
   ·
    refine J.cond_t rfl <| J.exit <| J.then_x <| J.blk_x <| J.then_n <| J.region <| J.m rfl <| J.p rfl (Q.add64 rfl rfl (by omega)) <| J.p rfl (Q.asg rfl) <| J.nil ?_
    have hsel : lsel x.o a.k = false := by unfold lsel; first | (have h1 := hb31; have h2 : ltB x.o.after a.k = false := (by simpa using hc36); revert h1 h2; cases beg a.k x.o.key <;> cases ltB x.o.after a.k <;> decide) | (have h1 := hb31; revert h1; cases beg a.k x.o.key <;> cases ltB x.o.after a.k <;> decide)
    rw [hsel] at hft
    simp only [Bool.false_eq_true, if_false, List.append_nil] at hft
    rw [← hft] at ha ⊢
    refine J.againI (j + 1, pa, ca) ⟨by show j + 1 ≤ _; omega, ha⟩ (by show yl.length - (j + 1) < yl.length - j; omega) ⟨rfl, rfl, rfl, rfl, rfl, trivial⟩
   refine J.cond_f rfl <| J.cskip <| J.then_n <| J.seq <| J.seq <| J.region <| J.p rfl (Q.fa (n := 2) runUnderlying44 rfl rfl sizeOf41 rfl) ?_
   refine J.p rfl (Q.ldI isAgg41 rfl) ?_
   refine J.p rfl (Q.lenSl runUnderlying41 rfl) <| J.p rfl (Q.fa (n := 5) runUnderlying52 rfl rfl sizeOf3 rfl) ?_
   refine J.p rfl (Q.ldI isAgg3 rfl) ?_
   refine J.p rfl (Q.eql rfl rfl) <| J.nil <| J.then_n ?_
   refine J.kases 42 rfl (fun hc42 => ?_) (fun hc42 => ?_)
   ·
    refine J.cond_t rfl <| J.seq <| J.region <| J.p rfl (Q.fa (n := 3) runUnderlying44 rfl rfl sizeOf4 rfl) ?_
    refine J.stJ rfl sizeOf4 rfl rfl rfl ?_
    refine J.nil <| J.then_n <| J.seq <| J.region ?_
    refine J.p rfl (Q.ldN (vs := [_, _, _, _, _]) isAgg44 sizeOf44 rfl rnI) ?_
    refine J.stAJ (vs := [_, _, _, _, _]) rfl sizeOf44 rfl rfl ?_
    refine J.nil <| J.then_n <| J.cret <| J.then_r <| J.blk_r <| J.then_r <| J.lp_r <| J.blk_r <| J.then_r ?_
    have hsel : lsel x.o a.k = true := by unfold lsel; first | (have h1 := hb31; have h2 : ltB x.o.after a.k = true := (by simpa using hc36); revert h1 h2; cases beg a.k x.o.key <;> cases ltB x.o.after a.k <;> decide) | (have h1 := hb31; revert h1; cases beg a.k x.o.key <;> cases ltB x.o.after a.k <;> decide)
    obtain ⟨r, hr⟩ := filter_more hka hsel
    have hal : ((ks.take j).filter (lsel x.o)).length = x.o.n.toNat := by omega
    refine J.give (X := own 5 1 (.slice none 0 0) []) (own.nil _ _ _) ?_
    refine J.shutI [own 9 1 (.slice pa ((ks.take j).filter (lsel x.o)).length ca) (((ks.take j).filter (lsel x.o)).map Value.string), own 5 1 (.slice none 0 0) []] (RW.asn ⟨⟨200, 0, (ks.take j).filter (lsel x.o), true, []⟩, pa, ca, none, 0⟩) (fun _ h => h) ?_
    refine J.retCI (vs := [_, _, _, _, _]) [bksO (some ⟨b0, o0, none⟩) c0 bs, own 150 2 (.slice (some ⟨bb, off, none⟩) yl.length yc) (yl.flatMap ROb.cells), RW.asn ⟨⟨200, 0, (ks.take j).filter (lsel x.o), true, []⟩, pa, ca, none, 0⟩] rfl rfl isAgg44 sizeOf44 rnI
     ⟨⟨⟨200, 0, (ks.take j).filter (lsel x.o), true, []⟩, pa, ca, none, 0⟩, rfl, by
      show RM.mk _ _ _ _ _ = _
      rw [hlst, hr, ← hal, List.take_left, List.length_append, List.length_cons, decide_eq_true (by omega)], rfl⟩
   refine J.cond_f rfl <| J.cskip <| J.then_n <| J.region <| J.p rfl (Q.fa (n := 2) runUnderlying44 rfl rfl sizeOf41 rfl) ?_
   refine J.p rfl (Q.ldI isAgg41 rfl) ?_
   refine J.m rfl ?_
   refine J.c rfl rfl (C.bslG (l := [_]) runUnderlying41 sizeOf9 zeroValue9 (by decide) rfl rfl rfl rfl rfl) ?_
   rintro _ _ ⟨b48, rfl, rfl⟩
   refine J.norm rfl ?_
   refine J.c rfl rfl (C.appI runUnderlying41 runUnderlying41 typeInfo9 sizeOf9 zeroValue9 rfl rfl (SlR.ptI rfl) (by simp [oneC]) (by simp [Tryz.t9] <;> omega) (by decide)) ?_
   rintro _ _ ⟨p49, c49, rfl, rfl⟩
   refine J.norm rfl <| J.p rfl (Q.fa (n := 2) runUnderlying44 rfl rfl sizeOf41 rfl) ?_
   refine J.stJ rfl sizeOf41 rfl rfl rfl ?_
   refine J.nil <| J.blk_n <| J.then_n <| J.region <| J.m rfl <| J.p rfl (Q.add64 rfl rfl (by omega)) <| J.p rfl (Q.asg rfl) <| J.nil ?_
   have hsel : lsel x.o a.k = true := by unfold lsel; first | (have h1 := hb31; have h2 : ltB x.o.after a.k = true := (by simpa using hc36); revert h1 h2; cases beg a.k x.o.key <;> cases ltB x.o.after a.k <;> decide) | (have h1 := hb31; revert h1; cases beg a.k x.o.key <;> cases ltB x.o.after a.k <;> decide)
   have e1 : (ks.take (j + 1)).filter (lsel x.o) = (ks.take j).filter (lsel x.o) ++ [a.k] := by rw [hft, hsel]; rfl
   have e2 : ((ks.take j).filter (lsel x.o)).length + 1 = ((ks.take (j + 1)).filter (lsel x.o)).length := by rw [e1]; simp
   have e3 : ((ks.take j).filter (lsel x.o)).map Value.string ++ [Value.string a.k] = ((ks.take (j + 1)).filter (lsel x.o)).map Value.string := by rw [e1]; simp
   have hdf := decide_eq_false hc42
   rw [e2, e3]
   refine J.againI (j + 1, p49, c49) ⟨by show j + 1 ≤ _; omega, by rw [← e2]; omega⟩ (by show yl.length - (j + 1) < yl.length - j; omega) ⟨rfl, rfl, rfl, rfl, rfl, trivial⟩
  refine J.cond_f rfl <| J.exit <| J.then_x <| J.lp_x <| J.blk_x <| J.then_n <| J.seq <| J.region ?_
  refine J.p rfl (Q.ldN (vs := [_, _, _, _, _]) isAgg44 sizeOf44 rfl rnI) ?_
  refine J.stAJ (vs := [_, _, _, _, _]) rfl sizeOf44 rfl rfl ?_
  refine J.nil <| J.then_n <| J.cret ?_
  have hjn : ks.take j = ks := List.take_of_length_le (by omega)
  rw [hjn] at ha ⊢
  refine J.give (X := own 5 1 (.slice none 0 0) []) (own.nil _ _ _) ?_
  refine J.shutI [own 9 1 (.slice pa (ks.filter (lsel x.o)).length ca) ((ks.filter (lsel x.o)).map Value.string), own 5 1 (.slice none 0 0) []] (RW.asn ⟨⟨200, 0, ks.filter (lsel x.o), false, []⟩, pa, ca, none, 0⟩) (fun _ h => h) ?_
  refine J.retCI (vs := [_, _, _, _, _]) [bksO (some ⟨b0, o0, none⟩) c0 bs, own 150 2 (.slice yp yl.length yc) (yl.flatMap ROb.cells), RW.asn ⟨⟨200, 0, ks.filter (lsel x.o), false, []⟩, pa, ca, none, 0⟩] rfl rfl isAgg44 sizeOf44 rnI
   ⟨⟨⟨200, 0, ks.filter (lsel x.o), false, []⟩, pa, ca, none, 0⟩, rfl, by
    show RM.mk _ _ _ _ _ = _
    rw [hlst, List.take_of_length_le ha, decide_eq_false (by omega)], rfl⟩
end Go.Proofs.YtidbcaimgahllaaGreat
namespace Go.Proofs.YtidbcaimgahllaaGreat
open Go.X
open Go.X.G (Ord3 ord3_nat ord3_int ord3_str ltB sget sput sdel Srtd sget_put sget_del)

def U64 : Nat := 18446744073709551615
structure BM.fit (k B : Nat) (M : BM) : Prop where
  ob : ∀ n q, sget n M.buckets = some q → n.size ≤ 64 ∧ ∀ p, p ∈ q → p.2.length ≤ k * B
  up : ∀ n u, sget n M.uploads = some u → n ≤ U64 ∧ u.parts.length ≤ k ∧ ∀ p, p ∈ u.parts → p.2.length ≤ B
  dn : ∀ n r, sget n M.done = some r → n ≤ U64 ∧ r.upload ≤ U64
theorem fit_new (B : Nat) : BM.fit 0 B ⟨[], [], []⟩ := ⟨(fun _ _ h => by cases h), (fun _ _ h => by cases h), (fun _ _ h => by cases h)⟩
theorem BM.fit.mono {k j B : Nat} {M : BM} (h : M.fit k B) (hk : k ≤ j) : M.fit j B :=
  ⟨fun n q hq => ⟨(h.ob n q hq).1, fun p hp => Nat.le_trans ((h.ob n q hq).2 p hp) (Nat.mul_le_mul_right B hk)⟩, fun n u hu => ⟨(h.up n u hu).1, Nat.le_trans (h.up n u hu).2.1 hk, (h.up n u hu).2.2⟩, h.dn⟩

theorem flat_bound {α : Type} {f : α → List UInt8} {C : Nat} : ∀ (l : List α), (∀ x, x ∈ l → (f x).length ≤ C) → (l.flatMap f).length ≤ l.length * C
  | [], _ => by simp
  | x :: l, h => by
    have h1 := h x List.mem_cons_self
    have h2 := flat_bound l fun y hy => h y (List.mem_cons_of_mem _ hy)
    simp only [List.flatMap_cons, List.length_append, List.length_cons, Nat.add_mul]; omega

theorem nodup_le {α : Type} [DecidableEq α] : ∀ (l m : List α), l.Nodup → (∀ x, x ∈ l → x ∈ m) → l.length ≤ m.length
  | [], m, _, _ => Nat.zero_le _
  | x :: l, m, hn, hs => by
    rw [List.nodup_cons] at hn
    have hx := hs x List.mem_cons_self
    have ih := nodup_le l (m.erase x) hn.2 fun y hy => by
      have hne : y ≠ x := by rintro rfl; exact hn.1 hy
      exact (List.mem_erase_of_ne hne).2 (hs y (List.mem_cons_of_mem _ hy))
    rw [List.length_erase_of_mem hx] at ih
    have := List.length_pos_of_mem hx
    simp only [List.length_cons]; omega

theorem chk_name {o : OM} (h : o.chkB = true) (hk : o.kind ≤ 7) : o.bucket.size ≤ 64 := by
  have e : o.bucket.data.toList.length = o.bucket.size := by simp
  rw [chk_eq] at h
  unfold OM.chkR at h
  repeat' split at h
  all_goals first
    | (simp only [Bool.and_eq_true, decide_eq_true_eq, nameOK] at h; omega)
    | (cases h; done)
    | omega
theorem chk_parts {o : OM} (h : o.chkB = true) (hk : o.kind = 9) : partsOK o.parts = true := by
  rw [chk_eq] at h
  unfold OM.chkR at h
  repeat' split at h
  all_goals first
    | (simp only [Bool.and_eq_true, decide_eq_true_eq] at h; simp [h]; done)
    | (exfalso; omega)
    | (cases h; done)
theorem rising_nodup {l : List Int} (h : partsOK l = true) : l.Nodup := by
  simp only [partsOK, Bool.and_eq_true] at h
  have hr := h.2
  unfold rises at hr
  rw [List.all_eq_true] at hr
  have step : ∀ i, i + 1 < l.length → l.getD i 0 < l.getD (i + 1) 0 := fun i hi => by
    have := hr (i + 1) (List.mem_range.2 hi)
    simp only [rise1, Bool.and_eq_true, Bool.or_eq_true, decide_eq_true_eq, Nat.add_sub_cancel] at this
    rcases this.2 with h | h
    · omega
    · exact h
  have lt : ∀ j i, i < j → j < l.length → l.getD i 0 < l.getD j 0 := by
    intro j
    induction j with
    | zero => intro i h; omega
    | succ j ih =>
      intro i hi hj
      have h1 := step j hj
      rcases Nat.lt_or_ge i j with q | q
      · have := ih i q (by omega); omega
      · have : i = j := by omega
        subst this; exact h1
  refine List.pairwise_iff_getElem.2 fun i j hi hj hij => ?_
  have := lt j i hij hj
  rw [List.getD_eq_getElem?_getD, List.getD_eq_getElem?_getD, List.getElem?_eq_getElem hi, List.getElem?_eq_getElem hj] at this
  simp only [Option.getD_some] at this
  omega
theorem collect_le {P : Parts} {l : List Int} {d : List UInt8} {B : Nat} (h : collect P l = some d) (hn : l.Nodup) (hP : ∀ p, p ∈ P → p.2.length ≤ B) : d.length ≤ P.length * B := by
  unfold collect at h
  split at h
  · rename_i ha
    cases h
    rw [List.all_eq_true] at ha
    have h1 : ∀ m : List Int, (m.flatMap (partOf P)).length ≤ m.length * B := by
      intro m
      induction m with
      | nil => simp
      | cons x m ih =>
        have : (partOf P x).length ≤ B := by
          unfold partOf
          cases hx : sget x P with
          | none => simp
          | some e => exact hP _ (X.G.sget_mem hx)
        simp only [List.flatMap_cons, List.length_append, List.length_cons, Nat.add_mul]; omega
    have h2 : l.length ≤ (P.map (·.1)).length := nodup_le l _ hn fun x hx => by
      obtain ⟨e, he⟩ := Option.isSome_iff_exists.1 (ha x hx)
      exact List.mem_map.2 ⟨_, X.G.sget_mem he, rfl⟩
    rw [List.length_map] at h2
    exact Nat.le_trans (h1 l) (Nat.mul_le_mul_right B h2)
  · cases h

theorem mem_put {κ ν : Type} [DecidableEq κ] {lt : κ → κ → Bool} (o : Ord3 lt) {l : List (κ × ν)} (h : Srtd lt l) {k : κ} {v : ν} {p : κ × ν} (hp : p ∈ sput lt k v l) : p = (k, v) ∨ p ∈ l := by
  have := (X.G.sput_perm o (h.nodup o) k v).mem_iff.1 hp
  rcases List.mem_cons.1 this with h | h
  · exact .inl h
  · exact .inr (List.mem_filter.1 h).1

theorem act_fit {k B : Nat} {M : BM} (hM : M.ok k) (h : M.fit k B) {o : OM} (hc : o.chkB = true) (hd : o.data.length ≤ B) (hi : o.id ≤ U64) : (M.act o).2.fit (k + 1) B ∧ (M.act o).1.upload ≤ U64 := by
  have h' := h.mono (Nat.le_succ k)
  have hst : ∀ n : Int, (st n).upload ≤ U64 := fun n => by show 0 ≤ _; exact Nat.zero_le _
  unfold BM.act
  split
  · unfold BM.make
    split
    · exact ⟨h', hst _⟩
    · refine ⟨⟨fun n q hq => ?_, h'.up, h'.dn⟩, hst _⟩
      rw [sget_put ord3_str] at hq
      split at hq
      · rename_i e; cases hq; subst e; exact ⟨chk_name hc (by omega), by simp⟩
      · exact h'.ob n q hq
  split
  · unfold BM.unmake
    split
    · exact ⟨h', hst _⟩
    · split
      · exact ⟨h', hst _⟩
      · refine ⟨⟨fun n q hq => ?_, h'.up, h'.dn⟩, hst _⟩
        rw [sget_del] at hq
        split at hq
        · cases hq
        · exact h'.ob n q hq
  split
  · unfold BM.put
    split
    · exact ⟨h', hst _⟩
    · rename_i objs hb
      refine ⟨⟨fun n q hq => ?_, h'.up, h'.dn⟩, hst _⟩
      rw [sget_put ord3_str] at hq
      split at hq
      · rename_i e; cases hq; subst e
        refine ⟨(h.ob _ _ hb).1, fun p hp => ?_⟩
        rcases mem_put ord3_str (hM.os _ _ hb).1 hp with rfl | hp
        · show o.data.length ≤ _; rw [Nat.add_mul]; omega
        · exact (h'.ob _ _ hb).2 p hp
      · exact h'.ob n q hq
  split
  · unfold BM.get
    split
    · exact ⟨h', hst _⟩
    · split
      · exact ⟨h', hst _⟩
      · exact ⟨h', Nat.zero_le _⟩
  split
  · unfold BM.delete
    split
    · exact ⟨h', hst _⟩
    · rename_i objs hb
      split
      · exact ⟨h', hst _⟩
      · refine ⟨⟨fun n q hq => ?_, h'.up, h'.dn⟩, hst _⟩
        rw [sget_put ord3_str] at hq
        split at hq
        · rename_i e; cases hq; subst e
          exact ⟨(h.ob _ _ hb).1, fun p hp => (h'.ob _ _ hb).2 p (List.mem_filter.1 hp).1⟩
        · exact h'.ob n q hq
  split
  · unfold BM.list
    split
    · exact ⟨h', hst _⟩
    · exact ⟨h', Nat.zero_le _⟩
  split
  · unfold BM.begin
    split
    · exact ⟨h', hst _⟩
    · refine ⟨⟨h'.ob, fun n u hu => ?_, h'.dn⟩, hi⟩
      rw [sget_put ord3_nat] at hu
      split at hu
      · rename_i e; cases hu; subst e; exact ⟨hi, Nat.zero_le _, by simp⟩
      · exact h'.up n u hu
  split
  · unfold BM.part
    split
    · exact ⟨h', hst _⟩
    · rename_i u0 hu0
      refine ⟨⟨h'.ob, fun n u hu => ?_, h'.dn⟩, hst _⟩
      rw [sget_put ord3_nat] at hu
      split at hu
      · rename_i e; cases hu; subst e
        have h0 := h.up _ _ hu0
        refine ⟨h0.1, ?_, fun p hp => ?_⟩
        · have := sput_len (lt := ltI) ord3_int (hM.ps _ _ hu0).1 o.n o.data
          show (sput ltI o.n o.data u0.parts).length ≤ _; omega
        · rcases mem_put ord3_int (hM.ps _ _ hu0).1 hp with rfl | hp
          · exact hd
          · exact h0.2.2 p hp
      · exact h'.up n u hu
  split
  · unfold BM.complete
    split
    · exact ⟨h', hst _⟩
    · rename_i u0 hu0
      split
      · exact ⟨h', hst _⟩
      · rename_i dd hdd
        have h0 := h.up _ _ hu0
        have hcl := collect_le hdd (rising_nodup (chk_parts hc (by omega))) h0.2.2
        obtain ⟨objs, hB⟩ := Option.isSome_iff_exists.1 (hM.ps _ _ hu0).2.1
        refine ⟨⟨fun n q hq => ?_, fun n u hu => ?_, h'.dn⟩, hst _⟩
        · rw [sget_put ord3_str] at hq
          split at hq
          · rename_i e; cases hq; subst e
            rw [hB]
            refine ⟨(h.ob _ _ hB).1, fun p hp => ?_⟩
            rcases mem_put ord3_str (hM.os _ _ hB).1 hp with rfl | hp
            · exact Nat.le_trans hcl (Nat.mul_le_mul_right B (by omega))
            · exact (h'.ob _ _ hB).2 p hp
          · exact h'.ob n q hq
        · rw [sget_del] at hu
          split at hu
          · cases hu
          · exact h'.up n u hu
  · unfold BM.abort
    split
    · exact ⟨h', hst _⟩
    · refine ⟨⟨h'.ob, fun n u hu => ?_, h'.dn⟩, hst _⟩
      rw [sget_del] at hu
      split at hu
      · cases hu
      · exact h'.up n u hu

theorem run_fit {k B : Nat} {M : BM} (hM : M.ok k) (h : M.fit k B) {o : OM} (hd : o.data.length ≤ B) (hi : o.id ≤ U64) : (M.run o).2.fit (k + 1) B := by
  unfold BM.run
  split
  · rename_i hc
    have ha := act_fit hM h hc hd hi
    split
    · exact ha.1
    · split
      · exact h.mono (Nat.le_succ k)
      · refine ⟨ha.1.ob, ha.1.up, fun n r hr => ?_⟩
        rw [sget_put ord3_nat] at hr
        split at hr
        · rename_i e; cases hr; subst e; exact ⟨hi, ha.2⟩
        · exact (h.mono (Nat.le_succ k)).dn n r hr
  · exact h.mono (Nat.le_succ k)
end Go.Proofs.YtidbcaimgahllaaGreat
namespace Go.Proofs.YtidbcaimgahllaaGreat
open Go.Proofs.Tryz
open Go.X
open Go.X.G (Ord3 ord3_nat ord3_int ord3_str ltB sget sput sdel Srtd)

section
variable {k : Nat} (m : Nat) (M : BM) (hM : M.lite) (hok : M.ok k) (hk : k ≤ 32768) (x : OW) (G : Assn) (hx : x.ok G)
include hM hok hk hx
theorem rcomplete_spec (hp : partsOK x.o.parts = true) {u : UM} (hu : sget x.o.upload M.uploads = some u) {i : Nat} (hi : AtK ltN x.o.upload M.uploads i) : FSpec Tryz.prog 56 [.pointer (some ⟨m, 0, none⟩), .agg x.cells.toArray, .int .i64 i] [RefAt m M, G]
    (fun v B => v = bareV (M.complete x.o).1 ∧ B = [RefAt m (M.complete x.o).2, G]) := by
  refine FSpec.of func56 rfl ntmps56 rfl fun W0 F => ?_
  refine J.seq <| J.region ?_
  refine J.c rfl rfl (C.box (l := [_, _, _, _, _, _, _, _, _]) rfl rfl) ?_
  rintro _ _ ⟨b4, rfl, rfl⟩
  refine J.norm rfl ?_
  refine J.c rfl rfl (C.alloc (l := [_, _, _, _, _]) zeroValue44 rfl) ?_
  rintro _ _ ⟨b6, rfl, rfl⟩
  refine J.norm rfl <| J.nil <| J.then_n <| J.seq ?_
  refine J.openRef (m := m) (M := M) fun p1 c1 bs p2 c2 us p3 c3 hyb hyu hyk => ?_
  refine J.norm rfl ?_
  have hbs : Srtd ltB (bs.map RBk.kv) := by rw [hyb]; exact hM.bs
  have hus : Srtd ltN (us.map RUp.kv) := by rw [hyu]; exact hM.us
  have hbl : bs.length = M.buckets.length := by rw [← hyb, List.length_map]
  have hul : us.length = M.uploads.length := by rw [← hyu, List.length_map]
  have hlen := hM.len
  refine J.slrI (E0 := 136) (sz := 2) (p := p1) (n := bs.length) (c := c1) (xs := bs.flatMap RBk.cells) fun hsb => ?_
  refine J.slrI (E0 := 143) (sz := 4) (p := p2) (n := us.length) (c := c2) (xs := us.flatMap RUp.cells) fun hsu => ?_
  obtain ⟨y, hyi, hyq⟩ := at_map (by rw [hyu]; exact hi.here ord3_nat hM.us hu)
  obtain ⟨yk, yb, yo, yp, yc, yl⟩ := y
  simp only [RUp.kv, Prod.mk.injEq] at hyq
  obtain ⟨hyk1, rfl⟩ := hyq
  have hil := (List.getElem?_eq_some_iff.1 hyi).1
  obtain ⟨bb, off, rfl, hrd⟩ := hsu.some_ (by omega)
  obtain ⟨hps, hex, hdl⟩ := hok.ps _ _ hu
  have hyl : yl.length ≤ 32768 := by have := hM.pl _ _ hu; rwa [List.length_map] at this
  dsimp only at hps hex hdl
  have hpl : x.o.parts.length ≤ 10000 := by
   simp only [partsOK, Bool.and_eq_true, decide_eq_true_eq] at hp; omega
  have hpo : ∀ n, (partOf (yl.map RPt.kv) n).length ≤ 16777216 := by
   intro n; unfold partOf
   cases h : sget n (yl.map RPt.kv) with
   | none => simp
   | some d => exact hdl _ _ h
  have hal : ∀ j, ((x.o.parts.take j).flatMap (partOf (yl.map RPt.kv))).length ≤ 10000 * 16777216 := fun j => Nat.le_trans (flat_bound (C := 16777216) _ fun n _ => hpo n) (Nat.mul_le_mul_right _ (by rw [List.length_take]; omega))
  refine J.focusI (f := RUp.asn) i hyi ?_
  refine J.openI (RUp.asn ⟨yk, yb, yo, yp, yc, yl⟩) (Bs := fun _ : Unit => [own 146 2 (.slice yp yl.length yc) (yl.flatMap RPt.cells), star (yl.map RPt.asn)]) (p := fun _ => True) (fun _ h => ⟨(), trivial, h⟩) fun _ _ => ?_
  refine J.norm rfl ?_
  refine J.slrI (E0 := 146) (sz := 2) (p := yp) (n := yl.length) (c := yc) (xs := yl.flatMap RPt.cells) fun hsp => ?_
  refine J.tells 0 rfl own.len fun hlp => ?_
  refine J.region <| J.m rfl <| J.p rfl (Q.nil_ rfl) <| J.p rfl (Q.fa (n := 1) runUnderlying98 rfl rfl sizeOf95 rfl) ?_
  refine J.p rfl (Q.ldI isAgg95 rfl) ?_
  refine J.m rfl <| J.p rfl (Q.ia runUnderlying95 sizeOf143 rfl rfl (by omega) (by omega)) <| J.p rfl (Q.asg rfl) <| J.nil <| J.then_n <| J.seq <| J.region <| J.p rfl (Q.asg rfl) <| J.nil <| J.then_n <| J.seq <| J.seq <| J.region <| J.p rfl (Q.asg rfl) <| J.nil <| J.then_n <| J.block ?_
  refine J.give (X := own 5 1 (.slice none 0 0) (bytesV [])) (own.nil _ _ _) ?_
  refine J.keepI [own 5 1 (.slice none 0 0) (bytesV []), refP m (.slice p1 bs.length c1) (.slice (some ⟨bb, off, none⟩) us.length c2) (.slice p3 M.done.length c3), bksO p1 c1 bs, upsO (some ⟨bb, off, none⟩) c2 us, kpsO p3 c3 M.done, star (bs.map RBk.asn), own 146 2 (.slice yp yl.length yc) (yl.flatMap RPt.cells), star (yl.map RPt.asn), star ((us.eraseIdx i).map RUp.asn),
   pt b6 (.cells [Value.int .i64 0, .int .u64 0, .slice none 0 0, .bool false, .slice none 0 0].toArray 44 (0, 0)), pt b4 (.cells x.cells.toArray 52 (0, 0)), G, F] ?_
  refine J.loop3 (fun (j : Nat) (_ : Option Addr) (_ : Nat) => j ≤ x.o.parts.length ∧ ∀ q, q ∈ x.o.parts.take j → (sget q (yl.map RPt.kv)).isSome = true) (fun j _ _ => x.o.parts.length - j)
   (fun j p c => [(0, .pointer (some ⟨m, 0, none⟩)), (2, .int .i64 i), (4, .pointer (some ⟨b4, 0, none⟩)), (6, .pointer (some ⟨b6, 0, none⟩)), (7, .pointer (some ⟨bb, off + i * 4, none⟩)), (8, .slice p ((x.o.parts.take j).flatMap (partOf (yl.map RPt.kv))).length c), (9, .int .i64 j)])
   (fun j p c => [own 5 1 (.slice p ((x.o.parts.take j).flatMap (partOf (yl.map RPt.kv))).length c) (bytesV ((x.o.parts.take j).flatMap (partOf (yl.map RPt.kv)))), refP m (.slice p1 bs.length c1) (.slice (some ⟨bb, off, none⟩) us.length c2) (.slice p3 M.done.length c3), bksO p1 c1 bs, upsO (some ⟨bb, off, none⟩) c2 us, kpsO p3 c3 M.done, star (bs.map RBk.asn), own 146 2 (.slice yp yl.length yc) (yl.flatMap RPt.cells), star (yl.map RPt.asn), star ((us.eraseIdx i).map RUp.asn),
   pt b6 (.cells [Value.int .i64 0, .int .u64 0, .slice none 0 0, .bool false, .slice none 0 0].toArray 44 (0, 0)), pt b4 (.cells x.cells.toArray 52 (0, 0)), G, F])
   0 none 0 ⟨Nat.zero_le _, (fun _ h => by cases h)⟩ ⟨rfl, rfl, rfl, rfl, rfl, rfl, rfl, trivial⟩ rfl fun j p c hw => ?_
  obtain ⟨hj, hall⟩ := hw
  have hacc := hal j
  refine J.seq <| J.seq <| J.region <| J.m rfl <| J.p rfl (Q.fa (n := 7) runUnderlying52 rfl rfl sizeOf50 rfl) ?_
  refine J.p rfl (Q.ldI isAgg50 rfl) ?_
  refine J.p rfl (Q.lenSl runUnderlying50 rfl) <| J.p rfl (Q.lss rfl rfl) <| J.nil <| J.then_n ?_
  refine J.kases 24 rfl (fun hc24 => ?_) (fun hc24 => ?_)
  ·
   refine J.cond_t rfl <| J.cskip <| J.then_n <| J.seq <| J.block <| J.seq ?_
   obtain ⟨bp, op, hpp, hrp⟩ := hx.parts.some_ (by omega)
   obtain ⟨n, hn⟩ : ∃ n, x.o.parts[j]? = some n := ⟨_, List.getElem?_eq_getElem (by omega)⟩
   refine J.region <| J.m rfl <| J.p rfl (Q.fa (n := 7) runUnderlying52 rfl rfl sizeOf50 rfl) ?_
   refine J.p rfl (Q.ldI isAgg50 rfl) ?_
   refine J.slot 30 (.slice (some ⟨bp, op, none⟩) x.o.parts.length x.pc) rfl (by rw [hpp]) ?_
   refine J.m rfl <| J.p rfl (Q.ia runUnderlying50 sizeOf3 rfl rfl (by omega) (by omega)) <| J.p rfl (Q.ld isAgg3 rfl ((hrp j (.int .i64 n) (by simp [hn])).cast (by omega)).inI) ?_
   refine J.callI call58 (rpart_spec bb off c2 us hyi n hps (by show yl.length ≤ _; omega)) rfl rfl rfl ?_
   rintro _ _ ⟨a, rfl, ha, rfl⟩
   refine J.norm rfl ?_
   replace ha : AtK ltI n (yl.map RPt.kv) a := ha
   refine J.m rfl <| J.p rfl (Q.ext rfl rfl) <| J.p rfl (Q.ext rfl rfl) <| J.p rfl (Q.asg rfl) <| J.p rfl (Q.asg rfl) <| J.nil <| J.then_n <| J.seq <| J.seq <| J.region <| J.m rfl <| J.p rfl (Q.not rfl) <| J.nil <| J.then_n ?_
   refine J.kases 38 rfl (fun hc38 => ?_) (fun hc38 => ?_)
   ·
    refine J.cond_t rfl <| J.seq <| J.region ?_
    refine J.callI call30 (ris_spec 400) rfl rfl rfl ?_
    rintro _ _ ⟨rfl, rfl⟩
    refine J.norm rfl ?_
    refine J.stAJ (vs := [_, _, _, _, _]) rfl sizeOf44 rfl rfl ?_
    refine J.nil <| J.then_n <| J.cret <| J.then_r <| J.blk_r <| J.then_r <| J.lp_r <| J.blk_r <| J.then_r ?_
    replace hc38 : (sget n (yl.map RPt.kv)).isSome = false := by simpa using hc38
    have e : M.complete x.o = (st 400, M) := by
     unfold BM.complete; rw [hu]; unfold collect; dsimp only
     rw [if_neg (by intro h; rw [List.all_eq_true] at h; have := h n (List.mem_of_getElem? hn); rw [hc38] at this; cases this)]
    refine J.shutI [own 146 2 (.slice yp yl.length yc) (yl.flatMap RPt.cells), star (yl.map RPt.asn)] (RUp.asn ⟨yk, yb, yo, yp, yc, yl⟩) (fun _ h => h) ?_
    refine J.unfocusI (f := RUp.asn) i ⟨yk, yb, yo, yp, yc, yl⟩ hil ?_
    rw [set_self hyi]
    refine J.shutI (refL m M p1 c1 bs (some ⟨bb, off, none⟩) c2 us p3 c3) (RefAt m M) (RefAt.of hyb hyu hyk) ?_
    rw [e]
    refine J.retCI (vs := [_, _, _, _, _]) [RefAt m M, G] rfl rfl isAgg44 sizeOf44 rnI ⟨rfl, rfl⟩
   refine J.cond_f rfl <| J.cskip <| J.then_n ?_
   replace hc38 : (sget n (yl.map RPt.kv)).isSome = true := by simpa using hc38
   obtain ⟨d, hd⟩ := Option.isSome_iff_exists.1 hc38
   obtain ⟨q, hq, hqv⟩ := at_map (ha.here ord3_int hps hd)
   have hqa := (List.getElem?_eq_some_iff.1 hq).1
   have hqd : q.d = d := congrArg Prod.snd hqv
   have hqd2 := hdl _ _ hd
   obtain ⟨b2, o2, rfl, hrd2⟩ := hsp.some_ (by omega)
   refine J.slrStarI (f := RPt.asn) (E := 5) (sz := 1) (p := q.p) (n := q.d.length) (c := q.c) (xs := bytesV q.d) a hq rfl fun hsd => ?_
   have hql : q.d.length ≤ 16777216 := by rw [hqd]; exact hqd2
   obtain ⟨acc, hac⟩ : ∃ acc, acc = (x.o.parts.take j).flatMap (partOf (yl.map RPt.kv)) := ⟨_, rfl⟩
   rw [← hac] at hacc ⊢
   refine J.region <| J.m rfl <| J.m rfl <| J.p rfl (Q.nil_ rfl) <| J.p rfl (Q.fa (n := 3) runUnderlying143 rfl rfl sizeOf141 rfl) <| J.p rfl (Q.ld isAgg141 rfl (rfO 3 RUp.len hyi (show _ = some (Value.slice (some ⟨b2, o2, none⟩) yl.length yc) from rfl) (by omega))) <| J.m rfl <| J.p rfl (Q.ia runUnderlying141 sizeOf146 rfl rfl (by omega) (by omega)) ?_
   refine J.p rfl (Q.fa (n := 1) runUnderlying146 rfl rfl sizeOf42 rfl) <| J.p rfl (Q.ld isAgg42 rfl (rfO 1 RPt.len hq (show _ = some (Value.slice q.p q.d.length q.c) from rfl) (by omega))) ?_
   refine J.c rfl rfl (C.appI runUnderlying42 runUnderlying42 typeInfo5 sizeOf5 zeroValue5 rfl rfl (hsd.inI) (bytesV_one _) (by simp [Tryz.t5] <;> omega) (by decide)) ?_
   rintro _ _ ⟨p49, c49, rfl, rfl⟩
   refine J.norm rfl <| J.p rfl (Q.asg rfl) <| J.nil <| J.blk_n <| J.then_n <| J.region <| J.m rfl <| J.p rfl (Q.add64 rfl rfl (by omega)) <| J.p rfl (Q.asg rfl) <| J.nil ?_
   have e1 : (x.o.parts.take (j + 1)).flatMap (partOf (yl.map RPt.kv)) = (x.o.parts.take j).flatMap (partOf (yl.map RPt.kv)) ++ q.d := by
    obtain ⟨h1, h2⟩ := List.getElem?_eq_some_iff.1 hn
    rw [List.take_succ_eq_append_getElem h1, h2, List.flatMap_append, List.flatMap_cons, List.flatMap_nil, List.append_nil]
    rw [show partOf (yl.map RPt.kv) n = q.d from by unfold partOf; rw [hd, hqd]; rfl]
   rw [← hac] at e1
   have e2 : acc.length + q.d.length = ((x.o.parts.take (j + 1)).flatMap (partOf (yl.map RPt.kv))).length := by rw [e1, List.length_append]
   have e3 : bytesV acc ++ bytesV q.d = bytesV ((x.o.parts.take (j + 1)).flatMap (partOf (yl.map RPt.kv))) := by rw [e1]; simp [bytesV]
   rw [e2, e3]
   refine J.againI (j + 1, p49, c49) ⟨by show j + 1 ≤ _; omega, by
    obtain ⟨h1, h2⟩ := List.getElem?_eq_some_iff.1 hn
    intro r hr
    rw [show (j + 1, p49, c49).1 = j + 1 from rfl, List.take_succ_eq_append_getElem h1, h2, List.mem_append] at hr
    rcases hr with hr | hr
    · exact hall r hr
    · rw [List.mem_singleton.1 hr]; exact hc38⟩ (by show x.o.parts.length - (j + 1) < x.o.parts.length - j; omega) ⟨rfl, rfl, rfl, rfl, rfl, rfl, rfl, trivial⟩
  refine J.cond_f rfl <| J.exit <| J.then_x <| J.lp_x <| J.blk_x <| J.then_n <| J.seq ?_
  obtain ⟨acc, hac⟩ : ∃ acc, acc = (x.o.parts.take j).flatMap (partOf (yl.map RPt.kv)) := ⟨_, rfl⟩
  rw [← hac] at hacc ⊢
  have hcol : collect (yl.map RPt.kv) x.o.parts = some acc := by
   rw [List.take_of_length_le (by omega)] at hac hall
   unfold collect
   rw [if_pos (List.all_eq_true.2 hall), hac]
  obtain ⟨objs, hob⟩ := Option.isSome_iff_exists.1 hex
  obtain ⟨hso, hol, _⟩ := hok.os _ _ hob
  refine J.region <| J.m rfl <| J.m rfl <| J.p rfl (Q.nil_ rfl) <| J.p rfl (Q.fa (n := 1) runUnderlying143 rfl rfl sizeOf9 rfl) <| J.p rfl (Q.ld isAgg9 rfl (rfO 1 RUp.len hyi (show _ = some (Value.string yb) from rfl) (by omega))) ?_
  refine J.callI call54 (rbucket_spec m p1 c1 bs (.slice (some ⟨bb, off, none⟩) us.length c2) (.slice p3 M.done.length c3) yb hbs (by omega)) rfl rfl rfl ?_
  rintro _ _ ⟨a, rfl, ha, rfl⟩
  refine J.norm rfl ?_
  rw [hyb] at ha ⊢
  refine J.m rfl <| J.p rfl (Q.ext rfl rfl) <| J.p rfl (Q.ext rfl rfl) <| J.p rfl (Q.asg rfl) <| J.p rfl (Q.asg rfl) <| J.nil <| J.then_n <| J.seq ?_
  obtain ⟨z, hz, hzv⟩ := at_map (by rw [hyb]; exact ha.here ord3_str hM.bs hob)
  have hza := (List.getElem?_eq_some_iff.1 hz).1
  have hzk : z.k = yb := congrArg Prod.fst hzv
  have hzl : z.l.map ROb.kv = objs := congrArg Prod.snd hzv
  have hzn : z.l.length ≤ 32768 := by have := congrArg List.length hzl; rw [List.length_map] at this; omega
  obtain ⟨b1, o1, rfl, hrd1⟩ := hsb.some_ (by omega)
  refine J.slrI (E0 := 5) (sz := 1) (p := p) (n := acc.length) (c := c) (xs := bytesV acc) fun hsa => ?_
  refine J.focusI (f := RBk.asn) a hz ?_
  refine J.openI z.asn (Bs := fun _ : Unit => [z.own, star (z.l.map ROb.asn)]) (p := fun _ => True) (fun _ h => ⟨(), trivial, h⟩) fun _ _ => ?_
  refine J.norm rfl ?_
  refine J.draw [11] Tryz.mixed (by kernel_rfl) fun hR => ?_
  refine RG.p 0 hR rfl (Q.mv rfl) <| RG.p 1 hR rfl (Q.nil_ rfl) <| RG.p 2 hR rfl (Q.fa (n := 0) runUnderlying98 rfl rfl sizeOf94 rfl) ?_
  refine RG.p 3 hR rfl (Q.ldI isAgg94 rfl) ?_
  refine RG.p 4 hR rfl (Q.mv rfl) <| RG.p 5 hR rfl (Q.ia runUnderlying94 sizeOf136 rfl rfl (by omega) (by omega)) <| RG.p 6 hR rfl (Q.mv rfl) <| RG.p 7 hR rfl (Q.nil_ rfl) <| RG.p 8 hR rfl (Q.fa (n := 2) runUnderlying143 rfl rfl sizeOf9 rfl) <| RG.p 9 hR rfl (Q.ld isAgg9 rfl (rfO 2 RUp.len hyi (show _ = some (Value.string yo) from rfl) (by omega))) ?_
  refine RG.p 10 hR rfl (Q.mv rfl) ?_
  refine RG.callI 11 hR rfl rfl rfl rfl rfl rfl call60 (rput_spec (own 5 1 (.slice p acc.length c) (bytesV acc)) b1 o1 c1 bs hz yo p c acc hsa (by omega) (by rw [hzl]; exact hso) (by omega)) rfl ?_
  rintro _ _ ⟨z2, hz1, hz2, rfl, rfl⟩
  refine RG.norm rfl ?_
  refine RG.fin hR rfl ?_
  refine J.norm rfl <| J.then_n <| J.seq ?_
  refine J.shutI [z2.own, star (z2.l.map ROb.asn)] z2.asn (fun _ h => h) ?_
  refine J.unfocusI (f := RBk.asn) a z2 hza ?_
  refine J.shutI [own 146 2 (.slice yp yl.length yc) (yl.flatMap RPt.cells), star (yl.map RPt.asn)] (RUp.asn ⟨yk, yb, yo, yp, yc, yl⟩) (fun _ h => h) ?_
  refine J.unfocusI (f := RUp.asn) i ⟨yk, yb, yo, yp, yc, yl⟩ hil ?_
  rw [set_self hyi]
  obtain ⟨M1, hM1⟩ : ∃ M1 : BM, M1 = { M with buckets := sput ltB yb (sput ltB yo acc objs) M.buckets } := ⟨_, rfl⟩
  have hset : (bs.set a z2).map RBk.kv = M1.buckets := by
   rw [hM1, List.map_set, hyb, ha.put_yes ord3_str hM.bs hob]
   rw [show z2.kv = (yb, sput ltB yo acc objs) from by rw [← hzl, ← hz2, ← hzk, ← hz1]]
  have lM1 : M1.lite := ⟨by rw [hM1]; exact X.G.srtd_put ord3_str hM.bs _ _, by rw [hM1]; exact hM.us, by rw [hM1]; exact hM.ds, by rw [← hset, List.length_map, List.length_set, hM1]; exact ⟨by omega, hM.len.2⟩, by rw [hM1]; exact hM.pl⟩
  refine J.convI (refP m (.slice (some ⟨b1, o1, none⟩) bs.length c1) (.slice (some ⟨bb, off, none⟩) us.length c2) (.slice p3 M.done.length c3)) (refP m (.slice (some ⟨b1, o1, none⟩) (bs.set a z2).length c1) (.slice (some ⟨bb, off, none⟩) us.length c2) (.slice p3 M1.done.length c3)) (fun _ h => by rw [List.length_set, hM1]; exact h) ?_
  refine J.convI (kpsO p3 c3 M.done) (kpsO p3 c3 M1.done) (fun _ h => by rw [hM1]; exact h) ?_
  refine J.shutI (refL m M1 (some ⟨b1, o1, none⟩) c1 (bs.set a z2) (some ⟨bb, off, none⟩) c2 us p3 c3) (RefAt m M1) (RefAt.of (M := M1) hset (by rw [hM1]; exact hyu) (by rw [hM1]; exact hyk)) ?_
  refine J.region <| J.m rfl <| J.m rfl ?_
  refine J.callI call57 (rgone_spec m M1 lM1 (n := x.o.upload) (u := ⟨yb, yo, yl.map RPt.kv⟩) (i := i) (by rw [hM1]; exact hi) (by rw [hM1]; exact hu)) rfl rfl rfl ?_
  rintro _ _ ⟨rfl, rfl⟩
  refine J.norm rfl <| J.nil <| J.then_n <| J.seq <| J.region ?_
  refine J.callI call30 (ris_spec 200) rfl rfl rfl ?_
  rintro _ _ ⟨rfl, rfl⟩
  refine J.norm rfl ?_
  refine J.stAJ (vs := [_, _, _, _, _]) rfl sizeOf44 rfl rfl ?_
  refine J.nil <| J.then_n <| J.cret ?_
  have e : M.complete x.o = (st 200, { M1 with uploads := sdel x.o.upload M1.uploads }) := by
   unfold BM.complete; rw [hu]; dsimp only; rw [hcol, hob, hM1]; rfl
  rw [e]
  refine J.retCI (vs := [_, _, _, _, _]) [RefAt m { M1 with uploads := sdel x.o.upload M1.uploads }, G] rfl rfl isAgg44 sizeOf44 rnI ⟨rfl, rfl⟩
end

section
variable {k : Nat} (m : Nat) (M : BM) (hM : M.lite) (hok : M.ok k) (hk : k ≤ 32768) (x : OW) (G : Assn) (hx : x.ok G)
include hM hok hk hx
theorem rinUpload_spec (hkk : x.o.kind = 8 ∨ x.o.kind = 9 ∨ x.o.kind = 10) (hp : x.o.kind = 9 → partsOK x.o.parts = true) (hdl : x.o.data.length ≤ 16777216) : FSpec Tryz.prog 34 [.pointer (some ⟨m, 0, none⟩), .agg x.cells.toArray] [RefAt m M, G]
    (fun v B => v = bareV (M.act x.o).1 ∧ B = [RefAt m (M.act x.o).2, G]) := by
  refine FSpec.of func34 rfl ntmps34 rfl fun W0 F => ?_
  refine J.seq <| J.region ?_
  refine J.c rfl rfl (C.box (l := [_, _, _, _, _, _, _, _, _]) rfl rfl) ?_
  rintro _ _ ⟨b3, rfl, rfl⟩
  refine J.norm rfl ?_
  refine J.c rfl rfl (C.alloc (l := [_, _, _, _, _]) zeroValue44 rfl) ?_
  rintro _ _ ⟨b4, rfl, rfl⟩
  refine J.norm rfl <| J.nil <| J.then_n <| J.seq ?_
  refine J.openRef (m := m) (M := M) fun p1 c1 bs p2 c2 us p3 c3 hyb hyu hyk => ?_
  refine J.norm rfl ?_
  have hbs : Srtd ltB (bs.map RBk.kv) := by rw [hyb]; exact hM.bs
  have hus : Srtd ltN (us.map RUp.kv) := by rw [hyu]; exact hM.us
  have hbl : bs.length = M.buckets.length := by rw [← hyb, List.length_map]
  have hul : us.length = M.uploads.length := by rw [← hyu, List.length_map]
  have hlen := hM.len
  refine J.slrI (E0 := 136) (sz := 2) (p := p1) (n := bs.length) (c := c1) (xs := bs.flatMap RBk.cells) fun hsb => ?_
  refine J.slrI (E0 := 143) (sz := 4) (p := p2) (n := us.length) (c := c2) (xs := us.flatMap RUp.cells) fun hsu => ?_
  refine J.region <| J.m rfl <| J.p rfl (Q.fa (n := 6) runUnderlying52 rfl rfl sizeOf40 rfl) ?_
  refine J.p rfl (Q.ldI isAgg40 rfl) ?_
  refine J.callI call55 (rupload_spec m p2 c2 us (.slice p1 bs.length c1) (.slice p3 M.done.length c3) x.o.upload hus (by omega)) rfl rfl rfl ?_
  rintro _ _ ⟨i, rfl, hi, rfl⟩
  refine J.norm rfl ?_
  rw [hyu] at hi ⊢
  refine J.m rfl <| J.p rfl (Q.ext rfl rfl) <| J.p rfl (Q.ext rfl rfl) <| J.p rfl (Q.asg rfl) <| J.p rfl (Q.asg rfl) <| J.nil <| J.then_n <| J.seq <| J.seq <| J.region <| J.m rfl <| J.p rfl (Q.not rfl) <| J.nil <| J.then_n ?_
  refine J.kases 19 rfl (fun hc19 => ?_) (fun hc19 => ?_)
  ·
   refine J.cond_t rfl <| J.seq <| J.region ?_
   refine J.callI call30 (ris_spec 404) rfl rfl rfl ?_
   rintro _ _ ⟨rfl, rfl⟩
   refine J.norm rfl ?_
   refine J.stAJ (vs := [_, _, _, _, _]) rfl sizeOf44 rfl rfl ?_
   refine J.nil <| J.then_n <| J.cret <| J.then_r ?_
   replace hc19 : sget x.o.upload M.uploads = none := by simpa using hc19
   have e : M.act x.o = (st 404, M) := by
    unfold BM.act BM.part BM.complete BM.abort
    simp only [hc19]
    rcases hkk with h | h | h <;> simp [h]
   refine J.shutI (refL m M p1 c1 bs p2 c2 us p3 c3) (RefAt m M) (RefAt.of hyb hyu hyk) ?_
   rw [e]
   refine J.retCI (vs := [_, _, _, _, _]) [RefAt m M, G] rfl rfl isAgg44 sizeOf44 rnI ⟨rfl, rfl⟩
  refine J.cond_f rfl <| J.cskip <| J.then_n <| J.seq <| J.seq ?_
  obtain ⟨u, hu⟩ : ∃ u, sget x.o.upload M.uploads = some u := Option.isSome_iff_exists.1 (by simpa using hc19)
  refine J.region <| J.p rfl (Q.fa (n := 1) runUnderlying52 rfl rfl sizeOf3 rfl) ?_
  refine J.p rfl (Q.ldI isAgg3 rfl) ?_
  refine J.nil <| J.then_n <| J.block <| J.seq <| J.region <| J.p rfl (Q.eql rfl rfl) <| J.p rfl (Q.asg rfl) <| J.nil <| J.then_n ?_
  refine J.kases 23 rfl (fun hc23 => ?_) (fun hc23 => ?_)
  ·
   refine J.cond_t rfl <| J.seq ?_
   refine J.shutI (refL m M p1 c1 bs p2 c2 us p3 c3) (RefAt m M) (RefAt.of hyb hyu hyk) ?_
   refine J.region <| J.m rfl ?_
   refine J.p rfl (Q.ldN (vs := [_, _, _, _, _, _, _, _, _]) isAgg52 sizeOf52 rfl rnI) ?_
   refine J.m rfl ?_
   refine J.callI call56 (rcomplete_spec m M hM hok hk x G hx (hp (by omega)) hu hi) rfl rfl rfl ?_
   rintro _ _ ⟨rfl, rfl⟩
   refine J.norm rfl ?_
   refine J.stAJ (vs := [_, _, _, _, _]) rfl sizeOf44 rfl rfl ?_
   refine J.nil <| J.then_n <| J.cret <| J.blk_r <| J.then_r ?_
   have e : M.act x.o = M.complete x.o := by unfold BM.act; simp [show x.o.kind = 9 by omega]
   rw [e]
   refine J.retCI (vs := [_, _, _, _, _]) [RefAt m (M.complete x.o).2, G] rfl rfl isAgg44 sizeOf44 rnI ⟨rfl, rfl⟩
  refine J.cond_f rfl <| J.seq <| J.region <| J.p rfl (Q.eql rfl rfl) <| J.p rfl (Q.asg rfl) <| J.nil <| J.then_n ?_
  refine J.kases 29 rfl (fun hc29 => ?_) (fun hc29 => ?_)
  ·
   refine J.cond_t rfl <| J.seq ?_
   refine J.shutI (refL m M p1 c1 bs p2 c2 us p3 c3) (RefAt m M) (RefAt.of hyb hyu hyk) ?_
   refine J.region <| J.m rfl <| J.m rfl ?_
   refine J.callI call57 (rgone_spec m M hM hi hu) rfl rfl rfl ?_
   rintro _ _ ⟨rfl, rfl⟩
   refine J.norm rfl <| J.nil <| J.then_n <| J.seq <| J.region ?_
   refine J.callI call30 (ris_spec 200) rfl rfl rfl ?_
   rintro _ _ ⟨rfl, rfl⟩
   refine J.norm rfl ?_
   refine J.stAJ (vs := [_, _, _, _, _]) rfl sizeOf44 rfl rfl ?_
   refine J.nil <| J.then_n <| J.cret <| J.blk_r <| J.then_r ?_
   have e : M.act x.o = (st 200, { M with uploads := sdel x.o.upload M.uploads }) := by unfold BM.act BM.abort; simp [show x.o.kind = 10 by omega, hu]
   rw [e]
   refine J.retCI (vs := [_, _, _, _, _]) [RefAt m { M with uploads := sdel x.o.upload M.uploads }, G] rfl rfl isAgg44 sizeOf44 rnI ⟨rfl, rfl⟩
  refine J.cond_f rfl <| J.cskip <| J.blk_n <| J.then_n <| J.seq ?_
  have e : M.act x.o = (st 200, { M with uploads := sput ltN x.o.upload ⟨u.bucket, u.key, sput ltI x.o.n x.o.data u.parts⟩ M.uploads }) := by unfold BM.act BM.part; simp [show x.o.kind = 8 by omega, hu]
  rw [e]
  obtain ⟨y, hyi, hyq⟩ := at_map (by rw [hyu]; exact hi.here ord3_nat hM.us hu)
  obtain ⟨yk, yb, yo, yp, yc, yl⟩ := y
  simp only [RUp.kv, Prod.mk.injEq] at hyq
  obtain ⟨hyk1, rfl⟩ := hyq
  have hil := (List.getElem?_eq_some_iff.1 hyi).1
  obtain ⟨bb, off, rfl, hrd⟩ := hsu.some_ (by omega)
  obtain ⟨hps, hex, _⟩ := hok.ps _ _ hu
  dsimp only at hps hex
  have hyl : yl.length ≤ 32768 := by have := hM.pl _ _ hu; rwa [List.length_map] at this
  refine J.focusI (f := RUp.asn) i hyi ?_
  refine J.openI (RUp.asn ⟨yk, yb, yo, yp, yc, yl⟩) (Bs := fun _ : Unit => [own 146 2 (.slice yp yl.length yc) (yl.flatMap RPt.cells), star (yl.map RPt.asn)]) (p := fun _ => True) (fun _ h => ⟨(), trivial, h⟩) fun _ _ => ?_
  refine J.norm rfl ?_
  refine J.slrI (E0 := 146) (sz := 2) (p := yp) (n := yl.length) (c := yc) (xs := yl.flatMap RPt.cells) fun hsp => ?_
  refine J.tells 0 rfl own.len fun hlp => ?_
  have hlp' : yl.length ≤ yc := hlp.2
  refine J.region <| J.m rfl <| J.p rfl (Q.nil_ rfl) <| J.p rfl (Q.fa (n := 1) runUnderlying98 rfl rfl sizeOf95 rfl) ?_
  refine J.p rfl (Q.ldI isAgg95 rfl) ?_
  refine J.m rfl <| J.p rfl (Q.ia runUnderlying95 sizeOf143 rfl rfl (by omega) (by omega)) <| J.p rfl (Q.asg rfl) <| J.nil <| J.then_n <| J.seq <| J.region <| J.m rfl <| J.p rfl (Q.fa (n := 5) runUnderlying52 rfl rfl sizeOf3 rfl) ?_
  refine J.p rfl (Q.ldI isAgg3 rfl) ?_
  refine J.callI call58 (rpart_spec bb off c2 us hyi x.o.n hps (by show yl.length ≤ _; omega)) rfl rfl rfl ?_
  rintro _ _ ⟨a, rfl, ha, rfl⟩
  refine J.norm rfl ?_
  replace ha : AtK ltI x.o.n (yl.map RPt.kv) a := ha
  have hal : a ≤ yl.length := by have := ha.le; rwa [List.length_map] at this
  refine J.m rfl <| J.p rfl (Q.ext rfl rfl) <| J.p rfl (Q.ext rfl rfl) <| J.p rfl (Q.asg rfl) <| J.p rfl (Q.asg rfl) <| J.nil <| J.then_n ?_
  refine J.cut (fun w : RPt × Nat => w.1.k = x.o.n ∧ w.1.d = x.o.data) (fun w => [(4, .pointer (some ⟨b4, 0, none⟩)), (6, .bool (sget x.o.n (yl.map RPt.kv)).isSome), (7, .pointer (some ⟨bb, off + i * 4, none⟩)), (8, .int .i64 a), (9, .pointer (some ⟨w.2, 0, none⟩))])
   (fun w => [refP m (.slice p1 bs.length c1) (.slice (some ⟨bb, off, none⟩) us.length c2) (.slice p3 M.done.length c3), bksO p1 c1 bs, upsO (some ⟨bb, off, none⟩) c2 us, kpsO p3 c3 M.done, star (bs.map RBk.asn), own 146 2 (.slice yp yl.length yc) (yl.flatMap RPt.cells), star (yl.map RPt.asn), star ((us.eraseIdx i).map RUp.asn),
   pt b4 (.cells [Value.int .i64 0, .int .u64 0, .slice none 0 0, .bool false, .slice none 0 0].toArray 44 (0, 0)), w.1.asn, pt w.2 (.cells w.1.cells.toArray 146 (0, 0)), G, F]) ?_ fun w hw => ?_
  ·
   refine J.draw [2, 5, 7, 8] Tryz.mixed (by kernel_rfl) fun hR => ?_
   refine RG.p 0 hR rfl (Q.fa (n := 5) runUnderlying52 rfl rfl sizeOf3 rfl) ?_
   refine RG.p 1 hR rfl (Q.ldI isAgg3 rfl) ?_
   refine RG.p 3 hR rfl (Q.fa (n := 8) runUnderlying52 rfl rfl sizeOf42 rfl) ?_
   refine RG.p 4 hR rfl (Q.ldI isAgg42 rfl) ?_
   refine RG.many hR 2 [7] rfl ⟨?_, ⟨?_, trivial⟩⟩
   ·
    refine RGi.made rfl rfl rfl rfl (C.bslG (l := []) runUnderlying42 sizeOf5 zeroValue5 (by decide) rfl rfl rfl rfl rfl) ?_
    rintro b50
    refine RG.many hR 5 [7] rfl ⟨?_, ⟨?_, trivial⟩⟩
    ·
     refine RGi.appI rfl rfl rfl rfl runUnderlying42 runUnderlying42 typeInfo5 sizeOf5 zeroValue5 rfl rfl (hx.data.inI) (bytesV_one _) (by simp [Tryz.t5] <;> omega) (by decide) ?_
     rintro p53 c53
     refine RG.normE rfl ?_
     refine RG.slot 53 (.slice p53 x.o.data.length c53) rfl (by rw [Nat.zero_add]) ?_
     obtain ⟨z, hz⟩ : ∃ z : RPt, z = ⟨x.o.n, p53, c53, x.o.data⟩ := ⟨_, rfl⟩
     refine RG.p 6 hR rfl (Q.bld (l := [_, _]) runUnderlying146 zeroValue146 places146 rfl rfl) ?_
     refine RG.slot 54 (.agg z.cells.toArray) rfl (by rw [hz]; rfl) ?_
     refine RG.made 7 hR rfl rfl rfl rfl rfl (C.alloc (l := [_, _]) zeroValue146 rfl) ?_
     rintro b9
     refine RG.stAI (vs := [_, _]) 8 hR rfl rfl rfl rfl rfl sizeOf146 rfl rfl (by exact rfl) (by exact rfl) (by exact rfl) ?_
     refine RG.fin hR rfl ?_
     refine J.norm rfl ?_
     refine J.convI (own 5 1 (.slice p53 (0 + x.o.data.length) c53) ([] ++ bytesV x.o.data)) z.asn (fun _ h => by rw [Nat.zero_add] at h; rw [hz]; exact h) ?_
     exact J.meetI (z, b9) ⟨by rw [hz], by rw [hz]⟩ ⟨rfl, rfl, rfl, rfl, rfl, trivial⟩
    ·
     refine RGi.made rfl rfl rfl rfl (C.alloc (l := [_, _]) zeroValue146 rfl) ?_
     rintro b9
     refine RG.many hR 5 [] rfl ⟨?_, trivial⟩
     ·
      refine RGi.appI rfl rfl rfl rfl runUnderlying42 runUnderlying42 typeInfo5 sizeOf5 zeroValue5 rfl rfl (hx.data.inI) (bytesV_one _) (by simp [Tryz.t5] <;> omega) (by decide) ?_
      rintro p53 c53
      refine RG.normE rfl ?_
      refine RG.slot 53 (.slice p53 x.o.data.length c53) rfl (by rw [Nat.zero_add]) ?_
      obtain ⟨z, hz⟩ : ∃ z : RPt, z = ⟨x.o.n, p53, c53, x.o.data⟩ := ⟨_, rfl⟩
      refine RG.p 6 hR rfl (Q.bld (l := [_, _]) runUnderlying146 zeroValue146 places146 rfl rfl) ?_
      refine RG.slot 54 (.agg z.cells.toArray) rfl (by rw [hz]; rfl) ?_
      refine RG.stAI (vs := [_, _]) 8 hR rfl rfl rfl rfl rfl sizeOf146 rfl rfl (by exact rfl) (by exact rfl) (by exact rfl) ?_
      refine RG.fin hR rfl ?_
      refine J.norm rfl ?_
      refine J.convI (own 5 1 (.slice p53 (0 + x.o.data.length) c53) ([] ++ bytesV x.o.data)) z.asn (fun _ h => by rw [Nat.zero_add] at h; rw [hz]; exact h) ?_
      exact J.meetI (z, b9) ⟨by rw [hz], by rw [hz]⟩ ⟨rfl, rfl, rfl, rfl, rfl, trivial⟩
   ·
    refine RGi.made rfl rfl rfl rfl (C.alloc (l := [_, _]) zeroValue146 rfl) ?_
    rintro b9
    refine RG.made 2 hR rfl rfl rfl rfl rfl (C.bslG (l := []) runUnderlying42 sizeOf5 zeroValue5 (by decide) rfl rfl rfl rfl rfl) ?_
    rintro b50
    refine RG.many hR 5 [] rfl ⟨?_, trivial⟩
    ·
     refine RGi.appI rfl rfl rfl rfl runUnderlying42 runUnderlying42 typeInfo5 sizeOf5 zeroValue5 rfl rfl (hx.data.inI) (bytesV_one _) (by simp [Tryz.t5] <;> omega) (by decide) ?_
     rintro p53 c53
     refine RG.normE rfl ?_
     refine RG.slot 53 (.slice p53 x.o.data.length c53) rfl (by rw [Nat.zero_add]) ?_
     obtain ⟨z, hz⟩ : ∃ z : RPt, z = ⟨x.o.n, p53, c53, x.o.data⟩ := ⟨_, rfl⟩
     refine RG.p 6 hR rfl (Q.bld (l := [_, _]) runUnderlying146 zeroValue146 places146 rfl rfl) ?_
     refine RG.slot 54 (.agg z.cells.toArray) rfl (by rw [hz]; rfl) ?_
     refine RG.stAI (vs := [_, _]) 8 hR rfl rfl rfl rfl rfl sizeOf146 rfl rfl (by exact rfl) (by exact rfl) (by exact rfl) ?_
     refine RG.fin hR rfl ?_
     refine J.norm rfl ?_
     refine J.convI (own 5 1 (.slice p53 (0 + x.o.data.length) c53) ([] ++ bytesV x.o.data)) z.asn (fun _ h => by rw [Nat.zero_add] at h; rw [hz]; exact h) ?_
     exact J.meetI (z, b9) ⟨by rw [hz], by rw [hz]⟩ ⟨rfl, rfl, rfl, rfl, rfl, trivial⟩
  obtain ⟨z, b9⟩ := w
  obtain ⟨hzk, hzd⟩ := hw
  dsimp only at hzk hzd
  refine J.norm rfl ?_
  have hzv : z.kv = (x.o.n, x.o.data) := by rw [← hzk, ← hzd]
  refine J.seq <| J.seq <| J.region <| J.m rfl <| J.nil <| J.then_n ?_
  refine J.kases 55 rfl (fun hc55 => ?_) (fun hc55 => ?_)
  ·
   refine J.cond_t rfl ?_
   obtain ⟨v, hv⟩ := Option.isSome_iff_exists.1 hc55
   have hal2 := (List.getElem?_eq_some_iff.1 (ha.here ord3_int hps hv)).1
   rw [List.length_map] at hal2
   obtain ⟨b2, o2, rfl, hrd2⟩ := hsp.some_ (by omega)
   have e1 : (yl.set a z).map RPt.kv = sput ltI x.o.n x.o.data (yl.map RPt.kv) := by rw [ha.put_yes ord3_int hps hv, List.map_set, hzv]
   obtain ⟨y2, hy2⟩ : ∃ y2 : RUp, y2 = ⟨yk, yb, yo, some ⟨b2, o2, none⟩, yc, yl.set a z⟩ := ⟨_, rfl⟩
   refine J.draw [7] Tryz.mixed (by kernel_rfl) fun hR => ?_
   refine RG.p 0 hR rfl (Q.mv rfl) <| RG.p 1 hR rfl (Q.nil_ rfl) <| RG.p 2 hR rfl (Q.fa (n := 3) runUnderlying143 rfl rfl sizeOf141 rfl) <| RG.p 3 hR rfl (Q.ld isAgg141 rfl (rfO 3 RUp.len hyi (show _ = some (Value.slice (some ⟨b2, o2, none⟩) yl.length yc) from rfl) (by omega))) <| RG.p 4 hR rfl (Q.mv rfl) ?_
   refine RG.p 5 hR rfl (Q.ldN (vs := [_, _]) isAgg146 sizeOf146 rfl rnI) ?_
   refine RG.p 6 hR rfl (Q.ia runUnderlying141 sizeOf146 rfl rfl (by omega) (by omega)) ?_
   refine RG.bar 7 hR rfl rfl rfl rfl rfl rfl (C.stNO (a * 2) (vs := z.cells) sizeOf146 rfl rfl (by omega) (by rw [flat_length RPt.len]; show a * 2 + 2 ≤ _; omega) rfl) ?_
   rintro _ _ ⟨rfl, rfl⟩
   refine RG.norm rfl ?_
   refine RG.fin hR rfl ?_
   refine J.norm rfl <| J.then_n <| J.seq <| J.region ?_
   refine J.callI call30 (ris_spec 200) rfl rfl rfl ?_
   rintro _ _ ⟨rfl, rfl⟩
   refine J.norm rfl ?_
   refine J.stAJ (vs := [_, _, _, _, _]) rfl sizeOf44 rfl rfl ?_
   refine J.nil <| J.then_n <| J.cret ?_
   rw [flat_set RPt.len yl a z hal2]
   refine J.shutI [z.asn, star (yl.map RPt.asn)] (star (y2.l.map RPt.asn)) (by rw [hy2]; exact star_set1 a z) ?_
   refine J.convI (own 146 2 (.slice (some ⟨b2, o2, none⟩) yl.length yc) ((yl.set a z).flatMap RPt.cells)) y2.own (fun _ h => by rw [hy2]; show own _ _ (.slice _ (yl.set a z).length _) _ _; rw [List.length_set]; exact h) ?_
   refine J.convI (upsO (some ⟨bb, off, none⟩) c2 us) (upsO (some ⟨bb, off, none⟩) c2 (us.set i y2)) (fun _ h => by show own _ _ (.slice _ (us.set i y2).length _) _ _; rw [List.length_set, flat_same hyi (by rw [hy2]; show [_, _, _, Value.slice _ _ _] = _; rw [List.length_set])]; exact h) ?_
   refine J.shutI [y2.own, star (y2.l.map RPt.asn)] y2.asn (fun _ h => h) ?_
   refine J.unfocusI (f := RUp.asn) i y2 hil ?_
   refine J.convI (refP m (.slice p1 bs.length c1) (.slice (some ⟨bb, off, none⟩) us.length c2) (.slice p3 M.done.length c3)) (refP m (.slice p1 bs.length c1) (.slice (some ⟨bb, off, none⟩) (us.set i y2).length c2) (.slice p3 M.done.length c3)) (fun _ h => by rw [List.length_set]; exact h) ?_
   refine J.shutI (refL m { M with uploads := sput ltN x.o.upload ⟨yb, yo, sput ltI x.o.n x.o.data (yl.map RPt.kv)⟩ M.uploads } p1 c1 bs (some ⟨bb, off, none⟩) c2 (us.set i y2) p3 c3) (RefAt m { M with uploads := sput ltN x.o.upload ⟨yb, yo, sput ltI x.o.n x.o.data (yl.map RPt.kv)⟩ M.uploads }) (RefAt.of (M := { M with uploads := sput ltN x.o.upload ⟨yb, yo, sput ltI x.o.n x.o.data (yl.map RPt.kv)⟩ M.uploads }) hyb (by
    rw [List.map_set, hyu, hi.put_yes ord3_nat hM.us hu, hy2, show RUp.kv _ = (yk, UM.mk yb yo _) from rfl, e1, hyk1]) hyk) ?_
   refine J.retCI (vs := [_, _, _, _, _]) [RefAt m { M with uploads := sput ltN x.o.upload ⟨yb, yo, sput ltI x.o.n x.o.data (yl.map RPt.kv)⟩ M.uploads }, G] rfl rfl isAgg44 sizeOf44 rnI ⟨rfl, rfl⟩
  refine J.cond_f rfl ?_
  refine J.cut (fun _ : Option Addr × Nat => True) (fun w => [(4, .pointer (some ⟨b4, 0, none⟩)), (7, .pointer (some ⟨bb, off + i * 4, none⟩)), (8, .int .i64 a), (10, .slice w.1 (0 + a + 1) w.2)])
   (fun w => [refP m (.slice p1 bs.length c1) (.slice (some ⟨bb, off, none⟩) us.length c2) (.slice p3 M.done.length c3), bksO p1 c1 bs, upsO (some ⟨bb, off, none⟩) c2 us, kpsO p3 c3 M.done, star (bs.map RBk.asn), own 146 2 (.slice yp yl.length yc) (yl.flatMap RPt.cells), star (yl.map RPt.asn), star ((us.eraseIdx i).map RUp.asn),
   pt b4 (.cells [Value.int .i64 0, .int .u64 0, .slice none 0 0, .bool false, .slice none 0 0].toArray 44 (0, 0)), z.asn, G, own 146 2 (.slice w.1 (0 + a + 1) w.2) ([] ++ (yl.flatMap RPt.cells).take (a * 2) ++ z.cells), F]) ?_ fun w _ => ?_
  obtain ⟨hq69, hr69⟩ := slH_ (P := Tryz.prog) (T := 141) runUnderlying141 sizeOf146 hsp (hi := a) hal hlp'
  ·
   have hsn : sget x.o.n (yl.map RPt.kv) = none := Option.not_isSome_iff_eq_none.1 (by rw [hc55]; exact Bool.false_ne_true)
   have e1 : (yl.take a ++ z :: yl.drop a).map RPt.kv = sput ltI x.o.n x.o.data (yl.map RPt.kv) := by rw [ha.put_no ord3_int hps hsn, map_ins, hzv]
   refine J.draw [0, 7, 9, 10, 11] Tryz.mixed (by kernel_rfl) fun hR => ?_
   refine RG.p 1 hR rfl (Q.mv rfl) <| RG.p 2 hR rfl (Q.nil_ rfl) <| RG.p 3 hR rfl (Q.fa (n := 3) runUnderlying143 rfl rfl sizeOf141 rfl) <| RG.p 4 hR rfl (Q.ld isAgg141 rfl (rfO 3 RUp.len hyi (show _ = some (Value.slice yp yl.length yc) from rfl) (by omega))) <| RG.p 5 hR rfl (Q.mv rfl) ?_
   refine RG.p 6 hR rfl (hq69 _ _ _ _ _ _ rfl rfl) ?_
   refine RG.p 8 hR rfl (Q.ldN (vs := [_, _]) isAgg146 sizeOf146 rfl rnI) ?_
   refine RG.many hR 0 [9] rfl ⟨?_, ⟨?_, trivial⟩⟩
   ·
    refine RGi.made rfl rfl rfl rfl (C.bslG (l := []) runUnderlying141 sizeOf146 zeroValue146 (by decide) rfl rfl rfl rfl rfl) ?_
    rintro b63
    refine RG.many hR 7 [9] rfl ⟨?_, ⟨?_, trivial⟩⟩
    ·
     refine RGi.appI rfl rfl rfl rfl runUnderlying141 runUnderlying141 typeInfo146 sizeOf146 zeroValue146 rfl rfl (hr69.inI) (take_one (flat_one RPt.one)) (by simp [Tryz.t146] <;> omega) (by decide) ?_
     rintro p70 c70
     refine RG.normE rfl ?_
     refine RG.made 9 hR rfl rfl rfl rfl rfl (C.bslG (l := [_, _]) runUnderlying141 sizeOf146 zeroValue146 (by decide) rfl rfl rfl rfl rfl) ?_
     rintro b72
     refine RG.many hR 10 [] rfl ⟨?_, trivial⟩
     ·
      refine RGi.appI rfl rfl rfl rfl runUnderlying141 runUnderlying141 typeInfo146 sizeOf146 zeroValue146 rfl rfl (SlR.ptI rfl) (RPt.one z) (by simp [Tryz.t146] <;> omega) (by decide) ?_
      rintro p73 c73
      refine RG.normE rfl ?_
      refine RG.bar 11 hR rfl rfl rfl rfl rfl rfl (Q.asg rfl).toC ?_
      rintro _ _ ⟨rfl, rfl⟩
      refine RG.norm rfl ?_
      refine RG.fin hR rfl ?_
      refine J.norm rfl ?_
      exact J.meetI (p73, c73) trivial ⟨rfl, rfl, rfl, rfl, trivial⟩
    ·
     refine RGi.made rfl rfl rfl rfl (C.bslG (l := [_, _]) runUnderlying141 sizeOf146 zeroValue146 (by decide) rfl rfl rfl rfl rfl) ?_
     rintro b72
     refine RG.many hR 7 [] rfl ⟨?_, trivial⟩
     ·
      refine RGi.appI rfl rfl rfl rfl runUnderlying141 runUnderlying141 typeInfo146 sizeOf146 zeroValue146 rfl rfl (hr69.inI) (take_one (flat_one RPt.one)) (by simp [Tryz.t146] <;> omega) (by decide) ?_
      rintro p70 c70
      refine RG.normE rfl ?_
      refine RG.many hR 10 [] rfl ⟨?_, trivial⟩
      ·
       refine RGi.appI rfl rfl rfl rfl runUnderlying141 runUnderlying141 typeInfo146 sizeOf146 zeroValue146 rfl rfl (SlR.ptI rfl) (RPt.one z) (by simp [Tryz.t146] <;> omega) (by decide) ?_
       rintro p73 c73
       refine RG.normE rfl ?_
       refine RG.bar 11 hR rfl rfl rfl rfl rfl rfl (Q.asg rfl).toC ?_
       rintro _ _ ⟨rfl, rfl⟩
       refine RG.norm rfl ?_
       refine RG.fin hR rfl ?_
       refine J.norm rfl ?_
       exact J.meetI (p73, c73) trivial ⟨rfl, rfl, rfl, rfl, trivial⟩
   ·
    refine RGi.made rfl rfl rfl rfl (C.bslG (l := [_, _]) runUnderlying141 sizeOf146 zeroValue146 (by decide) rfl rfl rfl rfl rfl) ?_
    rintro b72
    refine RG.made 0 hR rfl rfl rfl rfl rfl (C.bslG (l := []) runUnderlying141 sizeOf146 zeroValue146 (by decide) rfl rfl rfl rfl rfl) ?_
    rintro b63
    refine RG.many hR 7 [] rfl ⟨?_, trivial⟩
    ·
     refine RGi.appI rfl rfl rfl rfl runUnderlying141 runUnderlying141 typeInfo146 sizeOf146 zeroValue146 rfl rfl (hr69.inI) (take_one (flat_one RPt.one)) (by simp [Tryz.t146] <;> omega) (by decide) ?_
     rintro p70 c70
     refine RG.normE rfl ?_
     refine RG.many hR 10 [] rfl ⟨?_, trivial⟩
     ·
      refine RGi.appI rfl rfl rfl rfl runUnderlying141 runUnderlying141 typeInfo146 sizeOf146 zeroValue146 rfl rfl (SlR.ptI rfl) (RPt.one z) (by simp [Tryz.t146] <;> omega) (by decide) ?_
      rintro p73 c73
      refine RG.normE rfl ?_
      refine RG.bar 11 hR rfl rfl rfl rfl rfl rfl (Q.asg rfl).toC ?_
      rintro _ _ ⟨rfl, rfl⟩
      refine RG.norm rfl ?_
      refine RG.fin hR rfl ?_
      refine J.norm rfl ?_
      exact J.meetI (p73, c73) trivial ⟨rfl, rfl, rfl, rfl, trivial⟩
  obtain ⟨p81, c81, hq81, hr81⟩ := slL_ (P := Tryz.prog) (T := 141) runUnderlying141 sizeOf146 hsp (lo := a) hal hlp'
  refine J.region <| J.m rfl <| J.m rfl <| J.m rfl <| J.p rfl (Q.nil_ rfl) <| J.p rfl (Q.fa (n := 3) runUnderlying143 rfl rfl sizeOf141 rfl) <| J.p rfl (Q.ld isAgg141 rfl (rfO 3 RUp.len hyi (show _ = some (Value.slice yp yl.length yc) from rfl) (by omega))) <| J.m rfl ?_
  refine J.p rfl (hq81 _ _ _ _ _ _ rfl rfl) ?_
  refine J.c rfl rfl (C.appI runUnderlying141 runUnderlying141 typeInfo146 sizeOf146 zeroValue146 rfl rfl (hr81.inI) (drop_one (flat_one RPt.one)) (by simp [Tryz.t146] <;> omega) (by decide)) ?_
  rintro _ _ ⟨p82, c82, rfl, rfl⟩
  refine J.norm rfl <| J.p rfl (Q.nil_ rfl) <| J.p rfl (Q.fa (n := 3) runUnderlying143 rfl rfl sizeOf141 rfl) ?_
  refine J.c0 rfl (C.st1O (i * 4 + 3) sizeOf141 rfl rfl rfl (by omega) (by rw [flat_length RUp.len]; omega)) ?_
  rintro _ _ ⟨rfl, rfl⟩
  refine J.norm rfl ?_
  have hsn : sget x.o.n (yl.map RPt.kv) = none := Option.not_isSome_iff_eq_none.1 (by rw [hc55]; exact Bool.false_ne_true)
  have e1 : (yl.take a ++ z :: yl.drop a).map RPt.kv = sput ltI x.o.n x.o.data (yl.map RPt.kv) := by rw [ha.put_no ord3_int hps hsn, map_ins, hzv]
  obtain ⟨y2, hy2⟩ : ∃ y2 : RUp, y2 = ⟨yk, yb, yo, p82, c82, yl.take a ++ z :: yl.drop a⟩ := ⟨_, rfl⟩
  refine J.nil <| J.then_n <| J.seq <| J.region ?_
  refine J.callI call30 (ris_spec 200) rfl rfl rfl ?_
  rintro _ _ ⟨rfl, rfl⟩
  refine J.norm rfl ?_
  refine J.stAJ (vs := [_, _, _, _, _]) rfl sizeOf44 rfl rfl ?_
  refine J.nil <| J.then_n <| J.cret ?_
  rw [ins_len (x := z) hal, ins_cells RPt.len]
  rw [flat_set1 (c := RUp.cells) RUp.len hyi (k := 3) (x' := y2) (by decide) (by rw [hy2]; rfl)]
  refine J.shutI [z.asn, star (yl.map RPt.asn)] (star (y2.l.map RPt.asn)) (by rw [hy2]; exact star_ins1 a z) ?_
  refine J.convI (own 146 2 (.slice p82 (yl.take a ++ z :: yl.drop a).length c82) ((yl.take a ++ z :: yl.drop a).flatMap RPt.cells)) y2.own (fun _ h => by rw [hy2]; exact h) ?_
  refine J.convI (own 143 4 (.slice (some ⟨bb, off, none⟩) us.length c2) ((us.set i y2).flatMap RUp.cells)) (upsO (some ⟨bb, off, none⟩) c2 (us.set i y2)) (fun _ h => by show own _ _ (.slice _ (us.set i y2).length _) _ _; rw [List.length_set]; exact h) ?_
  refine J.shutI [y2.own, star (y2.l.map RPt.asn)] y2.asn (fun _ h => h) ?_
  refine J.unfocusI (f := RUp.asn) i y2 hil ?_
  refine J.convI (refP m (.slice p1 bs.length c1) (.slice (some ⟨bb, off, none⟩) us.length c2) (.slice p3 M.done.length c3)) (refP m (.slice p1 bs.length c1) (.slice (some ⟨bb, off, none⟩) (us.set i y2).length c2) (.slice p3 M.done.length c3)) (fun _ h => by rw [List.length_set]; exact h) ?_
  refine J.shutI (refL m { M with uploads := sput ltN x.o.upload ⟨yb, yo, sput ltI x.o.n x.o.data (yl.map RPt.kv)⟩ M.uploads } p1 c1 bs (some ⟨bb, off, none⟩) c2 (us.set i y2) p3 c3) (RefAt m { M with uploads := sput ltN x.o.upload ⟨yb, yo, sput ltI x.o.n x.o.data (yl.map RPt.kv)⟩ M.uploads }) (RefAt.of (M := { M with uploads := sput ltN x.o.upload ⟨yb, yo, sput ltI x.o.n x.o.data (yl.map RPt.kv)⟩ M.uploads }) hyb (by
   rw [List.map_set, hyu, hi.put_yes ord3_nat hM.us hu, hy2, show RUp.kv _ = (yk, UM.mk yb yo _) from rfl, e1, hyk1]) hyk) ?_
  refine J.retCI (vs := [_, _, _, _, _]) [RefAt m { M with uploads := sput ltN x.o.upload ⟨yb, yo, sput ltI x.o.n x.o.data (yl.map RPt.kv)⟩ M.uploads }, G] rfl rfl isAgg44 sizeOf44 rnI ⟨rfl, rfl⟩
end

theorem unmake_st (M : BM) (o : OM) : ∃ n, (M.unmake o).1 = st n := by
  unfold BM.unmake
  split
  · exact ⟨_, rfl⟩
  · split <;> exact ⟨_, rfl⟩

section
variable {k : Nat} (m : Nat) (M : BM) (hM : M.lite) (hok : M.ok k) (hk : k ≤ 32768) (x : OW) (G : Assn) (hx : x.ok G)
include hM hok hk hx
theorem rinBucket_spec (hkk : 2 ≤ x.o.kind ∧ x.o.kind ≤ 7) (hn : x.o.kind = 6 → 1 ≤ x.o.n ∧ x.o.n ≤ 1000) (hid : x.o.kind = 7 → sget x.o.id M.uploads = none) (hdl : x.o.data.length ≤ 16777216) : FSpec Tryz.prog 35 [.pointer (some ⟨m, 0, none⟩), .agg x.cells.toArray] [RefAt m M, G]
    (fun v B => ∃ y : RW, v = .agg y.cells.toArray ∧ y.r = (M.act x.o).1 ∧ (readsK x.o.kind = false → y = ⟨y.r, none, 0, none, 0⟩) ∧ B = [RefAt m (M.act x.o).2, y.asn, G]) := by
  refine FSpec.of func35 rfl ntmps35 rfl fun W0 F => ?_
  refine J.seq <| J.region ?_
  refine J.c rfl rfl (C.box (l := [_, _, _, _, _, _, _, _, _]) rfl rfl) ?_
  rintro _ _ ⟨b3, rfl, rfl⟩
  refine J.norm rfl ?_
  refine J.c rfl rfl (C.alloc (l := [_, _, _, _, _]) zeroValue44 rfl) ?_
  rintro _ _ ⟨b4, rfl, rfl⟩
  refine J.norm rfl <| J.nil <| J.then_n <| J.seq ?_
  refine J.openRef (m := m) (M := M) fun p1 c1 bs p2 c2 us p3 c3 hyb hyu hyk => ?_
  refine J.norm rfl ?_
  have hbs : Srtd ltB (bs.map RBk.kv) := by rw [hyb]; exact hM.bs
  have hus : Srtd ltN (us.map RUp.kv) := by rw [hyu]; exact hM.us
  have hbl : bs.length = M.buckets.length := by rw [← hyb, List.length_map]
  have hul : us.length = M.uploads.length := by rw [← hyu, List.length_map]
  have hlen := hM.len
  refine J.slrI (E0 := 136) (sz := 2) (p := p1) (n := bs.length) (c := c1) (xs := bs.flatMap RBk.cells) fun hsb => ?_
  refine J.slrI (E0 := 143) (sz := 4) (p := p2) (n := us.length) (c := c2) (xs := us.flatMap RUp.cells) fun hsu => ?_
  refine J.region <| J.m rfl <| J.p rfl (Q.fa (n := 2) runUnderlying52 rfl rfl sizeOf9 rfl) ?_
  refine J.p rfl (Q.ldI isAgg9 rfl) ?_
  refine J.callI call54 (rbucket_spec m p1 c1 bs (.slice p2 us.length c2) (.slice p3 M.done.length c3) x.o.bucket hbs (by omega)) rfl rfl rfl ?_
  rintro _ _ ⟨i, rfl, hi, rfl⟩
  refine J.norm rfl ?_
  rw [hyb] at hi ⊢
  refine J.m rfl <| J.p rfl (Q.ext rfl rfl) <| J.p rfl (Q.ext rfl rfl) <| J.p rfl (Q.asg rfl) <| J.p rfl (Q.asg rfl) <| J.nil <| J.then_n <| J.seq <| J.seq <| J.region <| J.m rfl <| J.p rfl (Q.not rfl) <| J.nil <| J.then_n ?_
  refine J.kases 18 rfl (fun hc18 => ?_) (fun hc18 => ?_)
  ·
   refine J.cond_t rfl <| J.seq <| J.region ?_
   refine J.callI call30 (ris_spec 404) rfl rfl rfl ?_
   rintro _ _ ⟨rfl, rfl⟩
   refine J.norm rfl ?_
   refine J.stAJ (vs := [_, _, _, _, _]) rfl sizeOf44 rfl rfl ?_
   refine J.nil <| J.then_n <| J.cret <| J.then_r ?_
   replace hc18 : sget x.o.bucket M.buckets = none := by simpa using hc18
   have e : M.act x.o = (st 404, M) := by
    unfold BM.act BM.unmake BM.put BM.get BM.delete BM.list BM.begin
    simp only [hc18]
    rcases (show x.o.kind = 2 ∨ x.o.kind = 3 ∨ x.o.kind = 4 ∨ x.o.kind = 5 ∨ x.o.kind = 6 ∨ x.o.kind = 7 by omega) with h | h | h | h | h | h <;> simp [h]
   refine J.shutI (refL m M p1 c1 bs p2 c2 us p3 c3) (RefAt m M) (RefAt.of hyb hyu hyk) ?_
   rw [e]
   refine J.give (X := RW.asn ⟨st 404, none, 0, none, 0⟩) empty_asn ?_
   refine J.retCI (vs := [_, _, _, _, _]) [RefAt m M, RW.asn ⟨st 404, none, 0, none, 0⟩, G] rfl rfl isAgg44 sizeOf44 rnI ⟨⟨st 404, none, 0, none, 0⟩, rfl, rfl, fun _ => rfl, rfl⟩
  refine J.cond_f rfl <| J.cskip <| J.then_n <| J.seq ?_
  obtain ⟨objs, hB⟩ : ∃ u, sget x.o.bucket M.buckets = some u := Option.isSome_iff_exists.1 (by simpa using hc18)
  obtain ⟨z, hz, hzv⟩ := at_map (by rw [hyb]; exact hi.here ord3_str hM.bs hB)
  have hzi := (List.getElem?_eq_some_iff.1 hz).1
  have hzk : z.k = x.o.bucket := congrArg Prod.fst hzv
  have hzl : z.l.map ROb.kv = objs := congrArg Prod.snd hzv
  obtain ⟨hso, hol, _⟩ := hok.os _ _ hB
  have hzn : z.l.length ≤ 32768 := by have := congrArg List.length hzl; rw [List.length_map] at this; omega
  have hzs : Srtd ltB (z.l.map ROb.kv) := by rw [hzl]; exact hso
  obtain ⟨b1, o1, rfl, hrd1⟩ := hsb.some_ (by omega)
  refine J.region <| J.m rfl <| J.p rfl (Q.nil_ rfl) <| J.p rfl (Q.fa (n := 0) runUnderlying98 rfl rfl sizeOf94 rfl) ?_
  refine J.p rfl (Q.ldI isAgg94 rfl) ?_
  refine J.m rfl <| J.p rfl (Q.ia runUnderlying94 sizeOf136 rfl rfl (by omega) (by omega)) <| J.p rfl (Q.asg rfl) <| J.nil <| J.then_n <| J.seq <| J.seq <| J.region <| J.p rfl (Q.fa (n := 1) runUnderlying52 rfl rfl sizeOf3 rfl) ?_
  refine J.p rfl (Q.ldI isAgg3 rfl) ?_
  refine J.nil <| J.then_n <| J.block <| J.seq <| J.region <| J.p rfl (Q.eql rfl rfl) <| J.p rfl (Q.asg rfl) <| J.nil <| J.then_n ?_
  refine J.kases 28 rfl (fun hc28 => ?_) (fun hc28 => ?_)
  ·
   refine J.cond_t rfl <| J.seq ?_
   refine J.shutI (refL m M (some ⟨b1, o1, none⟩) c1 bs p2 c2 us p3 c3) (RefAt m M) (RefAt.of hyb hyu hyk) ?_
   refine J.region <| J.m rfl <| J.m rfl ?_
   refine J.callI call59 (runmake_spec m M hM x hB hi) rfl rfl rfl ?_
   rintro _ _ ⟨rfl, rfl⟩
   refine J.norm rfl ?_
   obtain ⟨sn, hsn⟩ := unmake_st M x.o
   rw [hsn]
   refine J.stAJ (vs := [_, _, _, _, _]) rfl sizeOf44 rfl rfl ?_
   refine J.nil <| J.then_n <| J.cret <| J.blk_r <| J.then_r ?_
   have e : M.act x.o = M.unmake x.o := by unfold BM.act; simp [show x.o.kind = 2 by omega]
   rw [e]
   refine J.give (X := RW.asn ⟨st sn, none, 0, none, 0⟩) empty_asn ?_
   refine J.retCI (vs := [_, _, _, _, _]) [RefAt m (M.unmake x.o).2, RW.asn ⟨st sn, none, 0, none, 0⟩, G] rfl rfl isAgg44 sizeOf44 rnI ⟨⟨st sn, none, 0, none, 0⟩, rfl, hsn.symm, fun _ => rfl, rfl⟩
  refine J.cond_f rfl <| J.seq <| J.region <| J.p rfl (Q.eql rfl rfl) <| J.p rfl (Q.asg rfl) <| J.nil <| J.then_n ?_
  refine J.kases 33 rfl (fun hc33 => ?_) (fun hc33 => ?_)
  ·
   refine J.cond_t rfl <| J.seq ?_
   refine J.focusI (f := RBk.asn) i hz ?_
   refine J.openI z.asn (Bs := fun _ : Unit => [z.own, star (z.l.map ROb.asn)]) (p := fun _ => True) (fun _ h => ⟨(), trivial, h⟩) fun _ _ => ?_
   refine J.norm rfl <| J.region <| J.m rfl <| J.p rfl (Q.fa (n := 3) runUnderlying52 rfl rfl sizeOf9 rfl) ?_
   refine J.p rfl (Q.ldI isAgg9 rfl) ?_
   refine J.p rfl (Q.fa (n := 8) runUnderlying52 rfl rfl sizeOf42 rfl) ?_
   refine J.p rfl (Q.ldI isAgg42 rfl) ?_
   refine J.callI call60 (rput_spec G b1 o1 c1 bs hz x.o.key x.dp x.dc x.o.data hx.data (by omega) hzs (by omega)) rfl rfl rfl ?_
   rintro _ _ ⟨z2, hz1, hz2, rfl, rfl⟩
   refine J.norm rfl <| J.nil <| J.then_n <| J.seq <| J.region ?_
   refine J.callI call30 (ris_spec 200) rfl rfl rfl ?_
   rintro _ _ ⟨rfl, rfl⟩
   refine J.norm rfl ?_
   refine J.stAJ (vs := [_, _, _, _, _]) rfl sizeOf44 rfl rfl ?_
   refine J.nil <| J.then_n <| J.cret <| J.blk_r <| J.then_r ?_
   have e : M.act x.o = (st 200, { M with buckets := sput ltB x.o.bucket (sput ltB x.o.key x.o.data objs) M.buckets }) := by unfold BM.act BM.put; simp [show x.o.kind = 3 by omega, hB]
   rw [e]
   refine J.shutI [z2.own, star (z2.l.map ROb.asn)] z2.asn (fun _ h => h) ?_
   refine J.unfocusI (f := RBk.asn) i z2 hzi ?_
   refine J.convI (refP m (.slice (some ⟨b1, o1, none⟩) bs.length c1) (.slice p2 us.length c2) (.slice p3 M.done.length c3)) (refP m (.slice (some ⟨b1, o1, none⟩) (bs.set i z2).length c1) (.slice p2 us.length c2) (.slice p3 M.done.length c3)) (fun _ h => by rw [List.length_set]; exact h) ?_
   refine J.shutI (refL m { M with buckets := sput ltB x.o.bucket (sput ltB x.o.key x.o.data objs) M.buckets } (some ⟨b1, o1, none⟩) c1 (bs.set i z2) p2 c2 us p3 c3) (RefAt m { M with buckets := sput ltB x.o.bucket (sput ltB x.o.key x.o.data objs) M.buckets }) (RefAt.of (M := { M with buckets := sput ltB x.o.bucket (sput ltB x.o.key x.o.data objs) M.buckets }) (by
    rw [List.map_set, hyb, hi.put_yes ord3_str hM.bs hB, show z2.kv = (x.o.bucket, sput ltB x.o.key x.o.data objs) from by rw [← hzl, ← hz2, ← hzk, ← hz1]]) hyu hyk) ?_
   refine J.give (X := RW.asn ⟨st 200, none, 0, none, 0⟩) empty_asn ?_
   refine J.retCI (vs := [_, _, _, _, _]) [RefAt m { M with buckets := sput ltB x.o.bucket (sput ltB x.o.key x.o.data objs) M.buckets }, RW.asn ⟨st 200, none, 0, none, 0⟩, G] rfl rfl isAgg44 sizeOf44 rnI ⟨⟨st 200, none, 0, none, 0⟩, rfl, rfl, fun _ => rfl, rfl⟩
  refine J.cond_f rfl <| J.seq <| J.region <| J.p rfl (Q.eql rfl rfl) <| J.p rfl (Q.asg rfl) <| J.nil <| J.then_n ?_
  refine J.kases 42 rfl (fun hc42 => ?_) (fun hc42 => ?_)
  ·
   refine J.cond_t rfl <| J.seq ?_
   refine J.focusI (f := RBk.asn) i hz ?_
   refine J.openI z.asn (Bs := fun _ : Unit => [z.own, star (z.l.map ROb.asn)]) (p := fun _ => True) (fun _ h => ⟨(), trivial, h⟩) fun _ _ => ?_
   refine J.norm rfl <| J.region <| J.m rfl ?_
   refine J.p rfl (Q.ldN (vs := [_, _, _, _, _, _, _, _, _]) isAgg52 sizeOf52 rfl rnI) ?_
   refine J.callI call61 (rlist_spec b1 o1 c1 bs hz x (hn (by omega)) hzn) rfl rfl rfl ?_
   rintro _ _ ⟨r, rfl, hr, rfl⟩
   refine J.norm rfl ?_
   refine J.stAJ (vs := [_, _, _, _, _]) rfl sizeOf44 rfl rfl ?_
   refine J.nil <| J.then_n <| J.cret <| J.blk_r <| J.then_r ?_
   have e : M.act x.o = (⟨200, 0, (listed x.o objs).take x.o.n.toNat, decide (x.o.n.toNat < (listed x.o objs).length), []⟩, M) := by unfold BM.act BM.list; simp [show x.o.kind = 6 by omega, hB]
   rw [e]
   refine J.shutI [z.own, star (z.l.map ROb.asn)] z.asn (fun _ h => h) ?_
   refine J.unfocusI (f := RBk.asn) i z hzi ?_
   rw [set_self hz]
   refine J.shutI (refL m M (some ⟨b1, o1, none⟩) c1 bs p2 c2 us p3 c3) (RefAt m M) (RefAt.of hyb hyu hyk) ?_
   refine J.retCI (vs := [_, _, _, _, _]) [RefAt m M, r.asn, G] rfl rfl isAgg44 sizeOf44 rnI ⟨r, rfl, by rw [hr, hzl], fun h => absurd h (by rw [show x.o.kind = 6 by omega]; decide), rfl⟩
  refine J.cond_f rfl <| J.seq <| J.region <| J.p rfl (Q.eql rfl rfl) <| J.p rfl (Q.asg rfl) <| J.nil <| J.then_n ?_
  refine J.kases 47 rfl (fun hc47 => ?_) (fun hc47 => ?_)
  ·
   refine J.cond_t rfl <| J.seq ?_
   refine J.shutI (refL m M (some ⟨b1, o1, none⟩) c1 bs p2 c2 us p3 c3) (RefAt m M) (RefAt.of hyb hyu hyk) ?_
   refine J.region <| J.m rfl ?_
   refine J.p rfl (Q.ldN (vs := [_, _, _, _, _, _, _, _, _]) isAgg52 sizeOf52 rfl rnI) ?_
   refine J.callI call62 (rbegin_spec m M hM x (hid (by omega))) rfl rfl rfl ?_
   rintro _ _ ⟨rfl, rfl⟩
   refine J.norm rfl ?_
   refine J.stAJ (vs := [_, _, _, _, _]) rfl sizeOf44 rfl rfl ?_
   refine J.nil <| J.then_n <| J.cret <| J.blk_r <| J.then_r ?_
   have e : M.act x.o = (⟨200, x.o.id, [], false, []⟩, { M with uploads := sput ltN x.o.id ⟨x.o.bucket, x.o.key, []⟩ M.uploads }) := by unfold BM.act BM.begin; simp [show x.o.kind = 7 by omega, hB]
   rw [e]
   refine J.give (X := RW.asn ⟨⟨200, x.o.id, [], false, []⟩, none, 0, none, 0⟩) empty_asn ?_
   refine J.retCI (vs := [_, _, _, _, _]) [RefAt m { M with uploads := sput ltN x.o.id ⟨x.o.bucket, x.o.key, []⟩ M.uploads }, RW.asn ⟨⟨200, x.o.id, [], false, []⟩, none, 0, none, 0⟩, G] rfl rfl isAgg44 sizeOf44 rnI ⟨⟨⟨200, x.o.id, [], false, []⟩, none, 0, none, 0⟩, rfl, rfl, fun _ => rfl, rfl⟩
  refine J.cond_f rfl <| J.cskip <| J.blk_n <| J.then_n <| J.seq ?_
  have h45 : x.o.kind = 4 ∨ x.o.kind = 5 := by omega
  refine J.focusI (f := RBk.asn) i hz ?_
  refine J.openI z.asn (Bs := fun _ : Unit => [z.own, star (z.l.map ROb.asn)]) (p := fun _ => True) (fun _ h => ⟨(), trivial, h⟩) fun _ _ => ?_
  refine J.norm rfl <| J.region <| J.m rfl <| J.p rfl (Q.fa (n := 3) runUnderlying52 rfl rfl sizeOf9 rfl) ?_
  refine J.p rfl (Q.ldI isAgg9 rfl) ?_
  refine J.callI call63 (robject_spec b1 o1 c1 bs hz x.o.key hzs (by omega)) rfl rfl rfl ?_
  rintro _ _ ⟨a, rfl, ha, rfl⟩
  refine J.norm rfl ?_
  rw [hzl] at ha ⊢
  refine J.m rfl <| J.p rfl (Q.ext rfl rfl) <| J.p rfl (Q.ext rfl rfl) <| J.p rfl (Q.asg rfl) <| J.p rfl (Q.asg rfl) <| J.nil <| J.then_n <| J.seq <| J.seq <| J.region <| J.m rfl <| J.p rfl (Q.not rfl) <| J.nil <| J.then_n ?_
  refine J.kases 60 rfl (fun hc60 => ?_) (fun hc60 => ?_)
  ·
   refine J.cond_t rfl <| J.seq <| J.region ?_
   refine J.callI call30 (ris_spec 404) rfl rfl rfl ?_
   rintro _ _ ⟨rfl, rfl⟩
   refine J.norm rfl ?_
   refine J.stAJ (vs := [_, _, _, _, _]) rfl sizeOf44 rfl rfl ?_
   refine J.nil <| J.then_n <| J.cret <| J.then_r ?_
   replace hc60 : sget x.o.key objs = none := by simpa using hc60
   have e : M.act x.o = (st 404, M) := by
    unfold BM.act BM.get BM.delete
    simp only [hB, hc60]
    rcases h45 with h | h <;> simp [h]
   rw [e]
   refine J.shutI [z.own, star (z.l.map ROb.asn)] z.asn (fun _ h => h) ?_
   refine J.unfocusI (f := RBk.asn) i z hzi ?_
   rw [set_self hz]
   refine J.shutI (refL m M (some ⟨b1, o1, none⟩) c1 bs p2 c2 us p3 c3) (RefAt m M) (RefAt.of hyb hyu hyk) ?_
   refine J.give (X := RW.asn ⟨st 404, none, 0, none, 0⟩) empty_asn ?_
   refine J.retCI (vs := [_, _, _, _, _]) [RefAt m M, RW.asn ⟨st 404, none, 0, none, 0⟩, G] rfl rfl isAgg44 sizeOf44 rnI ⟨⟨st 404, none, 0, none, 0⟩, rfl, rfl, fun _ => rfl, rfl⟩
  refine J.cond_f rfl <| J.cskip <| J.then_n <| J.seq ?_
  obtain ⟨d, hd⟩ : ∃ d, sget x.o.key objs = some d := Option.isSome_iff_exists.1 (by simpa using hc60)
  refine J.region ?_
  refine J.callI call30 (ris_spec 200) rfl rfl rfl ?_
  rintro _ _ ⟨rfl, rfl⟩
  refine J.norm rfl ?_
  refine J.c rfl rfl (C.alloc (l := [_, _, _, _, _]) zeroValue44 rfl) ?_
  rintro _ _ ⟨b9, rfl, rfl⟩
  refine J.norm rfl ?_
  refine J.stAJ (vs := [_, _, _, _, _]) rfl sizeOf44 rfl rfl ?_
  refine J.nil <| J.then_n <| J.seq <| J.seq <| J.region <| J.p rfl (Q.fa (n := 1) runUnderlying52 rfl rfl sizeOf3 rfl) ?_
  refine J.p rfl (Q.ldI isAgg3 rfl) ?_
  refine J.p rfl (Q.eql rfl rfl) <| J.nil <| J.then_n ?_
  refine J.kases 65 rfl (fun hc65 => ?_) (fun hc65 => ?_)
  ·
   refine J.cond_t rfl ?_
   obtain ⟨q, hq, hqv⟩ := at_map (by rw [hzl]; exact ha.here ord3_str hso hd)
   have hqa := (List.getElem?_eq_some_iff.1 hq).1
   have hqd : q.d = d := congrArg Prod.snd hqv
   have hql : q.d.length ≤ 274877906944 := by rw [hqd]; exact (hok.os _ _ hB).2.2 _ _ hd
   obtain ⟨zk, zp, zc, zl⟩ := z
   replace hqa : a < zl.length := hqa
   refine J.slrI (E0 := 150) (sz := 2) (p := zp) (n := zl.length) (c := zc) (xs := zl.flatMap ROb.cells) fun hso2 => ?_
   obtain ⟨b2, o2, rfl, hrd2⟩ := hso2.some_ (by omega)
   refine J.slrStarI (f := ROb.asn) (E := 5) (sz := 1) (p := q.p) (n := q.d.length) (c := q.c) (xs := bytesV q.d) a hq rfl fun hsd => ?_
   refine J.region ?_
   refine J.c rfl rfl (C.bslG (l := []) runUnderlying42 sizeOf5 zeroValue5 (by decide) rfl rfl rfl rfl rfl) ?_
   rintro _ _ ⟨b66, rfl, rfl⟩
   refine J.norm rfl <| J.m rfl <| J.p rfl (Q.nil_ rfl) <| J.p rfl (Q.fa (n := 1) runUnderlying136 rfl rfl sizeOf134 rfl) <| J.p rfl (Q.ld isAgg134 rfl (rfO 1 RBk.len hz (show _ = some (Value.slice (some ⟨b2, o2, none⟩) zl.length zc) from rfl) (by omega))) <| J.m rfl <| J.p rfl (Q.ia runUnderlying134 sizeOf150 rfl rfl (by omega) (by omega)) ?_
   refine J.p rfl (Q.fa (n := 1) runUnderlying150 rfl rfl sizeOf42 rfl) <| J.p rfl (Q.ld isAgg42 rfl (rfO 1 ROb.len hq (show _ = some (Value.slice q.p q.d.length q.c) from rfl) (by omega))) ?_
   refine J.c rfl rfl (C.appI runUnderlying42 runUnderlying42 typeInfo5 sizeOf5 zeroValue5 rfl rfl (hsd.inI) (bytesV_one _) (by simp [Tryz.t5] <;> omega) (by decide)) ?_
   rintro _ _ ⟨p75, c75, rfl, rfl⟩
   refine J.norm rfl ?_
   rw [show 0 + q.d.length = q.d.length from by omega, List.nil_append]
   refine J.p rfl (Q.fa (n := 4) runUnderlying44 rfl rfl sizeOf42 rfl) ?_
   refine J.stJ rfl sizeOf42 rfl rfl rfl ?_
   refine J.nil <| J.then_n <| J.seq <| J.region ?_
   refine J.p rfl (Q.ldN (vs := [_, _, _, _, _]) isAgg44 sizeOf44 rfl rnI) ?_
   refine J.stAJ (vs := [_, _, _, _, _]) rfl sizeOf44 rfl rfl ?_
   refine J.nil <| J.then_n <| J.cret ?_
   have e : M.act x.o = (⟨200, 0, [], false, q.d⟩, M) := by unfold BM.act BM.get; simp [hc65, hB, hd, hqd]
   rw [e]
   refine J.shutI [own 150 2 (.slice (some ⟨b2, o2, none⟩) zl.length zc) (zl.flatMap ROb.cells), star (zl.map ROb.asn)] (RBk.asn ⟨zk, some ⟨b2, o2, none⟩, zc, zl⟩) (fun _ h => h) ?_
   refine J.unfocusI (f := RBk.asn) i ⟨zk, some ⟨b2, o2, none⟩, zc, zl⟩ hzi ?_
   rw [set_self hz]
   refine J.shutI (refL m M (some ⟨b1, o1, none⟩) c1 bs p2 c2 us p3 c3) (RefAt m M) (RefAt.of hyb hyu hyk) ?_
   refine J.give (X := own 9 1 (.slice none 0 0) []) (own.nil _ _ _) ?_
   refine J.shutI [own 9 1 (.slice none 0 0) [], own 5 1 (.slice p75 q.d.length c75) (bytesV q.d)] (RW.asn ⟨⟨200, 0, [], false, q.d⟩, none, 0, p75, c75⟩) (fun _ h => h) ?_
   refine J.retCI (vs := [_, _, _, _, _]) [RefAt m M, RW.asn ⟨⟨200, 0, [], false, q.d⟩, none, 0, p75, c75⟩, G] rfl rfl isAgg44 sizeOf44 rnI ⟨⟨⟨200, 0, [], false, q.d⟩, none, 0, p75, c75⟩, rfl, rfl, fun h => absurd h (by rw [hc65]; decide), rfl⟩
  refine J.cond_f rfl <| J.region <| J.m rfl <| J.m rfl ?_
  refine J.callI call64 (rdrop_spec b1 o1 c1 bs hz x.o.key (i := a) (v := d) (by rw [hzl]; exact ha) (by rw [hzl]; exact hd) hzs (by omega)) rfl rfl rfl ?_
  rintro _ _ ⟨z2, hz1, hz2, rfl, rfl⟩
  refine J.norm rfl <| J.nil <| J.then_n <| J.seq <| J.region ?_
  refine J.p rfl (Q.ldN (vs := [_, _, _, _, _]) isAgg44 sizeOf44 rfl rnI) ?_
  refine J.stAJ (vs := [_, _, _, _, _]) rfl sizeOf44 rfl rfl ?_
  refine J.nil <| J.then_n <| J.cret ?_
  have e : M.act x.o = (st 200, { M with buckets := sput ltB x.o.bucket (sdel x.o.key objs) M.buckets }) := by unfold BM.act BM.delete; simp [show x.o.kind = 5 by omega, hB, hd]
  rw [e]
  refine J.shutI [z2.own, star (z2.l.map ROb.asn)] z2.asn (fun _ h => h) ?_
  refine J.unfocusI (f := RBk.asn) i z2 hzi ?_
  refine J.convI (refP m (.slice (some ⟨b1, o1, none⟩) bs.length c1) (.slice p2 us.length c2) (.slice p3 M.done.length c3)) (refP m (.slice (some ⟨b1, o1, none⟩) (bs.set i z2).length c1) (.slice p2 us.length c2) (.slice p3 M.done.length c3)) (fun _ h => by rw [List.length_set]; exact h) ?_
  refine J.shutI (refL m { M with buckets := sput ltB x.o.bucket (sdel x.o.key objs) M.buckets } (some ⟨b1, o1, none⟩) c1 (bs.set i z2) p2 c2 us p3 c3) (RefAt m { M with buckets := sput ltB x.o.bucket (sdel x.o.key objs) M.buckets }) (RefAt.of (M := { M with buckets := sput ltB x.o.bucket (sdel x.o.key objs) M.buckets }) (by
   rw [List.map_set, hyb, hi.put_yes ord3_str hM.bs hB, show z2.kv = (x.o.bucket, sdel x.o.key objs) from by rw [← hzl, ← hz2, ← hzk, ← hz1]]) hyu hyk) ?_
  refine J.give (X := RW.asn ⟨st 200, none, 0, none, 0⟩) empty_asn ?_
  refine J.retCI (vs := [_, _, _, _, _]) [RefAt m { M with buckets := sput ltB x.o.bucket (sdel x.o.key objs) M.buckets }, RW.asn ⟨st 200, none, 0, none, 0⟩, G] rfl rfl isAgg44 sizeOf44 rnI ⟨⟨st 200, none, 0, none, 0⟩, rfl, rfl, fun _ => rfl, rfl⟩
end

def BM.kin (M : BM) : Prop := ∀ n u, sget n M.uploads = some u → (sget n M.done).isSome = true
theorem act_bare (M : BM) {o : OM} (h : readsK o.kind = false) : (M.act o).1.keys = [] ∧ (M.act o).1.more = false ∧ (M.act o).1.data = [] := by
  have h4 : o.kind ≠ 4 := by rintro e; rw [e] at h; cases h
  have h6 : o.kind ≠ 6 := by rintro e; rw [e] at h; cases h
  unfold BM.act
  rw [if_neg h4, if_neg h6]
  unfold BM.make BM.unmake BM.put BM.delete BM.begin BM.part BM.complete BM.abort
  repeat' split
  all_goals exact ⟨rfl, rfl, rfl⟩

section
variable {k : Nat} (m : Nat) (M : BM) (hM : M.lite) (hok : M.ok k) (hk : k ≤ 32768) (hkn : M.kin) (x : OW) (G : Assn) (hx : x.ok G)
include hM hok hk hx hkn
set_option maxHeartbeats 4000000 in
theorem rdo_spec : FSpec Tryz.prog 13 [.pointer (some ⟨m, 0, none⟩), .agg x.cells.toArray] [RefAt m M, G]
    (fun v B => ∃ y : RW, v = .agg y.cells.toArray ∧ y.r = (M.run x.o).1 ∧ B = [RefAt m (M.run x.o).2, y.asn, G]) := by
  refine FSpec.of func13 rfl ntmps13 rfl fun W0 F => ?_
  refine J.seq <| J.region ?_
  refine J.c rfl rfl (C.box (l := [_, _, _, _, _, _, _, _, _]) rfl rfl) ?_
  rintro _ _ ⟨b3, rfl, rfl⟩
  refine J.norm rfl ?_
  refine J.c rfl rfl (C.alloc (l := [_, _, _, _, _]) zeroValue44 rfl) ?_
  rintro _ _ ⟨b4, rfl, rfl⟩
  refine J.norm rfl <| J.nil <| J.then_n <| J.seq <| J.seq <| J.region ?_
  refine J.p rfl (Q.ldN (vs := [_, _, _, _, _, _, _, _, _]) isAgg52 sizeOf52 rfl rnI) ?_
  refine J.callI call12 (rcheck_spec G x hx) rfl rfl rfl ?_
  rintro _ _ ⟨rfl, rfl⟩
  refine J.norm rfl ?_
  rw [← chk_eq]
  refine J.p rfl (Q.neq rfl rfl) <| J.nil <| J.then_n ?_
  refine J.kases 12 rfl (fun hc12 => ?_) (fun hc12 => ?_)
  ·
   refine J.cond_t rfl <| J.seq <| J.region ?_
   refine J.callI call30 (ris_spec 400) rfl rfl rfl ?_
   rintro _ _ ⟨rfl, rfl⟩
   refine J.norm rfl ?_
   refine J.stAJ (vs := [_, _, _, _, _]) rfl sizeOf44 rfl rfl ?_
   refine J.nil <| J.then_n <| J.cret <| J.then_r ?_
   have hcf : x.o.chkB = false := by
    cases h : x.o.chkB with
    | false => rfl
    | true => rw [h] at hc12; exact absurd rfl hc12
   have e : M.run x.o = (st 400, M) := by unfold BM.run; rw [hcf]; rfl
   rw [e]
   refine J.give (X := RW.asn ⟨st 400, none, 0, none, 0⟩) empty_asn ?_
   refine J.retCI (vs := [_, _, _, _, _]) [RefAt m M, RW.asn ⟨st 400, none, 0, none, 0⟩, G] rfl rfl isAgg44 sizeOf44 rnI ⟨⟨st 400, none, 0, none, 0⟩, rfl, rfl, rfl⟩
  refine J.cond_f rfl <| J.cskip <| J.then_n <| J.seq ?_
  have hc : x.o.chkB = true := by
   cases h : x.o.chkB with
   | true => rfl
   | false => rw [h] at hc12; exact absurd hc12 (by decide)
  have hck := chk_kind hc
  have hcl := chk_len hc
  refine J.openI (RefAt m M) (Bs := fun _ : Unit => [RefAt m M]) (p := fun _ => M.bare) (fun h hh => by
   obtain ⟨y, hy, s⟩ := hh
   exact ⟨(), hy.k, X.G.HSat.one ⟨y, hy, s⟩⟩) fun _ hbare => ?_
  refine J.norm rfl <| J.region <| J.m rfl <| J.p rfl (Q.fa (n := 0) runUnderlying52 rfl rfl sizeOf40 rfl) ?_
  refine J.p rfl (Q.ldI isAgg40 rfl) ?_
  refine J.callI call31 (rdone_spec m M hM x.o.id) rfl rfl rfl ?_
  rintro _ _ ⟨rfl, rfl⟩
  refine J.norm rfl <| J.m rfl <| J.p rfl (Q.ext rfl rfl) <| J.p rfl (Q.ext rfl rfl) ?_
  refine J.c rfl rfl (C.alloc (l := [_, _, _, _, _]) zeroValue44 rfl) ?_
  rintro _ _ ⟨b5, rfl, rfl⟩
  refine J.norm rfl ?_
  refine J.stAJ (vs := [_, _, _, _, _]) rfl sizeOf44 rfl rfl ?_
  refine J.p rfl (Q.asg rfl) <| J.nil <| J.then_n ?_
  refine J.cut (fun _ : Unit => readsK x.o.kind = false → sget x.o.id M.done = none) (fun _ => [(0, .pointer (some ⟨m, 0, none⟩)), (3, .pointer (some ⟨b3, 0, none⟩)), (4, .pointer (some ⟨b4, 0, none⟩))])
   (fun _ => [RefAt m M, G, pt b3 (.cells x.cells.toArray 52 (0, 0)), pt b4 (.cells [Value.int .i64 0, .int .u64 0, .slice none 0 0, .bool false, .slice none 0 0].toArray 44 (0, 0)), F]) ?_ fun _ hnd => ?_
  ·
   refine J.seq <| J.region <| J.m rfl <| J.m rfl ?_
   refine J.kases 22 rfl (fun hb22 => ?_) (fun hb22 => ?_)
   ·
    refine J.p rfl (Q.fa (n := 1) runUnderlying52 rfl rfl sizeOf3 rfl) ?_
    refine J.p rfl (Q.ldI isAgg3 rfl) ?_
    refine J.callI call32 (rreads_spec x.o.kind) rfl rfl rfl ?_
    rintro _ _ ⟨rfl, rfl⟩
    refine J.norm rfl <| J.p rfl (Q.not rfl) <| J.p rfl (Q.pick_t rfl rfl) <| J.nil <| J.then_n ?_
    refine J.kases 27 rfl (fun hc27 => ?_) (fun hc27 => ?_)
    ·
     refine J.cond_t rfl <| J.seq <| J.region ?_
     refine J.p rfl (Q.ldN (vs := [_, _, _, _, _]) isAgg44 sizeOf44 rfl rnI) ?_
     refine J.stAJ (vs := [_, _, _, _, _]) rfl sizeOf44 rfl rfl ?_
     refine J.nil <| J.then_n <| J.cret <| J.cut_r ?_
     obtain ⟨r, hr⟩ := Option.isSome_iff_exists.1 hb22
     have hrd : readsK x.o.kind = false := by unfold readsK; simpa using hc27
     have e : M.run x.o = (r, M) := by unfold BM.run; rw [hc, hrd, hr]; rfl
     have hbr := hbare _ (X.G.sget_mem hr)
     rw [e, hr]
     obtain ⟨rs, ru, rk, rm, rd⟩ := r
     dsimp only at hbr
     obtain ⟨rfl, rfl, rfl⟩ := hbr
     refine J.give (X := RW.asn ⟨⟨rs, ru, [], false, []⟩, none, 0, none, 0⟩) empty_asn ?_
     refine J.retCI (vs := [_, _, _, _, _]) [RefAt m M, RW.asn ⟨⟨rs, ru, [], false, []⟩, none, 0, none, 0⟩, G] rfl rfl isAgg44 sizeOf44 rnI ⟨⟨⟨rs, ru, [], false, []⟩, none, 0, none, 0⟩, rfl, rfl, rfl⟩
    refine J.cond_f rfl <| J.cskip ?_
    refine J.meetI () (by
     intro h
     have h' : (decide (x.o.kind = 4) || decide (x.o.kind = 6)) = false := h
     first
      | exact Option.not_isSome_iff_eq_none.1 (by rw [hb22]; exact Bool.false_ne_true)
      | (exfalso; rw [h'] at hc27; cases hc27)) ⟨rfl, rfl, rfl, trivial⟩
   refine J.k rfl <| J.k rfl <| J.k rfl <| J.k rfl <| J.p rfl (Q.pick_f rfl rfl) <| J.nil <| J.then_n <| J.cond_f rfl <| J.cskip ?_
   refine J.meetI () (by
    intro h
    have h' : (decide (x.o.kind = 4) || decide (x.o.kind = 6)) = false := h
    first
     | exact Option.not_isSome_iff_eq_none.1 (by rw [hb22]; exact Bool.false_ne_true)
     | (exfalso; rw [h'] at hc27; cases hc27)) ⟨rfl, rfl, rfl, trivial⟩
  refine J.seq ?_
  have hid : x.o.kind = 7 → sget x.o.id M.uploads = none := by
   intro h
   have hn := hnd (by rw [h]; rfl)
   cases hq : sget x.o.id M.uploads with
   | none => rfl
   | some u => have := hkn _ _ hq; rw [hn] at this; cases this
  refine J.region <| J.p rfl (Q.bld (l := [_, _, _, _, _]) runUnderlying44 zeroValue44 places44 rfl rfl) ?_
  refine J.c rfl rfl (C.alloc (l := [_, _, _, _, _]) zeroValue44 rfl) ?_
  rintro _ _ ⟨b7, rfl, rfl⟩
  refine J.norm rfl ?_
  refine J.stAJ (vs := [_, _, _, _, _]) rfl sizeOf44 rfl rfl ?_
  refine J.nil <| J.then_n ?_
  refine J.cut (fun w : RW => w.r = (M.act x.o).1 ∧ (readsK x.o.kind = false → w = ⟨w.r, none, 0, none, 0⟩)) (fun w => [(0, .pointer (some ⟨m, 0, none⟩)), (3, .pointer (some ⟨b3, 0, none⟩)), (4, .pointer (some ⟨b4, 0, none⟩)), (7, .pointer (some ⟨b7, 0, none⟩))])
   (fun w => [RefAt m (M.act x.o).2, w.asn, G, pt b3 (.cells x.cells.toArray 52 (0, 0)), pt b4 (.cells [Value.int .i64 0, .int .u64 0, .slice none 0 0, .bool false, .slice none 0 0].toArray 44 (0, 0)), pt b7 (.cells w.cells.toArray 44 (0, 0)), F]) ?_ fun w hw => ?_
  ·
   refine J.seq <| J.region <| J.p rfl (Q.fa (n := 1) runUnderlying52 rfl rfl sizeOf3 rfl) ?_
   refine J.p rfl (Q.ldI isAgg3 rfl) ?_
   refine J.nil <| J.then_n <| J.block <| J.seq <| J.region <| J.p rfl (Q.eql rfl rfl) <| J.p rfl (Q.asg rfl) <| J.nil <| J.then_n ?_
   refine J.kases 35 rfl (fun hc35 => ?_) (fun hc35 => ?_)
   ·
    refine J.cond_t rfl <| J.region <| J.m rfl ?_
    refine J.p rfl (Q.ldN (vs := [_, _, _, _, _, _, _, _, _]) isAgg52 sizeOf52 rfl rnI) ?_
    refine J.callI call33 (rmake_spec m M hM x) rfl rfl rfl ?_
    rintro _ _ ⟨rfl, rfl⟩
    refine J.norm rfl ?_
    refine J.stAJ (vs := [_, _, _, _, _]) rfl sizeOf44 rfl rfl ?_
    refine J.nil <| J.blk_n ?_
    have e : M.act x.o = M.make x.o := by unfold BM.act; rw [if_pos (by omega)]
    have hb := act_bare M (o := x.o) (by unfold readsK; simp [show x.o.kind = 1 by omega])
    rw [e] at hb ⊢
    obtain ⟨r, hr⟩ : ∃ r, r = (M.make x.o).1 := ⟨_, rfl⟩
    rw [← hr] at hb ⊢
    obtain ⟨rs, ru, rk, rm, rd⟩ := r
    dsimp only at hb
    obtain ⟨rfl, rfl, rfl⟩ := hb
    refine J.give (X := RW.asn ⟨⟨rs, ru, [], false, []⟩, none, 0, none, 0⟩) empty_asn ?_
    refine J.meetI (RW.mk ⟨rs, ru, [], false, []⟩ none 0 none 0) ⟨rfl, fun _ => rfl⟩ ⟨rfl, rfl, rfl, rfl, trivial⟩
   refine J.cond_f rfl <| J.seq <| J.seq <| J.region <| J.p rfl (Q.eql rfl rfl) <| J.p rfl (Q.asg rfl) <| J.nil <| J.then_n ?_
   refine J.kases 40 rfl (fun hc40 => ?_) (fun hc40 => ?_)
   ·
    refine J.cond_t rfl <| J.cskip <| J.then_n <| J.cond_t rfl <| J.region <| J.m rfl ?_
    refine J.p rfl (Q.ldN (vs := [_, _, _, _, _, _, _, _, _]) isAgg52 sizeOf52 rfl rnI) ?_
    refine J.callI call34 (rinUpload_spec m M hM hok hk x G hx (by omega) (fun h => chk_parts hc h) hcl) rfl rfl rfl ?_
    rintro _ _ ⟨rfl, rfl⟩
    refine J.norm rfl ?_
    refine J.stAJ (vs := [_, _, _, _, _]) rfl sizeOf44 rfl rfl ?_
    refine J.nil <| J.blk_n ?_
    first
     | exact J.meetI y ⟨hy, hyb⟩ ⟨rfl, rfl, rfl, rfl, trivial⟩
     | (have hb := act_bare M (o := x.o) (by unfold readsK; simp; omega)
        obtain ⟨r, hr⟩ : ∃ r, r = (M.act x.o).1 := ⟨_, rfl⟩
        rw [← hr] at hb ⊢
        obtain ⟨rs, ru, rk, rm, rd⟩ := r
        dsimp only at hb
        obtain ⟨rfl, rfl, rfl⟩ := hb
        refine J.give (X := RW.asn ⟨⟨rs, ru, [], false, []⟩, none, 0, none, 0⟩) empty_asn ?_
        exact J.meetI (RW.mk ⟨rs, ru, [], false, []⟩ none 0 none 0) ⟨rfl, fun _ => rfl⟩ ⟨rfl, rfl, rfl, rfl, trivial⟩)
   refine J.cond_f rfl <| J.seq <| J.region <| J.p rfl (Q.eql rfl rfl) <| J.p rfl (Q.asg rfl) <| J.nil <| J.then_n ?_
   refine J.kases 40 rfl (fun hc40 => ?_) (fun hc40 => ?_)
   ·
    refine J.cond_t rfl <| J.cskip <| J.then_n <| J.cond_t rfl <| J.region <| J.m rfl ?_
    refine J.p rfl (Q.ldN (vs := [_, _, _, _, _, _, _, _, _]) isAgg52 sizeOf52 rfl rnI) ?_
    refine J.callI call34 (rinUpload_spec m M hM hok hk x G hx (by omega) (fun h => chk_parts hc h) hcl) rfl rfl rfl ?_
    rintro _ _ ⟨rfl, rfl⟩
    refine J.norm rfl ?_
    refine J.stAJ (vs := [_, _, _, _, _]) rfl sizeOf44 rfl rfl ?_
    refine J.nil <| J.blk_n ?_
    first
     | exact J.meetI y ⟨hy, hyb⟩ ⟨rfl, rfl, rfl, rfl, trivial⟩
     | (have hb := act_bare M (o := x.o) (by unfold readsK; simp; omega)
        obtain ⟨r, hr⟩ : ∃ r, r = (M.act x.o).1 := ⟨_, rfl⟩
        rw [← hr] at hb ⊢
        obtain ⟨rs, ru, rk, rm, rd⟩ := r
        dsimp only at hb
        obtain ⟨rfl, rfl, rfl⟩ := hb
        refine J.give (X := RW.asn ⟨⟨rs, ru, [], false, []⟩, none, 0, none, 0⟩) empty_asn ?_
        exact J.meetI (RW.mk ⟨rs, ru, [], false, []⟩ none 0 none 0) ⟨rfl, fun _ => rfl⟩ ⟨rfl, rfl, rfl, rfl, trivial⟩)
   refine J.cond_f rfl <| J.region <| J.p rfl (Q.eql rfl rfl) <| J.p rfl (Q.asg rfl) <| J.nil <| J.then_n ?_
   refine J.kases 40 rfl (fun hc40 => ?_) (fun hc40 => ?_)
   ·
    refine J.cond_t rfl <| J.region <| J.m rfl ?_
    refine J.p rfl (Q.ldN (vs := [_, _, _, _, _, _, _, _, _]) isAgg52 sizeOf52 rfl rnI) ?_
    refine J.callI call34 (rinUpload_spec m M hM hok hk x G hx (by omega) (fun h => chk_parts hc h) hcl) rfl rfl rfl ?_
    rintro _ _ ⟨rfl, rfl⟩
    refine J.norm rfl ?_
    refine J.stAJ (vs := [_, _, _, _, _]) rfl sizeOf44 rfl rfl ?_
    refine J.nil <| J.blk_n ?_
    first
     | exact J.meetI y ⟨hy, hyb⟩ ⟨rfl, rfl, rfl, rfl, trivial⟩
     | (have hb := act_bare M (o := x.o) (by unfold readsK; simp; omega)
        obtain ⟨r, hr⟩ : ∃ r, r = (M.act x.o).1 := ⟨_, rfl⟩
        rw [← hr] at hb ⊢
        obtain ⟨rs, ru, rk, rm, rd⟩ := r
        dsimp only at hb
        obtain ⟨rfl, rfl, rfl⟩ := hb
        refine J.give (X := RW.asn ⟨⟨rs, ru, [], false, []⟩, none, 0, none, 0⟩) empty_asn ?_
        exact J.meetI (RW.mk ⟨rs, ru, [], false, []⟩ none 0 none 0) ⟨rfl, fun _ => rfl⟩ ⟨rfl, rfl, rfl, rfl, trivial⟩)
   refine J.cond_f rfl <| J.region <| J.m rfl ?_
   refine J.p rfl (Q.ldN (vs := [_, _, _, _, _, _, _, _, _]) isAgg52 sizeOf52 rfl rnI) ?_
   refine J.callI call35 (rinBucket_spec m M hM hok hk x G hx (by omega) (fun h => chk_6 hc h) hid hcl) rfl rfl rfl ?_
   rintro _ _ ⟨y, rfl, hy, hyb, rfl⟩
   refine J.norm rfl ?_
   refine J.stAJ (vs := [_, _, _, _, _]) rfl sizeOf44 rfl rfl ?_
   refine J.nil <| J.blk_n ?_
   first
    | exact J.meetI y ⟨hy, hyb⟩ ⟨rfl, rfl, rfl, rfl, trivial⟩
    | (have hb := act_bare M (o := x.o) (by unfold readsK; simp; omega)
       obtain ⟨r, hr⟩ : ∃ r, r = (M.act x.o).1 := ⟨_, rfl⟩
       rw [← hr] at hb ⊢
       obtain ⟨rs, ru, rk, rm, rd⟩ := r
       dsimp only at hb
       obtain ⟨rfl, rfl, rfl⟩ := hb
       refine J.give (X := RW.asn ⟨⟨rs, ru, [], false, []⟩, none, 0, none, 0⟩) empty_asn ?_
       exact J.meetI (RW.mk ⟨rs, ru, [], false, []⟩ none 0 none 0) ⟨rfl, fun _ => rfl⟩ ⟨rfl, rfl, rfl, rfl, trivial⟩)
  obtain ⟨hwr, hwb⟩ := hw
  refine J.seq <| J.seq <| J.region <| J.p rfl (Q.fa (n := 1) runUnderlying52 rfl rfl sizeOf3 rfl) ?_
  refine J.p rfl (Q.ldI isAgg3 rfl) ?_
  refine J.callI call32 (rreads_spec x.o.kind) rfl rfl rfl ?_
  rintro _ _ ⟨rfl, rfl⟩
  refine J.norm rfl <| J.p rfl (Q.not rfl) <| J.nil <| J.then_n ?_
  refine J.kases 50 rfl (fun hc50 => ?_) (fun hc50 => ?_)
  ·
   refine J.cond_t rfl <| J.seq ?_
   have hrd : readsK x.o.kind = false := by unfold readsK; simpa using hc50
   have hno := hnd hrd
   have hb := act_bare M hrd
   have hwb' := hwb hrd
   have hds := hM.ds
   rw [← act_done M x.o] at hno hds
   have hrun : M.run x.o = ((M.act x.o).1, { (M.act x.o).2 with done := sput ltN x.o.id (M.act x.o).1 (M.act x.o).2.done }) := by
    unfold BM.run; rw [if_pos hc, if_neg (by rw [hrd]; exact Bool.false_ne_true), ← act_done M x.o, hno]
   have hlk : (M.act x.o).2.done.length ≤ 32768 := by rw [act_done]; exact hM.len.2.2
   rw [hrun]
   rw [← hwr] at hb ⊢
   obtain ⟨M2, hM2⟩ : ∃ M2, M2 = (M.act x.o).2 := ⟨_, rfl⟩
   rw [← hM2] at hno hds hlk ⊢
   clear hrun
   obtain ⟨⟨rs, ru, rk, rm, rd⟩, kp, kc, dp, dc⟩ := w
   simp only [RW.mk.injEq, true_and] at hwb'
   obtain ⟨rfl, rfl, rfl, rfl⟩ := hwb'
   dsimp only at hb
   obtain ⟨rfl, rfl, rfl⟩ := hb
   refine J.openRef (m := m) (M := M2) fun p1 c1 bs p2 c2 us p3 c3 hyb hyu hyk => ?_
   refine J.norm rfl ?_
   refine J.tells 3 rfl own.len fun hck => ?_
   have hck' : M2.done.length ≤ c3 := hck.2
   refine J.slrI (E0 := 105) (sz := 6) (p := p3) (n := M2.done.length) (c := c3) (xs := M2.done.flatMap RKp.cells) fun hsk => ?_
   refine J.region <| J.p rfl (Q.asg rfl) <| J.nil <| J.then_n ?_
   refine J.cut (fun i : Nat => AtK ltN x.o.id M2.done i) (fun i => [(0, .pointer (some ⟨m, 0, none⟩)), (3, .pointer (some ⟨b3, 0, none⟩)), (4, .pointer (some ⟨b4, 0, none⟩)), (7, .pointer (some ⟨b7, 0, none⟩)), (8, .int .i64 i)])
    (fun _ => refL m M2 p1 c1 bs p2 c2 us p3 c3 ++ [RW.asn ⟨⟨rs, ru, [], false, []⟩, none, 0, none, 0⟩, G, pt b3 (.cells x.cells.toArray 52 (0, 0)), pt b4 (.cells [Value.int .i64 0, .int .u64 0, .slice none 0 0, .bool false, .slice none 0 0].toArray 44 (0, 0)), pt b7 (.cells [Value.int .i64 rs, .int .u64 ru, .slice none 0 0, .bool false, .slice none 0 0].toArray 44 (0, 0)), F]) ?_ fun i hi => ?_
   ·
    refine J.block ?_
    refine J.loop (fun j : Nat => j ≤ M2.done.length ∧ ∀ q, q ∈ M2.done.take j → ltN q.1 x.o.id = true) (fun j => M2.done.length - j) (fun j => [(0, .pointer (some ⟨m, 0, none⟩)), (3, .pointer (some ⟨b3, 0, none⟩)), (4, .pointer (some ⟨b4, 0, none⟩)), (7, .pointer (some ⟨b7, 0, none⟩)), (8, .int .i64 j)])
     (fun _ => refL m M2 p1 c1 bs p2 c2 us p3 c3 ++ [RW.asn ⟨⟨rs, ru, [], false, []⟩, none, 0, none, 0⟩, G, pt b3 (.cells x.cells.toArray 52 (0, 0)), pt b4 (.cells [Value.int .i64 0, .int .u64 0, .slice none 0 0, .bool false, .slice none 0 0].toArray 44 (0, 0)), pt b7 (.cells [Value.int .i64 rs, .int .u64 ru, .slice none 0 0, .bool false, .slice none 0 0].toArray 44 (0, 0)), F]) 0 ⟨Nat.zero_le _, (fun _ h => by cases h)⟩ ⟨rfl, rfl, rfl, rfl, rfl, trivial⟩ rfl fun j hj => ?_
    obtain ⟨hj, hlo⟩ := hj
    refine J.norm rfl <| J.seq <| J.seq ?_
    refine J.draw [] Tryz.mixed (by kernel_rfl) fun hR => ?_
    refine RG.p 0 hR rfl (Q.mv rfl) <| RG.p 1 hR rfl (Q.mv rfl) <| RG.p 2 hR rfl (Q.nil_ rfl) <| RG.p 3 hR rfl (Q.fa (n := 2) runUnderlying98 rfl rfl sizeOf96 rfl) ?_
    refine RG.p 4 hR rfl (Q.ldI isAgg96 rfl) ?_
    refine RG.p 5 hR rfl (Q.lenSl runUnderlying96 rfl) <| RG.p 6 hR rfl (Q.lss rfl rfl) <| RG.p 7 hR rfl (Q.mv rfl) ?_
    refine RG.cases 58 rfl (fun hb58 => ?_) (fun hb58 => ?_)
    ·
     replace hb58 := X.nm hb58
     refine RG.p 8 hR rfl (Q.mv rfl) <| RG.p 9 hR rfl (Q.nil_ rfl) <| RG.p 10 hR rfl (Q.fa (n := 2) runUnderlying98 rfl rfl sizeOf96 rfl) ?_
     refine RG.p 11 hR rfl (Q.ldI isAgg96 rfl) ?_
     obtain ⟨bb, off, hpp, hrd⟩ := hsk.some_ (by omega)
     obtain ⟨q, hq⟩ : ∃ q, M2.done[j]? = some q := ⟨_, List.getElem?_eq_getElem (by omega)⟩
     subst hpp
     refine RG.p 12 hR rfl (Q.mv rfl) <| RG.p 13 hR rfl (Q.ia runUnderlying96 sizeOf105 rfl rfl (by omega) (by omega)) <| RG.p 14 hR rfl (Q.fa (n := 0) runUnderlying105 rfl rfl sizeOf40 rfl) <| RG.p 15 hR rfl (Q.ld isAgg40 rfl (rfO 0 RKp.len hq (show _ = some (Value.int .u64 q.1) from rfl) (by omega))) <| RG.p 16 hR rfl (Q.fa (n := 0) runUnderlying52 rfl rfl sizeOf40 rfl) ?_
     refine RG.p 17 hR rfl (Q.ldI isAgg40 rfl) ?_
     refine RG.p 18 hR rfl (Q.lss rfl rfl) <| RG.p 19 hR rfl (Q.pick_t rfl rfl) ?_
     refine RG.fin hR rfl ?_
     refine J.norm rfl <| J.then_n ?_
     refine J.kases 70 rfl (fun hc70 => ?_) (fun hc70 => ?_)
     ·
      refine J.cond_t rfl <| J.cskip <| J.then_n <| J.block <| J.region <| J.m rfl <| J.p rfl (Q.add64 rfl rfl (by omega)) <| J.p rfl (Q.asg rfl) <| J.nil <| J.blk_n ?_
      refine J.againI (j + 1) ⟨by show j + 1 ≤ _; omega, AtK.next hlo hq (by simp only [decide_eq_true_eq]; omega)⟩ (by show M2.done.length - (j + 1) < M2.done.length - j; omega) ⟨rfl, rfl, rfl, rfl, rfl, trivial⟩
     refine J.cond_f rfl <| J.exit <| J.then_x <| J.lp_x <| J.blk_x ?_
     exact J.meetI j ⟨by omega, hlo, fun p hp => by rw [hq] at hp; cases hp; simp only [decide_eq_false_iff_not]; omega⟩ ⟨rfl, rfl, rfl, rfl, rfl, trivial⟩
    replace hb58 := X.nm hb58
    refine RG.k 8 hR rfl <| RG.k 9 hR rfl <| RG.k 10 hR rfl <| RG.k 11 hR rfl <| RG.k 12 hR rfl <| RG.k 13 hR rfl <| RG.k 14 hR rfl <| RG.k 15 hR rfl <| RG.k 16 hR rfl <| RG.k 17 hR rfl ?_
    refine RG.k 18 hR rfl <| RG.p 19 hR rfl (Q.pick_f rfl rfl) ?_
    refine RG.fin hR rfl ?_
    refine J.norm rfl <| J.then_n <| J.cond_f rfl <| J.exit <| J.then_x <| J.lp_x <| J.blk_x ?_
    exact J.meetI j ⟨by omega, hlo, fun p hp => by rw [List.getElem?_eq_none (by omega)] at hp; cases hp⟩ ⟨rfl, rfl, rfl, rfl, rfl, trivial⟩
   refine J.norm rfl ?_
   have hle := hi.le
   obtain ⟨z, hz⟩ : ∃ z : RKp, z = (x.o.id, ⟨rs, ru, [], false, []⟩) := ⟨_, rfl⟩
   refine J.cut (fun _ : Option Addr × Nat => True) (fun u => [(0, .pointer (some ⟨m, 0, none⟩)), (4, .pointer (some ⟨b4, 0, none⟩)), (7, .pointer (some ⟨b7, 0, none⟩)), (8, .int .i64 i), (9, .slice u.1 (0 + i + 1) u.2)])
    (fun u => refL m M2 p1 c1 bs p2 c2 us p3 c3 ++ [RW.asn ⟨⟨rs, ru, [], false, []⟩, none, 0, none, 0⟩, G, pt b4 (.cells [Value.int .i64 0, .int .u64 0, .slice none 0 0, .bool false, .slice none 0 0].toArray 44 (0, 0)), pt b7 (.cells [Value.int .i64 rs, .int .u64 ru, .slice none 0 0, .bool false, .slice none 0 0].toArray 44 (0, 0)), own 105 6 (.slice u.1 (0 + i + 1) u.2) ([] ++ (M2.done.flatMap RKp.cells).take (i * 6) ++ RKp.cells z), F]) ?_ fun u _ => ?_
   obtain ⟨hq79, hr79⟩ := slH_ (P := Tryz.prog) (T := 96) runUnderlying96 sizeOf105 hsk (hi := i) hle hck'
   ·
    refine J.draw [0, 7, 12, 13, 14] Tryz.mixed (by kernel_rfl) fun hR => ?_
    refine RG.p 1 hR rfl (Q.mv rfl) <| RG.p 2 hR rfl (Q.nil_ rfl) <| RG.p 3 hR rfl (Q.fa (n := 2) runUnderlying98 rfl rfl sizeOf96 rfl) ?_
    refine RG.p 4 hR rfl (Q.ldI isAgg96 rfl) ?_
    refine RG.p 5 hR rfl (Q.mv rfl) ?_
    refine RG.p 6 hR rfl (hq79 _ _ _ _ _ _ rfl rfl) ?_
    refine RG.p 8 hR rfl (Q.fa (n := 0) runUnderlying52 rfl rfl sizeOf40 rfl) ?_
    refine RG.p 9 hR rfl (Q.ldI isAgg40 rfl) ?_
    refine RG.p 10 hR rfl (Q.ldN (vs := [_, _, _, _, _]) isAgg44 sizeOf44 rfl rnI) ?_
    refine RG.p 11 hR rfl (Q.bld (l := [_, _, _, _, _, _]) runUnderlying105 zeroValue105 places105 rfl rfl) ?_
    refine RG.slot 84 (.agg (RKp.cells z).toArray) rfl (by rw [hz]; rfl) ?_
    refine RG.many hR 0 [12] rfl ⟨?_, ⟨?_, trivial⟩⟩
    ·
     refine RGi.made rfl rfl rfl rfl (C.bslG (l := []) runUnderlying96 sizeOf105 zeroValue105 (by decide) rfl rfl rfl rfl rfl) ?_
     rintro b73
     refine RG.many hR 7 [12] rfl ⟨?_, ⟨?_, trivial⟩⟩
     ·
      refine RGi.appI rfl rfl rfl rfl runUnderlying96 runUnderlying96 typeInfo105 sizeOf105 zeroValue105 rfl rfl (hr79.inI) (take_one (flat_one RKp.one)) (by simp [Tryz.t105] <;> omega) (by decide) ?_
      rintro p80 c80
      refine RG.normE rfl ?_
      refine RG.made 12 hR rfl rfl rfl rfl rfl (C.bslG (l := [_, _, _, _, _, _]) runUnderlying96 sizeOf105 zeroValue105 (by decide) rfl rfl rfl rfl rfl) ?_
      rintro b85
      refine RG.many hR 13 [] rfl ⟨?_, trivial⟩
      ·
       refine RGi.appI rfl rfl rfl rfl runUnderlying96 runUnderlying96 typeInfo105 sizeOf105 zeroValue105 rfl rfl (SlR.ptI rfl) (RKp.one z) (by simp [Tryz.t105] <;> omega) (by decide) ?_
       rintro p86 c86
       refine RG.normE rfl ?_
       refine RG.bar 14 hR rfl rfl rfl rfl rfl rfl (Q.asg rfl).toC ?_
       rintro _ _ ⟨rfl, rfl⟩
       refine RG.norm rfl ?_
       refine RG.fin hR rfl ?_
       refine J.norm rfl ?_
       exact J.meetI (p86, c86) trivial ⟨rfl, rfl, rfl, rfl, rfl, trivial⟩
     ·
      refine RGi.made rfl rfl rfl rfl (C.bslG (l := [_, _, _, _, _, _]) runUnderlying96 sizeOf105 zeroValue105 (by decide) rfl rfl rfl rfl rfl) ?_
      rintro b85
      refine RG.many hR 7 [] rfl ⟨?_, trivial⟩
      ·
       refine RGi.appI rfl rfl rfl rfl runUnderlying96 runUnderlying96 typeInfo105 sizeOf105 zeroValue105 rfl rfl (hr79.inI) (take_one (flat_one RKp.one)) (by simp [Tryz.t105] <;> omega) (by decide) ?_
       rintro p80 c80
       refine RG.normE rfl ?_
       refine RG.many hR 13 [] rfl ⟨?_, trivial⟩
       ·
        refine RGi.appI rfl rfl rfl rfl runUnderlying96 runUnderlying96 typeInfo105 sizeOf105 zeroValue105 rfl rfl (SlR.ptI rfl) (RKp.one z) (by simp [Tryz.t105] <;> omega) (by decide) ?_
        rintro p86 c86
        refine RG.normE rfl ?_
        refine RG.bar 14 hR rfl rfl rfl rfl rfl rfl (Q.asg rfl).toC ?_
        rintro _ _ ⟨rfl, rfl⟩
        refine RG.norm rfl ?_
        refine RG.fin hR rfl ?_
        refine J.norm rfl ?_
        exact J.meetI (p86, c86) trivial ⟨rfl, rfl, rfl, rfl, rfl, trivial⟩
    ·
     refine RGi.made rfl rfl rfl rfl (C.bslG (l := [_, _, _, _, _, _]) runUnderlying96 sizeOf105 zeroValue105 (by decide) rfl rfl rfl rfl rfl) ?_
     rintro b85
     refine RG.made 0 hR rfl rfl rfl rfl rfl (C.bslG (l := []) runUnderlying96 sizeOf105 zeroValue105 (by decide) rfl rfl rfl rfl rfl) ?_
     rintro b73
     refine RG.many hR 7 [] rfl ⟨?_, trivial⟩
     ·
      refine RGi.appI rfl rfl rfl rfl runUnderlying96 runUnderlying96 typeInfo105 sizeOf105 zeroValue105 rfl rfl (hr79.inI) (take_one (flat_one RKp.one)) (by simp [Tryz.t105] <;> omega) (by decide) ?_
      rintro p80 c80
      refine RG.normE rfl ?_
      refine RG.many hR 13 [] rfl ⟨?_, trivial⟩
      ·
       refine RGi.appI rfl rfl rfl rfl runUnderlying96 runUnderlying96 typeInfo105 sizeOf105 zeroValue105 rfl rfl (SlR.ptI rfl) (RKp.one z) (by simp [Tryz.t105] <;> omega) (by decide) ?_
       rintro p86 c86
       refine RG.normE rfl ?_
       refine RG.bar 14 hR rfl rfl rfl rfl rfl rfl (Q.asg rfl).toC ?_
       rintro _ _ ⟨rfl, rfl⟩
       refine RG.norm rfl ?_
       refine RG.fin hR rfl ?_
       refine J.norm rfl ?_
       exact J.meetI (p86, c86) trivial ⟨rfl, rfl, rfl, rfl, rfl, trivial⟩
   refine J.norm rfl ?_
   obtain ⟨p94, c94, hq94, hr94⟩ := slL_ (P := Tryz.prog) (T := 96) runUnderlying96 sizeOf105 hsk (lo := i) hle hck'
   refine J.region <| J.m rfl <| J.m rfl <| J.m rfl <| J.p rfl (Q.nil_ rfl) <| J.p rfl (Q.fa (n := 2) runUnderlying98 rfl rfl sizeOf96 rfl) ?_
   refine J.p rfl (Q.ldI isAgg96 rfl) ?_
   refine J.m rfl ?_
   refine J.p rfl (hq94 _ _ _ _ _ _ rfl rfl) ?_
   refine J.c rfl rfl (C.appI runUnderlying96 runUnderlying96 typeInfo105 sizeOf105 zeroValue105 rfl rfl (hr94.inI) (drop_one (flat_one RKp.one)) (by simp [Tryz.t105] <;> omega) (by decide)) ?_
   rintro _ _ ⟨p95, c95, rfl, rfl⟩
   refine J.norm rfl <| J.p rfl (Q.nil_ rfl) <| J.p rfl (Q.fa (n := 2) runUnderlying98 rfl rfl sizeOf96 rfl) ?_
   refine J.stJ rfl sizeOf96 rfl rfl rfl ?_
   refine J.nil <| J.then_n <| J.seq <| J.region ?_
   refine J.p rfl (Q.ldN (vs := [_, _, _, _, _]) isAgg44 sizeOf44 rfl rnI) ?_
   refine J.stAJ (vs := [_, _, _, _, _]) rfl sizeOf44 rfl rfl ?_
   refine J.nil <| J.then_n <| J.cret ?_
   obtain ⟨ks, hks⟩ : ∃ ks, ks = M2.done.take i ++ z :: M2.done.drop i := ⟨_, rfl⟩
   have hput : sput ltN x.o.id ⟨rs, ru, [], false, []⟩ M2.done = ks := by rw [hks, hi.put_no ord3_nat hds hno, hz]
   rw [ins_len (x := z) hle, ins_cells RKp.len, ← hks]
   rw [hput]
   refine J.shutI (refL m { M2 with done := ks } p1 c1 bs p2 c2 us p95 c95) (RefAt m { M2 with done := ks }) (RefAt.of (M := { M2 with done := ks }) hyb hyu (by
    intro q hq
    have hq : q ∈ ks := hq
    rw [hks, List.mem_append, List.mem_cons] at hq
    rcases hq with hq | hq | hq
    · exact hyk q (List.mem_of_mem_take hq)
    · rw [hq, hz]; exact ⟨rfl, rfl, rfl⟩
    · exact hyk q (List.mem_of_mem_drop hq))) ?_
   refine J.retCI (vs := [_, _, _, _, _]) [RefAt m { M2 with done := ks }, RW.asn ⟨⟨rs, ru, [], false, []⟩, none, 0, none, 0⟩, G] rfl rfl isAgg44 sizeOf44 rnI ⟨⟨⟨rs, ru, [], false, []⟩, none, 0, none, 0⟩, rfl, rfl, rfl⟩
  refine J.cond_f rfl <| J.cskip <| J.then_n <| J.seq <| J.region ?_
  refine J.p rfl (Q.ldN (vs := [_, _, _, _, _]) isAgg44 sizeOf44 rfl rnI) ?_
  refine J.stAJ (vs := [_, _, _, _, _]) rfl sizeOf44 rfl rfl ?_
  refine J.nil <| J.then_n <| J.cret ?_
  have hrd : readsK x.o.kind = true := by
   unfold readsK
   cases h1 : (decide (x.o.kind = 4) || decide (x.o.kind = 6)) with
   | true => rfl
   | false => rw [h1] at hc50; cases hc50
  have hrun : M.run x.o = M.act x.o := by unfold BM.run; rw [if_pos hc, if_pos hrd]
  rw [hrun]
  refine J.retCI (vs := [_, _, _, _, _]) [RefAt m (M.act x.o).2, w.asn, G] rfl rfl isAgg44 sizeOf44 rnI ⟨w, rfl, hwr, rfl⟩
end
end Go.Proofs.YtidbcaimgahllaaGreat
namespace Go.X
set_option linter.unusedSectionVars false
set_option linter.unusedSimpArgs false
set_option linter.unusedVariables false
open Go.RowKit Go.WideShapes Go.ChangeShapes

def old (W : World) : Assn := fun h => ∀ b o, W.heap[b]? = some o → h b = some o

theorem old_start (W : World) : Sat W W ([old W] ++ [fact True]) := by
  refine ⟨rfl, rfl, rfl, ?_⟩
  refine ⟨hp W, fun _ => none, fun b o e => e, ⟨fun _ => none, fun _ => none, ?_, trivial, fun _ => .inl rfl, Sub.refl _, Sub.refl _⟩, fun _ => .inr rfl, Sub.refl _, fun _ _ e => nomatch e⟩
  exact trivial

theorem old_below {W w : World} {F : Assn} (s : Sat W w ([old W] ++ [F])) : Below W.heap.size W w := by
  have hg : ∀ (b : Nat) (o : Obj), W.heap[b]? = some o → w.heap[b]? = some o := by
    obtain ⟨h1, _, a, _, _, u, _⟩ := s.heap
    exact fun b o e => u b o (a b o e)
  have hs : W.heap.size ≤ w.heap.size := by
    rcases Nat.eq_zero_or_pos W.heap.size with h | h
    · omega
    · have h1 := hg (W.heap.size - 1) _ (Array.getElem?_eq_getElem (by omega))
      have := (Array.getElem?_eq_some_iff.1 h1).1
      omega
  refine ⟨s.os, s.tape, s.out, hs, fun k hk => ?_⟩
  rw [hg k _ (Array.getElem?_eq_getElem hk), Array.getElem?_eq_getElem hk]

theorem FSpec.lift {P : Program} {f : FuncId} {args : List Value} {u : Value} {W : World} (h : FSpec P f args [old W] (fun v B => v = u ∧ B = [old W])) :
    Calls P f args.toArray W fun e w' => e = .returned u ∧ Below W.heap.size W w' :=
  (h.call W W (fact True) (old_start W)).mono fun e w' ⟨v, A, he, ⟨hv, hA⟩, s⟩ => by
    subst hv hA; exact ⟨he, old_below s⟩

theorem old_reads {W : World} {b off : Nat} {v : Value} (h : W.cell? ⟨b, off, none⟩ = some v) : Reads [old W] b off v := by
  intro k s
  obtain ⟨h1, _, a, _, _, u, _⟩ := s
  simp only [World.cell?] at h
  split at h
  · rename_i c e z hb
    simp at h
    exact ⟨c, e, z, u _ _ (a _ _ hb), h⟩
  · cases h

theorem wf_has {k : IntKind} {n : Int} (h : (Lit.int k n).wf = true) : k.min ≤ n ∧ n ≤ k.max := by
  simpa [Lit.wf] using h

end Go.X
namespace Go.X
set_option linter.unusedSectionVars false
set_option linter.unusedSimpArgs false
set_option linter.unusedVariables false

theorem ints_bytes : ∀ zs : List Int, (∀ n ∈ zs, IntKind.u8.min ≤ n ∧ n ≤ IntKind.u8.max) → ∃ bs : List UInt8, bs.length = zs.length ∧ zs.map (Value.int .u8) = bytesV bs
  | [], _ => ⟨[], rfl, rfl⟩
  | z :: zs, h => by
    obtain ⟨bs, h1, h2⟩ := ints_bytes zs (fun n hn => h n (List.mem_cons_of_mem _ hn))
    obtain ⟨h3, h4⟩ := h z (by simp)
    have h3' : 0 ≤ z := h3
    have h4' : z ≤ 255 := h4
    refine ⟨UInt8.ofNat z.toNat :: bs, by simp [h1], ?_⟩
    simp only [List.map_cons, h2, bytesV]
    congr 1
    simp only [byteV]
    congr 1
    rw [UInt8.toNat_ofNat']
    omega

end Go.X
namespace Go.X
set_option linter.unusedSectionVars false
set_option linter.unusedSimpArgs false
set_option linter.unusedVariables false
open Go.RowKit Go.WideShapes Go.ChangeShapes

section
variable {P : Program} {H : Type} {enc : TypeId × Value → H} {W : World} {base : Nat} {spare : Nat → Bool} {held : Bool} {fuel : Nat} {t e : TypeId} {v : Value} {x : DataW H × List MemPlace}

theorem cell_plain {a : Addr} {u : Value} (h : W.cell? a = some u) : ∃ b off, a = ⟨b, off, none⟩ := by
  have := World.cell?_spot h
  obtain ⟨b, off, s⟩ := a
  simp only at this; subst this; exact ⟨b, off, rfl⟩

theorem add_add (a : Addr) (m j : Nat) : (a.add m).add j = a.add (m + j) := by
  unfold Addr.add
  by_cases h1 : m = 0
  · subst h1; simp
  · by_cases h2 : j = 0
    · subst h2; simp
    · rw [if_neg h1, if_neg h2, if_neg (by omega)]; simp [Nat.add_assoc]

theorem cells_get {a : Addr} {n : Nat} {cs : List Value} (h : W.cells? base a n = some cs) : cs.length = n ∧ ∀ (i : Nat) u, cs[i]? = some u → W.cell? (a.add i) = some u := by
  unfold World.cells? at h
  split at h
  · have h1 := mapM_some_length h
    simp only [List.length_range] at h1
    refine ⟨h1, fun i u hu => ?_⟩
    have hi : i < n := by have := (List.getElem?_eq_some_iff.1 hu).1; omega
    have := mapM_some_get h i i (by simp [hi])
    rw [this]; exact hu
  · cases h

theorem slr_old {a : Addr} {len cap sz : Nat} {xs : List Value} (hl : xs.length = len * sz) (h : ∀ (i : Nat) u, xs[i]? = some u → W.cell? (a.add i) = some u) (hsz : 0 < sz) : SlR [old W] sz (.slice (some a) len cap) xs := by
  rcases Nat.eq_zero_or_pos len with h0 | h0
  · subst h0
    exact .inl ⟨some a, cap, rfl, by simpa using hl⟩
  · have hpos : 0 < xs.length := by rw [hl]; exact Nat.mul_pos h0 hsz
    obtain ⟨u, hu⟩ : ∃ u, xs[0]? = some u := ⟨_, List.getElem?_eq_getElem hpos⟩
    have h1 := h 0 u hu
    rw [show a.add 0 = a from rfl] at h1
    obtain ⟨b, off, rfl⟩ := cell_plain h1
    refine .inr ⟨b, off, len, cap, rfl, hl, fun i w hw => old_reads ?_⟩
    have := h i w hw
    rwa [addr_add] at this

theorem ints_in {k : IntKind} (ht : P.underlying t = some (.slice e)) (he : P.underlying e = some (.int k)) (hc : P.cellsOf e = 1) (h : DataW.trod enc P W base spare held fuel t [v] = some x) :
    ∃ p len cap, ∃ zs : List Int, v = .slice p len cap ∧ len ≤ cap ∧ zs.length = len ∧ SlR [old W] 1 v (zs.map (Value.int k)) ∧ (∀ n ∈ zs, k.min ≤ n ∧ n ≤ k.max) ∧ (x.1 = .nil ∧ len = 0 ∨ ∃ es rs, x.1 = .slice es rs ∧ es.length = len) := by
  rcases open_ints ht he hc h with ⟨hcs, rfl⟩ | ⟨a, len, cap, zs, hcs, _, hl, hm, hz, rfl, hcell, hwz⟩
  · simp at hcs
    subst hcs
    exact ⟨none, 0, 0, [], rfl, Nat.le_refl _, rfl, .inl ⟨none, 0, rfl, rfl⟩, by simp, .inl ⟨rfl, rfl⟩⟩
  · simp at hcs
    subst hcs
    have hlz : len ≤ zs.length := by rw [hz]; split <;> omega
    refine ⟨some a, len, cap, zs.take len, rfl, hl, by simp; omega, slr_old (by simp; omega) ?_ (by omega), fun n hn => wf_has (hwz n (List.mem_of_mem_take hn)), .inr ⟨_, _, rfl, by simp [lits]; omega⟩⟩
    intro i u hu
    have hi : i < len := by
      have := (List.getElem?_eq_some_iff.1 hu).1
      simp at this; omega
    rw [hcell i (by omega)]
    simp [hi] at hu
    obtain ⟨n, hn, rfl⟩ := hu
    simp [List.getD, hn]

theorem elems_in {sz : Nat} (ht : P.underlying t = some (.slice e)) (hc : P.cellsOf e = sz) (h : DataW.trod enc P W base spare held fuel t [v] = some x) :
    (v = .slice none 0 0 ∧ x.1 = .nil) ∨ ∃ a len cap n, ∃ es : List (DataW H × List MemPlace), ∃ rs : List (DataW H), ∃ css : List (List Value), v = .slice (some a) len cap ∧ len ≤ cap ∧ x.1 = .slice (es.map (·.1)) rs ∧ es.length = len ∧ css.length = len ∧
      (∀ (i : Nat) cs, css[i]? = some cs → cs.length = sz ∧ (∀ (j : Nat) u, cs[j]? = some u → W.cell? (a.add (i * sz + j)) = some u) ∧ DataW.trod enc P W base spare held n e cs = es[i]?) := by
  rcases DataW.trod_slice ht h with ⟨hcs, rfl⟩ | ⟨a, len, cap, es, rs, n, rfl, hcs, rfl, hb, hl, hm, hle, hel, _, _⟩
  · simp at hcs; exact .inl ⟨hcs, rfl⟩
  · simp at hcs
    right
    have hx : ∀ i, i < len → ∃ cs, W.cells? base (a.add (i * sz)) sz = some cs ∧ DataW.trod enc P W base spare held n e cs = es[i]? := by
      intro i hi
      have := hel i hi
      rw [hc] at this
      obtain ⟨y, hy⟩ : ∃ y, es[i]? = some y := ⟨_, List.getElem?_eq_getElem (by omega)⟩
      rw [hy, Option.bind_eq_some_iff] at this
      obtain ⟨cs, h1, h2⟩ := this
      exact ⟨cs, h1, by rw [h2, hy]⟩
    obtain ⟨css, hcl, hcss⟩ : ∃ css : List (List Value), css.length = len ∧ ∀ (i : Nat) cs, css[i]? = some cs → W.cells? base (a.add (i * sz)) sz = some cs ∧ DataW.trod enc P W base spare held n e cs = es[i]? := by
      refine ⟨(List.range len).attach.map fun ⟨i, hi⟩ => Classical.choose (hx i (by simpa using hi)), by simp, fun i cs hi => ?_⟩
      simp only [List.getElem?_map, Option.map_eq_some_iff] at hi
      obtain ⟨⟨j, hj⟩, h1, rfl⟩ := hi
      have hji : j = i := by
        have := congrArg (Option.map Subtype.val) h1
        simp only [← List.getElem?_map, List.attach_map_subtype_val, Option.map_some] at this
        have hr := (List.getElem?_eq_some_iff.1 this).2
        simpa using hr.symm
      subst hji
      exact Classical.choose_spec (hx j (by simpa using hj))
    refine ⟨a, len, cap, n, es, rs.map (·.1), css, hcs, hl, rfl, hle, hcl, fun i cs hi => ?_⟩
    obtain ⟨h1, h2⟩ := hcss i cs hi
    obtain ⟨g1, g2⟩ := cells_get h1
    refine ⟨g1, fun j u hu => ?_, h2⟩
    have := g2 j u hu
    rw [← this, add_add]
end
end Go.X
namespace Go.Proofs.YtidbcaimgahllaaGreat
open Go.Proofs.Tryz
open Go.X

theorem bulk_one {H : Type} (d : DataW H) : 1 ≤ Rows.uptoBulk d := by
  cases d with
  | lit l => cases l <;> simp [Rows.uptoBulk]
  | nil => simp [Rows.uptoBulk]
  | ptr d => simp [Rows.uptoBulk]
  | slice elems spare => simp [Rows.uptoBulk]
  | agg parts => simp [Rows.uptoBulk]
  | iface t d => simp [Rows.uptoBulk]
  | map entries => simp [Rows.uptoBulk]
  | held h => simp [Rows.uptoBulk]
theorem bulk_len {H : Type} (l : List (DataW H)) : l.length ≤ Rows.uptoBulkAll l := by
  induction l with
  | nil => simp [Rows.uptoBulkAll]
  | cons x r ih => have := bulk_one x; simp only [Rows.uptoBulkAll, List.length_cons]; omega

section
variable {H : Type} {enc : TypeId × Value → H} {W : World} {base : Nat} {spare : Nat → Bool} {held : Bool} {fuel : Nat} {v : Value} {x : DataW H × List MemPlace} {cs : List Value}

theorem cellsInt : Tryz.prog.cellsOf 3 = 1 := by kernel_rfl
theorem cellsU64 : Tryz.prog.cellsOf 40 = 1 := by kernel_rfl
theorem cellsU8 : Tryz.prog.cellsOf 5 = 1 := by kernel_rfl
theorem cellsStr : Tryz.prog.cellsOf 9 = 1 := by kernel_rfl
theorem cellsInts : Tryz.prog.cellsOf 50 = 1 := by kernel_rfl
theorem cellsBytes : Tryz.prog.cellsOf 42 = 1 := by kernel_rfl
theorem cellsOp : Tryz.prog.cellsOf 52 = 9 := by kernel_rfl

theorem nine {α : Type} {l : List α} (h : l.length = 9) : ∃ c0 c1 c2 c3 c4 c5 c6 c7 c8, l = [c0, c1, c2, c3, c4, c5, c6, c7, c8] := by
  match l with
  | [a, b, c, d, e, f, g, i, j] => exact ⟨a, b, c, d, e, f, g, i, j, rfl⟩

def OM.bulk (o : OM) : Nat := o.bucket.size + o.key.size + o.after.size + o.parts.length + o.data.length

theorem len_le {es rs : List (DataW H)} : es.length ≤ Rows.uptoBulk (.slice es rs) := by
  have := bulk_len es; simp only [Rows.uptoBulk]; omega

theorem slice_small {t e : TypeId} {p : Option Addr} {len cap : Nat} (ht : Tryz.prog.underlying t = some (.slice e)) (h : DataW.trod enc Tryz.prog W base spare held fuel t [.slice p len cap] = some x) : len ≤ 9223372036854775807 := by
  rcases DataW.trod_slice ht h with ⟨hcs, rfl⟩ | ⟨a, l, c, es, rs, n, rfl, hcs, rfl, hb, hl, hm, _⟩
  · simp at hcs; omega
  · simp at hcs
    have : maxLen = 9223372036854775807 := rfl
    omega

set_option maxRecDepth 100000 in
theorem op_in (h : DataW.trod enc Tryz.prog W base spare held fuel 52 cs = some x) : ∃ y : OW, cs = y.cells ∧ y.ok (old W) ∧ y.o.bulk ≤ Rows.uptoBulk x.1 ∧ (y.o.id ≤ 18446744073709551615 ∧ y.o.upload ≤ 18446744073709551615) := by
  obtain ⟨xs, m, rfl, rfl, hl, hxl, hf⟩ := DataW.trod_struct underlying52 h
  rw [cellsOp] at hl
  obtain ⟨c0, c1, c2, c3, c4, c5, c6, c7, c8, rfl⟩ : ∃ c0 c1 c2 c3 c4 c5 c6 c7 c8, cs = [c0, c1, c2, c3, c4, c5, c6, c7, c8] := nine hl
  obtain ⟨x0, x1, x2, x3, x4, x5, x6, x7, x8, rfl⟩ : ∃ x0 x1 x2 x3 x4 x5 x6 x7 x8, xs = [x0, x1, x2, x3, x4, x5, x6, x7, x8] := nine hxl
  have f0 : DataW.trod enc Tryz.prog W base spare held m 40 (([c0, c1, c2, c3, c4, c5, c6, c7, c8].drop 0).take (Tryz.prog.cellsOf 40)) = [x0, x1, x2, x3, x4, x5, x6, x7, x8][0]? := hf 0 _ rfl
  have f1 : DataW.trod enc Tryz.prog W base spare held m 3 (([c0, c1, c2, c3, c4, c5, c6, c7, c8].drop 1).take (Tryz.prog.cellsOf 3)) = [x0, x1, x2, x3, x4, x5, x6, x7, x8][1]? := hf 1 _ rfl
  have f2 : DataW.trod enc Tryz.prog W base spare held m 9 (([c0, c1, c2, c3, c4, c5, c6, c7, c8].drop 2).take (Tryz.prog.cellsOf 9)) = [x0, x1, x2, x3, x4, x5, x6, x7, x8][2]? := hf 2 _ rfl
  have f3 : DataW.trod enc Tryz.prog W base spare held m 9 (([c0, c1, c2, c3, c4, c5, c6, c7, c8].drop 3).take (Tryz.prog.cellsOf 9)) = [x0, x1, x2, x3, x4, x5, x6, x7, x8][3]? := hf 3 _ rfl
  have f4 : DataW.trod enc Tryz.prog W base spare held m 9 (([c0, c1, c2, c3, c4, c5, c6, c7, c8].drop 4).take (Tryz.prog.cellsOf 9)) = [x0, x1, x2, x3, x4, x5, x6, x7, x8][4]? := hf 4 _ rfl
  have f5 : DataW.trod enc Tryz.prog W base spare held m 3 (([c0, c1, c2, c3, c4, c5, c6, c7, c8].drop 5).take (Tryz.prog.cellsOf 3)) = [x0, x1, x2, x3, x4, x5, x6, x7, x8][5]? := hf 5 _ rfl
  have f6 : DataW.trod enc Tryz.prog W base spare held m 40 (([c0, c1, c2, c3, c4, c5, c6, c7, c8].drop 6).take (Tryz.prog.cellsOf 40)) = [x0, x1, x2, x3, x4, x5, x6, x7, x8][6]? := hf 6 _ rfl
  have f7 : DataW.trod enc Tryz.prog W base spare held m 50 (([c0, c1, c2, c3, c4, c5, c6, c7, c8].drop 7).take (Tryz.prog.cellsOf 50)) = [x0, x1, x2, x3, x4, x5, x6, x7, x8][7]? := hf 7 _ rfl
  have f8 : DataW.trod enc Tryz.prog W base spare held m 42 (([c0, c1, c2, c3, c4, c5, c6, c7, c8].drop 8).take (Tryz.prog.cellsOf 42)) = [x0, x1, x2, x3, x4, x5, x6, x7, x8][8]? := hf 8 _ rfl
  simp only [cellsInt, cellsStr, cellsU64, cellsInts, cellsBytes, List.drop_zero, List.drop_succ_cons, List.take_succ_cons, List.take_zero, List.getElem?_cons_zero, List.getElem?_cons_succ] at f0 f1 f2 f3 f4 f5 f6 f7 f8
  obtain ⟨n0, e0, rfl, w0⟩ := DataW.trod_int underlying40 f0
  obtain ⟨n1, e1, rfl, w1⟩ := DataW.trod_int underlying3 f1
  obtain ⟨s2, e2, rfl, z2⟩ := DataW.trod_string underlying9 f2
  obtain ⟨s3, e3, rfl, z3⟩ := DataW.trod_string underlying9 f3
  obtain ⟨s4, e4, rfl, z4⟩ := DataW.trod_string underlying9 f4
  obtain ⟨n5, e5, rfl, w5⟩ := DataW.trod_int underlying3 f5
  obtain ⟨n6, e6, rfl, w6⟩ := DataW.trod_int underlying40 f6
  simp at e0 e1 e2 e3 e4 e5 e6
  subst e0 e1 e2 e3 e4 e5 e6
  have u0 := (wf_has w0).1
  have u6 := (wf_has w6).1
  obtain ⟨m0, rfl⟩ : ∃ k : Nat, n0 = k := ⟨n0.toNat, by have : (0 : Int) ≤ n0 := u0; omega⟩
  obtain ⟨m6, rfl⟩ : ∃ k : Nat, n6 = k := ⟨n6.toNat, by have : (0 : Int) ≤ n6 := u6; omega⟩
  obtain ⟨p7, len7, cap7, zs7, rfl, hc7, hz7, hr7, hw7, hx7⟩ := ints_in underlying50 underlying3 cellsInt f7
  obtain ⟨p8, len8, cap8, zs8, rfl, hc8, hz8, hr8, hw8, hx8⟩ := ints_in underlying42 underlying5 cellsU8 f8
  obtain ⟨bs, hb1, hb2⟩ := ints_bytes zs8 hw8
  have l7 := slice_small underlying50 f7
  have l8 := slice_small underlying42 f8
  have h8 : len8 = bs.length := by omega
  subst h8
  have h7 : len7 = zs7.length := by omega
  subst h7
  refine ⟨⟨⟨m0, n1, s2, s3, s4, n5, m6, zs7, bs⟩, p7, cap7, p8, cap8⟩, rfl, ⟨hr7, by rw [← hb2]; exact hr8, ?_⟩, ?_, ⟨by have h : (m0 : Int) ≤ 18446744073709551615 := (wf_has w0).2; show m0 ≤ _; omega, by have h : (m6 : Int) ≤ 18446744073709551615 := (wf_has w6).2; show m6 ≤ _; omega⟩⟩
  · exact ⟨z2, z3, z4, l7, l8⟩
  · have hs2 : s2.data.toList.length = s2.size := by simp
    have hs3 : s3.data.toList.length = s3.size := by simp
    have hs4 : s4.data.toList.length = s4.size := by simp
    have b7 : zs7.length ≤ Rows.uptoBulk x7.1 := by
      rcases hx7 with ⟨_, h0⟩ | ⟨es, rs, hx, hl⟩
      · omega
      · rw [hx]; have := len_le (es := es) (rs := rs); omega
    have b8 : bs.length ≤ Rows.uptoBulk x8.1 := by
      rcases hx8 with ⟨_, h0⟩ | ⟨es, rs, hx, hl⟩
      · omega
      · rw [hx]; have := len_le (es := es) (rs := rs); omega
    simp only [Rows.uptoBulk, List.map_cons, List.map_nil, Rows.uptoBulkAll, OM.bulk]
    omega
end
end Go.Proofs.YtidbcaimgahllaaGreat
namespace Go.Proofs.YtidbcaimgahllaaGreat
open Go.Proofs.Tryz
open Go.X
open Go.X.G (Ord3 ord3_nat ord3_int ord3_str ltB sget sput sdel Srtd MapAt MapHole)

def bulks (l : List OW) : Nat := (l.map fun x => x.o.bulk).sum
theorem bulks_take {l : List OW} {i : Nat} {x : OW} (h : l[i]? = some x) : bulks (l.take (i + 1)) = bulks (l.take i) + x.o.bulk := by
  obtain ⟨h1, h2⟩ := List.getElem?_eq_some_iff.1 h
  unfold bulks
  rw [List.take_succ_eq_append_getElem h1, List.map_append, List.sum_append, h2]; simp
theorem bulks_le {l : List OW} (i : Nat) : bulks (l.take i) ≤ bulks l := by
  unfold bulks
  conv => rhs; rw [← List.take_append_drop i l, List.map_append, List.sum_append]
  omega

theorem few_spec (G : Assn) (lp : Option Addr) (ln lc : Nat) (l : List OW) (hl : Ops G lp ln lc l) (hb : bulks l ≤ 1048576) : FSpec Tryz.prog 10 [.slice lp ln lc] [G] (fun v B => ∃ b : Bool, (b = true → ln ≤ 400 ∧ bulks l ≤ 131072) ∧ v = .bool b ∧ B = [G]) := by
  have hlen := hl.len
  have hsml := hl.small
  refine FSpec.of func10 rfl ntmps10 rfl fun W0 F => ?_
  refine J.seq <| J.region <| J.p rfl (Q.asg rfl) <| J.nil <| J.then_n <| J.seq <| J.region <| J.p rfl (Q.asg rfl) <| J.nil <| J.then_n <| J.seq <| J.seq <| J.region <| J.p rfl (Q.asg rfl) <| J.nil <| J.then_n <| J.block ?_
  refine J.loop (fun z : Nat × Int => z.1 ≤ ln ∧ 0 ≤ z.2 ∧ z.2 = bulks (l.take z.1)) (fun z => ln - z.1) (fun z => [(0, .slice lp ln lc), (3, .int .i64 z.2), (4, .int .i64 z.1)]) (fun _ => [G, F]) (0, 0) ⟨Nat.zero_le _, Int.le_refl _, by show (0 : Int) = ((bulks (l.take 0) : Nat) : Int); simp [bulks]⟩ ⟨rfl, rfl, rfl, trivial⟩ rfl fun z hz => ?_
  obtain ⟨i, n⟩ := z
  obtain ⟨hi, hn0, hn1⟩ := hz
  dsimp only at hi hn0 hn1
  refine J.seq <| J.seq <| J.region <| J.m rfl <| J.m rfl <| J.p rfl (Q.lenSl runUnderlying39 rfl) <| J.p rfl (Q.lss rfl rfl) <| J.nil <| J.then_n ?_
  refine J.kases 8 rfl (fun hc8 => ?_) (fun hc8 => ?_)
  ·
   refine J.cond_t rfl <| J.cskip <| J.then_n <| J.seq <| J.block ?_
   obtain ⟨b, off, hlp, hrd⟩ := hl.rd.some_ (by omega)
   obtain ⟨x, hx⟩ : ∃ x, l[i]? = some x := ⟨_, List.getElem?_eq_getElem (by omega)⟩
   have hbt := bulks_take hx
   have hbl := bulks_le (l := l) (i + 1)
   have hbk : x.o.bulk = x.o.bucket.size + x.o.key.size + x.o.after.size + x.o.parts.length + x.o.data.length := rfl
   refine J.slot 0 (.slice (some ⟨b, off, none⟩) ln lc) rfl (by rw [hlp]) ?_
   refine J.draw [36] Tryz.mixed (by kernel_rfl) fun hR => ?_
   refine RG.p 0 hR rfl (Q.mv rfl) <| RG.p 1 hR rfl (Q.mv rfl) <| RG.p 2 hR rfl (Q.mv rfl) <| RG.p 3 hR rfl (Q.ia runUnderlying39 sizeOf52 rfl rfl (by omega) (by omega)) <| RG.p 4 hR rfl (Q.fa (n := 2) runUnderlying52 rfl rfl sizeOf9 rfl) ?_
   refine RG.p 5 hR rfl (Q.ld isAgg9 rfl (((rd_field OW.cells_length hrd hx (k := 2) (u := .string x.o.bucket) rfl rfl).within (i := 0) rfl).cast (by first | (simp; done) | (simp; omega)))) ?_
   refine RG.p 6 hR rfl (Q.lenS runUnderlying9 rfl) <| RG.p 7 hR rfl (Q.add64 rfl rfl (by omega)) <| RG.p 8 hR rfl (Q.mv rfl) <| RG.p 9 hR rfl (Q.mv rfl) <| RG.p 10 hR rfl (Q.ia runUnderlying39 sizeOf52 rfl rfl (by omega) (by omega)) <| RG.p 11 hR rfl (Q.fa (n := 3) runUnderlying52 rfl rfl sizeOf9 rfl) ?_
   refine RG.p 12 hR rfl (Q.ld isAgg9 rfl (((rd_field OW.cells_length hrd hx (k := 3) (u := .string x.o.key) rfl rfl).within (i := 0) rfl).cast (by first | (simp; done) | (simp; omega)))) ?_
   refine RG.p 13 hR rfl (Q.lenS runUnderlying9 rfl) <| RG.p 14 hR rfl (Q.add64 rfl rfl (by omega)) <| RG.p 15 hR rfl (Q.mv rfl) <| RG.p 16 hR rfl (Q.mv rfl) <| RG.p 17 hR rfl (Q.ia runUnderlying39 sizeOf52 rfl rfl (by omega) (by omega)) <| RG.p 18 hR rfl (Q.fa (n := 4) runUnderlying52 rfl rfl sizeOf9 rfl) ?_
   refine RG.p 19 hR rfl (Q.ld isAgg9 rfl (((rd_field OW.cells_length hrd hx (k := 4) (u := .string x.o.after) rfl rfl).within (i := 0) rfl).cast (by first | (simp; done) | (simp; omega)))) ?_
   refine RG.p 20 hR rfl (Q.lenS runUnderlying9 rfl) <| RG.p 21 hR rfl (Q.add64 rfl rfl (by omega)) <| RG.p 22 hR rfl (Q.mv rfl) <| RG.p 23 hR rfl (Q.mv rfl) <| RG.p 24 hR rfl (Q.ia runUnderlying39 sizeOf52 rfl rfl (by omega) (by omega)) <| RG.p 25 hR rfl (Q.fa (n := 7) runUnderlying52 rfl rfl sizeOf50 rfl) ?_
   refine RG.p 26 hR rfl (Q.ld isAgg50 rfl (((rd_field OW.cells_length hrd hx (k := 7) (u := .slice x.pp x.o.parts.length x.pc) rfl rfl).within (i := 0) rfl).cast (by first | (simp; done) | (simp; omega)))) ?_
   refine RG.p 27 hR rfl (Q.lenSl runUnderlying50 rfl) <| RG.p 28 hR rfl (Q.add64 rfl rfl (by omega)) <| RG.p 29 hR rfl (Q.mv rfl) <| RG.p 30 hR rfl (Q.mv rfl) <| RG.p 31 hR rfl (Q.ia runUnderlying39 sizeOf52 rfl rfl (by omega) (by omega)) <| RG.p 32 hR rfl (Q.fa (n := 8) runUnderlying52 rfl rfl sizeOf42 rfl) ?_
   refine RG.p 33 hR rfl (Q.ld isAgg42 rfl (((rd_field OW.cells_length hrd hx (k := 8) (u := .slice x.dp x.o.data.length x.dc) rfl rfl).within (i := 0) rfl).cast (by first | (simp; done) | (simp; omega)))) ?_
   refine RG.p 34 hR rfl (Q.lenSl runUnderlying42 rfl) <| RG.p 35 hR rfl (Q.add64 rfl rfl (by omega)) ?_
   refine RG.bar 36 hR rfl rfl rfl rfl rfl rfl (Q.asg rfl).toC ?_
   rintro _ _ ⟨rfl, rfl⟩
   refine RG.norm rfl ?_
   refine RG.fin hR rfl ?_
   refine J.norm rfl <| J.blk_n <| J.then_n <| J.region <| J.m rfl <| J.p rfl (Q.add64 rfl rfl (by omega)) <| J.p rfl (Q.asg rfl) <| J.nil ?_
   refine J.again (i + 1, n + x.o.bucket.size + x.o.key.size + x.o.after.size + x.o.parts.length + x.o.data.length) ⟨by show i + 1 ≤ ln; omega, by show 0 ≤ n + x.o.bucket.size + x.o.key.size + x.o.after.size + x.o.parts.length + x.o.data.length; omega, by show n + x.o.bucket.size + x.o.key.size + x.o.after.size + x.o.parts.length + x.o.data.length = ((bulks (l.take (i + 1)) : Nat) : Int); omega⟩ (by show ln - (i + 1) < ln - i; omega) ⟨(by show _ = some (Value.slice lp ln lc); rw [hlp]; rfl), rfl, rfl, trivial⟩ rfl
  refine J.cond_f rfl <| J.exit <| J.then_x <| J.lp_x <| J.blk_x <| J.then_n <| J.seq <| J.region <| J.m rfl <| J.p rfl (Q.lenSl runUnderlying39 rfl) <| J.p rfl (Q.leq rfl rfl) <| J.m rfl ?_
  refine J.kases 50 rfl (fun hb50 => ?_) (fun hb50 => ?_)
  ·
   refine J.m rfl <| J.p rfl (Q.leq rfl rfl) <| J.p rfl (Q.pick_t rfl rfl) <| J.p rfl (Q.asg rfl) <| J.nil <| J.then_n <| J.cret ?_
   have hil : i = ln := by omega
   have htk : l.take i = l := List.take_of_length_le (by omega)
   rw [htk] at hn1
   refine J.ret1 (B := [G]) rfl rfl ⟨_, ?_, rfl, rfl⟩ rfl
   intro hbt
   first
     | (simp at hbt; exact ⟨by omega, by omega⟩)
     | (simp at hbt; done)
  refine J.k rfl <| J.k rfl <| J.p rfl (Q.pick_f rfl rfl) <| J.p rfl (Q.asg rfl) <| J.nil <| J.then_n <| J.cret ?_
  have hil : i = ln := by omega
  have htk : l.take i = l := List.take_of_length_le (by omega)
  rw [htk] at hn1
  refine J.ret1 (B := [G]) rfl rfl ⟨_, ?_, rfl, rfl⟩ rfl
  intro hbt
  first
    | (simp at hbt; exact ⟨by omega, by omega⟩)
    | (simp at hbt; done)
end Go.Proofs.YtidbcaimgahllaaGreat
namespace Go.Proofs.YtidbcaimgahllaaGreat
open Go.Proofs.Tryz
open Go.X
open Go.X.G (Ord3 ord3_nat ord3_int ord3_str ltB sget sput sdel Srtd MapAt MapHole valRep)

abbrev CW.asn (x : CW) : Assn := wrO x.p x.c x.bs
abbrev comA (p : Option Addr) (c : Nat) (l : List CW) : Assn := star [own 56 2 (.slice p l.length c) (l.flatMap CW.cells), star (l.map CW.asn)]
theorem CW.one (x : CW) : ∀ v, v ∈ x.cells → oneC v = true := by
  intro v hv
  simp only [CW.cells, List.mem_cons, List.not_mem_nil, or_false] at hv
  rcases hv with rfl | rfl <;> rfl
theorem coms_tells {p : Option Addr} {c : Nat} {l : List CW} {ds : List DM} (hs : l.length ≤ 32768) (hd : ∀ (i : Nat) (x : CW), l[i]? = some x → ∃ d, ds[i]? = some d ∧ DecIs x.bs d) (hdl : ds.length = l.length) (hb : ∀ x, x ∈ l → x.bs.length ≤ 1099511627776) : ∀ h, comA p c l h → Coms (comA p c l) p c l ds := by
  intro h hh
  have hh' : HSat h [own 56 2 (.slice p l.length c) (l.flatMap CW.cells), star (l.map CW.asn)] := hh
  obtain ⟨h1, h2, a, ⟨k1, k2, b, _, _, _, _⟩, _, _, _⟩ := hh'
  refine ⟨(own.slr (i := 0) rfl ⟨h1, X.G.HSat.one a⟩ : SlR [own 56 2 _ _] 2 _ _).into 0 rfl, fun x hx => ?_, hs, hd, hdl⟩
  obtain ⟨i, hi⟩ := List.getElem?_of_mem hx
  have s1 : HSat k1 (x.asn :: (l.eraseIdx i).map CW.asn) := HSat.perm (perm_focus CW.asn hi) b
  obtain ⟨j1, j2, q, _⟩ := s1
  have hsl : SlR [x.asn] 1 (.slice x.p x.bs.length x.c) (bytesV x.bs) := own.slr (i := 0) rfl ⟨j1, X.G.HSat.one q⟩
  exact ⟨(hsl.into i (by rw [List.getElem?_map, hi]; rfl)).into 1 rfl, hb x hx, (own.len _ q).2⟩

theorem opB_len {o : OM} (h : o.fine) : (opB o).length ≤ 17000000 := by
  have h1 := h.kind
  have h2 := h.n
  have h3 := h.parts
  have h4 := h.texts
  have h5 := h.data
  have h6 := h.id
  have h7 := h.up
  have a1 := flat_numB [1, o.id, o.kind.toNat] (by intro v hv; simp only [List.mem_cons, List.not_mem_nil, or_false] at hv; omega)
  have a2 := flat_encB [o.bucket, o.key, o.after] (by intro v hv; simp only [List.mem_cons, List.not_mem_nil, or_false] at hv; rcases hv with rfl | rfl | rfl <;> omega)
  have a3 := flat_numB [o.n.toNat, o.upload, o.parts.length] (by intro v hv; simp only [List.mem_cons, List.not_mem_nil, or_false] at hv; omega)
  have a4 := flat_numB (o.parts.map Int.toNat) (by
    intro v hv
    obtain ⟨u, hu, rfl⟩ := List.mem_map.1 hv
    have := h3.2 u hu; omega)
  have a5 := numB_len o.data.length (by omega)
  rw [List.length_map] at a4
  simp only [List.length_cons, List.length_nil] at a1 a2 a3
  unfold opB
  simp only [List.length_append, encB] at a2 ⊢
  omega

def stW (n : Int) : RW := ⟨st n, none, 0, none, 0⟩
theorem stW_ok (G : Assn) (n : Int) : (stW n).ok G := ⟨.inl ⟨none, 0, rfl, rfl⟩, .inl ⟨none, 0, rfl, rfl⟩, by show 0 ≤ _ ∧ 0 ≤ _; omega⟩
theorem evs2_ok (G : Assn) (e f : EW) (h1 : e.w.ok G) (h2 : e.index ≤ 18446744073709551615) (h3 : f.w.ok G) (h4 : f.index ≤ 18446744073709551615) : ∀ x, x ∈ [e, f] → x.ok G := by
  intro x hx
  simp only [List.mem_cons, List.not_mem_nil, or_false] at hx
  rcases hx with rfl | rfl
  · exact ⟨h1, h2⟩
  · exact ⟨h3, h4⟩
def bareW (o : OM) : OW := ⟨o, none, 0, none, 0⟩
theorem bareW_ok (G : Assn) {o : OM} (h : o.fine) (hp : o.parts = []) (hd : o.data = []) : (bareW o).ok G := by
  refine ⟨?_, ?_, h.small⟩
  · refine .inl ⟨none, 0, ?_, ?_⟩ <;> simp [bareW, hp]
  · refine .inl ⟨none, 0, ?_, ?_⟩ <;> simp [bareW, hd, bytesV]
def oA : OM := ⟨1, 1, bt [98], bt [], bt [], 0, 0, [], []⟩
theorem oA_chk : oA.chkB = true := by kernel_rfl
theorem oA_fine : oA.fine := chk_fine oA_chk (by decide) (by decide)
def dA : DM := ⟨oA, false, false⟩
def evA : EW := ⟨false, 1, bareW oA, 0, stW 0⟩
def evB : EW := ⟨true, 1, bareW O0, 1, stW 200⟩
def evX : EW := ⟨true, 1, bareW O0, 1, stW 409⟩
theorem fk1 : faults (begM ([dA].map DM.m)) ([evA, evX].map EW.m) = [⟨6, 1⟩] := by kernel_rfl
theorem fk2 : faults (begM ([dA].map DM.m)) ([evA, evB].map EW.m) = [] := by kernel_rfl

theorem known_spec : FSpec Tryz.prog 6 [] [] (fun v B => v = .bool true ∧ B = []) := by
  refine FSpec.of func6 rfl ntmps6 rfl fun W1 F => ?_
  refine J.give (X := star ([] : List Assn)) trivial ?_
  refine J.seq <| J.region <| J.p rfl (Q.asg rfl) <| J.nil <| J.then_n <| J.seq <| J.region <| J.p rfl (Q.bld (l := OW.cells (bareW oA)) runUnderlying52 zeroValue52 places52 rfl (by kernel_rfl)) ?_
  refine J.c rfl rfl (C.alloc (l := [_, _, _, _, _, _, _, _, _]) zeroValue52 rfl) ?_
  rintro _ _ ⟨b1, rfl, rfl⟩
  refine J.norm rfl ?_
  refine J.stAJ (vs := [_, _, _, _, _, _, _, _, _]) rfl sizeOf52 rfl rfl ?_
  refine J.nil <| J.then_n <| J.seq <| J.region ?_
  refine J.p rfl (Q.ldN (vs := [_, _, _, _, _, _, _, _, _]) isAgg52 sizeOf52 rfl rnI) ?_
  refine J.callI call14 (opCommand_spec (star []) (bareW oA) (bareW_ok _ oA_fine rfl rfl) oA_fine) rfl rfl rfl ?_
  rintro _ _ ⟨q9, d9, rfl, rfl⟩
  refine J.norm rfl ?_
  rw [show (bareW oA).o = oA from rfl]
  refine J.p rfl (Q.bld (l := CW.cells ⟨1, opB oA, q9, d9⟩) runUnderlying56 zeroValue56 places56 rfl (by kernel_rfl)) ?_
  refine J.c rfl rfl (C.bslG (l := [_, _]) runUnderlying25 sizeOf56 zeroValue56 (by decide) rfl rfl rfl rfl rfl) ?_
  rintro _ _ ⟨b11, rfl, rfl⟩
  refine J.norm rfl ?_
  obtain ⟨x, hx⟩ : ∃ x : CW, x = ⟨1, opB oA, q9, d9⟩ := ⟨_, rfl⟩
  refine J.convI (pt b11 (.cells (CW.cells ⟨1, opB oA, q9, d9⟩).toArray 56 (0, 0))) (own 56 2 (.slice (some ⟨b11, 0, none⟩) [x].length 1) ([x].flatMap CW.cells)) (fun h hh => by rw [hx]; exact own_of_block (l := [CW.mk 1 (opB oA) q9 d9].flatMap CW.cells) rfl h hh) ?_
  refine J.shutI [wrO q9 d9 (opB oA)] (star ([x].map CW.asn)) (fun _ s => by rw [hx]; exact s) ?_
  refine J.shutI [own 56 2 (.slice (some ⟨b11, 0, none⟩) [x].length 1) ([x].flatMap CW.cells), star ([x].map CW.asn)] (comA (some ⟨b11, 0, none⟩) 1 [x]) (fun _ s => s) ?_
  refine J.tellsI (comA (some ⟨b11, 0, none⟩) 1 [x]) (coms_tells (ds := [dA]) (by show 1 ≤ 32768; omega) (by
    intro i y hy
    cases i with
    | zero =>
     cases hy
     exact ⟨dA, rfl, by rw [hx]; exact decode_op oA_fine oA_chk⟩
    | succ i => cases hy) rfl (by
    intro y hy
    rw [List.mem_singleton.1 hy, hx]
    have := opB_len oA_fine
    show (opB oA).length ≤ _
    omega)) fun hcs => ?_
  have hix : ∀ (i : Nat) (y : CW), [x][i]? = some y → y.index = i + 1 := by
   intro i y hy
   cases i with
   | zero => cases hy; rw [hx]
   | succ i => cases hy
  have hbd : ∀ d, d ∈ [dA] → d.bad = false := by intro d hd; rw [List.mem_singleton.1 hd]; rfl
  refine J.p rfl (Q.asg rfl) <| J.nil <| J.then_n <| J.seq <| J.region ?_
  refine J.p rfl (Q.ldN (vs := [_, _, _, _, _, _, _, _, _]) isAgg52 sizeOf52 rfl rnI) ?_
  refine J.p rfl (Q.bld (l := EW.cells evA) runUnderlying58 zeroValue58 places58 rfl (by kernel_rfl)) ?_
  refine J.c rfl rfl (C.alloc (l := [_, _, _, _, _, _, _, _, _, _, _, _, _, _, _, _, _]) zeroValue58 rfl) ?_
  rintro _ _ ⟨b3, rfl, rfl⟩
  refine J.norm rfl ?_
  refine J.stAJ (vs := [_, _, _, _, _, _, _, _, _, _, _, _, _, _, _, _, _]) rfl sizeOf58 rfl rfl ?_
  refine J.nil <| J.then_n <| J.seq <| J.region <| J.p rfl (Q.bld (l := RW.cells (stW 200)) runUnderlying44 zeroValue44 places44 rfl (by kernel_rfl)) <| J.p rfl (Q.bld (l := EW.cells evB) runUnderlying58 zeroValue58 places58 rfl (by kernel_rfl)) ?_
  refine J.c rfl rfl (C.alloc (l := [_, _, _, _, _, _, _, _, _, _, _, _, _, _, _, _, _]) zeroValue58 rfl) ?_
  rintro _ _ ⟨b4, rfl, rfl⟩
  refine J.norm rfl ?_
  refine J.stAJ (vs := [_, _, _, _, _, _, _, _, _, _, _, _, _, _, _, _, _]) rfl sizeOf58 rfl rfl ?_
  refine J.nil <| J.then_n <| J.seq <| J.region <| J.p rfl (Q.bld (l := RW.cells (stW 409)) runUnderlying44 zeroValue44 places44 rfl (by kernel_rfl)) <| J.p rfl (Q.bld (l := EW.cells evX) runUnderlying58 zeroValue58 places58 rfl (by kernel_rfl)) ?_
  refine J.c rfl rfl (C.alloc (l := [_, _, _, _, _, _, _, _, _, _, _, _, _, _, _, _, _]) zeroValue58 rfl) ?_
  rintro _ _ ⟨b5, rfl, rfl⟩
  refine J.norm rfl ?_
  refine J.stAJ (vs := [_, _, _, _, _, _, _, _, _, _, _, _, _, _, _, _, _]) rfl sizeOf58 rfl rfl ?_
  refine J.nil <| J.then_n <| J.seq <| J.region <| J.m rfl ?_
  refine J.p rfl (Q.ldN (vs := [_, _, _, _, _, _, _, _, _, _, _, _, _, _, _, _, _]) isAgg58 sizeOf58 rfl rnI) ?_
  refine J.p rfl (Q.ldN (vs := [_, _, _, _, _, _, _, _, _, _, _, _, _, _, _, _, _]) isAgg58 sizeOf58 rfl rnI) ?_
  refine J.c rfl rfl (C.bslG (sz := 17) (len := 2) (l := [evA, evX].flatMap EW.cells) runUnderlying23 sizeOf58 zeroValue58 (by decide) rfl rfl rfl (by kernel_rfl) (by kernel_rfl)) ?_
  rintro _ _ ⟨b21, rfl, rfl⟩
  refine J.norm rfl ?_
  refine J.convI (pt b21 (.cells ([evA, evX].flatMap EW.cells).toArray 58 (0, 0))) (own 58 17 (.slice (some ⟨b21, 0, none⟩) [evA, evX].length 2) ([evA, evX].flatMap EW.cells)) (own_of_block rfl) ?_
  refine J.slrI (E0 := 58) (sz := 17) (p := some ⟨b21, 0, none⟩) (n := [evA, evX].length) (c := 2) (xs := [evA, evX].flatMap EW.cells) fun hs21 => ?_
  refine J.callI call8 (check_ok (comA (some ⟨b11, 0, none⟩) 1 [x]) (own 58 17 (.slice (some ⟨b21, 0, none⟩) [evA, evX].length 2) ([evA, evX].flatMap EW.cells)) (some ⟨b11, 0, none⟩) 1 [x] [dA] hcs hix hbd (some ⟨b21, 0, none⟩) 2 [evA, evX] ⟨hs21, evs2_ok _ _ _ (stW_ok _ _) (by decide) (stW_ok _ _) (by decide), by decide⟩) rfl rfl rfl ?_
  rintro _ _ ⟨p22, c22, rfl, rfl⟩
  refine J.norm rfl ?_
  rw [fk1]
  refine J.slrI (E0 := 35) (sz := 2) (p := p22) (n := [FM.mk 6 1].length) (c := c22) (xs := [FM.mk 6 1].flatMap FM.cells) fun hs22 => ?_
  obtain ⟨b22, o22, rfl, hr22⟩ := hs22.some_ (by decide)
  refine J.p rfl (Q.asg rfl) <| J.nil <| J.then_n <| J.seq <| J.region <| J.m rfl ?_
  refine J.p rfl (Q.ldN (vs := [_, _, _, _, _, _, _, _, _, _, _, _, _, _, _, _, _]) isAgg58 sizeOf58 rfl rnI) ?_
  refine J.p rfl (Q.ldN (vs := [_, _, _, _, _, _, _, _, _, _, _, _, _, _, _, _, _]) isAgg58 sizeOf58 rfl rnI) ?_
  refine J.c rfl rfl (C.bslG (sz := 17) (len := 2) (l := [evA, evB].flatMap EW.cells) runUnderlying23 sizeOf58 zeroValue58 (by decide) rfl rfl rfl (by kernel_rfl) (by kernel_rfl)) ?_
  rintro _ _ ⟨b26, rfl, rfl⟩
  refine J.norm rfl ?_
  refine J.convI (pt b26 (.cells ([evA, evB].flatMap EW.cells).toArray 58 (0, 0))) (own 58 17 (.slice (some ⟨b26, 0, none⟩) [evA, evB].length 2) ([evA, evB].flatMap EW.cells)) (own_of_block rfl) ?_
  refine J.slrI (E0 := 58) (sz := 17) (p := some ⟨b26, 0, none⟩) (n := [evA, evB].length) (c := 2) (xs := [evA, evB].flatMap EW.cells) fun hs26 => ?_
  refine J.callI call8 (check_ok (comA (some ⟨b11, 0, none⟩) 1 [x]) (own 58 17 (.slice (some ⟨b26, 0, none⟩) [evA, evB].length 2) ([evA, evB].flatMap EW.cells)) (some ⟨b11, 0, none⟩) 1 [x] [dA] hcs hix hbd (some ⟨b26, 0, none⟩) 2 [evA, evB] ⟨hs26, evs2_ok _ _ _ (stW_ok _ _) (by decide) (stW_ok _ _) (by decide), by decide⟩) rfl rfl rfl ?_
  rintro _ _ ⟨p27, c27, rfl, rfl⟩
  refine J.norm rfl ?_
  rw [fk2]
  refine J.p rfl (Q.lenSl runUnderlying29 rfl) <| J.p rfl (Q.eql rfl rfl) <| J.m rfl ?_
  refine J.kases 30 rfl (fun hb30 => ?_) (fun hb30 => ?_)
  ·
   refine J.m rfl <| J.p rfl (Q.lenSl runUnderlying29 rfl) <| J.p rfl (Q.eql rfl rfl) <| J.p rfl (Q.pick_t rfl rfl) <| J.m rfl ?_
   refine J.kases 35 rfl (fun hb35 => ?_) (fun hb35 => ?_)
   ·
    refine J.m rfl <| J.p rfl (Q.ia runUnderlying29 sizeOf35 rfl rfl (by omega) (by omega)) ?_
    refine J.p rfl (Q.ldN (vs := [_, _]) isAgg35 sizeOf35 rfl ((rd_elem FM.len hr22 (i := 0) (x := FM.mk 6 1) rfl (by simp)).inI)) ?_
    refine J.p rfl (Q.bld (l := [.int .i64 6, .int .i64 1]) runUnderlying35 zeroValue35 places35 rfl (by kernel_rfl)) <| J.p rfl (Q.eql2 underlying35 Tryz.stoodInHeld35 Tryz.eqGuardType35 underlying33 underlying3 isAgg33 isAgg3 (by decide) (by decide) rfl rfl rfl rfl) <| J.p rfl (Q.pick_t rfl rfl) <| J.m rfl ?_
    refine J.kases 42 rfl (fun hb42 => ?_) (fun hb42 => ?_)
    ·
     refine J.callI call17 (definite_spec 404) rfl rfl rfl ?_
     rintro _ _ ⟨rfl, rfl⟩
     refine J.norm rfl <| J.p rfl (Q.pick_t rfl rfl) <| J.m rfl ?_
     refine J.kases 45 rfl (fun hb45 => ?_) (fun hb45 => ?_)
     ·
      refine J.callI call17 (definite_spec 503) rfl rfl rfl ?_
      rintro _ _ ⟨rfl, rfl⟩
      refine J.norm rfl <| J.p rfl (Q.not rfl) <| J.p rfl (Q.pick_t rfl rfl) <| J.p rfl (Q.asg rfl) <| J.nil <| J.then_n <| J.cret ?_
      refine J.ret1I [] rfl rfl ⟨rfl, rfl⟩
     cases hb45
    cases hb42
   simp at hb35
  simp at hb30
end Go.Proofs.YtidbcaimgahllaaGreat
namespace Go.Proofs.YtidbcaimgahllaaGreat
open Go.Proofs.Tryz
open Go.X
open Go.X.G (Ord3 ord3_nat ord3_int ord3_str ltB sget sput sdel Srtd sget_put sget_del)

theorem run_idle {M : BM} {o : OM} (h : readsK o.kind = true ∨ o.chkB = false) : (M.run o).2 = M := by
  unfold BM.run
  split
  · rename_i hc
    rcases h with h | h
    · rw [if_pos h]
      unfold BM.act
      have hk : o.kind = 4 ∨ o.kind = 6 := by simpa [readsK] using h
      rcases hk with e | e
      · rw [if_neg (by omega), if_neg (by omega), if_neg (by omega), if_pos e]
        unfold BM.get; repeat' split
        all_goals rfl
      · rw [if_neg (by omega), if_neg (by omega), if_neg (by omega), if_neg (by omega), if_neg (by omega), if_pos e]
        unfold BM.list; split <;> rfl
    · rw [h] at hc; cases hc
  · rfl
theorem act_ups {M : BM} {o : OM} {n : Nat} {u : UM} (h : sget n (M.act o).2.uploads = some u) : n = o.id ∨ (sget n M.uploads).isSome = true := by
  have put : ∀ {a : Nat} {v : UM}, sget n (sput ltN a v M.uploads) = some u → (a = o.id ∨ (sget a M.uploads).isSome = true) → n = o.id ∨ (sget n M.uploads).isSome = true := by
    intro a v h1 h2
    rw [sget_put ord3_nat] at h1
    split at h1
    · rename_i e; rw [e]; exact h2
    · exact .inr (by rw [h1]; rfl)
  have del : ∀ {a : Nat}, sget n (sdel a M.uploads) = some u → n = o.id ∨ (sget n M.uploads).isSome = true := by
    intro a h1
    rw [sget_del] at h1
    split at h1
    · cases h1
    · exact .inr (by rw [h1]; rfl)
  have same : sget n M.uploads = some u → n = o.id ∨ (sget n M.uploads).isSome = true := fun h1 => .inr (by rw [h1]; rfl)
  unfold BM.act at h
  split at h
  · unfold BM.make at h; split at h <;> exact same h
  split at h
  · unfold BM.unmake at h
    split at h
    · exact same h
    · split at h <;> exact same h
  split at h
  · unfold BM.put at h; split at h <;> exact same h
  split at h
  · unfold BM.get at h
    split at h
    · exact same h
    · split at h <;> exact same h
  split at h
  · unfold BM.delete at h
    split at h
    · exact same h
    · split at h <;> exact same h
  split at h
  · unfold BM.list at h; split at h <;> exact same h
  split at h
  · unfold BM.begin at h
    split at h
    · exact same h
    · exact put h (.inl rfl)
  split at h
  · unfold BM.part at h
    split at h
    · exact same h
    · rename_i hu; exact put h (.inr (by rw [hu]; rfl))
  split at h
  · unfold BM.complete at h
    split at h
    · exact same h
    · split at h
      · exact same h
      · exact del h
  · unfold BM.abort at h
    split at h
    · exact same h
    · exact del h

theorem run_kin {M : BM} (h : M.kin) (o : OM) : (M.run o).2.kin := by
  by_cases hi : readsK o.kind = true ∨ o.chkB = false
  · rw [run_idle hi]; exact h
  · have hc : o.chkB = true := by
      cases e : o.chkB with
      | true => rfl
      | false => exact absurd (.inr e) hi
    unfold BM.run
    rw [if_pos hc, if_neg (fun e => hi (.inl e))]
    split
    · exact h
    · intro n u hu
      show (sget n (sput ltN o.id (M.act o).1 M.done)).isSome = true
      rw [sget_put ord3_nat]
      split
      · rfl
      · rename_i hne
        rcases act_ups hu with e | e
        · exact absurd e hne
        · obtain ⟨v, hv⟩ := Option.isSome_iff_exists.1 e
          exact h n v hv

theorem rsame_spec (G : Assn) (x y : RW) (hx : x.ok G) (hy : y.ok G) : FSpec Tryz.prog 16 [.agg x.cells.toArray, .agg y.cells.toArray] [G] (fun v B => v = .bool (sameM x.r y.r) ∧ B = [G]) := by
  refine FSpec.of func16 rfl ntmps16 rfl fun W0 F => ?_
  refine J.seq <| J.region ?_
  refine J.c rfl rfl (C.box (l := [_, _, _, _, _]) rfl rfl) ?_
  rintro _ _ ⟨b2, rfl, rfl⟩
  refine J.norm rfl ?_
  refine J.c rfl rfl (C.box (l := [_, _, _, _, _]) rfl rfl) ?_
  rintro _ _ ⟨b3, rfl, rfl⟩
  refine J.norm rfl <| J.p rfl (Q.asg rfl) <| J.nil <| J.then_n <| J.seq <| J.seq <| J.region <| J.p rfl (Q.fa (n := 0) runUnderlying44 rfl rfl sizeOf3 rfl) ?_
  refine J.p rfl (Q.ldI isAgg3 rfl) ?_
  refine J.p rfl (Q.fa (n := 0) runUnderlying44 rfl rfl sizeOf3 rfl) ?_
  refine J.p rfl (Q.ldI isAgg3 rfl) ?_
  refine J.p rfl (Q.neq rfl rfl) <| J.m rfl ?_
  refine J.kases 11 rfl (fun hb11 => ?_) (fun hb11 => ?_)
  ·
   refine J.k rfl <| J.k rfl <| J.k rfl <| J.k rfl <| J.k rfl <| J.p rfl (Q.pick_t rfl rfl) <| J.m rfl <| J.k rfl <| J.k rfl <| J.k rfl <| J.k rfl <| J.k rfl <| J.p rfl (Q.pick_t rfl rfl) <| J.m rfl <| J.k rfl <| J.k rfl <| J.k rfl <| J.k rfl <| J.k rfl <| J.k rfl ?_
   refine J.k rfl <| J.p rfl (Q.pick_t rfl rfl) <| J.m rfl <| J.k rfl <| J.k rfl <| J.k rfl <| J.k rfl <| J.k rfl <| J.k rfl <| J.k rfl <| J.p rfl (Q.pick_t rfl rfl) <| J.nil <| J.then_n <| J.cond_t rfl <| J.seq <| J.region <| J.p rfl (Q.asg rfl) <| J.nil <| J.then_n <| J.cret <| J.then_r ?_
   first
    | (have hf : sameM x.r y.r = false := by
        cases h : sameM x.r y.r with
        | false => rfl
        | true =>
         exfalso
         have e := (sameM_iff _ _).1 h
         have e1 := congrArg RM.status e
         have e2 := congrArg RM.upload e
         have e3 := congrArg RM.more e
         have e4 := congrArg RM.keys e
         have e5 := congrArg RM.data e
         first
          | exact hc60 (by have : some kx = some ky := by rw [← hkx, ← hky, e4]
                           cases this; rfl)
          | exact hb11 e1
          | exact hb18 (by rw [e2])
          | (rw [e3] at hb25; simp at hb25; done)
          | exact hb34 (by rw [e4])
          | exact hc42 (by rw [e5])
       refine J.ret1I [G] rfl rfl ⟨by rw [hf], rfl⟩)
    | (have ht : sameM x.r y.r = true := by
        have ek : x.r.keys = y.r.keys := by
         rw [← List.take_of_length_le (l := x.r.keys) (i := i) (by omega), ← List.take_of_length_le (l := y.r.keys) (i := i) (by omega)]; exact htk
        have ed : x.r.data = y.r.data := by simpa using hc42
        have em : x.r.more = y.r.more := by simpa using hb25
        simp only [sameM, Bool.and_eq_true, decide_eq_true_eq, beq_iff_eq]
        exact ⟨⟨⟨⟨by omega, by omega⟩, em⟩, ek⟩, ed⟩
       refine J.ret1I [G] rfl rfl ⟨by rw [ht], rfl⟩)
  refine J.p rfl (Q.fa (n := 1) runUnderlying44 rfl rfl sizeOf40 rfl) ?_
  refine J.p rfl (Q.ldI isAgg40 rfl) ?_
  refine J.p rfl (Q.fa (n := 1) runUnderlying44 rfl rfl sizeOf40 rfl) ?_
  refine J.p rfl (Q.ldI isAgg40 rfl) ?_
  refine J.p rfl (Q.neq rfl rfl) <| J.p rfl (Q.pick_f rfl rfl) <| J.m rfl ?_
  refine J.kases 18 rfl (fun hb18 => ?_) (fun hb18 => ?_)
  ·
   refine J.k rfl <| J.k rfl <| J.k rfl <| J.k rfl <| J.k rfl <| J.p rfl (Q.pick_t rfl rfl) <| J.m rfl <| J.k rfl <| J.k rfl <| J.k rfl <| J.k rfl <| J.k rfl <| J.k rfl <| J.k rfl <| J.p rfl (Q.pick_t rfl rfl) <| J.m rfl <| J.k rfl <| J.k rfl <| J.k rfl <| J.k rfl ?_
   refine J.k rfl <| J.k rfl <| J.k rfl <| J.p rfl (Q.pick_t rfl rfl) <| J.nil <| J.then_n <| J.cond_t rfl <| J.seq <| J.region <| J.p rfl (Q.asg rfl) <| J.nil <| J.then_n <| J.cret <| J.then_r ?_
   first
    | (have hf : sameM x.r y.r = false := by
        cases h : sameM x.r y.r with
        | false => rfl
        | true =>
         exfalso
         have e := (sameM_iff _ _).1 h
         have e1 := congrArg RM.status e
         have e2 := congrArg RM.upload e
         have e3 := congrArg RM.more e
         have e4 := congrArg RM.keys e
         have e5 := congrArg RM.data e
         first
          | exact hc60 (by have : some kx = some ky := by rw [← hkx, ← hky, e4]
                           cases this; rfl)
          | exact hb11 e1
          | exact hb18 (by rw [e2])
          | (rw [e3] at hb25; simp at hb25; done)
          | exact hb34 (by rw [e4])
          | exact hc42 (by rw [e5])
       refine J.ret1I [G] rfl rfl ⟨by rw [hf], rfl⟩)
    | (have ht : sameM x.r y.r = true := by
        have ek : x.r.keys = y.r.keys := by
         rw [← List.take_of_length_le (l := x.r.keys) (i := i) (by omega), ← List.take_of_length_le (l := y.r.keys) (i := i) (by omega)]; exact htk
        have ed : x.r.data = y.r.data := by simpa using hc42
        have em : x.r.more = y.r.more := by simpa using hb25
        simp only [sameM, Bool.and_eq_true, decide_eq_true_eq, beq_iff_eq]
        exact ⟨⟨⟨⟨by omega, by omega⟩, em⟩, ek⟩, ed⟩
       refine J.ret1I [G] rfl rfl ⟨by rw [ht], rfl⟩)
  refine J.p rfl (Q.fa (n := 3) runUnderlying44 rfl rfl sizeOf4 rfl) ?_
  refine J.p rfl (Q.ldI isAgg4 rfl) ?_
  refine J.p rfl (Q.fa (n := 3) runUnderlying44 rfl rfl sizeOf4 rfl) ?_
  refine J.p rfl (Q.ldI isAgg4 rfl) ?_
  refine J.p rfl (Q.neqb runUnderlying4 rfl rfl) <| J.p rfl (Q.pick_f rfl rfl) <| J.m rfl ?_
  refine J.kases 25 rfl (fun hb25 => ?_) (fun hb25 => ?_)
  ·
   refine J.k rfl <| J.k rfl <| J.k rfl <| J.k rfl <| J.k rfl <| J.k rfl <| J.k rfl <| J.p rfl (Q.pick_t rfl rfl) <| J.m rfl <| J.k rfl <| J.k rfl <| J.k rfl <| J.k rfl <| J.k rfl <| J.k rfl <| J.k rfl <| J.p rfl (Q.pick_t rfl rfl) <| J.nil <| J.then_n <| J.cond_t rfl <| J.seq <| J.region ?_
   refine J.p rfl (Q.asg rfl) <| J.nil <| J.then_n <| J.cret <| J.then_r ?_
   first
    | (have hf : sameM x.r y.r = false := by
        cases h : sameM x.r y.r with
        | false => rfl
        | true =>
         exfalso
         have e := (sameM_iff _ _).1 h
         have e1 := congrArg RM.status e
         have e2 := congrArg RM.upload e
         have e3 := congrArg RM.more e
         have e4 := congrArg RM.keys e
         have e5 := congrArg RM.data e
         first
          | exact hc60 (by have : some kx = some ky := by rw [← hkx, ← hky, e4]
                           cases this; rfl)
          | exact hb11 e1
          | exact hb18 (by rw [e2])
          | (rw [e3] at hb25; simp at hb25; done)
          | exact hb34 (by rw [e4])
          | exact hc42 (by rw [e5])
       refine J.ret1I [G] rfl rfl ⟨by rw [hf], rfl⟩)
    | (have ht : sameM x.r y.r = true := by
        have ek : x.r.keys = y.r.keys := by
         rw [← List.take_of_length_le (l := x.r.keys) (i := i) (by omega), ← List.take_of_length_le (l := y.r.keys) (i := i) (by omega)]; exact htk
        have ed : x.r.data = y.r.data := by simpa using hc42
        have em : x.r.more = y.r.more := by simpa using hb25
        simp only [sameM, Bool.and_eq_true, decide_eq_true_eq, beq_iff_eq]
        exact ⟨⟨⟨⟨by omega, by omega⟩, em⟩, ek⟩, ed⟩
       refine J.ret1I [G] rfl rfl ⟨by rw [ht], rfl⟩)
  refine J.p rfl (Q.fa (n := 2) runUnderlying44 rfl rfl sizeOf41 rfl) ?_
  refine J.p rfl (Q.ldI isAgg41 rfl) ?_
  refine J.p rfl (Q.lenSl runUnderlying41 rfl) <| J.p rfl (Q.fa (n := 2) runUnderlying44 rfl rfl sizeOf41 rfl) ?_
  refine J.p rfl (Q.ldI isAgg41 rfl) ?_
  refine J.p rfl (Q.lenSl runUnderlying41 rfl) <| J.p rfl (Q.neq rfl rfl) <| J.p rfl (Q.pick_f rfl rfl) <| J.m rfl ?_
  refine J.kases 34 rfl (fun hb34 => ?_) (fun hb34 => ?_)
  ·
   refine J.k rfl <| J.k rfl <| J.k rfl <| J.k rfl <| J.k rfl <| J.k rfl <| J.k rfl <| J.p rfl (Q.pick_t rfl rfl) <| J.nil <| J.then_n <| J.cond_t rfl <| J.seq <| J.region <| J.p rfl (Q.asg rfl) <| J.nil <| J.then_n <| J.cret <| J.then_r ?_
   first
    | (have hf : sameM x.r y.r = false := by
        cases h : sameM x.r y.r with
        | false => rfl
        | true =>
         exfalso
         have e := (sameM_iff _ _).1 h
         have e1 := congrArg RM.status e
         have e2 := congrArg RM.upload e
         have e3 := congrArg RM.more e
         have e4 := congrArg RM.keys e
         have e5 := congrArg RM.data e
         first
          | exact hc60 (by have : some kx = some ky := by rw [← hkx, ← hky, e4]
                           cases this; rfl)
          | exact hb11 e1
          | exact hb18 (by rw [e2])
          | (rw [e3] at hb25; simp at hb25; done)
          | exact hb34 (by rw [e4])
          | exact hc42 (by rw [e5])
       refine J.ret1I [G] rfl rfl ⟨by rw [hf], rfl⟩)
    | (have ht : sameM x.r y.r = true := by
        have ek : x.r.keys = y.r.keys := by
         rw [← List.take_of_length_le (l := x.r.keys) (i := i) (by omega), ← List.take_of_length_le (l := y.r.keys) (i := i) (by omega)]; exact htk
        have ed : x.r.data = y.r.data := by simpa using hc42
        have em : x.r.more = y.r.more := by simpa using hb25
        simp only [sameM, Bool.and_eq_true, decide_eq_true_eq, beq_iff_eq]
        exact ⟨⟨⟨⟨by omega, by omega⟩, em⟩, ek⟩, ed⟩
       refine J.ret1I [G] rfl rfl ⟨by rw [ht], rfl⟩)
  refine J.p rfl (Q.fa (n := 4) runUnderlying44 rfl rfl sizeOf42 rfl) ?_
  refine J.p rfl (Q.ldI isAgg42 rfl) ?_
  refine J.p rfl (Q.b2s runUnderlying42 runUnderlying9 runUnderlying5 rfl hx.data.inI) <| J.p rfl (Q.fa (n := 4) runUnderlying44 rfl rfl sizeOf42 rfl) ?_
  refine J.p rfl (Q.ldI isAgg42 rfl) ?_
  refine J.p rfl (Q.b2s runUnderlying42 runUnderlying9 runUnderlying5 rfl hy.data.inI) <| J.p rfl (Q.neqs rfl rfl) <| J.p rfl (Q.pick_f rfl rfl) <| J.nil <| J.then_n ?_
  refine J.kases 42 rfl (fun hc42 => ?_) (fun hc42 => ?_)
  ·
   refine J.cond_t rfl <| J.seq <| J.region <| J.p rfl (Q.asg rfl) <| J.nil <| J.then_n <| J.cret <| J.then_r ?_
   first
    | (have hf : sameM x.r y.r = false := by
        cases h : sameM x.r y.r with
        | false => rfl
        | true =>
         exfalso
         have e := (sameM_iff _ _).1 h
         have e1 := congrArg RM.status e
         have e2 := congrArg RM.upload e
         have e3 := congrArg RM.more e
         have e4 := congrArg RM.keys e
         have e5 := congrArg RM.data e
         first
          | exact hc60 (by have : some kx = some ky := by rw [← hkx, ← hky, e4]
                           cases this; rfl)
          | exact hb11 e1
          | exact hb18 (by rw [e2])
          | (rw [e3] at hb25; simp at hb25; done)
          | exact hb34 (by rw [e4])
          | exact hc42 (by rw [e5])
       refine J.ret1I [G] rfl rfl ⟨by rw [hf], rfl⟩)
    | (have ht : sameM x.r y.r = true := by
        have ek : x.r.keys = y.r.keys := by
         rw [← List.take_of_length_le (l := x.r.keys) (i := i) (by omega), ← List.take_of_length_le (l := y.r.keys) (i := i) (by omega)]; exact htk
        have ed : x.r.data = y.r.data := by simpa using hc42
        have em : x.r.more = y.r.more := by simpa using hb25
        simp only [sameM, Bool.and_eq_true, decide_eq_true_eq, beq_iff_eq]
        exact ⟨⟨⟨⟨by omega, by omega⟩, em⟩, ek⟩, ed⟩
       refine J.ret1I [G] rfl rfl ⟨by rw [ht], rfl⟩)
  refine J.cond_f rfl <| J.cskip <| J.then_n <| J.seq <| J.seq <| J.region <| J.p rfl (Q.asg rfl) <| J.nil <| J.then_n <| J.block ?_
  have hkl : x.r.keys.length = y.r.keys.length := by omega
  refine J.loop (fun i : Nat => i ≤ x.r.keys.length ∧ x.r.keys.take i = y.r.keys.take i) (fun i => x.r.keys.length - i) (fun i => [(2, .pointer (some ⟨b2, 0, none⟩)), (3, .pointer (some ⟨b3, 0, none⟩)), (5, .int .i64 i)]) (fun _ => [pt b3 (.cells y.cells.toArray 44 (0, 0)), pt b2 (.cells x.cells.toArray 44 (0, 0)), G, F]) 0 ⟨Nat.zero_le _, rfl⟩ ⟨rfl, rfl, rfl, trivial⟩ rfl fun i hi => ?_
  obtain ⟨hi, htk⟩ := hi
  refine J.seq <| J.seq <| J.region <| J.m rfl <| J.p rfl (Q.fa (n := 2) runUnderlying44 rfl rfl sizeOf41 rfl) ?_
  refine J.p rfl (Q.ldI isAgg41 rfl) ?_
  refine J.p rfl (Q.lenSl runUnderlying41 rfl) <| J.p rfl (Q.lss rfl rfl) <| J.nil <| J.then_n ?_
  refine J.kases 47 rfl (fun hc47 => ?_) (fun hc47 => ?_)
  ·
   refine J.cond_t rfl <| J.cskip <| J.then_n <| J.seq <| J.block <| J.seq ?_
   have hil : i < x.r.keys.length := by omega
   have hxs := hx.small
   obtain ⟨bx, ox, hxp, hrx⟩ := hx.keys.some_ (by omega)
   obtain ⟨by_, oy, hyp, hry⟩ := hy.keys.some_ (by omega)
   obtain ⟨kx, hkx⟩ : ∃ a, x.r.keys[i]? = some a := ⟨_, List.getElem?_eq_getElem (by omega)⟩
   obtain ⟨ky, hky⟩ : ∃ a, y.r.keys[i]? = some a := ⟨_, List.getElem?_eq_getElem (by omega)⟩
   refine J.draw [] Tryz.mixed (by kernel_rfl) fun hR => ?_
   refine RG.p 0 hR rfl (Q.fa (n := 2) runUnderlying44 rfl rfl sizeOf41 rfl) ?_
   refine RG.p 1 hR rfl (Q.ldI isAgg41 rfl) ?_
   refine RG.slot 51 (.slice (some ⟨bx, ox, none⟩) x.r.keys.length x.kc) rfl (by rw [hxp]) ?_
   refine RG.p 2 hR rfl (Q.mv rfl) <| RG.p 3 hR rfl (Q.ia runUnderlying41 sizeOf9 rfl rfl (by omega) (by omega)) <| RG.p 4 hR rfl (Q.ld isAgg9 rfl ((hrx i (Value.string kx) (by simp [hkx])).cast (by simp)).inI) <| RG.p 5 hR rfl (Q.fa (n := 2) runUnderlying44 rfl rfl sizeOf41 rfl) ?_
   refine RG.p 6 hR rfl (Q.ldI isAgg41 rfl) ?_
   refine RG.slot 56 (.slice (some ⟨by_, oy, none⟩) y.r.keys.length y.kc) rfl (by rw [hyp]) ?_
   refine RG.p 7 hR rfl (Q.mv rfl) <| RG.p 8 hR rfl (Q.ia runUnderlying41 sizeOf9 rfl rfl (by omega) (by omega)) <| RG.p 9 hR rfl (Q.ld isAgg9 rfl ((hry i (Value.string ky) (by simp [hky])).cast (by simp)).inI) <| RG.p 10 hR rfl (Q.neqs rfl rfl) ?_
   refine RG.fin hR rfl ?_
   refine J.norm rfl <| J.then_n ?_
   refine J.kases 60 rfl (fun hc60 => ?_) (fun hc60 => ?_)
   ·
    refine J.cond_t rfl <| J.seq <| J.region <| J.p rfl (Q.asg rfl) <| J.nil <| J.then_n <| J.cret <| J.blk_r <| J.then_r <| J.lp_r <| J.blk_r <| J.then_r ?_
    first
     | (have hf : sameM x.r y.r = false := by
         cases h : sameM x.r y.r with
         | false => rfl
         | true =>
          exfalso
          have e := (sameM_iff _ _).1 h
          have e1 := congrArg RM.status e
          have e2 := congrArg RM.upload e
          have e3 := congrArg RM.more e
          have e4 := congrArg RM.keys e
          have e5 := congrArg RM.data e
          first
           | exact hc60 (by have : some kx = some ky := by rw [← hkx, ← hky, e4]
                            cases this; rfl)
           | exact hb11 e1
           | exact hb18 (by rw [e2])
           | (rw [e3] at hb25; simp at hb25; done)
           | exact hb34 (by rw [e4])
           | exact hc42 (by rw [e5])
        refine J.ret1I [G] rfl rfl ⟨by rw [hf], rfl⟩)
     | (have ht : sameM x.r y.r = true := by
         have ek : x.r.keys = y.r.keys := by
          rw [← List.take_of_length_le (l := x.r.keys) (i := i) (by omega), ← List.take_of_length_le (l := y.r.keys) (i := i) (by omega)]; exact htk
         have ed : x.r.data = y.r.data := by simpa using hc42
         have em : x.r.more = y.r.more := by simpa using hb25
         simp only [sameM, Bool.and_eq_true, decide_eq_true_eq, beq_iff_eq]
         exact ⟨⟨⟨⟨by omega, by omega⟩, em⟩, ek⟩, ed⟩
        refine J.ret1I [G] rfl rfl ⟨by rw [ht], rfl⟩)
   refine J.cond_f rfl <| J.cskip <| J.blk_n <| J.then_n <| J.region <| J.m rfl <| J.p rfl (Q.add64 rfl rfl (by omega)) <| J.p rfl (Q.asg rfl) <| J.nil ?_
   have hk : kx = ky := by
    cases kx; cases ky
    congr
    exact Array.toList_inj.1 hc60
   refine J.againI (i + 1) ⟨by show i + 1 ≤ _; omega, take_same htk hkx (by rw [hky, hk])⟩ (by show x.r.keys.length - (i + 1) < x.r.keys.length - i; omega) ⟨rfl, rfl, rfl, trivial⟩
  refine J.cond_f rfl <| J.exit <| J.then_x <| J.lp_x <| J.blk_x <| J.then_n <| J.seq <| J.region <| J.p rfl (Q.asg rfl) <| J.nil <| J.then_n <| J.cret ?_
  first
   | (have hf : sameM x.r y.r = false := by
       cases h : sameM x.r y.r with
       | false => rfl
       | true =>
        exfalso
        have e := (sameM_iff _ _).1 h
        have e1 := congrArg RM.status e
        have e2 := congrArg RM.upload e
        have e3 := congrArg RM.more e
        have e4 := congrArg RM.keys e
        have e5 := congrArg RM.data e
        first
         | exact hc60 (by have : some kx = some ky := by rw [← hkx, ← hky, e4]
                          cases this; rfl)
         | exact hb11 e1
         | exact hb18 (by rw [e2])
         | (rw [e3] at hb25; simp at hb25; done)
         | exact hb34 (by rw [e4])
         | exact hc42 (by rw [e5])
      refine J.ret1I [G] rfl rfl ⟨by rw [hf], rfl⟩)
   | (have ht : sameM x.r y.r = true := by
       have ek : x.r.keys = y.r.keys := by
        rw [← List.take_of_length_le (l := x.r.keys) (i := i) (by omega), ← List.take_of_length_le (l := y.r.keys) (i := i) (by omega)]; exact htk
       have ed : x.r.data = y.r.data := by simpa using hc42
       have em : x.r.more = y.r.more := by simpa using hb25
       simp only [sameM, Bool.and_eq_true, decide_eq_true_eq, beq_iff_eq]
       exact ⟨⟨⟨⟨by omega, by omega⟩, em⟩, ek⟩, ed⟩
      refine J.ret1I [G] rfl rfl ⟨by rw [ht], rfl⟩)
theorem rdefinite_spec (n : Int) : FSpec Tryz.prog 15 [.int .i64 n] [] (fun v B => v = .bool (defB n) ∧ B = []) := by
  refine FSpec.of func15 rfl ntmps15 rfl fun W0 F => ?_
  refine J.seq <| J.region <| J.p rfl (Q.asg rfl) <| J.nil <| J.then_n <| J.seq <| J.region <| J.m rfl <| J.p rfl (Q.eql rfl rfl) <| J.m rfl ?_
  refine J.kases 5 rfl (fun hb5 => ?_) (fun hb5 => ?_)
  ·
   refine J.k rfl <| J.k rfl <| J.p rfl (Q.pick_t rfl rfl) <| J.m rfl <| J.k rfl <| J.k rfl <| J.p rfl (Q.pick_t rfl rfl) <| J.m rfl <| J.k rfl <| J.k rfl <| J.p rfl (Q.pick_t rfl rfl) <| J.m rfl <| J.k rfl <| J.k rfl <| J.p rfl (Q.pick_t rfl rfl) <| J.p rfl (Q.asg rfl) <| J.nil <| J.then_n ?_
   refine J.cret ?_
   first
    | (have e : defB n = true := by simp only [defB, Bool.or_eq_true, decide_eq_true_eq]; omega
       refine J.ret1I [] rfl rfl ⟨by rw [e], rfl⟩)
    | (have e : defB n = decide (n = 413) := by
        unfold defB
        rw [decide_eq_false (show ¬ n = 200 by omega), decide_eq_false (show ¬ n = 400 by omega), decide_eq_false (show ¬ n = 404 by omega), decide_eq_false (show ¬ n = 409 by omega)]; rfl
       refine J.ret1I [] rfl rfl ⟨by rw [e], rfl⟩)
  refine J.m rfl <| J.p rfl (Q.eql rfl rfl) <| J.p rfl (Q.pick_f rfl rfl) <| J.m rfl ?_
  refine J.kases 9 rfl (fun hb9 => ?_) (fun hb9 => ?_)
  ·
   refine J.k rfl <| J.k rfl <| J.p rfl (Q.pick_t rfl rfl) <| J.m rfl <| J.k rfl <| J.k rfl <| J.p rfl (Q.pick_t rfl rfl) <| J.m rfl <| J.k rfl <| J.k rfl <| J.p rfl (Q.pick_t rfl rfl) <| J.p rfl (Q.asg rfl) <| J.nil <| J.then_n <| J.cret ?_
   first
    | (have e : defB n = true := by simp only [defB, Bool.or_eq_true, decide_eq_true_eq]; omega
       refine J.ret1I [] rfl rfl ⟨by rw [e], rfl⟩)
    | (have e : defB n = decide (n = 413) := by
        unfold defB
        rw [decide_eq_false (show ¬ n = 200 by omega), decide_eq_false (show ¬ n = 400 by omega), decide_eq_false (show ¬ n = 404 by omega), decide_eq_false (show ¬ n = 409 by omega)]; rfl
       refine J.ret1I [] rfl rfl ⟨by rw [e], rfl⟩)
  refine J.m rfl <| J.p rfl (Q.eql rfl rfl) <| J.p rfl (Q.pick_f rfl rfl) <| J.m rfl ?_
  refine J.kases 13 rfl (fun hb13 => ?_) (fun hb13 => ?_)
  ·
   refine J.k rfl <| J.k rfl <| J.p rfl (Q.pick_t rfl rfl) <| J.m rfl <| J.k rfl <| J.k rfl <| J.p rfl (Q.pick_t rfl rfl) <| J.p rfl (Q.asg rfl) <| J.nil <| J.then_n <| J.cret ?_
   first
    | (have e : defB n = true := by simp only [defB, Bool.or_eq_true, decide_eq_true_eq]; omega
       refine J.ret1I [] rfl rfl ⟨by rw [e], rfl⟩)
    | (have e : defB n = decide (n = 413) := by
        unfold defB
        rw [decide_eq_false (show ¬ n = 200 by omega), decide_eq_false (show ¬ n = 400 by omega), decide_eq_false (show ¬ n = 404 by omega), decide_eq_false (show ¬ n = 409 by omega)]; rfl
       refine J.ret1I [] rfl rfl ⟨by rw [e], rfl⟩)
  refine J.m rfl <| J.p rfl (Q.eql rfl rfl) <| J.p rfl (Q.pick_f rfl rfl) <| J.m rfl ?_
  refine J.kases 17 rfl (fun hb17 => ?_) (fun hb17 => ?_)
  ·
   refine J.k rfl <| J.k rfl <| J.p rfl (Q.pick_t rfl rfl) <| J.p rfl (Q.asg rfl) <| J.nil <| J.then_n <| J.cret ?_
   first
    | (have e : defB n = true := by simp only [defB, Bool.or_eq_true, decide_eq_true_eq]; omega
       refine J.ret1I [] rfl rfl ⟨by rw [e], rfl⟩)
    | (have e : defB n = decide (n = 413) := by
        unfold defB
        rw [decide_eq_false (show ¬ n = 200 by omega), decide_eq_false (show ¬ n = 400 by omega), decide_eq_false (show ¬ n = 404 by omega), decide_eq_false (show ¬ n = 409 by omega)]; rfl
       refine J.ret1I [] rfl rfl ⟨by rw [e], rfl⟩)
  refine J.m rfl <| J.p rfl (Q.eql rfl rfl) <| J.p rfl (Q.pick_f rfl rfl) <| J.p rfl (Q.asg rfl) <| J.nil <| J.then_n <| J.cret ?_
  first
   | (have e : defB n = true := by simp only [defB, Bool.or_eq_true, decide_eq_true_eq]; omega
      refine J.ret1I [] rfl rfl ⟨by rw [e], rfl⟩)
   | (have e : defB n = decide (n = 413) := by
       unfold defB
       rw [decide_eq_false (show ¬ n = 200 by omega), decide_eq_false (show ¬ n = 400 by omega), decide_eq_false (show ¬ n = 404 by omega), decide_eq_false (show ¬ n = 409 by omega)]; rfl
      refine J.ret1I [] rfl rfl ⟨by rw [e], rfl⟩)
end Go.Proofs.YtidbcaimgahllaaGreat
namespace Go.Proofs.YtidbcaimgahllaaGreat
open Go.Proofs.Tryz
open Go.X
open Go.X.G (Ord3 ord3_nat ord3_int ord3_str ltB sget sput sdel Srtd MapAt MapHole valRep)

end Go.Proofs.YtidbcaimgahllaaGreat

