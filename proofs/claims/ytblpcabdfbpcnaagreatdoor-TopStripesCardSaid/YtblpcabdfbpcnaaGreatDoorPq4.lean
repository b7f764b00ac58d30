/-
  What the proof of the last of these texts leans on: part 4 of 6.
-/
import Derived.Recover
import Derived.ChangeKeysEq
import Derived.Test.YtblpcabdfbpcnaaGreatDoorPq3
set_option linter.unusedSectionVars false
set_option linter.unusedVariables false
set_option linter.unusedSimpArgs false
namespace Go.Proofs.YtblpcabdfbpcnaaGreatDoor
open Go.Proofs.Tryz
open Go.X Go.X.T

theorem made_same {n : Nat} {l : Ml} (h : Sq n l) : madeL n n (get2 l) = l := by
  refine Rect.ext (k := n) (w := n) ⟨by simp [madeL], fun r hr => by simp only [madeL, List.mem_map] at hr; obtain ⟨i, _, rfl⟩ := hr; simp⟩ ⟨h.len, h.row⟩ fun i j hi hj => ?_
  simp [madeL, get2, hi, hj]

def swapH (hs : List RowH) (k q : Nat) : List RowH := match hs[k]?, hs[q]? with | some r, some s => (hs.set k s).set q r | _, _ => hs
theorem swapH_perm (hs : List RowH) (k q : Nat) : (swapH hs k q).Perm hs := by
  unfold swapH
  split
  · rename_i r s h1 h2
    obtain ⟨a1, a2⟩ := List.getElem?_eq_some_iff.1 h1
    obtain ⟨b1, b2⟩ := List.getElem?_eq_some_iff.1 h2
    subst a2; subst b2
    exact List.set_set_perm a1 b1
  · exact List.Perm.refl _
theorem swapH_vals {hs : List RowH} {k q : Nat} (hk : k < hs.length) (hq : q < hs.length) : (swapH hs k q).map RowH.val = ((hs.map RowH.val).set k (((hs.map RowH.val)[q]?).getD undef)).set q (((hs.map RowH.val)[k]?).getD undef) := by
  simp only [swapH, List.getElem?_eq_getElem hk, List.getElem?_eq_getElem hq, List.getElem?_map, Option.map_some, Option.getD_some, List.map_set]
theorem swapH_bs {hs : List RowH} {k q : Nat} (hk : k < hs.length) (hq : q < hs.length) : (swapH hs k q).map RowH.bs = swapL (hs.map RowH.bs) k q := by
  simp only [swapH, swapL, List.getElem?_eq_getElem hk, List.getElem?_eq_getElem hq, List.getElem?_map, Option.map_some, Option.getD_some, List.map_set]
theorem rowSet_bs {hs : List RowH} {k : Nat} (hk : k < hs.length) (bs : List U) : (rowSet hs k bs).map RowH.bs = (hs.map RowH.bs).set k bs := by
  simp only [rowSet, List.getElem?_eq_getElem hk, List.map_set]
theorem bs_len {n : Nat} {hs : List RowH} (h : Sq n (hs.map RowH.bs)) : hs.length = n ∧ ∀ r, r ∈ hs → r.bs.length = n := ⟨by have := h.len; simpa using this, fun r hr => h.row _ (List.mem_map_of_mem hr)⟩

theorem stars_in {h : Hp} {As Cs : List Assn} (s : HSat h [star As, star Cs]) : HSat h (As ++ Cs) :=
  HSat.perm List.perm_append_comm (HSat.unpack (As := Cs) (Bs := As) (HSat.perm (List.perm_append_comm (l₁ := As) (l₂ := [star Cs])) (HSat.unpack s)))
theorem stars_out {h : Hp} {As Cs : List Assn} (s : HSat h (As ++ Cs)) : HSat h [star As, star Cs] :=
  HSat.pack (As := As) (Bs := [star Cs]) (HSat.perm (List.perm_append_comm (l₁ := [star Cs]) (l₂ := As)) (HSat.pack (As := Cs) (Bs := As) (HSat.perm List.perm_append_comm s)))
theorem rowsA_perm {a b : List RowH} (p : a.Perm b) : ∀ h, rowsA a h → rowsA b h := fun h s => HSat.perm (p.map RowH.asn) s

section
variable (n : Nat) (hs : List RowH) (hl : hs.length = n) (hr : ∀ r, r ∈ hs → r.bs.length = n) (hn2 : n ≤ 255) (b0 off0 c : Nat)
include hl hr hn2
theorem inv4s_spec (bk bp k p : Nat) (hk : k < n) (hp : k + p < n) : FSpec Tryz.prog 199 ([] ++ [.slice (some ⟨b0, off0, none⟩) n c] ++ [.pointer (some ⟨bk, 0, none⟩), .pointer (some ⟨bp, 0, none⟩)]) [star [outerA b0 off0 n c hs, rowsA hs], star [numAt bk k, numAt bp p]]
    (fun v B => v = .tuple #[] ∧ B = [star [outerA b0 off0 n c (swapH hs k (k + p)), rowsA (swapH hs k (k + p))], star [numAt bk k, numAt bp p]]) := by
  have h := (inv4_spec n hs hl hr hn2 b0 off0 c bk bp k p hk hp).frame [rowsA hs]
  refine h.conv (fun q s => (stars_in s).perm (X.pick_perm (is := [0, 2, 3]) rfl)) ?_
  rintro v _ ⟨B1, ⟨rfl, rfl⟩, rfl⟩
  refine ⟨_, ⟨rfl, rfl⟩, fun q s => stars_out ?_⟩
  have s1 := HSat.imp (HSat.perm (X.pick_perm (is := [3, 0, 1, 2]) rfl) s) (rowsA_perm (swapH_perm hs k (k + p)).symm)
  have s2 := HSat.perm (X.pick_perm (is := [1, 0, 2, 3]) rfl) s1
  rw [← swapH_vals (by omega) (by omega)] at s2
  exact s2
theorem inv5s_spec (bk bb k : Nat) (hk : k < n) (s : U) {r : RowH} (h1 : hs[k]? = some r) : FSpec Tryz.prog 200 ([] ++ [.slice (some ⟨b0, off0, none⟩) n c] ++ [.pointer (some ⟨bk, 0, none⟩), .pointer (some ⟨bb, 0, none⟩)]) [star [outerA b0 off0 n c hs, rowsA hs], star [numAt bk k, byteAt bb s]]
    (fun v B => v = .tuple #[] ∧ B = [star [outerA b0 off0 n c (rowSet hs k (mulRow r.bs s)), rowsA (rowSet hs k (mulRow r.bs s))], star [numAt bk k, byteAt bb s]]) := by
  refine (inv5_spec n hs hl hr hn2 b0 off0 c bk bb k hk s h1).conv (fun q s => stars_in s) ?_
  rintro v _ ⟨rfl, rfl⟩
  exact ⟨_, ⟨rfl, rfl⟩, fun q s => stars_out s⟩
theorem inv6s_spec (bi bk bb i k : Nat) (hi : i < n) (hk : k < n) (hik : i ≠ k) (s : U) {r o : RowH} (h1 : hs[i]? = some r) (h1' : hs[k]? = some o) : FSpec Tryz.prog 202 ([] ++ [.slice (some ⟨b0, off0, none⟩) n c] ++ [.pointer (some ⟨bi, 0, none⟩), .pointer (some ⟨bk, 0, none⟩), .pointer (some ⟨bb, 0, none⟩)]) [star [outerA b0 off0 n c hs, rowsA hs], star [numAt bi i, numAt bk k, byteAt bb s]]
    (fun v B => v = .tuple #[] ∧ B = [star [outerA b0 off0 n c (rowSet hs i (addRow r.bs o.bs s)), rowsA (rowSet hs i (addRow r.bs o.bs s))], star [numAt bi i, numAt bk k, byteAt bb s]]) := by
  refine (inv6_spec n hs hl hr hn2 b0 off0 c bi bk bb i k hi hk hik s h1 h1').conv (fun q s => stars_in s) ?_
  rintro v _ ⟨rfl, rfl⟩
  exact ⟨_, ⟨rfl, rfl⟩, fun q s => stars_out s⟩
theorem inv3s_spec (bk k i : Nat) (hk : k < n) (hi : i < n) {u : Value} (hu : (hs.map RowH.val)[i]? = some u) : FSpec Tryz.prog 198 ([] ++ [u] ++ [.pointer (some ⟨bk, 0, none⟩)]) [star [outerA b0 off0 n c hs, rowsA hs, numAt bk k]]
    (fun v B => v = .bool (decide (¬ ((get2 (hs.map RowH.bs) i k).toNat : Int) = 0)) ∧ B = [star [outerA b0 off0 n c hs, rowsA hs, numAt bk k]]) := by
  refine ((inv3_spec n hs hl hr hn2 bk k i hk hi hu).frame [outerA b0 off0 n c hs]).conv (fun q s => (HSat.unpack (Bs := []) s).perm (X.pick_perm (is := [1, 2]) rfl)) ?_
  rintro v _ ⟨B1, ⟨rfl, rfl⟩, rfl⟩
  exact ⟨_, ⟨rfl, rfl⟩, fun q s => HSat.pack (Bs := []) (s.perm (X.pick_perm (is := [2, 0, 1]) rfl))⟩
end

set_option maxHeartbeats 8000000 in
theorem inverse_spec (n : Nat) (hn : 0 < n) (hn2 : n ≤ 255) (l : Ml) (hl : Sq n l) (hreg : Reg n (get2 l)) (hs : List RowH) (hbs : hs.map RowH.bs = l) (p : Option Addr) (c : Nat) :
    FSpec Tryz.prog 129 [.slice p n c] [own 22 1 (.slice p n c) (hs.map RowH.val), rowsA hs]
    (fun v B => ∃ p' c' o, v = .tuple #[.slice p' n c', .int .i64 0] ∧ (∃ a, ElAt n l n a o) ∧ B = [MatAt 22 p' c' o, own 22 1 (.slice p n c) (hs.map RowH.val), rowsA hs]) := by
  refine FSpec.of func129 rfl ntmps129 rfl fun W0 F => ?_
  refine J.seq ?_
  refine J.slr1 0 rfl fun hsl => ?_
  obtain ⟨b0, off0, rfl, hrd⟩ := hsl.some_ hn
  obtain ⟨hlen, hrow⟩ := bs_len (n := n) (hs := hs) (by rw [hbs]; exact hl)
  obtain ⟨r0, g1, g2, g3⟩ := vals_at n hs hlen hrow hn2 hn
  refine J.region ?_
  refine J.c rfl rfl (C.box (l := [_]) rfl rfl) ?_
  rintro _ _ ⟨b1, rfl, rfl⟩
  refine J.norm rfl <| J.p rfl (Q.asg rfl) <| J.p rfl (Q.asg rfl) <| J.nil <| J.then_n <| J.seq <| J.seq ?_
  refine J.drawE [1] 4 Tryz.mixed (by kernel_rfl) rfl rfl fun hR => ?_
  refine RG.p 0 hR rfl (Q.ldI isAgg125 rfl) ?_
  refine RG.callI 1 hR rfl rfl rfl rfl rfl rfl call194 (right_spec n n hn hn2 hn hn2 (some ⟨b0, off0, none⟩) c hs hlen hrow) rfl ?_
  rintro _ _ ⟨rfl, rfl⟩
  refine RG.norm rfl <| RG.p 2 hR rfl (Q.not rfl) <| RG.p 3 hR rfl (Q.mv rfl) ?_
  refine RG.cases 18 rfl (fun hb18 => ?_) (fun hb18 => ?_)
  ·
   replace hb18 := X.nm hb18
   try (first | (cases hb18; done) | (exfalso; omega) | (exfalso; simp at hb18; done))
   all_goals
    refine RG.k 4 hR rfl <| RG.k 5 hR rfl <| RG.k 6 hR rfl <| RG.k 7 hR rfl <| RG.k 8 hR rfl <| RG.k 9 hR rfl <| RG.k 10 hR rfl <| RG.p 11 hR rfl (Q.pick_t rfl rfl) ?_
    refine RG.fin hR rfl ?_
    refine J.norm rfl <| J.then_n <| J.cond_t rfl <| J.seq <| J.region <| J.p rfl (Q.asg rfl) <| J.p rfl (Q.asg rfl) <| J.nil <| J.then_n <| J.cret <| J.then_r ?_
    obtain rfl : n = k := by omega
    refine J.unpackI [outerA bo offo n co ho, rowsA ho] ?_
    refine J.norm rfl ?_
    refine J.shutI [outerA bo offo n co ho, rowsA ho] (MatAt 22 (some ⟨bo, offo, none⟩) co (ho.map RowH.bs)) (fun h s => ⟨ho, rfl, by rw [List.length_map, lo]; exact s⟩) ?_
    refine J.unpackI [slAt 125 b1 (.slice (some ⟨b0, off0, none⟩) n c), outerA b0 off0 n c hs, rowsA hs] ?_
    refine J.norm rfl ?_
    exact J.ret2I [MatAt 22 (some ⟨bo, offo, none⟩) co (ho.map RowH.bs), outerA b0 off0 n c hs, rowsA hs] rfl rfl rfl ⟨_, _, _, rfl, ⟨_, hel⟩, rfl⟩
  replace hb18 := X.nm hb18
  try (first | (cases hb18; done) | (exfalso; omega) | (exfalso; simp at hb18; done))
  all_goals
   refine RG.p 4 hR rfl (Q.ldI isAgg125 rfl) ?_
   refine RG.p 5 hR rfl (Q.lenSl runUnderlying125 rfl) ?_
   refine RG.p 6 hR rfl (Q.ldI isAgg125 rfl) ?_
   refine RG.p 7 hR rfl (Q.ia runUnderlying125 sizeOf22 rfl rfl (by omega) (by omega)) <| RG.p 8 hR rfl (Q.ld isAgg22 rfl (rdO (b := b0) g3 (by omega))) <| RG.p 9 hR rfl (Q.lenSl runUnderlying22 rfl) <| RG.p 10 hR rfl (Q.neq rfl rfl) <| RG.p 11 hR rfl (Q.pick_f rfl rfl) ?_
   refine RG.fin hR rfl ?_
   refine J.norm rfl <| J.then_n ?_
   refine J.kases 26 rfl (fun hc26 => ?_) (fun hc26 => ?_)
   ·
    try (first | (cases hc26; done) | (exfalso; omega) | (exfalso; simp at hc26; done))
    all_goals
     refine J.cond_t rfl <| J.seq <| J.region <| J.p rfl (Q.asg rfl) <| J.p rfl (Q.asg rfl) <| J.nil <| J.then_n <| J.cret <| J.then_r ?_
     obtain rfl : n = k := by omega
     refine J.unpackI [outerA bo offo n co ho, rowsA ho] ?_
     refine J.norm rfl ?_
     refine J.shutI [outerA bo offo n co ho, rowsA ho] (MatAt 22 (some ⟨bo, offo, none⟩) co (ho.map RowH.bs)) (fun h s => ⟨ho, rfl, by rw [List.length_map, lo]; exact s⟩) ?_
     refine J.unpackI [slAt 125 b1 (.slice (some ⟨b0, off0, none⟩) n c), outerA b0 off0 n c hs, rowsA hs] ?_
     refine J.norm rfl ?_
     exact J.ret2I [MatAt 22 (some ⟨bo, offo, none⟩) co (ho.map RowH.bs), outerA b0 off0 n c hs, rowsA hs] rfl rfl rfl ⟨_, _, _, rfl, ⟨_, hel⟩, rfl⟩
   try (first | (cases hc26; done) | (exfalso; omega) | (exfalso; simp at hc26; done))
   all_goals
    refine J.cond_f rfl <| J.cskip <| J.then_n <| J.seq <| J.region ?_
    refine J.p rfl (Q.ldI isAgg125 rfl) ?_
    refine J.p rfl (Q.lenSl runUnderlying125 rfl) <| J.p rfl (Q.asg rfl) <| J.nil <| J.then_n <| J.seq <| J.region <| J.m rfl <| J.m rfl <| J.p rfl (Q.func rfl rfl) ?_
    refine J.pickI [slAt 125 b1 (.slice (some ⟨b0, off0, none⟩) n c), outerA b0 off0 n c hs, rowsA hs] ?_
    refine J.norm rfl ?_
    refine J.pack [0, 1, 2] rfl ?_
    refine J.call call90 (made_spec n n hn (by omega) hn (by omega) 195 [.pointer (some ⟨b1, 0, none⟩)] (star [slAt 125 b1 (.slice (some ⟨b0, off0, none⟩) n c), outerA b0 off0 n c hs, rowsA hs]) (get2 l) call195 (fun i j hi hj => (inv1_spec n hs hlen hrow hn2 b0 off0 c b1 i j hi hj).packed (by rintro v B ⟨rfl, rfl⟩; exact ⟨by rw [hbs], rfl⟩))) [0] rfl rfl rfl rfl ?_
    rintro _ _ ⟨pa, ca, rfl, rfl⟩
    refine J.norm rfl ?_
    refine J.openI (MatAt 22 pa ca (madeL n n (get2 l))) (Bs := fun ha => rowsAsn 22 (.slice pa n ca) ha) (p := fun ha => ha.map RowH.bs = l) (fun h q => by obtain ⟨ha, h1, h2⟩ := q; rw [made_same hl] at h1 h2; rw [hl.len] at h2; exact ⟨ha, h1, h2⟩) fun ha0 hha0 => ?_
    refine J.norm rfl ?_
    refine J.slr1 0 rfl fun hsa => ?_
    obtain ⟨ba, offa, rfl, _⟩ := hsa.some_ hn
    refine J.tells 0 rfl (fun h q => (own.len h q).2) fun hca => ?_
    refine J.c rfl rfl (C.alloc (l := [_]) zeroValue125 rfl) ?_
    rintro _ _ ⟨b5, rfl, rfl⟩
    refine J.norm rfl ?_
    refine J.stJ rfl sizeOf125 rfl rfl rfl ?_
    refine J.nil <| J.then_n <| J.seq <| J.region <| J.m rfl ?_
    refine J.call call128 (unit_spec n hn hn2) [] rfl rfl rfl rfl ?_
    rintro _ _ ⟨po, co, rfl, rfl⟩
    refine J.norm rfl ?_
    refine J.openI (MatAt 22 po co (unitL n)) (Bs := fun ho => rowsAsn 22 (.slice po n co) ho) (p := fun ho => ho.map RowH.bs = unitL n) (fun h q => by obtain ⟨ho, h1, h2⟩ := q; rw [(unitL_sq n).len] at h2; exact ⟨ho, h1, h2⟩) fun ho0 hho0 => ?_
    refine J.norm rfl ?_
    refine J.slr1 0 rfl fun hso => ?_
    obtain ⟨bo, offo, rfl, _⟩ := hso.some_ hn
    refine J.m rfl <| J.p rfl (Q.ext rfl rfl) <| J.p rfl (Q.ext rfl rfl) ?_
    refine J.c rfl rfl (C.alloc (l := [_]) zeroValue125 rfl) ?_
    rintro _ _ ⟨b6, rfl, rfl⟩
    refine J.norm rfl ?_
    refine J.stJ rfl sizeOf125 rfl rfl rfl ?_
    refine J.p rfl (Q.asg rfl) <| J.nil <| J.then_n <| J.seq <| J.region <| J.p rfl (Q.func rfl rfl) <| J.p rfl (Q.asg rfl) <| J.nil <| J.then_n <| J.seq <| J.seq <| J.region <| J.m rfl <| J.m rfl <| J.nil <| J.then_n <| J.block ?_
    refine J.pickI [slAt 125 b5 (.slice (some ⟨ba, offa, none⟩) n ca), slAt 125 b6 (.slice (some ⟨bo, offo, none⟩) n co), outerA ba offa n ca ha0, rowsA ha0, outerA bo offo n co ho0, rowsA ho0] ?_
    refine J.norm rfl ?_
    refine J.pack [2, 3] rfl ?_
    refine J.pack [3, 4] rfl ?_
    refine J.loop3 (fun (k : Nat) (ha ho : List RowH) => k ≤ n ∧ ElAt n l k (ha.map RowH.bs) (ho.map RowH.bs)) (fun k _ _ => n - k) (fun k _ _ => [(4, .int .i64 n), (5, .pointer (some ⟨b5, 0, none⟩)), (6, .pointer (some ⟨b6, 0, none⟩)), (8, .func (.func 196) ([] : List Value).toArray [.pointer (some ⟨b5, 0, none⟩), .pointer (some ⟨b6, 0, none⟩)].toArray), (39, .int .i64 n), (40, .int .i64 k)])
      (fun k ha ho => [star [outerA bo offo n co ho, rowsA ho], star [outerA ba offa n ca ha, rowsA ha], slAt 125 b5 (.slice (some ⟨ba, offa, none⟩) n ca), slAt 125 b6 (.slice (some ⟨bo, offo, none⟩) n co), star [slAt 125 b1 (.slice (some ⟨b0, off0, none⟩) n c), outerA b0 off0 n c hs, rowsA hs], F]) 0 ha0 ho0 ⟨Nat.zero_le _, by rw [hha0, hho0]; exact ElAt.start hl⟩ ⟨rfl, rfl, rfl, rfl, rfl, rfl, trivial⟩ rfl fun k ha ho hz => ?_
    obtain ⟨hk, hel⟩ := hz
    obtain ⟨la, ra⟩ := bs_len hel.sa
    obtain ⟨lo, ro⟩ := bs_len hel.so
    refine J.seq <| J.region <| J.p rfl (Q.lss rfl rfl) <| J.nil <| J.then_n <| J.seq ?_
    refine J.kases 41 rfl (fun hc41 => ?_) (fun hc41 => ?_)
    ·
     try (first | (cases hc41; done) | (exfalso; omega) | (exfalso; simp at hc41; done))
     all_goals
      refine J.cond_t rfl <| J.cskip <| J.then_n <| J.seq <| J.block <| J.seq <| J.region <| J.m rfl ?_
      refine J.c rfl rfl (C.alloc (l := [_]) zeroValue3 rfl) ?_
      rintro _ _ ⟨b9, rfl, rfl⟩
      refine J.norm rfl ?_
      refine J.stJ rfl sizeOf3 rfl rfl rfl ?_
      refine J.nil <| J.then_n <| J.seq <| J.region ?_
      refine J.p rfl (Q.ldI isAgg125 rfl) ?_
      refine J.p rfl (Q.ldI isAgg3 rfl) ?_
      have hkn : k < n := by omega
      refine J.unpackI [outerA ba offa n ca ha, rowsA ha] ?_
      refine J.pickI [outerA ba offa n ca ha, rowsA ha, numAt b9 k] ?_
      refine J.norm rfl ?_
      refine J.slr1 0 rfl fun hs0 => ?_
      obtain ⟨p1, c1, hs1, hc1, hop1⟩ := slr_tail runUnderlying125 sizeOf22 hs0 (Nat.le_of_lt hkn) hca
      refine J.pack [0, 1, 2] rfl ?_
      refine J.p rfl (hop1 rfl rfl) ?_
      refine J.p rfl (Q.func rfl rfl) ?_
      refine J.call call197 (indexM_spec (star [outerA ba offa n ca ha, rowsA ha, numAt b9 k]) p1 (n - k) c1 ((ha.map RowH.val).drop k) 198 [.pointer (some ⟨b9, 0, none⟩)] (fun i => decide (¬ ((get2 (ha.map RowH.bs) (k + i) k).toNat : Int) = 0)) call198 (hs1.into 0 rfl) (by omega) (fun i u hu => inv3s_spec n ha la ra hn2 ba offa ca b9 k (k + i) hkn (by have h1 := (List.getElem?_eq_some_iff.1 hu).1; simp at h1; omega) (by rw [← hu, List.getElem?_drop]))) [0] rfl rfl rfl rfl ?_
      rintro _ _ ⟨r, rfl, hfst, rfl⟩
      refine J.norm rfl ?_
      obtain ⟨pp, rfl, hpp, hpz⟩ : ∃ pp : Nat, r = pp ∧ k + pp < n ∧ get2 (ha.map RowH.bs) (k + pp) k ≠ 0 := by
       rcases hfst with ⟨_, hno⟩ | ⟨i, e1, e2, e3⟩
       · obtain ⟨i, h1, h2, h3⟩ := hel.pivot hreg hkn
         have := of_decide_eq_false (hno (i - k) (by omega))
         rw [show k + (i - k) = i from by omega] at this
         exact absurd (nz_of h3) this
       · refine ⟨i, e1, by omega, fun e => of_decide_eq_true e3 ?_⟩
         rw [e]; rfl
      refine J.unpackI [outerA ba offa n ca ha, rowsA ha, numAt b9 k] ?_
      refine J.norm rfl ?_
      refine J.c rfl rfl (C.alloc (l := [_]) zeroValue3 rfl) ?_
      rintro _ _ ⟨b10, rfl, rfl⟩
      refine J.norm rfl ?_
      refine J.stJ rfl sizeOf3 rfl rfl rfl ?_
      refine J.nil <| J.then_n <| J.seq <| J.seq <| J.region ?_
      refine J.p rfl (Q.ldI isAgg3 rfl) ?_
      refine J.p rfl (Q.lss rfl rfl) <| J.nil <| J.then_n ?_
      refine J.kases 49 rfl (fun hc49 => ?_) (fun hc49 => ?_)
      ·
       try (first | (cases hc49; done) | (exfalso; omega) | (exfalso; simp at hc49; done))
       all_goals
        refine J.cond_t rfl <| J.seq <| J.region <| J.p rfl (Q.asg rfl) <| J.p rfl (Q.asg rfl) <| J.nil <| J.then_n <| J.cret <| J.then_r <| J.blk_r <| J.then_r <| J.lp_r <| J.blk_r <| J.then_r ?_
        obtain rfl : n = k := by omega
        refine J.unpackI [outerA bo offo n co ho, rowsA ho] ?_
        refine J.norm rfl ?_
        refine J.shutI [outerA bo offo n co ho, rowsA ho] (MatAt 22 (some ⟨bo, offo, none⟩) co (ho.map RowH.bs)) (fun h s => ⟨ho, rfl, by rw [List.length_map, lo]; exact s⟩) ?_
        refine J.unpackI [slAt 125 b1 (.slice (some ⟨b0, off0, none⟩) n c), outerA b0 off0 n c hs, rowsA hs] ?_
        refine J.norm rfl ?_
        exact J.ret2I [MatAt 22 (some ⟨bo, offo, none⟩) co (ho.map RowH.bs), outerA b0 off0 n c hs, rowsA hs] rfl rfl rfl ⟨_, _, _, rfl, ⟨_, hel⟩, rfl⟩
      try (first | (cases hc49; done) | (exfalso; omega) | (exfalso; simp at hc49; done))
      all_goals
       refine J.cond_f rfl <| J.cskip <| J.then_n <| J.seq <| J.region <| J.m rfl <| J.p rfl (Q.func rfl rfl) ?_
       obtain ⟨ha1, hha1⟩ : ∃ x, x = swapH ha k (k + pp) := ⟨_, rfl⟩
       obtain ⟨ho1, hho1⟩ : ∃ x, x = swapH ho k (k + pp) := ⟨_, rfl⟩
       obtain ⟨hel1, hz1⟩ := hel.swap (Nat.le_add_right k pp) hpp hpz
       rw [← swapH_bs (by omega) (by omega), ← hha1] at hel1 hz1
       rw [← swapH_bs (by omega) (by omega), ← hho1] at hel1
       refine J.pickI [slAt 125 b5 (.slice (some ⟨ba, offa, none⟩) n ca), slAt 125 b6 (.slice (some ⟨bo, offo, none⟩) n co), outerA ba offa n ca ha, rowsA ha, star [outerA bo offo n co ho, rowsA ho], numAt b9 k, numAt b10 pp] ?_
       refine J.norm rfl ?_
       refine J.pack [2, 3] rfl ?_
       refine J.pack [4, 5] rfl ?_
       refine J.callv call196 (both_spec b5 b6 (.slice (some ⟨ba, offa, none⟩) n ca) (.slice (some ⟨bo, offo, none⟩) n co) 199 [.pointer (some ⟨b9, 0, none⟩), .pointer (some ⟨b10, 0, none⟩)] (star [outerA ba offa n ca ha, rowsA ha]) (star [outerA ba offa n ca (swapH ha k (k + pp)), rowsA (swapH ha k (k + pp))]) (star [outerA bo offo n co ho, rowsA ho]) (star [outerA bo offo n co (swapH ho k (k + pp)), rowsA (swapH ho k (k + pp))]) (star [numAt b9 k, numAt b10 pp]) call199 (inv4s_spec n ha la ra hn2 ba offa ca b9 b10 k pp hkn hpp) (inv4s_spec n ho lo ro hn2 bo offo co b9 b10 k pp hkn hpp)) [2, 3, 1, 4, 0] rfl rfl rfl rfl rfl ?_
       rintro _ _ ⟨rfl, rfl⟩
       refine J.norm rfl ?_
       rw [← hha1, ← hho1]
       obtain ⟨la1, ra1⟩ := bs_len hel1.sa
       obtain ⟨lo1, ro1⟩ := bs_len hel1.so
       obtain ⟨rk, q1, q2, q3⟩ := vals_at n ha1 la1 ra1 hn2 hkn
       obtain ⟨sk, q4, q5, q6⟩ := vals_at n ho1 lo1 ro1 hn2 hkn
       obtain ⟨x, hx⟩ : ∃ x, rk.bs[k]? = some x := ⟨_, List.getElem?_eq_getElem (by omega)⟩
       have hgx : get2 (ha1.map RowH.bs) k k = x := by rw [get2_row (r := rk.bs) (by rw [List.getElem?_map, q1]; rfl), hx]; rfl
       rw [hgx] at hz1
       refine J.unpackI [outerA ba offa n ca ha1, rowsA ha1] ?_
       refine J.norm rfl ?_
       refine J.unpackI [numAt b9 k, numAt b10 pp] ?_
       refine J.norm rfl ?_
       refine J.slrStarI (f := RowH.asn) (E := 5) (sz := 1) (p := rk.p) (n := rk.bs.length) (c := rk.c) (xs := bytesV rk.bs) k q1 rfl fun hsl2 => ?_
       obtain ⟨bk, offk, hpk, hrdk⟩ := hsl2.some_ (by omega)
       rw [hpk] at q3
       refine J.pickI [rowsA ha1, outerA ba offa n ca ha1, slAt 125 b5 (.slice (some ⟨ba, offa, none⟩) n ca), numAt b9 k] ?_
       refine J.norm rfl <| J.nil <| J.then_n ?_
       refine J.cut (fun _ : Nat => True) (fun b11 => [(4, .int .i64 n), (5, .pointer (some ⟨b5, 0, none⟩)), (6, .pointer (some ⟨b6, 0, none⟩)), (8, .func (.func 196) ([] : List Value).toArray [.pointer (some ⟨b5, 0, none⟩), .pointer (some ⟨b6, 0, none⟩)].toArray), (9, .pointer (some ⟨b9, 0, none⟩)), (11, .pointer (some ⟨b11, 0, none⟩)), (39, .int .i64 n), (40, .int .i64 k)])
        (fun b11 => [rowsA ha1, outerA ba offa n ca ha1, slAt 125 b5 (.slice (some ⟨ba, offa, none⟩) n ca), numAt b9 k, byteAt b11 (gmul 1 (ginv x)), slAt 125 b6 (.slice (some ⟨bo, offo, none⟩) n co), star [outerA bo offo n co ho1, rowsA ho1], numAt b10 pp, star [slAt 125 b1 (.slice (some ⟨b0, off0, none⟩) n c), outerA b0 off0 n c hs, rowsA hs], F]) ?_ fun b11 _ => ?_
       ·
        refine J.drawE [7, 11, 12, 13] 4 Tryz.mixed (by kernel_rfl) rfl rfl fun hR => ?_
        refine RG.p 0 hR rfl (Q.ldI isAgg125 rfl) ?_
        refine RG.p 1 hR rfl (Q.ldI isAgg3 rfl) ?_
        refine RG.p 2 hR rfl (Q.ia runUnderlying125 sizeOf22 rfl rfl (by omega) (by omega)) <| RG.p 3 hR rfl (Q.ld isAgg22 rfl (rdO (b := ba) q3 (by omega))) ?_
        refine RG.p 4 hR rfl (Q.ldI isAgg3 rfl) ?_
        refine RG.p 5 hR rfl (Q.ia runUnderlying22 sizeOf5 rfl rfl (by omega) (by omega)) ?_
        refine RG.p 6 hR rfl (Q.ld isAgg5 rfl (((hrdk k (byteV x) (bytesV_at hx)).within (i := 0) rfl).cast (by simp))) ?_
        refine RG.many hR 7 [11] rfl ⟨?_, ⟨?_, trivial⟩⟩
        ·
         refine RGi.callkI rfl rfl rfl rfl call92 (div_spec 1 x hz1) rfl ?_
         rintro _ _ ⟨rfl, rfl⟩
         refine RG.normE rfl <| RG.p 8 hR rfl (Q.mv rfl) <| RG.p 9 hR rfl (Q.ext rfl rfl) <| RG.p 10 hR rfl (Q.ext rfl rfl) ?_
         refine RG.made 11 hR rfl rfl rfl rfl rfl (C.alloc (l := [_]) zeroValue5 rfl) ?_
         rintro b11
         refine RG.stkI 12 hR rfl rfl rfl rfl sizeOf5 rfl rfl rfl (by exact rfl) (by exact rfl) (by exact rfl) ?_
         refine RG.bar 13 hR rfl rfl rfl rfl rfl rfl (Q.asg rfl).toC ?_
         rintro _ _ ⟨rfl, rfl⟩
         refine RG.norm rfl ?_
         refine RG.fin hR rfl ?_
         refine J.norm rfl ?_
         exact J.meetI b11 trivial ⟨rfl, rfl, rfl, rfl, rfl, rfl, rfl, rfl, trivial⟩
        ·
         refine RGi.made rfl rfl rfl rfl (C.alloc (l := [_]) zeroValue5 rfl) ?_
         rintro b11
         refine RG.callkI 7 hR rfl rfl rfl rfl rfl call92 (div_spec 1 x hz1) rfl ?_
         rintro _ _ ⟨rfl, rfl⟩
         refine RG.normE rfl <| RG.p 8 hR rfl (Q.mv rfl) <| RG.p 9 hR rfl (Q.ext rfl rfl) <| RG.p 10 hR rfl (Q.ext rfl rfl) ?_
         refine RG.stkI 12 hR rfl rfl rfl rfl sizeOf5 rfl rfl rfl (by exact rfl) (by exact rfl) (by exact rfl) ?_
         refine RG.bar 13 hR rfl rfl rfl rfl rfl rfl (Q.asg rfl).toC ?_
         rintro _ _ ⟨rfl, rfl⟩
         refine RG.norm rfl ?_
         refine RG.fin hR rfl ?_
         refine J.norm rfl ?_
         exact J.meetI b11 trivial ⟨rfl, rfl, rfl, rfl, rfl, rfl, rfl, rfl, trivial⟩
       refine J.seq <| J.region <| J.m rfl <| J.p rfl (Q.func rfl rfl) ?_
       rw [one_gmul]
       have hin0 := hel1.scale (r := rk.bs) (s := sk.bs) hkn (by rw [hgx]; exact hz1) (by rw [List.getElem?_map, q1]; rfl) (by rw [List.getElem?_map, q4]; rfl)
       rw [hgx, ← rowSet_bs (by omega), ← rowSet_bs (by omega)] at hin0
       refine J.pickI [slAt 125 b5 (.slice (some ⟨ba, offa, none⟩) n ca), slAt 125 b6 (.slice (some ⟨bo, offo, none⟩) n co), outerA ba offa n ca ha1, rowsA ha1, star [outerA bo offo n co ho1, rowsA ho1], numAt b9 k, byteAt b11 (ginv x)] ?_
       refine J.norm rfl ?_
       refine J.pack [2, 3] rfl ?_
       refine J.pack [4, 5] rfl ?_
       refine J.callv call196 (both_spec b5 b6 (.slice (some ⟨ba, offa, none⟩) n ca) (.slice (some ⟨bo, offo, none⟩) n co) 200 [.pointer (some ⟨b9, 0, none⟩), .pointer (some ⟨b11, 0, none⟩)] (star [outerA ba offa n ca ha1, rowsA ha1]) (star [outerA ba offa n ca (rowSet ha1 k (mulRow rk.bs (ginv x))), rowsA (rowSet ha1 k (mulRow rk.bs (ginv x)))]) (star [outerA bo offo n co ho1, rowsA ho1]) (star [outerA bo offo n co (rowSet ho1 k (mulRow sk.bs (ginv x))), rowsA (rowSet ho1 k (mulRow sk.bs (ginv x)))]) (star [numAt b9 k, byteAt b11 (ginv x)]) call200 (inv5s_spec n ha1 la1 ra1 hn2 ba offa ca b9 b11 k hkn (ginv x) q1) (inv5s_spec n ho1 lo1 ro1 hn2 bo offo co b9 b11 k hkn (ginv x) q4)) [2, 3, 1, 4, 0] rfl rfl rfl rfl rfl ?_
       rintro _ _ ⟨rfl, rfl⟩
       refine J.norm rfl <| J.nil <| J.then_n <| J.seq <| J.region <| J.m rfl <| J.m rfl <| J.nil <| J.then_n <| J.block ?_
       obtain ⟨ha2, hha2⟩ : ∃ y, y = (rowSet ha1 k (mulRow rk.bs (ginv x))) := ⟨_, rfl⟩
       obtain ⟨ho2, hho2⟩ : ∃ y, y = (rowSet ho1 k (mulRow sk.bs (ginv x))) := ⟨_, rfl⟩
       rw [← hha2, ← hho2] at hin0 ⊢
       refine J.keepI [star [outerA bo offo n co ho2, rowsA ho2], star [outerA ba offa n ca ha2, rowsA ha2], slAt 125 b5 (.slice (some ⟨ba, offa, none⟩) n ca), slAt 125 b6 (.slice (some ⟨bo, offo, none⟩) n co), star [numAt b9 k, byteAt b11 (ginv x)], star [slAt 125 b1 (.slice (some ⟨b0, off0, none⟩) n c), outerA b0 off0 n c hs, rowsA hs], F] ?_
       refine J.loop3 (fun (i : Nat) (ha ho : List RowH) => i ≤ n ∧ ElIn n l k i (ha.map RowH.bs) (ho.map RowH.bs)) (fun i _ _ => n - i) (fun i _ _ => [(4, .int .i64 n), (5, .pointer (some ⟨b5, 0, none⟩)), (6, .pointer (some ⟨b6, 0, none⟩)), (8, .func (.func 196) ([] : List Value).toArray [.pointer (some ⟨b5, 0, none⟩), .pointer (some ⟨b6, 0, none⟩)].toArray), (9, .pointer (some ⟨b9, 0, none⟩)), (39, .int .i64 n), (40, .int .i64 k), (67, .int .i64 n), (68, .int .i64 i)])
         (fun _ ha ho => [star [outerA bo offo n co ho, rowsA ho], star [outerA ba offa n ca ha, rowsA ha], slAt 125 b5 (.slice (some ⟨ba, offa, none⟩) n ca), slAt 125 b6 (.slice (some ⟨bo, offo, none⟩) n co), star [numAt b9 k, byteAt b11 (ginv x)], star [slAt 125 b1 (.slice (some ⟨b0, off0, none⟩) n c), outerA b0 off0 n c hs, rowsA hs], F]) 0 ha2 ho2 ⟨Nat.zero_le _, hin0⟩ ⟨rfl, rfl, rfl, rfl, rfl, rfl, rfl, rfl, rfl, trivial⟩ rfl fun i ha3 ho3 hz3 => ?_
       obtain ⟨hi, hin⟩ := hz3
       obtain ⟨la3, ra3⟩ := bs_len hin.sa
       obtain ⟨lo3, ro3⟩ := bs_len hin.so
       refine J.seq <| J.region <| J.p rfl (Q.lss rfl rfl) <| J.nil <| J.then_n <| J.seq ?_
       refine J.kases 69 rfl (fun hc69 => ?_) (fun hc69 => ?_)
       ·
        try (first | (cases hc69; done) | (exfalso; omega) | (exfalso; simp at hc69; done))
        all_goals
         refine J.cond_t rfl <| J.cskip <| J.then_n <| J.seq <| J.block <| J.seq <| J.region <| J.m rfl ?_
         refine J.c rfl rfl (C.alloc (l := [_]) zeroValue3 rfl) ?_
         rintro _ _ ⟨b13, rfl, rfl⟩
         refine J.norm rfl ?_
         refine J.stJ rfl sizeOf3 rfl rfl rfl ?_
         refine J.nil <| J.then_n <| J.seq ?_
         have hin' : i < n := by omega
         have hn1 : n - (i + 1) < n - i := by omega
         have hia : i < ha3.length := by omega
         have hio : i < ho3.length := by omega
         obtain ⟨ri, w1, w2, w3⟩ := vals_at n ha3 la3 ra3 hn2 hin'
         obtain ⟨ok, w4, w5, w6⟩ := vals_at n ha3 la3 ra3 hn2 hkn
         obtain ⟨ri2, w7, _, _⟩ := vals_at n ho3 lo3 ro3 hn2 hin'
         obtain ⟨ok2, w8, _, _⟩ := vals_at n ho3 lo3 ro3 hn2 hkn
         obtain ⟨y, hy⟩ : ∃ y, ri.bs[k]? = some y := ⟨_, List.getElem?_eq_getElem (by omega)⟩
         have hgy : get2 (ha3.map RowH.bs) i k = y := by rw [get2_row (r := ri.bs) (by rw [List.getElem?_map, w1]; rfl), hy]; rfl
         refine J.unpackI [outerA ba offa n ca ha3, rowsA ha3] ?_
         refine J.norm rfl ?_
         refine J.unpackI [numAt b9 k, byteAt b11 (ginv x)] ?_
         refine J.norm rfl ?_
         refine J.slrStarI (f := RowH.asn) (E := 5) (sz := 1) (p := ri.p) (n := ri.bs.length) (c := ri.c) (xs := bytesV ri.bs) i w1 rfl fun hsl3 => ?_
         obtain ⟨bi, offi, hpi, hrdi⟩ := hsl3.some_ (by omega)
         rw [hpi] at w3
         refine J.pickI [rowsA ha3, outerA ba offa n ca ha3, slAt 125 b5 (.slice (some ⟨ba, offa, none⟩) n ca), numAt b9 k, numAt b13 i] ?_
         refine J.norm rfl ?_
         refine J.drawE [7, 8] 5 Tryz.mixed (by kernel_rfl) rfl rfl fun hR => ?_
         refine RG.p 0 hR rfl (Q.ldI isAgg125 rfl) ?_
         refine RG.p 1 hR rfl (Q.ldI isAgg3 rfl) ?_
         refine RG.p 2 hR rfl (Q.ia runUnderlying125 sizeOf22 rfl rfl (by omega) (by omega)) <| RG.p 3 hR rfl (Q.ld isAgg22 rfl (rdO (b := ba) w3 (by omega))) ?_
         refine RG.p 4 hR rfl (Q.ldI isAgg3 rfl) ?_
         refine RG.p 5 hR rfl (Q.ia runUnderlying22 sizeOf5 rfl rfl (by omega) (by omega)) ?_
         refine RG.p 6 hR rfl (Q.ld isAgg5 rfl (((hrdi k (byteV y) (bytesV_at hy)).within (i := 0) rfl).cast (by simp))) ?_
         refine RG.made 7 hR rfl rfl rfl rfl rfl (C.alloc (l := [_]) zeroValue5 rfl) ?_
         rintro b14
         refine RG.stI 8 hR rfl rfl rfl rfl rfl sizeOf5 rfl rfl rfl (by exact rfl) (by exact rfl) (by exact rfl) ?_
         refine RG.fin hR rfl ?_
         refine J.norm rfl <| J.then_n <| J.seq <| J.region ?_
         refine J.p rfl (Q.ldI isAgg3 rfl) ?_
         refine J.p rfl (Q.ldI isAgg3 rfl) ?_
         refine J.p rfl (Q.neq rfl rfl) <| J.m rfl ?_
         refine J.kases 81 rfl (fun hb81 => ?_) (fun hb81 => ?_)
         ·
          try (first | (cases hb81; done) | (exfalso; omega) | (exfalso; simp at hb81; done))
          all_goals
           refine J.p rfl (Q.ldI isAgg5 rfl) ?_
           refine J.p rfl (Q.neq rfl rfl) <| J.p rfl (Q.pick_t rfl rfl) <| J.nil <| J.then_n ?_
           refine J.kases 84 rfl (fun hc84 => ?_) (fun hc84 => ?_)
           ·
            try (first | (cases hc84; done) | (exfalso; omega) | (exfalso; simp at hc84; done))
            all_goals
             refine J.cond_t rfl <| J.region <| J.m rfl <| J.p rfl (Q.func rfl rfl) ?_
             have hik : i ≠ k := by omega
             refine J.pickI [slAt 125 b5 (.slice (some ⟨ba, offa, none⟩) n ca), slAt 125 b6 (.slice (some ⟨bo, offo, none⟩) n co), outerA ba offa n ca ha3, rowsA ha3, star [outerA bo offo n co ho3, rowsA ho3], numAt b13 i, numAt b9 k, byteAt b14 y] ?_
             refine J.norm rfl ?_
             refine J.pack [2, 3] rfl ?_
             refine J.pack [4, 5, 6] rfl ?_
             refine J.callv call196 (both_spec b5 b6 (.slice (some ⟨ba, offa, none⟩) n ca) (.slice (some ⟨bo, offo, none⟩) n co) 202 [.pointer (some ⟨b13, 0, none⟩), .pointer (some ⟨b9, 0, none⟩), .pointer (some ⟨b14, 0, none⟩)] (star [outerA ba offa n ca ha3, rowsA ha3]) (star [outerA ba offa n ca (rowSet ha3 i (addRow ri.bs ok.bs y)), rowsA (rowSet ha3 i (addRow ri.bs ok.bs y))]) (star [outerA bo offo n co ho3, rowsA ho3]) (star [outerA bo offo n co (rowSet ho3 i (addRow ri2.bs ok2.bs y)), rowsA (rowSet ho3 i (addRow ri2.bs ok2.bs y))]) (star [numAt b13 i, numAt b9 k, byteAt b14 y]) call202 (inv6s_spec n ha3 la3 ra3 hn2 ba offa ca b13 b9 b14 i k hin' hkn hik y w1 w4) (inv6s_spec n ho3 lo3 ro3 hn2 bo offo co b13 b9 b14 i k hin' hkn hik y w7 w8)) [2, 3, 1, 4, 0] rfl rfl rfl rfl rfl ?_
             rintro _ _ ⟨rfl, rfl⟩
             refine J.norm rfl <| J.nil <| J.blk_n <| J.then_n <| J.region <| J.p rfl (Q.add64 rfl rfl (by omega)) <| J.m rfl <| J.nil ?_
             have hpl := hin.plus (r := ri.bs) (s := ok.bs) (r' := ri2.bs) (s' := ok2.bs) hin' hkn hik (by rw [List.getElem?_map, w1]; rfl) (by rw [List.getElem?_map, w4]; rfl) (by rw [List.getElem?_map, w7]; rfl) (by rw [List.getElem?_map, w8]; rfl)
             rw [hgy, ← rowSet_bs hia, ← rowSet_bs hio] at hpl
             refine J.unpackI [numAt b13 i, numAt b9 k, byteAt b14 y] ?_
             refine J.norm rfl ?_
             refine J.pickI [numAt b9 k, byteAt b11 (ginv x)] ?_
             refine J.norm rfl ?_
             refine J.pack [0, 1] rfl ?_
             refine J.keepI [star [outerA bo offo n co (rowSet ho3 i (addRow ri2.bs ok2.bs y)), rowsA (rowSet ho3 i (addRow ri2.bs ok2.bs y))], star [outerA ba offa n ca (rowSet ha3 i (addRow ri.bs ok.bs y)), rowsA (rowSet ha3 i (addRow ri.bs ok.bs y))], slAt 125 b5 (.slice (some ⟨ba, offa, none⟩) n ca), slAt 125 b6 (.slice (some ⟨bo, offo, none⟩) n co), star [numAt b9 k, byteAt b11 (ginv x)], star [slAt 125 b1 (.slice (some ⟨b0, off0, none⟩) n c), outerA b0 off0 n c hs, rowsA hs], F] ?_
             exact J.again (i + 1, (rowSet ha3 i (addRow ri.bs ok.bs y)), (rowSet ho3 i (addRow ri2.bs ok2.bs y))) ⟨hin', hpl⟩ hn1 ⟨rfl, rfl, rfl, rfl, rfl, rfl, rfl, rfl, rfl, trivial⟩ rfl
           try (first | (cases hc84; done) | (exfalso; omega) | (exfalso; simp at hc84; done))
           all_goals
            refine J.cond_f rfl <| J.cskip <| J.blk_n <| J.then_n <| J.region <| J.p rfl (Q.add64 rfl rfl (by omega)) <| J.m rfl <| J.nil ?_
            have hy0 : y = 0 := by first | exact Classical.byContradiction fun h => hc84 (nz_of h) | exact Classical.byContradiction fun h => nz_of h hc84 | exact Classical.byContradiction fun h => nz_of h (Classical.not_not.1 hc84)
            refine J.pickI [outerA ba offa n ca ha3, rowsA ha3, numAt b9 k, byteAt b11 (ginv x)] ?_
            refine J.norm rfl ?_
            refine J.pack [0, 1] rfl ?_
            refine J.pack [1, 2] rfl ?_
            refine J.keepI [star [outerA bo offo n co ho3, rowsA ho3], star [outerA ba offa n ca ha3, rowsA ha3], slAt 125 b5 (.slice (some ⟨ba, offa, none⟩) n ca), slAt 125 b6 (.slice (some ⟨bo, offo, none⟩) n co), star [numAt b9 k, byteAt b11 (ginv x)], star [slAt 125 b1 (.slice (some ⟨b0, off0, none⟩) n c), outerA b0 off0 n c hs, rowsA hs], F] ?_
            exact J.again (i + 1, ha3, ho3) ⟨hin', hin.skip (.inr (by rw [hgy]; exact hy0))⟩ hn1 ⟨rfl, rfl, rfl, rfl, rfl, rfl, rfl, rfl, rfl, trivial⟩ rfl
         try (first | (cases hb81; done) | (exfalso; omega) | (exfalso; simp at hb81; done))
         all_goals
          refine J.k rfl <| J.k rfl <| J.p rfl (Q.pick_f rfl rfl) <| J.nil <| J.then_n <| J.cond_f rfl <| J.cskip <| J.blk_n <| J.then_n <| J.region <| J.p rfl (Q.add64 rfl rfl (by omega)) <| J.m rfl <| J.nil ?_
          refine J.pickI [outerA ba offa n ca ha3, rowsA ha3, numAt b9 k, byteAt b11 (ginv x)] ?_
          refine J.norm rfl ?_
          refine J.pack [0, 1] rfl ?_
          refine J.pack [1, 2] rfl ?_
          refine J.keepI [star [outerA bo offo n co ho3, rowsA ho3], star [outerA ba offa n ca ha3, rowsA ha3], slAt 125 b5 (.slice (some ⟨ba, offa, none⟩) n ca), slAt 125 b6 (.slice (some ⟨bo, offo, none⟩) n co), star [numAt b9 k, byteAt b11 (ginv x)], star [slAt 125 b1 (.slice (some ⟨b0, off0, none⟩) n c), outerA b0 off0 n c hs, rowsA hs], F] ?_
          exact J.again (i + 1, ha3, ho3) ⟨hin', hin.skip (.inl (by omega))⟩ hn1 ⟨rfl, rfl, rfl, rfl, rfl, rfl, rfl, rfl, rfl, trivial⟩ rfl
       try (first | (cases hc69; done) | (exfalso; omega) | (exfalso; simp at hc69; done))
       all_goals
        refine J.cond_f rfl <| J.exit <| J.then_x <| J.lp_x <| J.blk_x <| J.blk_n <| J.then_n <| J.region <| J.p rfl (Q.add64 rfl rfl (by omega)) <| J.m rfl <| J.nil ?_
        obtain rfl : n = i := by omega
        refine J.keepI [star [outerA bo offo n co ho3, rowsA ho3], star [outerA ba offa n ca ha3, rowsA ha3], slAt 125 b5 (.slice (some ⟨ba, offa, none⟩) n ca), slAt 125 b6 (.slice (some ⟨bo, offo, none⟩) n co), star [slAt 125 b1 (.slice (some ⟨b0, off0, none⟩) n c), outerA b0 off0 n c hs, rowsA hs], F] ?_
        exact J.again (k + 1, ha3, ho3) ⟨by omega, hin.next⟩ (by show n - (k + 1) < n - k; omega) ⟨rfl, rfl, rfl, rfl, rfl, rfl, trivial⟩ rfl
    try (first | (cases hc41; done) | (exfalso; omega) | (exfalso; simp at hc41; done))
    all_goals
     refine J.cond_f rfl <| J.exit <| J.then_x <| J.lp_x <| J.blk_x <| J.then_n <| J.seq <| J.region ?_
     refine J.p rfl (Q.ldI isAgg125 rfl) ?_
     refine J.p rfl (Q.asg rfl) <| J.p rfl (Q.asg rfl) <| J.nil <| J.then_n <| J.cret ?_
     obtain rfl : n = k := by omega
     refine J.unpackI [outerA bo offo n co ho, rowsA ho] ?_
     refine J.norm rfl ?_
     refine J.shutI [outerA bo offo n co ho, rowsA ho] (MatAt 22 (some ⟨bo, offo, none⟩) co (ho.map RowH.bs)) (fun h s => ⟨ho, rfl, by rw [List.length_map, lo]; exact s⟩) ?_
     refine J.unpackI [slAt 125 b1 (.slice (some ⟨b0, off0, none⟩) n c), outerA b0 off0 n c hs, rowsA hs] ?_
     refine J.norm rfl ?_
     exact J.ret2I [MatAt 22 (some ⟨bo, offo, none⟩) co (ho.map RowH.bs), outerA b0 off0 n c hs, rowsA hs] rfl rfl rfl ⟨_, _, _, rfl, ⟨_, hel⟩, rfl⟩
end Go.Proofs.YtblpcabdfbpcnaaGreatDoor
namespace Go.X
set_option linter.unusedSectionVars false
set_option linter.unusedSimpArgs false
set_option linter.unusedVariables false

def DSpec (P : Program) (f : FuncId) (args : List Value) : Prop :=
  ∀ (W0 w : World) (A : List Assn), Sat W0 w A → CallsD P f args.toArray .returning w fun e u' w' => u' = .returning ∧ (∃ v, e = .returned v) ∧ Sat W0 w' A

section
variable {P : Program} {W0 : World} {N : Nat} {ops : Array Oper} {Q : Exit → Act → World → Prop} {L : Slots} {A B D : List Assn} {rest : List Oper} {F : Assn}

theorem J.defer {f : FuncId} {xs : List Operand} {vs : List Value} {at_ : Array TypeId} {ty : TypeId} {pos : String} {aft : Array Edge} {g : Option (Nat × Bool)} (hg : guardL ops g L = some true) (he : evs L xs = some vs)
    (k : ∀ [i : Dfs], i.ds = [{ target := .fn (.func f) #[], args := vs.toArray }] → J W0 N L A (wpList P ops Q rest)) :
    J W0 N L A (wpList P ops Q (⟨none, .defer { callee := .value (.func f), args := xs.toArray, argTypes := at_ }, ty, pos, aft, g⟩ :: rest)) := by
  refine ⟨fun a w fr s => ?_⟩
  have hw := guardL_wanted (o := ⟨none, .defer { callee := .value (.func f), args := xs.toArray, argTypes := at_ }, ty, pos, aft, g⟩) fr hg
  unfold wpList
  rw [if_pos hw]
  refine Or.inl ?_
  have hx : xs.map a.eval = vs := evs_map (fun x hx u e => fr.eval e) he
  have ha : (xs.toArray).map a.eval = vs.toArray := by simp [hx]
  have hd : a.defers = [] := fr.defers
  have r : (execOp a.eval ⟨none, .defer { callee := .value (.func f), args := xs.toArray, argTypes := at_ }, ty, pos, aft, g⟩).run P w = .ok (.defer { target := .fn (.func f) #[], args := vs.toArray }) w := by
    simp [execOp, resolve, Act.eval, Deferred.ofValue, ha]
  unfold Oper.wp
  rw [r, Oper.upon_defer, hd]
  have h1 := fr.size
  have h2 := fr.get
  let i1 : Dfs := ⟨[{ target := .fn (.func f) #[], args := vs.toArray }]⟩
  have fr' : @Fr i1 N { tmps := a.tmps, defers := [{ target := .fn (.func f) #[], args := vs.toArray }] } L := @Fr.mk i1 _ _ _ h1 h2 rfl
  exact @J.run i1 _ _ _ _ _ (@k i1 rfl) _ w fr' s

theorem FSpec.ofD {f : FuncId} {fn : Func} {c : Code} {args : List Value} {R : Value → List Assn → Prop} (hf : P.funcs[f]? = some fn) (hb : fn.body = some c) (hn : fn.ntmps = N) (hl : Nat.ble args.length N = true)
    (h : ∀ (W0 : World) (F : Assn), J W0 N (argSlots 0 args) (A ++ [F]) (c.wp P (bodyPostD P fn (RetQ W0 R F)))) : FSpec P f args A R := by
  refine ⟨fun W0 w F s => calls_of_wp_defers hf hb ((h W0 F).run _ w ⟨?_, ?_, rfl⟩ s)⟩
  · have : args.length ≤ N := Nat.le_of_ble_eq_true hl
    simp [hn]; omega
  · intro t v e
    obtain ⟨_, h2⟩ := find_argSlots _ _ _ _ e
    simp only [Nat.sub_zero] at h2
    rw [Array.getElem?_append_left]
    · simpa using h2
    · rcases Nat.lt_or_ge t args.length with q | q
      · simpa using q
      · rw [List.getElem?_eq_none q] at h2; cases h2

theorem J.retD [i : Dfs] {fn : Func} {R : Value → List Assn → Prop} {f : FuncId} {vs : List Value} {s t : Nat} {T1 T2 : TypeId} {p q : Addr} {u1 u2 : Value} (B : List Assn) (hi : i.ds = [{ target := .fn (.func f) #[], args := vs.toArray }])
    (hcall : ∀ (args : Array Value) (w : World), (callFunc f args).run P w = .ok (.enter f args) w) (hd : DSpec P f vs)
    (hr : fn.results = #[.cell s T1, .cell t T2]) (hs : find s L = some (.pointer (some ⟨p.block, p.off, none⟩))) (ht : find t L = some (.pointer (some ⟨q.block, q.off, none⟩)))
    (h1 : ∀ w, (isAgg T1).run P w = .ok false w) (h2 : ∀ w, (isAgg T2).run P w = .ok false w) (r1 : Reads A p.block p.off u1) (r2 : Reads A q.block q.off u2)
    (hR : R (.tuple #[u1, u2]) B) [h : PickL A (B ++ [F]) D] : J W0 N L A (bodyPostD P fn (RetQ W0 R F) .ret) := by
  refine ⟨fun a w fr x => ?_⟩
  have e : a.defers = [{ target := .fn (.func f) #[], args := vs.toArray }] := by rw [fr.defers, hi]
  show Leaves P fn a.tmps _ a.defers .returning w
  rw [e]
  refine leaves_cons (by intro h; cases h) (f := f) (args := vs.toArray) (by simp [invoke, hcall]) ((hd W0 w _ x).mono ?_)
  rintro _ _ _ ⟨rfl, ⟨v, rfl⟩, x⟩
  have g1 : (a.tmps[s]?).getD undef = .pointer (some ⟨p.block, p.off, none⟩) := by rw [fr.get s _ hs]; rfl
  have g2 : (a.tmps[t]?).getD undef = .pointer (some ⟨q.block, q.off, none⟩) := by rw [fr.get t _ ht]; rfl
  have c1 := r1.cell x
  have c2 := r2.cell x
  refine ⟨.tuple #[u1, u2], ?_, .tuple #[u1, u2], B, rfl, hR, ?_⟩
  · simp [results, hr, g1, g2, asAddr, loadVar, h1, h2, c1, c2]
  · exact (x.perm h.perm).imp fun k y => by
      obtain ⟨k1, k2, p1, p2, d, u1, u2⟩ := y.append
      exact p1.mono u1
end

theorem eq_nn {P : Program} {T : TypeId} {ms : Array (String × TypeId)} (d : Nat) (hT : ∀ w, (underlying T).run P w = .ok (.interface ms) w) (w : World) : (Op.equalIn (d + 1) T .nilIface .nilIface).run P w = .ok true w := by
  simp [Op.equalIn, hT]
theorem Q.eqlnil {P : Program} {L : Slots} {D : List Assn} {ty T T' : TypeId} {ms : Array (String × TypeId)} {x : Operand} (hT : ∀ w, (underlying T).run P w = .ok (.interface ms) w) (ex : ev L x = some .nilIface) : OpQ P (.binOp .eql T x (.const .nilIface) T') ty L D (.bool true) :=
  Q.bin ex (y := .const .nilIface) (q := .nilIface) rfl fun w => by
    have he : (Op.equal T .nilIface .nilIface).run P w = .ok true w := eq_nn 9999 hT w
    cases x <;> simp [eqGuard, binOp, he]
end Go.X
namespace Go.X
set_option linter.unusedSectionVars false
set_option linter.unusedSimpArgs false
set_option linter.unusedVariables false

section
variable {P : Program} {L : Slots} {A D : List Assn} {ty T : TypeId} {x y : Operand} {k : IntKind}

theorem Q.iaA {E b off len sz : Nat} {i : Int} (hu : ∀ w, (underlying T).run P w = .ok (.array len E) w) (hs : ∀ w, (sizeOf E).run P w = .ok sz w) (ex : ev L x = some (.pointer (some ⟨b, off, none⟩))) (ey : ev L y = some (.int k i))
    (h0 : 0 ≤ i) (h1 : i < (len : Int)) : OpQ P (.indexAddr T x y) ty L D (.pointer (some ⟨b, off + i.toNat * sz, none⟩)) :=
  .pure_ fun _ _ _ _ a w ag => by
    simp [execOp, ag.at_ ex (by simp [Op.operands]), ag.at_ ey (by simp [Op.operands]), Instr.indexAt, asIntOf, hu, hs, h0, h1, addr_add, Instr.sureAddr]

theorem Q.slA {E b off len sz : Nat} (hu : ∀ w, (underlying T).run P w = .ok (.array len E) w) (hs : ∀ w, (sizeOf E).run P w = .ok sz w) (ex : ev L x = some (.pointer (some ⟨b, off, none⟩))) :
    OpQ P (.slice T x none none none) ty L D (.slice (some ⟨b, off, none⟩) len len) :=
  .pure_ fun _ _ _ _ a w ag => by
    simp [execOp, ag.at_ ex (by simp [Op.operands]), Instr.sliceAt, Instr.sliceBounds, hu, hs, addr_add, Instr.sureAddr]

theorem Q.bldA {len E sz : Nat} {zv : Value} {ps : List (Nat × Operand)} {vs l : List Value} {D : List Assn} (hu : ∀ w, (underlying T).run P w = .ok (.array len E) w) (hs : ∀ w, (sizeOf E).run P w = .ok sz w) (hz : ∀ w, (zeroValue T).run P w = .ok zv w)
    (ev_ : evs L (ps.map (·.2)) = some vs) (hl : Instr.fill (fun i : Nat => some (i * sz, sz)) zv.cells ((ps.map (·.1)).zip vs) = some l.toArray) : OpQ P (.build T ps.toArray) ty L D (.agg l.toArray) :=
  .pure_ fun _ _ _ _ a w ag => by
    have hx : (ps.map (·.2)).map a.eval = vs := evs_map (fun x hx => ag x (by simpa [Op.operands] using hx)) ev_
    have hpp : (ps.map fun q => (q.1, a.eval q.2)) = (ps.map (·.1)).zip vs := by
      rw [← hx]; clear hx hl ev_ ag
      induction ps with
      | nil => rfl
      | cons q r ih => simp [ih]
    have hpar : (Array.map (fun q : Nat × Operand => (q.1, a.eval q.2)) ps.toArray).toList = (ps.map (·.1)).zip vs := by simpa using hpp
    simp only [execOp, Instr.build, Sem.run_bind, hz, hu, hs, Result.andThen_ok, hpar, hl, Sem.run_pure]

theorem Q.com {n : Int} (hk : k.signed = false) (ex : ev L x = some (.int k n)) : OpQ P (.unOp .xor T x) ty L D (.int k (k.wrap (BitVec.ofInt k.bits k.max ^^^ BitVec.ofInt k.bits n).toNat)) :=
  .pure_ fun _ _ _ _ a w ag => by
    simp [execOp, ag.at_ ex (by simp [Op.operands]), Op.unary, hk, Op.intBits]

theorem splice_at : ∀ (vs l : List Value) (o : Nat), o + vs.length ≤ l.length → splice l o vs = l.take o ++ vs ++ l.drop (o + vs.length)
  | [], l, o, _ => by simp [splice]
  | v :: vs, l, o, h => by
    simp only [List.length_cons] at h
    rw [splice, splice_at vs _ _ (by simp; omega)]
    rw [List.take_set, List.drop_set_of_lt (by omega)]
    have e : (l.take (o + 1)).set o v = l.take o ++ [v] := by
      rw [List.take_succ_eq_append_getElem (by omega), List.set_append_right _ _ (by simp; omega)]
      have : min o l.length = o := by omega
      simp [this]
    rw [e]; simp [Nat.add_assoc, Nat.add_comm 1]

theorem C.copyI {E E2 n c m c2 b off : Nat} {T T2 : TypeId} {p2 : Option Addr} {xs ys : List Value} (hu : ∀ w, (underlying T).run P w = .ok (.slice E) w) (hs : ∀ w, (sizeOf E).run P w = .ok 1 w)
    (ex : evs L [x, y] = some [.slice (some ⟨b, off, none⟩) n c, .slice p2 m c2]) [h : OwnB A b E2 1 off n c xs D] (hy : SlR A 1 (.slice p2 m c2) ys) (hm : m ≤ n) (hx : xs.length = n) (hone : ∀ v, v ∈ ys → oneC v = true) :
    OpC P (.call { callee := .builtin .copy, args := #[x, y], argTypes := #[T, T2] }) ty L A (fun u B => u = .int .i64 m ∧ B = own E2 1 (.slice (some ⟨b, off, none⟩) n c) (ys ++ xs.drop m) :: D) := by
  refine ⟨fun dst pos aft g a W0 w ag s K Q k => ?_⟩
  obtain ⟨m', hl', hyl, hf⟩ := hy.first s
  have hmm : m' = m := by simp [Builtin.lenOf] at hl'; exact hl'.symm
  subst hmm
  have s1 := s.perm h.perm
  have hyl2 : ys.length = m' := by omega
  obtain ⟨w', r1, s2⟩ := run_storeO (P := P) (i := 0) (vs := ys) (j := 0) s1 rfl (by omega) hone
  have e := evs_map (l := [x, y]) (fun z hz => ag z (by simp only [Op.operands, Call.operands]; simpa using hz)) ex
  simp only [List.map_cons, List.map_nil, List.cons.injEq, and_true] at e
  obtain ⟨e1, e2⟩ := e
  have hmin : Nat.min m' n = m' := Nat.min_eq_left hm
  have hr : (execOp a.eval ⟨dst, .call { callee := .builtin .copy, args := #[x, y], argTypes := #[T, T2] }, ty, pos, aft, g⟩).run P w = .ok (.value (.int .i64 m')) w' := by
    simp only [Nat.add_zero] at r1
    have hl2 : ∀ w, (Builtin.lenOf (.slice p2 m' c2)).run P w = .ok m' w := fun _ => rfl
    simp [execOp, resolve, invoke, builtin, Builtin.copy_, e1, e2, hu, hs, hl2, hmin, goInt]
    rw [hf]
    simp [r1]
  unfold Oper.wp
  rw [hr, Oper.upon_value]
  refine k _ _ _ ⟨rfl, ?_⟩ s2
  rw [splice_at _ _ _ (by omega), List.take_zero, Nat.zero_add, hyl2]; rfl
end

section
variable [Dfs] {α β γ : Type} {P : Program} {W0 : World} {N : Nat} {Q : Exit → Act → World → Prop} {L : Slots} {A F : List Assn} {c : Code}
theorem J.loopI (I : α → Prop) (m : α → Nat) (Ls : α → Slots) (As : α → List Assn) (x0 : α) (h0 : I x0) (hL : Knows L (Ls x0)) [h : PickL A (As x0) F]
    (round : ∀ x, I x → J W0 N (Ls x) (As x) (c.wp P (LoopQ W0 N I m Ls As x Q))) : J W0 N L A ((Code.loop c).wp P Q) :=
  J.keepI (As x0) (F := F) (J.loop I m Ls As x0 h0 hL rfl round)
theorem J.loop2I (I : α → β → Prop) (m : α → β → Nat) (Ls : α → β → Slots) (As : α → β → List Assn) (x0 : α) (y0 : β) (h0 : I x0 y0) (hL : Knows L (Ls x0 y0)) [h : PickL A (As x0 y0) F]
    (round : ∀ x y, I x y → J W0 N (Ls x y) (As x y) (c.wp P (LoopQ W0 N (fun z : α × β => I z.1 z.2) (fun z => m z.1 z.2) (fun z => Ls z.1 z.2) (fun z => As z.1 z.2) (x, y) Q))) : J W0 N L A ((Code.loop c).wp P Q) :=
  J.keepI (As x0 y0) (F := F) (J.loop2 I m Ls As x0 y0 h0 hL rfl round)
theorem J.loop3I (I : α → β → γ → Prop) (m : α → β → γ → Nat) (Ls : α → β → γ → Slots) (As : α → β → γ → List Assn) (x0 : α) (y0 : β) (z0 : γ) (h0 : I x0 y0 z0) (hL : Knows L (Ls x0 y0 z0)) [h : PickL A (As x0 y0 z0) F]
    (round : ∀ x y u, I x y u → J W0 N (Ls x y u) (As x y u) (c.wp P (LoopQ W0 N (fun z : α × β × γ => I z.1 z.2.1 z.2.2) (fun z => m z.1 z.2.1 z.2.2) (fun z => Ls z.1 z.2.1 z.2.2) (fun z => As z.1 z.2.1 z.2.2) (x, y, u) Q))) : J W0 N L A ((Code.loop c).wp P Q) :=
  J.keepI (As x0 y0 z0) (F := F) (J.loop3 I m Ls As x0 y0 z0 h0 hL rfl round)
end

section
variable [Dfs] {W0 : World} {N : Nat} {L : Slots} {A D : List Assn} {G : Act → World → Prop}
theorem J.addoneI {α : Type} {f : α → Assn} {l : List α} (x : α) [h : PickL A [f x, star (l.map f)] D] (k : J W0 N L (star ((l ++ [x]).map f) :: D) G) : J W0 N L A G :=
  k.imp fun q s => by
    have s1 : HSat q ([f x, star (l.map f)] ++ D) := s.perm h.perm
    have s2 : HSat q (f x :: (l.map f ++ D)) := HSat.under (A := f x) s1 (fun _ s => HSat.unpack s)
    have hp : (f x :: (l.map f)).Perm ((l ++ [x]).map f) := by
      rw [List.map_append]; exact (List.perm_append_singleton _ _).symm
    exact HSat.pack (HSat.perm (As := (f x :: l.map f) ++ D) (hp.append_right D) s2)
end

theorem slr_part {D : List Assn} {b off n c k m : Nat} {xs : List Value} (h : ReadsN D b off xs) (hl : xs.length = n) (hk : k + m ≤ n) (hc : n ≤ c) :
    ∃ (o2 : Option Addr) (d2 : Nat), SlR D 1 (.slice o2 m d2) ((xs.drop k).take m) ∧ Value.slice (some ⟨b, off + (if c = k then 0 else k) * 1, none⟩) (k + m - k) (c - k) = .slice o2 m d2 := by
  refine ⟨_, _, ?_, by rw [Nat.add_sub_cancel_left]⟩
  by_cases e : m = 0
  · subst e
    exact .inl ⟨_, c - k, rfl, rfl⟩
  · rw [if_neg (by omega), Nat.mul_one]
    refine .inr ⟨b, off + k, m, c - k, rfl, by rw [List.length_take, List.length_drop]; omega, fun j u hu => ?_⟩
    have hj : j < m := by
      have := (List.getElem?_eq_some_iff.1 hu).1
      rw [List.length_take] at this; omega
    rw [List.getElem?_take_of_lt hj, List.getElem?_drop] at hu
    have := h (k + j) u hu
    rwa [← Nat.add_assoc] at this
theorem bytesV_part (bs : List UInt8) (k m : Nat) : bytesV ((bs.drop k).take m) = ((bytesV bs).drop k).take m := by simp [bytesV]
theorem bytesV_len (bs : List UInt8) : (bytesV bs).length = bs.length := by simp [bytesV]

theorem J.slrAllI [Dfs] {W0 : World} {N : Nat} {L : Slots} {A D : List Assn} {G : Act → World → Prop} {α : Type} {f : α → Assn} {l : List α} {E sz : Nat} {p : α → Option Addr} {n c : α → Nat} {xs : α → List Value}
    (hf : ∀ x, f x = own E sz (.slice (p x) (n x) (c x)) (xs x)) [h : PickO A (star (l.map f)) D] (j : (∀ x, x ∈ l → SlR [star (l.map f)] sz (.slice (p x) (n x) (c x)) (xs x)) → J W0 N L A G) : J W0 N L A G := by
  refine J.tellsI (star (l.map f)) (fun q hq x hx => ?_) j
  obtain ⟨k, hk⟩ := List.getElem?_of_mem hx
  have hm : (l.map f)[k]? = some (own E sz (.slice (p x) (n x) (c x)) (xs x)) := by rw [List.getElem?_map, hk]; exact congrArg some (hf x)
  obtain ⟨q', hq', _⟩ := HSat.at_ hq hm
  exact SlR.into k (own.slr (i := 0) rfl ⟨q', q', fun _ => none, hq', trivial, fun _ => .inr rfl, Sub.refl _, fun _ _ e => nomatch e⟩) hm
end Go.X
namespace Go.Proofs.YtblpcabdfbpcnaaGreatDoor
open Go.Proofs.Tryz
open Go.X Go.X.T

theorem told_spec (x y : Value) : DSpec Tryz.prog 64 [x, y] := by
  intro W0 w A s
  refine callsD_of_wpS func64 rfl fun c0 cs hm => ?_
  refine wpS_seq (wpS_region ?_)
  have hr : recoverD (c0 :: cs) = none := by simp [recoverD, hm]
  have e2 : ∀ (a : Act) (dst : Option Tmp) (ty : TypeId) (pos : String) (aft : Array Edge) (g : Option (Nat × Bool)) (ts : Array TypeId), (execOp a.eval ⟨dst, .call { callee := .builtin .recover, args := #[], argTypes := ts }, ty, pos, aft, g⟩).run Tryz.prog w = .ok .recover w := by
    intro a dst ty pos aft g ts
    simp [execOp, resolve, invoke, builtin]
  simp only [wpOpsS, hr, e2, Region.wanted, List.size_toArray, List.length_cons, List.length_nil, List.range, List.range.loop, List.getElem?_toArray, List.getElem?_cons_zero, if_true, Nat.zero_add]
  refine wpS_of_wp ?_
  refine J.run (W0 := W0) (N := 18) (L := [(7, Value.nilIface)]) (A := A) ?_ _ w ⟨?_, ?_, rfl⟩ s
  · refine J.block <| J.seq <| J.region <| J.p rfl (Q.eqlnil runUnderlying20 rfl) <| J.nil <| J.then_n <| J.cond_t rfl <| J.region <| J.p rfl (Q.asg rfl) <| J.nil <| J.blk_n ⟨fun a w' f s' => ?_⟩
    exact ⟨f.defers, .returning, by rw [← hm], .tuple #[], results_none rfl _ _ _, rfl, ⟨_, rfl⟩, s'⟩
  · simp [Act.put]
  · intro t v e
    simp only [find] at e
    cases hb : Nat.beq t 7 with
    | true => rw [hb] at e; simp at e; rw [beq_iff] at hb; subst hb; subst e; simp [Act.put]
    | false => rw [hb] at e; simp at e

theorem alike_spec (n s : Nat) (G : Assn) (sp : Option Addr) (sc : Nat) (hs : List RowH) (hl : hs.length = n) (hn : n ≤ 1000) (hsz : s ≤ 70368744177664) (hrd : SlR [G] 1 (.slice sp n sc) (hs.map RowH.val))
    (hall : ∀ r, r ∈ hs → r.bs.length = 0 ∨ r.bs.length = s) :
    FSpec Tryz.prog 66 [.int .i64 n, .slice sp n sc] [G] (fun v B => ∃ m : Nat, v = .int .i64 m ∧ m ≤ s ∧ (∀ r, r ∈ hs → r.bs.length ≤ m) ∧ B = [G]) := by
  refine FSpec.of func66 rfl ntmps66 rfl fun W0 F => ?_
  refine J.seq <| J.region <| J.p rfl (Q.asg rfl) <| J.nil <| J.then_n <| J.seq <| J.region <| J.p rfl (Q.asg rfl) <| J.nil <| J.then_n <| J.seq <| J.seq <| J.region <| J.m rfl <| J.p rfl (Q.lenSl runUnderlying45 rfl) <| J.m rfl <| J.p rfl (Q.neq rfl rfl) <| J.nil <| J.then_n ?_
  refine J.cases 11 rfl (fun hc11 => ?_) (fun hc11 => ?_)
  ·
   exact absurd hc11 (by simp)
  replace hc11 := X.nm hc11
  try (first | (cases hc11; done) | (exfalso; simp at hc11; done))
  all_goals
   refine J.cond_f rfl <| J.cskip <| J.then_n <| J.seq <| J.seq <| J.region <| J.m rfl <| J.p rfl (Q.lenSl runUnderlying45 rfl) <| J.m rfl <| J.nil <| J.then_n <| J.block ?_
   refine J.loop2 (fun (k m : Nat) => k ≤ n ∧ (m = 0 ∨ m = s) ∧ ∀ (i : Nat) r, hs[i]? = some r → i < k → r.bs.length ≤ m) (fun k _ => n - k) (fun k m => [(0, .int .i64 n), (1, .slice sp n sc), (5, .int .i64 m), (13, .slice sp n sc), (14, .int .i64 n), (15, .int .i64 k)]) (fun _ _ => [G, F]) 0 0 ⟨by omega, .inl rfl, fun i r _ h => by omega⟩ ⟨rfl, rfl, rfl, rfl, rfl, rfl, trivial⟩ rfl fun k m hz => ?_
   obtain ⟨hz1, hz2, hz3⟩ := hz
   refine J.seq <| J.region <| J.p rfl (Q.lss rfl rfl) <| J.nil <| J.then_n <| J.seq ?_
   refine J.kases 16 rfl (fun hc16 => ?_) (fun hc16 => ?_)
   ·
    try (first | (cases hc16; done) | (exfalso; simp at hc16; done))
    all_goals
     refine J.cond_t rfl <| J.cskip <| J.then_n <| J.seq <| J.block <| J.seq ?_
     obtain ⟨b, off, rfl, hr⟩ := hrd.some_ (by omega)
     obtain ⟨r, h1⟩ : ∃ r, hs[k]? = some r := ⟨_, List.getElem?_eq_getElem (by omega)⟩
     have hr2 : (hs.map RowH.val)[k]? = some r.val := by rw [List.getElem?_map, h1]; rfl
     have hlen := hall r (List.mem_of_getElem? h1)
     refine J.region <| J.p rfl (Q.ia runUnderlying45 sizeOf22 rfl rfl (by omega) (by omega)) ?_
     refine J.p rfl (Q.ld isAgg22 rfl (((hr k _ hr2).within (i := 0) rfl).cast (by simp))) ?_
     refine J.p rfl (Q.asg rfl) <| J.nil <| J.then_n <| J.seq <| J.seq <| J.region <| J.m rfl <| J.p rfl (Q.lenSl runUnderlying22 rfl) <| J.p rfl (Q.gtr rfl rfl) <| J.m rfl ?_
     refine J.kases 22 rfl (fun hb22 => ?_) (fun hb22 => ?_)
     ·
      try (first | (cases hb22; done) | (exfalso; simp at hb22; done))
      all_goals
       refine J.m rfl <| J.p rfl (Q.gtr rfl rfl) <| J.p rfl (Q.pick_t rfl rfl) <| J.m rfl ?_
       refine J.kases 26 rfl (fun hb26 => ?_) (fun hb26 => ?_)
       ·
        try (first | (cases hb26; done) | (exfalso; simp at hb26; done))
        all_goals
         refine J.m rfl <| J.p rfl (Q.lenSl runUnderlying22 rfl) <| J.m rfl <| J.p rfl (Q.neq rfl rfl) <| J.p rfl (Q.pick_t rfl rfl) <| J.nil <| J.then_n ?_
         refine J.cases 31 rfl (fun hc31 => ?_) (fun hc31 => ?_)
         ·
          have h31 := X.nm hc31; exfalso; omega
         replace hc31 := X.nm hc31
         try (first | (cases hc31; done) | (exfalso; simp at hc31; done))
         all_goals
          refine J.cond_f rfl <| J.cskip <| J.then_n <| J.region <| J.m rfl <| J.m rfl <| J.p rfl (Q.lenSl runUnderlying22 rfl) <| J.p rfl (Q.maxI rfl) <| J.p rfl (Q.asg rfl) <| J.nil <| J.blk_n <| J.then_n <| J.region <| J.p rfl (Q.add64 rfl rfl (by omega)) <| J.m rfl <| J.nil ?_
          have e : (if (r.bs.length : Int) > (m : Int) then (r.bs.length : Int) else (m : Int)) = ((max m r.bs.length : Nat) : Int) := by split <;> omega
          refine J.slot 5 (.int .i64 ((max m r.bs.length : Nat) : Int)) rfl (congrArg _ e) ?_
          refine J.again (k + 1, max m r.bs.length) ⟨by omega, by omega, fun i r' h hi => ?_⟩ (by show n - (k + 1) < n - k; omega) ⟨rfl, rfl, rfl, rfl, rfl, rfl, trivial⟩ rfl
          by_cases e2 : i = k
          · subst e2; rw [h1] at h; cases h; omega
          · have := hz3 i r' h (by omega); omega
       try (first | (cases hb26; done) | (exfalso; simp at hb26; done))
       all_goals
        refine J.k rfl <| J.k rfl <| J.k rfl <| J.k rfl <| J.p rfl (Q.pick_f rfl rfl) <| J.nil <| J.then_n <| J.cond_f rfl <| J.cskip <| J.then_n <| J.region <| J.m rfl <| J.m rfl <| J.p rfl (Q.lenSl runUnderlying22 rfl) <| J.p rfl (Q.maxI rfl) <| J.p rfl (Q.asg rfl) <| J.nil <| J.blk_n <| J.then_n <| J.region <| J.p rfl (Q.add64 rfl rfl (by omega)) ?_
        refine J.m rfl <| J.nil ?_
        have e : (if (r.bs.length : Int) > (m : Int) then (r.bs.length : Int) else (m : Int)) = ((max m r.bs.length : Nat) : Int) := by split <;> omega
        refine J.slot 5 (.int .i64 ((max m r.bs.length : Nat) : Int)) rfl (congrArg _ e) ?_
        refine J.again (k + 1, max m r.bs.length) ⟨by omega, by omega, fun i r' h hi => ?_⟩ (by show n - (k + 1) < n - k; omega) ⟨rfl, rfl, rfl, rfl, rfl, rfl, trivial⟩ rfl
        by_cases e2 : i = k
        · subst e2; rw [h1] at h; cases h; omega
        · have := hz3 i r' h (by omega); omega
     try (first | (cases hb22; done) | (exfalso; simp at hb22; done))
     all_goals
      refine J.k rfl <| J.k rfl <| J.p rfl (Q.pick_f rfl rfl) <| J.m rfl <| J.k rfl <| J.k rfl <| J.k rfl <| J.k rfl <| J.p rfl (Q.pick_f rfl rfl) <| J.nil <| J.then_n <| J.cond_f rfl <| J.cskip <| J.then_n <| J.region <| J.m rfl <| J.m rfl <| J.p rfl (Q.lenSl runUnderlying22 rfl) <| J.p rfl (Q.maxI rfl) ?_
      refine J.p rfl (Q.asg rfl) <| J.nil <| J.blk_n <| J.then_n <| J.region <| J.p rfl (Q.add64 rfl rfl (by omega)) <| J.m rfl <| J.nil ?_
      have e : (if (r.bs.length : Int) > (m : Int) then (r.bs.length : Int) else (m : Int)) = ((max m r.bs.length : Nat) : Int) := by split <;> omega
      refine J.slot 5 (.int .i64 ((max m r.bs.length : Nat) : Int)) rfl (congrArg _ e) ?_
      refine J.again (k + 1, max m r.bs.length) ⟨by omega, by omega, fun i r' h hi => ?_⟩ (by show n - (k + 1) < n - k; omega) ⟨rfl, rfl, rfl, rfl, rfl, rfl, trivial⟩ rfl
      by_cases e2 : i = k
      · subst e2; rw [h1] at h; cases h; omega
      · have := hz3 i r' h (by omega); omega
   try (first | (cases hc16; done) | (exfalso; simp at hc16; done))
   all_goals
    refine J.cond_f rfl <| J.exit <| J.then_x <| J.lp_x <| J.blk_x <| J.then_n <| J.seq <| J.region <| J.m rfl <| J.p rfl (Q.asg rfl) <| J.nil <| J.then_n <| J.cret ?_
    refine J.ret1 (B := [G]) rfl rfl ⟨m, rfl, by omega, fun r hr => ?_, rfl⟩ rfl
    obtain ⟨i, hi⟩ := List.getElem?_of_mem hr
    have := (List.getElem?_eq_some_iff.1 hi).1
    exact hz3 i r hi (by omega)

theorem indexB_spec (G : Assn) (sp : Option Addr) (sn sc : Nat) (vals : List Value) (fid : FuncId) (cap : List Value) (q : Nat → Bool)
    (hcall : ∀ (args : Array Value) (w : World), (callFunc fid args).run Tryz.prog w = .ok (.enter fid args) w)
    (hs : SlR [G] 1 (.slice sp sn sc) vals) (hn : sn ≤ 140737488355328)
    (hf : ∀ i u, vals[i]? = some u → FSpec Tryz.prog fid ([] ++ [u] ++ cap) [G] (fun v B => v = .bool (q i) ∧ B = [G])) :
    FSpec Tryz.prog 181 [.slice sp sn sc, .func (.func fid) ([] : List Value).toArray cap.toArray] [G] (fun v B => ∃ r : Int, v = .int .i64 r ∧ First sn q r ∧ B = [G]) := by
  refine FSpec.of func181 rfl ntmps181 rfl fun W0 F => ?_
  refine J.seq <| J.region <| J.p rfl (Q.asg rfl) <| J.nil <| J.then_n <| J.seq <| J.seq <| J.region <| J.m rfl <| J.p rfl (Q.lenSl runUnderlying45 rfl) <| J.m rfl <| J.nil <| J.then_n <| J.block ?_
  have hlen : vals.length = sn := by have := hs.len; simpa using this
  refine J.loop (fun k : Nat => k ≤ sn ∧ ∀ i, i < k → q i = false) (fun k => sn - k) (fun k => [(0, .slice sp sn sc), (1, .func (.func fid) ([] : List Value).toArray cap.toArray), (7, .int .i64 sn), (8, .int .i64 k)]) (fun _ => [G, F]) 0 ⟨by omega, fun i h => by omega⟩ ⟨rfl, rfl, rfl, rfl, trivial⟩ rfl fun k hk => ?_
  obtain ⟨hk, hno⟩ := hk
  refine J.seq <| J.region <| J.p rfl (Q.lss rfl rfl) <| J.nil <| J.then_n <| J.seq ?_
  refine J.kases 9 rfl (fun hc9 => ?_) (fun hc9 => ?_)
  ·
   refine J.cond_t rfl <| J.cskip <| J.then_n <| J.seq <| J.block <| J.seq <| J.region ?_
   obtain ⟨b, off, rfl, hrd⟩ := hs.some_ (by omega)
   obtain ⟨u, hu⟩ : ∃ u, vals[k]? = some u := ⟨_, List.getElem?_eq_getElem (by omega)⟩
   refine J.m rfl <| J.p rfl (Q.asg rfl) <| J.nil <| J.then_n <| J.seq <| J.region <| J.m rfl <| J.m rfl <| J.m rfl <| J.p rfl (Q.ia runUnderlying45 sizeOf22 rfl rfl (by omega) (by omega)) ?_
   refine J.p rfl (Q.ld isAgg22 rfl (((hrd k u hu).within (i := 0) rfl).cast (by simp))) ?_
   refine J.callv hcall (hf k u hu) [0] rfl rfl rfl rfl rfl ?_
   rintro _ _ ⟨rfl, rfl⟩
   refine J.norm rfl <| J.nil <| J.then_n ?_
   refine J.kases 16 rfl (fun hc16 => ?_) (fun hc16 => ?_)
   ·
    refine J.cond_t rfl <| J.seq <| J.region <| J.m rfl <| J.p rfl (Q.asg rfl) <| J.nil <| J.then_n <| J.cret <| J.blk_r <| J.then_r <| J.lp_r <| J.blk_r <| J.then_r ?_
    refine J.ret1 (B := [G]) rfl rfl ⟨_, rfl, .inr ⟨k, rfl, by omega, hc16⟩, rfl⟩ rfl
   refine J.cond_f rfl <| J.cskip <| J.blk_n <| J.then_n <| J.region <| J.p rfl (Q.add64 rfl rfl (by omega)) <| J.m rfl <| J.nil ?_
   have hno2 : ∀ i, i < k + 1 → q i = false := fun i hi => by
    by_cases e : i = k
    · subst e; exact hc16
    · exact hno i (by omega)
   refine J.again (k + 1) ⟨by omega, hno2⟩ (by omega) ⟨rfl, rfl, rfl, rfl, trivial⟩ rfl
  refine J.cond_f rfl <| J.exit <| J.then_x <| J.lp_x <| J.blk_x <| J.then_n <| J.seq <| J.region <| J.p rfl (Q.asg rfl) <| J.nil <| J.then_n <| J.cret ?_
  refine J.ret1 (B := [G]) rfl rfl ⟨_, rfl, .inl ⟨rfl, fun i hi => hno i (by omega)⟩, rfl⟩ rfl

theorem missing1_spec (G : Assn) (p : Option Addr) (n c : Nat) : FSpec Tryz.prog 182 [.slice p n c] [G] (fun v B => v = .bool (decide ((n : Int) = 0)) ∧ B = [G]) := by
  refine FSpec.of func182 rfl ntmps182 rfl fun W0 F => ?_
  refine J.seq <| J.region <| J.p rfl (Q.asg rfl) <| J.nil <| J.then_n <| J.seq <| J.region <| J.m rfl <| J.p rfl (Q.lenSl runUnderlying22 rfl) <| J.p rfl (Q.eql rfl rfl) <| J.p rfl (Q.asg rfl) <| J.nil <| J.then_n <| J.cret ?_
  refine J.ret1 (B := [G]) rfl rfl ⟨rfl, rfl⟩ rfl

theorem missing_spec (n : Nat) (G : Assn) (sp : Option Addr) (sc : Nat) (hs : List RowH) (hl : hs.length = n) (hn : n ≤ 1000) (hrd : SlR [G] 1 (.slice sp n sc) (hs.map RowH.val)) :
    FSpec Tryz.prog 113 [.slice sp n sc] [G] (fun v B => ∃ r : Int, v = .int .i64 r ∧ First n (fun i => decide (((hs[i]?.map (·.bs.length)).getD 0 : Int) = 0)) r ∧ B = [G]) := by
  refine FSpec.of func113 rfl ntmps113 rfl fun W0 F => ?_
  refine J.seq <| J.region <| J.p rfl (Q.asg rfl) <| J.nil <| J.then_n <| J.seq <| J.region <| J.m rfl ?_
  refine J.call call181 (indexB_spec G sp n sc (hs.map RowH.val) 182 [] (fun i => decide (((hs[i]?.map (·.bs.length)).getD 0 : Int) = 0)) call182 hrd (by omega) (fun i u hu => by rw [List.getElem?_map] at hu; obtain ⟨r, hr, rfl⟩ := Option.map_eq_some_iff.1 hu; rw [hr]; exact missing1_spec G r.p r.bs.length r.c)) [0] rfl rfl rfl rfl ?_
  rintro _ _ ⟨r, rfl, hr, rfl⟩
  refine J.norm rfl <| J.p rfl (Q.asg rfl) <| J.nil <| J.then_n <| J.cret ?_
  refine J.ret1 (B := [G]) rfl rfl ⟨r, rfl, hr, rfl⟩ rfl

def prodL (a : U) : List U := (List.range 256).map fun i => gmul a (UInt8.ofNat i)
theorem products_spec (a : U) : FSpec Tryz.prog 183 [byteV a] [] (fun v B => v = .agg (bytesV (prodL a)).toArray ∧ B = []) := by
  refine FSpec.of func183 rfl ntmps183 rfl fun W0 F => ?_
  refine J.seq <| J.region ?_
  refine J.c rfl rfl (C.alloc (l := List.replicate 256 (byteV 0)) zeroValue344 (by kernel_rfl)) ?_
  rintro _ _ ⟨b2, rfl, rfl⟩
  refine J.norm rfl ?_
  refine J.conv (Y := own 344 1 (.slice (some ⟨b2, 0, none⟩) 256 256) (bytesV (List.replicate 256 0))) 0 rfl (by rw [bytesV, List.map_replicate]; exact own_of_block (by rw [List.length_replicate])) ?_
  refine J.nil <| J.then_n <| J.seq <| J.seq <| J.region <| J.m rfl <| J.nil <| J.then_n <| J.block ?_
  have e0 : List.replicate 256 (0 : U) = (List.range 0).map (fun j => gmul a (UInt8.ofNat j)) ++ List.replicate (256 - 0) 0 := by rw [List.range_zero, List.map_nil, List.nil_append, Nat.sub_zero]
  rw [e0]
  refine J.loop (fun i : Nat => i ≤ 256) (fun i => 256 - i) (fun i => [(0, byteV a), (2, .pointer (some ⟨b2, 0, none⟩)), (4, .int .i64 i)]) (fun i => [own 344 1 (.slice (some ⟨b2, 0, none⟩) 256 256) (bytesV ((List.range i).map (fun j => gmul a (UInt8.ofNat j)) ++ List.replicate (256 - i) 0)), F]) 0 (by omega) ⟨rfl, rfl, rfl, trivial⟩ rfl fun i hi => ?_
  refine J.seq <| J.region <| J.p rfl (Q.lss rfl rfl) <| J.nil <| J.then_n <| J.seq ?_
  refine J.kases 5 rfl (fun hc5 => ?_) (fun hc5 => ?_)
  ·
   try (first | fail)
   all_goals
    refine J.cond_t rfl <| J.cskip <| J.then_n <| J.seq <| J.block <| J.seq <| J.region <| J.m rfl <| J.p rfl (Q.asg rfl) <| J.nil <| J.then_n <| J.region <| J.m rfl <| J.m rfl <| J.m rfl <| J.p rfl (Q.conv runUnderlying3 runUnderlying5 rfl) ?_
    refine J.slot 10 (byteV (UInt8.ofNat i)) rfl (toU8 i (by omega)) ?_
    refine J.call call157 (mul_spec a (UInt8.ofNat i)) [] rfl rfl rfl rfl ?_
    rintro _ _ ⟨rfl, rfl⟩
    refine J.norm rfl <| J.p rfl (Q.iaA runUnderlying344 sizeOf5 rfl rfl (by omega) (by omega)) ?_
    refine J.c0 rfl (C.st1O (b := b2) i sizeOf5 rfl rfl rfl (by omega) (by simp [bytesV]; omega)) ?_
    rintro _ _ ⟨rfl, rfl⟩
    refine J.norm rfl ?_
    rw [madeRow (f := fun j => gmul a (UInt8.ofNat j)) (by omega)]
    refine J.nil <| J.blk_n <| J.then_n <| J.region <| J.p rfl (Q.add64 rfl rfl (by omega)) <| J.m rfl <| J.nil ?_
    refine J.againI (i + 1) (by omega) (by omega) ⟨rfl, rfl, rfl, trivial⟩
  try (first | fail)
  all_goals
   refine J.cond_f rfl <| J.exit <| J.then_x <| J.lp_x <| J.blk_x <| J.then_n <| J.seq <| J.region ?_
   have hi2 : i = 256 := by omega
   subst hi2
   rw [Nat.sub_self, List.replicate_zero, List.append_nil]
   refine J.p rfl (Q.ldN (vs := bytesV (prodL a)) isAgg344 (by intro w; rw [bytesV, prodL, List.length_map, List.length_map, List.length_range]; exact sizeOf344 w) rfl (fun j v hj => rdO hj (by omega))) ?_
   refine J.c0 rfl (C.stNO (vs := bytesV (prodL a)) (b := b2) 0 (by intro w; rw [bytesV, prodL, List.length_map, List.length_map, List.length_range]; exact sizeOf344 w) rfl rfl rfl (by simp [bytesV, prodL]) (by simp [bytesV, byteV, oneC])) ?_
   rintro _ _ ⟨rfl, rfl⟩
   refine J.norm rfl <| J.nil <| J.then_n <| J.cret ?_
   have e1 : splice (bytesV (prodL a)) 0 (bytesV (prodL a)) = bytesV (prodL a) := by rw [splice_at _ _ _ (by omega), List.take_zero, Nat.zero_add, List.drop_length, List.nil_append, List.append_nil]
   rw [show splice (bytesV (List.map (fun j => gmul a (UInt8.ofNat j)) (List.range 256))) 0 (bytesV (prodL a)) = _ from e1]
   refine J.retCI (vs := bytesV (prodL a)) [] rfl rfl isAgg344 (by intro w; rw [bytesV, prodL, List.length_map, List.length_map, List.length_range]; exact sizeOf344 w) (fun j v hj => rdO hj (by omega)) ⟨rfl, rfl⟩

theorem prodL_at (a b : U) : (bytesV (prodL a))[b.toNat]? = some (byteV (gmul a b)) := by
  have hb := b.toNat_lt
  rw [bytesV, prodL, List.getElem?_map, List.getElem?_map, List.getElem?_range (by omega)]
  simp
def accL (w : Nat) (f : Nat → Nat → U) (i x : Nat) : List U := (List.range w).map fun y => if y < x then sumN (i + 1) (f y) else sumN i (f y)
theorem accL_len {w i x : Nat} {f : Nat → Nat → U} : (accL w f i x).length = w := by simp [accL]
theorem accL_zero {w : Nat} {f : Nat → Nat → U} : accL w f 0 0 = List.replicate w 0 := by
  apply List.ext_getElem (by simp [accL])
  intro j h1 h2
  simp [accL, sumN]
theorem accL_next {w i : Nat} {f : Nat → Nat → U} : accL w f i w = accL w f (i + 1) 0 := by
  unfold accL
  apply List.map_congr_left
  intro y hy
  rw [if_pos (List.mem_range.1 hy), if_neg (by omega)]
theorem accL_at {w i x : Nat} {f : Nat → Nat → U} (h : x < w) : (accL w f i x)[x]? = some (sumN i (f x)) := by
  simp [accL, h]
theorem accL_set {w i x : Nat} {f : Nat → Nat → U} (h : x < w) : (accL w f i x).set x (sumN i (f x) ^^^ f x i) = accL w f i (x + 1) := by
  apply List.ext_getElem (by simp [accL])
  intro j h1 h2
  simp only [accL, List.getElem_set, List.getElem_map, List.getElem_range]
  by_cases e : x = j
  · subst e; simp [sumN]
  · rw [if_neg e]
    by_cases e2 : j < x
    · rw [if_pos e2, if_pos (by omega)]
    · rw [if_neg e2, if_neg (by omega)]
theorem timesL_row {m s : Ml} {j : Nat} {row : List U} (h : m[j]? = some row) : (timesL m s)[j]? = some (accL (width s) (fun x i => gmul (row[i]?.getD 0) (get2 s i x)) s.length 0) := by
  unfold timesL accL
  rw [List.getElem?_map, h]; simp
theorem timesL_take {m s : Ml} {j : Nat} {row : List U} (h : m[j]? = some row) : (timesL m s).take (j + 1) = (timesL m s).take j ++ [accL (width s) (fun x i => gmul (row[i]?.getD 0) (get2 s i x)) s.length 0] := by
  have h1 := timesL_row (s := s) h
  obtain ⟨h2, h3⟩ := List.getElem?_eq_some_iff.1 h1
  rw [List.take_succ_eq_append_getElem h2, h3]

theorem times_spec (G : Assn) (k w n : Nat) (hk : 0 < k) (hk2 : k ≤ 255) (hw : w ≤ 1000000) (hn : 0 < n) (hn2 : n ≤ 255) (mp : Option Addr) (mc : Nat) (ms : List RowH) (hml : ms.length = n) (sp : Option Addr) (sc : Nat) (ss : List RowH) (hsl : ss.length = k)
    (hm : SlR [G] 1 (.slice mp n mc) (ms.map RowH.val)) (hmr : ∀ r, r ∈ ms → r.bs.length = k ∧ SlR [G] 1 r.val (bytesV r.bs))
    (hs : SlR [G] 1 (.slice sp k sc) (ss.map RowH.val)) (hsr : ∀ r, r ∈ ss → r.bs.length = w ∧ SlR [G] 1 r.val (bytesV r.bs)) :
    FSpec Tryz.prog 114 [.slice mp n mc, .slice sp k sc] [G] (fun v B => ∃ p c, v = .slice p n c ∧ B = [MatAt 22 p c (timesL (ms.map RowH.bs) (ss.map RowH.bs)), G]) := by
  refine FSpec.of func114 rfl ntmps114 rfl fun W0 F => ?_
  refine J.seq ?_
  obtain ⟨mb, moff, rfl, hmrd⟩ := hm.some_ (by omega)
  obtain ⟨sb, soff, rfl, hsrd⟩ := hs.some_ (by omega)
  obtain ⟨s0, hs0⟩ : ∃ r, ss[0]? = some r := ⟨_, List.getElem?_eq_getElem (by omega)⟩
  have hs0v : (ss.map RowH.val)[0]? = some (.slice s0.p w s0.c) := by rw [List.getElem?_map, hs0]; simp [RowH.val, (hsr s0 (List.mem_of_getElem? hs0)).1]
  have hwid : width (ss.map RowH.bs) = w := by simp [width, List.getElem?_map, hs0, (hsr s0 (List.mem_of_getElem? hs0)).1]
  refine J.region <| J.p rfl (Q.asg rfl) <| J.nil <| J.then_n <| J.seq <| J.region <| J.m rfl <| J.p rfl (Q.lenSl runUnderlying125 rfl) ?_
  refine J.c rfl rfl (C.mksl runUnderlying45 typeInfo22 sizeOf22 zeroValue22 rfl rfl rfl (by omega) (by omega) (by simp [Tryz.t22]; omega) (by omega)) ?_
  rintro _ _ ⟨b15, rfl, rfl⟩
  refine J.norm rfl ?_
  refine J.conv (Y := own 22 1 (.slice (some ⟨b15, 0, none⟩) n n) (List.replicate n (Value.slice none 0 0))) 0 rfl (own_of_block (by simp)) ?_
  refine J.p rfl (Q.asg rfl) <| J.nil <| J.then_n <| J.seq <| J.seq <| J.region <| J.m rfl <| J.p rfl (Q.lenSl runUnderlying125 rfl) <| J.m rfl <| J.nil <| J.then_n <| J.block ?_
  refine J.give (X := star (([] : List RowH).map RowH.asn)) trivial ?_
  refine J.pick [1, 0, 2, 3] rfl ?_
  refine J.loop2 (fun (j : Nat) (hs : List RowH) => j ≤ n ∧ hs.map RowH.bs = (timesL (ms.map RowH.bs) (ss.map RowH.bs)).take j) (fun j _ => n - j) (fun j _ => [(0, .slice (some ⟨mb, moff, none⟩) n mc), (1, .slice (some ⟨sb, soff, none⟩) k sc), (5, .slice (some ⟨b15, 0, none⟩) n n), (16, .slice (some ⟨mb, moff, none⟩) n mc), (17, .int .i64 n), (18, .int .i64 j)])
   (fun j hs => [own 22 1 (.slice (some ⟨b15, 0, none⟩) n n) (hs.map RowH.val ++ List.replicate (n - j) (Value.slice none 0 0)), star (hs.map RowH.asn), G, F]) 0 [] ⟨by omega, rfl⟩ ⟨rfl, rfl, rfl, rfl, rfl, rfl, trivial⟩ rfl fun j hs2 hz => ?_
  obtain ⟨hz1, hz2⟩ := hz
  refine J.seq <| J.region <| J.p rfl (Q.lss rfl rfl) <| J.nil <| J.then_n <| J.seq ?_
  refine J.kases 19 rfl (fun hc19 => ?_) (fun hc19 => ?_)
  ·
   try (first | fail)
   all_goals
    refine J.cond_t rfl <| J.cskip <| J.then_n <| J.seq <| J.block <| J.seq ?_
    have htl : (timesL (ms.map RowH.bs) (ss.map RowH.bs)).length = n := by simp [timesL, hml]
    have hlen : hs2.length = j := by have := congrArg List.length hz2; simp [htl] at this; omega
    obtain ⟨mr, hmj⟩ : ∃ r, ms[j]? = some r := ⟨_, List.getElem?_eq_getElem (by omega)⟩
    obtain ⟨hmrl, hmrr⟩ := hmr mr (List.mem_of_getElem? hmj)
    have hmjv : (ms.map RowH.val)[j]? = some (.slice mr.p k mr.c) := by rw [List.getElem?_map, hmj]; simp [RowH.val, hmrl]
    have hmbs : (ms.map RowH.bs)[j]? = some mr.bs := by rw [List.getElem?_map, hmj]; rfl
    obtain ⟨rb, roff, hrp, hrrd⟩ := hmrr.some_ (by omega)
    obtain ⟨f, hf⟩ : ∃ f : Nat → Nat → U, f = fun x i => gmul (mr.bs[i]?.getD 0) (get2 (ss.map RowH.bs) i x) := ⟨_, rfl⟩
    rw [hrp] at hmjv
    refine J.region <| J.m rfl <| J.p rfl (Q.ia runUnderlying125 sizeOf22 rfl rfl (by omega) (by omega)) ?_
    refine J.p rfl (Q.ld isAgg22 rfl (((hmrd j _ hmjv).within (i := 2) rfl).cast (by simp))) ?_
    refine J.p rfl (Q.asg rfl) <| J.p rfl (Q.asg rfl) <| J.nil <| J.then_n <| J.seq <| J.region <| J.m rfl <| J.m rfl <| J.m rfl <| J.p rfl (Q.ia runUnderlying45 sizeOf22 rfl rfl (by omega) (by omega)) ?_
    refine J.p rfl (Q.ld isAgg22 rfl (((hsrd 0 _ hs0v).within (i := 2) rfl).cast (by simp))) ?_
    refine J.p rfl (Q.lenSl runUnderlying22 rfl) ?_
    refine J.c rfl rfl (C.mksl runUnderlying22 typeInfo5 sizeOf5 zeroValue5 rfl rfl rfl (by omega) (by omega) (by simp [Tryz.t5]; omega) (by omega)) ?_
    rintro _ _ ⟨b29, rfl, rfl⟩
    refine J.norm rfl ?_
    refine J.slot 29 (.slice (some ⟨b29, 0, none⟩) w w) rfl rfl ?_
    refine J.conv (Y := own 5 1 (.slice (some ⟨b29, 0, none⟩) w w) (bytesV (accL w f 0 0))) 0 rfl (by rw [accL_zero, bytesV, List.map_replicate]; exact own_of_block (by simp)) ?_
    refine J.p rfl (Q.ia runUnderlying45 sizeOf22 rfl rfl (by omega) (by omega)) ?_
    refine J.c0 rfl (C.st1O (b := b15) j sizeOf22 rfl rfl rfl (by omega) (by simp; omega)) ?_
    rintro _ _ ⟨rfl, rfl⟩
    refine J.norm rfl ?_
    have hset : (hs2.map RowH.val ++ List.replicate (n - j) (Value.slice none 0 0)).set j (.slice (some ⟨b29, 0, none⟩) w w) = hs2.map RowH.val ++ .slice (some ⟨b29, 0, none⟩) w w :: List.replicate (n - (j + 1)) (Value.slice none 0 0) := by
     have := cellsSet (hs := hs2) (rows := n) (v := .slice (some ⟨b29, 0, none⟩) w w) (by omega)
     rw [hlen] at this; exact this
    rw [hset]
    have hat : (hs2.map RowH.val ++ .slice (some ⟨b29, 0, none⟩) w w :: List.replicate (n - (j + 1)) (Value.slice none 0 0))[j]? = some (.slice (some ⟨b29, 0, none⟩) w w) := by
     rw [List.getElem?_append_right (by simp; omega)]; simp [hlen]
    refine J.nil <| J.then_n <| J.seq <| J.region <| J.m rfl <| J.p rfl (Q.lenSl runUnderlying45 rfl) <| J.m rfl <| J.nil <| J.then_n <| J.block ?_
    refine J.loopI (fun i : Nat => i ≤ k) (fun i => k - i) (fun i => [(0, .slice (some ⟨mb, moff, none⟩) n mc), (1, .slice (some ⟨sb, soff, none⟩) k sc), (5, .slice (some ⟨b15, 0, none⟩) n n), (6, .int .i64 j), (7, .slice (some ⟨rb, roff, none⟩) k mr.c), (16, .slice (some ⟨mb, moff, none⟩) n mc), (17, .int .i64 n), (18, .int .i64 j), (31, .slice (some ⟨sb, soff, none⟩) k sc), (32, .int .i64 k), (33, .int .i64 i)])
     (fun i => [own 22 1 (.slice (some ⟨b15, 0, none⟩) n n) (hs2.map RowH.val ++ .slice (some ⟨b29, 0, none⟩) w w :: List.replicate (n - (j + 1)) (Value.slice none 0 0)), own 5 1 (.slice (some ⟨b29, 0, none⟩) w w) (bytesV (accL w f i 0)), G, star (hs2.map RowH.asn), F]) 0 (by omega) ⟨rfl, rfl, rfl, rfl, rfl, rfl, rfl, rfl, rfl, rfl, rfl, trivial⟩ fun i hi => ?_
    refine J.seq <| J.region <| J.p rfl (Q.lss rfl rfl) <| J.nil <| J.then_n <| J.seq ?_
    refine J.kases 34 rfl (fun hc34 => ?_) (fun hc34 => ?_)
    ·
     try (first | fail)
     all_goals
      refine J.cond_t rfl <| J.cskip <| J.then_n <| J.seq <| J.block <| J.seq ?_
      obtain ⟨sr, hsi⟩ : ∃ r, ss[i]? = some r := ⟨_, List.getElem?_eq_getElem (by omega)⟩
      obtain ⟨hsrl, hsrr⟩ := hsr sr (List.mem_of_getElem? hsi)
      have hsiv : (ss.map RowH.val)[i]? = some (.slice sr.p w sr.c) := by rw [List.getElem?_map, hsi]; simp [RowH.val, hsrl]
      obtain ⟨a, ha⟩ : ∃ a, mr.bs[i]? = some a := ⟨_, List.getElem?_eq_getElem (by omega)⟩
      have hfx : ∀ x b, sr.bs[x]? = some b → f x i = gmul a b := by
       intro x b hb
       rw [hf]
       simp only [ha, Option.getD_some]
       rw [get2_row (r := sr.bs) (by rw [List.getElem?_map, hsi]; rfl), hb]; rfl
      refine J.region <| J.m rfl <| J.p rfl (Q.ia runUnderlying45 sizeOf22 rfl rfl (by omega) (by omega)) ?_
      refine J.p rfl (Q.ld isAgg22 rfl (((hsrd i _ hsiv).within (i := 2) rfl).cast (by simp))) ?_
      refine J.p rfl (Q.asg rfl) <| J.p rfl (Q.asg rfl) <| J.nil <| J.then_n <| J.seq <| J.region <| J.m rfl <| J.m rfl <| J.p rfl (Q.ia runUnderlying22 sizeOf5 rfl rfl (by omega) (by omega)) ?_
      refine J.p rfl (Q.ld isAgg5 rfl (((hrrd i _ (bytesV_at ha)).within (i := 2) rfl).cast (by simp))) ?_
      refine J.call call183 (products_spec a) [] rfl rfl rfl rfl ?_
      rintro _ _ ⟨rfl, rfl⟩
      refine J.norm rfl ?_
      refine J.c rfl rfl (C.alloc (l := List.replicate 256 (byteV 0)) zeroValue344 (by kernel_rfl)) ?_
      rintro _ _ ⟨b10, rfl, rfl⟩
      refine J.norm rfl ?_
      refine J.conv (Y := own 344 1 (.slice (some ⟨b10, 0, none⟩) 256 256) (bytesV (List.replicate 256 0))) 0 rfl (by rw [bytesV, List.map_replicate]; exact own_of_block (by rw [List.length_replicate])) ?_
      have hpl : (bytesV (prodL a)).length = 256 := by rw [bytesV, prodL, List.length_map, List.length_map, List.length_range]
      refine J.c0 rfl (C.stNO (vs := bytesV (prodL a)) (b := b10) 0 (by intro w; rw [hpl]; exact sizeOf344 w) rfl rfl rfl (by rw [hpl, bytesV, List.length_map, List.length_replicate]; omega) (by simp [bytesV, byteV, oneC])) ?_
      rintro _ _ ⟨rfl, rfl⟩
      refine J.norm rfl ?_
      have e1 : splice (bytesV (List.replicate 256 0)) 0 (bytesV (prodL a)) = bytesV (prodL a) := by rw [splice_at _ _ _ (by rw [hpl, bytesV, List.length_map, List.length_replicate]; omega), List.take_zero, Nat.zero_add, List.drop_of_length_le (by rw [hpl, bytesV, List.length_map, List.length_replicate]; omega), List.nil_append, List.append_nil]
      rw [e1]
      refine J.nil <| J.then_n <| J.seq <| J.region <| J.m rfl <| J.p rfl (Q.lenSl runUnderlying22 rfl) <| J.m rfl <| J.nil <| J.then_n <| J.block ?_
      refine J.loopI (fun x : Nat => x ≤ w) (fun x => w - x) (fun x => [(0, .slice (some ⟨mb, moff, none⟩) n mc), (1, .slice (some ⟨sb, soff, none⟩) k sc), (5, .slice (some ⟨b15, 0, none⟩) n n), (6, .int .i64 j), (7, .slice (some ⟨rb, roff, none⟩) k mr.c), (10, .pointer (some ⟨b10, 0, none⟩)), (16, .slice (some ⟨mb, moff, none⟩) n mc), (17, .int .i64 n), (18, .int .i64 j), (31, .slice (some ⟨sb, soff, none⟩) k sc), (32, .int .i64 k), (33, .int .i64 i), (43, .slice sr.p w sr.c), (44, .int .i64 w), (45, .int .i64 x)])
       (fun x => [own 344 1 (.slice (some ⟨b10, 0, none⟩) 256 256) (bytesV (prodL a)), own 22 1 (.slice (some ⟨b15, 0, none⟩) n n) (hs2.map RowH.val ++ .slice (some ⟨b29, 0, none⟩) w w :: List.replicate (n - (j + 1)) (Value.slice none 0 0)), own 5 1 (.slice (some ⟨b29, 0, none⟩) w w) (bytesV (accL w f i x)), G, star (hs2.map RowH.asn), F]) 0 (by omega) ⟨rfl, rfl, rfl, rfl, rfl, rfl, rfl, rfl, rfl, rfl, rfl, rfl, rfl, rfl, rfl, trivial⟩ fun x hx => ?_
      refine J.seq <| J.region <| J.p rfl (Q.lss rfl rfl) <| J.nil <| J.then_n <| J.seq ?_
      refine J.kases 46 rfl (fun hc46 => ?_) (fun hc46 => ?_)
      ·
       try (first | fail)
       all_goals
        refine J.cond_t rfl <| J.cskip <| J.then_n <| J.seq <| J.block <| J.seq ?_
        obtain ⟨tb, toff, htp, htrd⟩ := hsrr.some_ (by omega)
        obtain ⟨b, hb⟩ : ∃ b, sr.bs[x]? = some b := ⟨_, List.getElem?_eq_getElem (by omega)⟩
        have hbl := b.toNat_lt
        refine J.region <| J.m rfl <| J.p rfl (Q.ia runUnderlying22 sizeOf5 (by rw [← htp]; rfl) rfl (by omega) (by omega)) ?_
        refine J.p rfl (Q.ld isAgg5 rfl (((htrd x _ (bytesV_at hb)).within (i := 3) rfl).cast (by simp))) ?_
        refine J.p rfl (Q.asg rfl) <| J.p rfl (Q.asg rfl) <| J.nil <| J.then_n ?_
        refine J.draw [12] Tryz.mixed (by kernel_rfl) fun hR => ?_
        refine RG.p 0 hR rfl (Q.mv rfl) <| RG.p 1 hR rfl (Q.mv rfl) <| RG.p 2 hR rfl (Q.ia runUnderlying45 sizeOf22 rfl rfl (by omega) (by omega)) <| RG.p 3 hR rfl (Q.ld isAgg22 rfl (rdO (b := b15) hat (by omega))) <| RG.p 4 hR rfl (Q.mv rfl) <| RG.p 5 hR rfl (Q.ia runUnderlying22 sizeOf5 rfl rfl (by omega) (by omega)) ?_
        refine RG.p 6 hR rfl (Q.ld isAgg5 rfl (rdO (b := b29) (bytesV_at (accL_at (by omega))) (by omega))) <| RG.p 7 hR rfl (Q.mv rfl) <| RG.p 8 hR rfl (Q.iaA runUnderlying344 sizeOf5 rfl rfl (by omega) (by omega)) <| RG.p 9 hR rfl (Q.ld isAgg5 rfl (rdO (b := b10) (prodL_at a b) (by omega))) <| RG.p 10 hR rfl (Q.xor rfl rfl) ?_
        refine RG.slot 60 (byteV (sumN i (f x) ^^^ gmul a b)) rfl (congrArg _ (xor8 _ _)) ?_
        refine RG.p 11 hR rfl (Q.ia runUnderlying22 sizeOf5 rfl rfl (by omega) (by omega)) ?_
        refine RG.bar 12 hR rfl rfl rfl rfl rfl rfl (C.st1O (b := b29) x sizeOf5 rfl rfl rfl (by omega) (by simp [bytesV, accL_len]; omega)) ?_
        rintro _ _ ⟨rfl, rfl⟩
        refine RG.norm rfl ?_
        rw [bytesV_set, ← hfx x b hb, accL_set (by omega)]
        refine RG.fin hR rfl ?_
        refine J.norm rfl <| J.blk_n <| J.then_n <| J.region <| J.p rfl (Q.add64 rfl rfl (by omega)) <| J.m rfl <| J.nil ?_
        refine J.againI (x + 1) (by omega) (by omega) ⟨rfl, rfl, rfl, rfl, rfl, rfl, rfl, rfl, rfl, rfl, rfl, rfl, rfl, rfl, rfl, trivial⟩
      try (first | fail)
      all_goals
       refine J.cond_f rfl <| J.exit <| J.then_x <| J.lp_x <| J.blk_x <| J.blk_n <| J.then_n <| J.region <| J.p rfl (Q.add64 rfl rfl (by omega)) <| J.m rfl <| J.nil ?_
       obtain rfl : x = w := by omega
       rw [accL_next]
       refine J.againI (i + 1) (by omega) (by omega) ⟨rfl, rfl, rfl, rfl, rfl, rfl, rfl, rfl, rfl, rfl, rfl, trivial⟩
    try (first | fail)
    all_goals
     refine J.cond_f rfl <| J.exit <| J.then_x <| J.lp_x <| J.blk_x <| J.blk_n <| J.then_n <| J.region <| J.p rfl (Q.add64 rfl rfl (by omega)) <| J.m rfl <| J.nil ?_
     obtain rfl : i = k := by omega
     obtain ⟨r, hr⟩ : ∃ r : RowH, r = ⟨some ⟨b29, 0, none⟩, w, accL w f i 0⟩ := ⟨_, rfl⟩
     have hv : r.val = .slice (some ⟨b29, 0, none⟩) w w := by subst hr; simp [RowH.val, accL_len]
     have hasn : r.asn = own 5 1 (.slice (some ⟨b29, 0, none⟩) w w) (bytesV (accL w f i 0)) := by unfold RowH.asn; rw [hv]; subst hr; rfl
     refine J.convI (own 5 1 (.slice (some ⟨b29, 0, none⟩) w w) (bytesV (accL w f i 0))) r.asn (fun h s => by rw [hasn]; exact s) ?_
     refine J.pickI [r.asn, star (hs2.map RowH.asn)] ?_
     refine J.norm rfl ?_
     refine J.addone 0 1 r rfl ?_
     refine J.pick [1, 0, 2, 3] rfl ?_
     refine J.again (j + 1, hs2 ++ [r]) ⟨by omega, ?_⟩ (by show n - (j + 1) < n - j; omega) ⟨rfl, rfl, rfl, rfl, rfl, rfl, trivial⟩ ?_
     · show (hs2 ++ [r]).map RowH.bs = _
       rw [List.map_append, hz2, timesL_take hmbs, hwid]; subst hr; simp [hf, hsl]
     · show _ = [own 22 1 (.slice (some ⟨b15, 0, none⟩) n n) ((hs2 ++ [r]).map RowH.val ++ List.replicate (n - (j + 1)) (Value.slice none 0 0)), star ((hs2 ++ [r]).map RowH.asn), G, F]
       rw [List.map_append (f := RowH.val), ← hv]; simp
  try (first | fail)
  all_goals
   refine J.cond_f rfl <| J.exit <| J.then_x <| J.lp_x <| J.blk_x <| J.then_n <| J.seq <| J.region <| J.m rfl <| J.p rfl (Q.asg rfl) <| J.nil <| J.then_n <| J.cret ?_
   obtain rfl : j = n := by omega
   refine J.shut [0, 1] (MatAt 22 (some ⟨b15, 0, none⟩) j (timesL (ms.map RowH.bs) (ss.map RowH.bs))) rfl (fun h s => ⟨hs2, ?_, ?_⟩) ?_
   · rw [hz2, List.take_of_length_le (by simp [timesL, hml])]
   · have e1 : (timesL (ms.map RowH.bs) (ss.map RowH.bs)).length = j := by simp [timesL, hml]
     rw [e1]
     rw [Nat.sub_self, List.replicate_zero, List.append_nil] at s
     exact s
   refine J.ret1 (B := [MatAt 22 (some ⟨b15, 0, none⟩) j (timesL (ms.map RowH.bs) (ss.map RowH.bs)), G]) rfl rfl ⟨_, _, rfl, rfl⟩ rfl

def CodeAt (b k m : Nat) : Assn := fun h => ∃ z : Option Addr × Nat, HSat h [pt b (.cells [.int .i64 k, .int .i64 m, .slice z.1 m z.2].toArray 127 (0, 0)), MatAt 22 z.1 z.2 (cauchyL m k)]
theorem cauchyL_len (m k : Nat) : (cauchyL m k).length = m := by simp [cauchyL]
theorem MatAt.nil : ∀ h, MatAt 22 none 0 [] h := fun h => ⟨[], rfl, ⟨h, fun _ => none, own.nil _ _ _, ⟨fun _ => none, fun _ => none, trivial, trivial, fun _ => .inr rfl, Sub.refl _, Sub.refl _⟩, fun _ => .inr rfl, Sub.refl _, fun _ _ e => nomatch e⟩⟩

theorem new_pos (k m : Nat) (hk : 0 < k) (hm : 0 < m) (hkm : k + m ≤ 255) : FSpec Tryz.prog 15 [.int .i64 k, .int .i64 m] [] (fun v B => ∃ b, v = .tuple #[.pointer (some ⟨b, 0, none⟩), .int .i64 0] ∧ B = [CodeAt b k m]) := by
  refine FSpec.of func15 rfl ntmps15 rfl fun W0 F => ?_
  refine J.seq <| J.region <| J.p rfl (Q.asg rfl) <| J.p rfl (Q.asg rfl) <| J.nil <| J.then_n <| J.seq <| J.seq <| J.region <| J.m rfl <| J.p rfl (Q.lss rfl rfl) <| J.m rfl ?_
  refine J.kases 9 rfl (fun hb9 => ?_) (fun hb9 => ?_)
  ·
   try (first | (exfalso; omega))
   all_goals
    refine J.k rfl <| J.k rfl <| J.p rfl (Q.pick_t rfl rfl) <| J.m rfl <| J.k rfl <| J.k rfl <| J.p rfl (Q.pick_t rfl rfl) <| J.m rfl <| J.k rfl <| J.k rfl <| J.p rfl (Q.pick_t rfl rfl) <| J.m rfl <| J.k rfl <| J.k rfl <| J.k rfl <| J.k rfl <| J.p rfl (Q.pick_t rfl rfl) <| J.nil <| J.then_n ?_
    refine J.cond_t rfl <| J.seq <| J.region <| J.p rfl (Q.asg rfl) <| J.p rfl (Q.asg rfl) <| J.nil <| J.then_n <| J.cret <| J.then_r ?_
    refine J.shutI [pt b30 (.cells [.int .i64 k, .int .i64 m, .slice p m c].toArray 127 (0, 0)), MatAt 22 p c (cauchyL m k)] (CodeAt b30 k m) (fun h s => ⟨(p, c), s⟩) ?_
    exact J.ret2I [CodeAt b30 k m] rfl rfl rfl ⟨b30, rfl, rfl⟩
  try (first | (exfalso; omega))
  all_goals
   refine J.m rfl <| J.p rfl (Q.lss rfl rfl) <| J.p rfl (Q.pick_f rfl rfl) <| J.m rfl ?_
   refine J.kases 13 rfl (fun hb13 => ?_) (fun hb13 => ?_)
   ·
    try (first | (exfalso; omega))
    all_goals
     refine J.k rfl <| J.k rfl <| J.p rfl (Q.pick_t rfl rfl) <| J.m rfl <| J.k rfl <| J.k rfl <| J.p rfl (Q.pick_t rfl rfl) <| J.m rfl <| J.k rfl <| J.k rfl <| J.k rfl <| J.k rfl <| J.p rfl (Q.pick_t rfl rfl) <| J.nil <| J.then_n <| J.cond_t rfl <| J.seq <| J.region <| J.p rfl (Q.asg rfl) <| J.p rfl (Q.asg rfl) ?_
     refine J.nil <| J.then_n <| J.cret <| J.then_r ?_
     refine J.shutI [pt b30 (.cells [.int .i64 k, .int .i64 m, .slice p m c].toArray 127 (0, 0)), MatAt 22 p c (cauchyL m k)] (CodeAt b30 k m) (fun h s => ⟨(p, c), s⟩) ?_
     exact J.ret2I [CodeAt b30 k m] rfl rfl rfl ⟨b30, rfl, rfl⟩
   try (first | (exfalso; omega))
   all_goals
    refine J.m rfl <| J.p rfl (Q.gtr rfl rfl) <| J.p rfl (Q.pick_f rfl rfl) <| J.m rfl ?_
    refine J.kases 17 rfl (fun hb17 => ?_) (fun hb17 => ?_)
    ·
     try (first | (exfalso; omega))
     all_goals
      refine J.k rfl <| J.k rfl <| J.p rfl (Q.pick_t rfl rfl) <| J.m rfl <| J.k rfl <| J.k rfl <| J.k rfl <| J.k rfl <| J.p rfl (Q.pick_t rfl rfl) <| J.nil <| J.then_n <| J.cond_t rfl <| J.seq <| J.region <| J.p rfl (Q.asg rfl) <| J.p rfl (Q.asg rfl) <| J.nil <| J.then_n <| J.cret <| J.then_r ?_
      refine J.shutI [pt b30 (.cells [.int .i64 k, .int .i64 m, .slice p m c].toArray 127 (0, 0)), MatAt 22 p c (cauchyL m k)] (CodeAt b30 k m) (fun h s => ⟨(p, c), s⟩) ?_
      exact J.ret2I [CodeAt b30 k m] rfl rfl rfl ⟨b30, rfl, rfl⟩
    try (first | (exfalso; omega))
    all_goals
     refine J.m rfl <| J.p rfl (Q.gtr rfl rfl) <| J.p rfl (Q.pick_f rfl rfl) <| J.m rfl ?_
     refine J.kases 21 rfl (fun hb21 => ?_) (fun hb21 => ?_)
     ·
      try (first | (exfalso; omega))
      all_goals
       refine J.k rfl <| J.k rfl <| J.k rfl <| J.k rfl <| J.p rfl (Q.pick_t rfl rfl) <| J.nil <| J.then_n <| J.cond_t rfl <| J.seq <| J.region <| J.p rfl (Q.asg rfl) <| J.p rfl (Q.asg rfl) <| J.nil <| J.then_n <| J.cret <| J.then_r ?_
       refine J.shutI [pt b30 (.cells [.int .i64 k, .int .i64 m, .slice p m c].toArray 127 (0, 0)), MatAt 22 p c (cauchyL m k)] (CodeAt b30 k m) (fun h s => ⟨(p, c), s⟩) ?_
       exact J.ret2I [CodeAt b30 k m] rfl rfl rfl ⟨b30, rfl, rfl⟩
     try (first | (exfalso; omega))
     all_goals
      refine J.m rfl <| J.m rfl <| J.p rfl (Q.add64 rfl rfl (by omega)) <| J.p rfl (Q.gtr rfl rfl) <| J.p rfl (Q.pick_f rfl rfl) <| J.nil <| J.then_n ?_
      refine J.kases 26 rfl (fun hc26 => ?_) (fun hc26 => ?_)
      ·
       try (first | (exfalso; omega))
       all_goals
        refine J.cond_t rfl <| J.seq <| J.region <| J.p rfl (Q.asg rfl) <| J.p rfl (Q.asg rfl) <| J.nil <| J.then_n <| J.cret <| J.then_r ?_
        refine J.shutI [pt b30 (.cells [.int .i64 k, .int .i64 m, .slice p m c].toArray 127 (0, 0)), MatAt 22 p c (cauchyL m k)] (CodeAt b30 k m) (fun h s => ⟨(p, c), s⟩) ?_
        exact J.ret2I [CodeAt b30 k m] rfl rfl rfl ⟨b30, rfl, rfl⟩
      try (first | (exfalso; omega))
      all_goals
       refine J.cond_f rfl <| J.cskip <| J.then_n <| J.seq <| J.region <| J.m rfl <| J.m rfl <| J.p rfl (Q.bld (l := [.int .i64 k, .int .i64 m, .slice none 0 0]) runUnderlying127 zeroValue127 places127 rfl (by kernel_rfl)) ?_
       refine J.c rfl rfl (C.box (l := [_, _, _]) rfl rfl) ?_
       rintro _ _ ⟨b30, rfl, rfl⟩
       refine J.norm rfl <| J.p rfl (Q.asg rfl) <| J.nil <| J.then_n <| J.seq <| J.region <| J.m rfl <| J.m rfl <| J.m rfl ?_
       refine J.call call47 (cauchy_spec m k hm hk (by omega)) [] rfl rfl rfl rfl ?_
       rintro _ _ ⟨p, c, rfl, rfl⟩
       refine J.norm rfl <| J.m rfl <| J.p rfl (Q.ext rfl rfl) <| J.p rfl (Q.ext rfl rfl) <| J.p rfl (Q.nil_ rfl) <| J.p rfl (Q.fa (n := 2) runUnderlying127 rfl rfl sizeOf125 rfl) ?_
       refine J.stJ rfl sizeOf125 rfl rfl rfl ?_
       refine J.nil <| J.then_n <| J.seq <| J.region <| J.m rfl <| J.p rfl (Q.asg rfl) <| J.p rfl (Q.asg rfl) <| J.nil <| J.then_n <| J.cret ?_
       refine J.shutI [pt b30 (.cells [.int .i64 k, .int .i64 m, .slice p m c].toArray 127 (0, 0)), MatAt 22 p c (cauchyL m k)] (CodeAt b30 k m) (fun h s => ⟨(p, c), s⟩) ?_
       exact J.ret2I [CodeAt b30 k m] rfl rfl rfl ⟨b30, rfl, rfl⟩
theorem new_zero (k : Nat) (hk : 0 < k) (hkm : k ≤ 255) : FSpec Tryz.prog 15 [.int .i64 k, .int .i64 0] [] (fun v B => ∃ b, v = .tuple #[.pointer (some ⟨b, 0, none⟩), .int .i64 0] ∧ B = [CodeAt b k 0]) := by
  refine FSpec.of func15 rfl ntmps15 rfl fun W0 F => ?_
  refine J.seq <| J.region <| J.p rfl (Q.asg rfl) <| J.p rfl (Q.asg rfl) <| J.nil <| J.then_n <| J.seq <| J.seq <| J.region <| J.m rfl <| J.p rfl (Q.lss rfl rfl) <| J.m rfl ?_
  refine J.kases 9 rfl (fun hb9 => ?_) (fun hb9 => ?_)
  ·
   try (first | (exfalso; omega))
   all_goals
    refine J.k rfl <| J.k rfl <| J.p rfl (Q.pick_t rfl rfl) <| J.m rfl <| J.k rfl <| J.k rfl <| J.p rfl (Q.pick_t rfl rfl) <| J.m rfl <| J.k rfl <| J.k rfl <| J.p rfl (Q.pick_t rfl rfl) <| J.m rfl <| J.k rfl <| J.k rfl <| J.k rfl <| J.k rfl <| J.p rfl (Q.pick_t rfl rfl) <| J.nil <| J.then_n ?_
    refine J.cond_t rfl <| J.seq <| J.region <| J.p rfl (Q.asg rfl) <| J.p rfl (Q.asg rfl) <| J.nil <| J.then_n <| J.cret <| J.then_r ?_
    refine J.give (X := MatAt 22 none 0 []) (MatAt.nil _) ?_
    refine J.shutI [pt b30 (.cells [.int .i64 k, .int .i64 0, .slice none 0 0].toArray 127 (0, 0)), MatAt 22 none 0 []] (CodeAt b30 k 0) (fun h s => ⟨(none, 0), s⟩) ?_
    exact J.ret2I [CodeAt b30 k 0] rfl rfl rfl ⟨b30, rfl, rfl⟩
  try (first | (exfalso; omega))
  all_goals
   refine J.m rfl <| J.p rfl (Q.lss rfl rfl) <| J.p rfl (Q.pick_f rfl rfl) <| J.m rfl ?_
   refine J.kases 13 rfl (fun hb13 => ?_) (fun hb13 => ?_)
   ·
    try (first | (exfalso; omega))
    all_goals
     refine J.k rfl <| J.k rfl <| J.p rfl (Q.pick_t rfl rfl) <| J.m rfl <| J.k rfl <| J.k rfl <| J.p rfl (Q.pick_t rfl rfl) <| J.m rfl <| J.k rfl <| J.k rfl <| J.k rfl <| J.k rfl <| J.p rfl (Q.pick_t rfl rfl) <| J.nil <| J.then_n <| J.cond_t rfl <| J.seq <| J.region <| J.p rfl (Q.asg rfl) <| J.p rfl (Q.asg rfl) ?_
     refine J.nil <| J.then_n <| J.cret <| J.then_r ?_
     refine J.give (X := MatAt 22 none 0 []) (MatAt.nil _) ?_
     refine J.shutI [pt b30 (.cells [.int .i64 k, .int .i64 0, .slice none 0 0].toArray 127 (0, 0)), MatAt 22 none 0 []] (CodeAt b30 k 0) (fun h s => ⟨(none, 0), s⟩) ?_
     exact J.ret2I [CodeAt b30 k 0] rfl rfl rfl ⟨b30, rfl, rfl⟩
   try (first | (exfalso; omega))
   all_goals
    refine J.m rfl <| J.p rfl (Q.gtr rfl rfl) <| J.p rfl (Q.pick_f rfl rfl) <| J.m rfl ?_
    refine J.kases 17 rfl (fun hb17 => ?_) (fun hb17 => ?_)
    ·
     try (first | (exfalso; omega))
     all_goals
      refine J.k rfl <| J.k rfl <| J.p rfl (Q.pick_t rfl rfl) <| J.m rfl <| J.k rfl <| J.k rfl <| J.k rfl <| J.k rfl <| J.p rfl (Q.pick_t rfl rfl) <| J.nil <| J.then_n <| J.cond_t rfl <| J.seq <| J.region <| J.p rfl (Q.asg rfl) <| J.p rfl (Q.asg rfl) <| J.nil <| J.then_n <| J.cret <| J.then_r ?_
      refine J.give (X := MatAt 22 none 0 []) (MatAt.nil _) ?_
      refine J.shutI [pt b30 (.cells [.int .i64 k, .int .i64 0, .slice none 0 0].toArray 127 (0, 0)), MatAt 22 none 0 []] (CodeAt b30 k 0) (fun h s => ⟨(none, 0), s⟩) ?_
      exact J.ret2I [CodeAt b30 k 0] rfl rfl rfl ⟨b30, rfl, rfl⟩
    try (first | (exfalso; omega))
    all_goals
     refine J.m rfl <| J.p rfl (Q.gtr rfl rfl) <| J.p rfl (Q.pick_f rfl rfl) <| J.m rfl ?_
     refine J.kases 21 rfl (fun hb21 => ?_) (fun hb21 => ?_)
     ·
      try (first | (exfalso; omega))
      all_goals
       refine J.k rfl <| J.k rfl <| J.k rfl <| J.k rfl <| J.p rfl (Q.pick_t rfl rfl) <| J.nil <| J.then_n <| J.cond_t rfl <| J.seq <| J.region <| J.p rfl (Q.asg rfl) <| J.p rfl (Q.asg rfl) <| J.nil <| J.then_n <| J.cret <| J.then_r ?_
       refine J.give (X := MatAt 22 none 0 []) (MatAt.nil _) ?_
       refine J.shutI [pt b30 (.cells [.int .i64 k, .int .i64 0, .slice none 0 0].toArray 127 (0, 0)), MatAt 22 none 0 []] (CodeAt b30 k 0) (fun h s => ⟨(none, 0), s⟩) ?_
       exact J.ret2I [CodeAt b30 k 0] rfl rfl rfl ⟨b30, rfl, rfl⟩
     try (first | (exfalso; omega))
     all_goals
      refine J.m rfl <| J.m rfl <| J.p rfl (Q.add64 rfl rfl (by omega)) <| J.p rfl (Q.gtr rfl rfl) <| J.p rfl (Q.pick_f rfl rfl) <| J.nil <| J.then_n ?_
      refine J.kases 26 rfl (fun hc26 => ?_) (fun hc26 => ?_)
      ·
       try (first | (exfalso; omega))
       all_goals
        refine J.cond_t rfl <| J.seq <| J.region <| J.p rfl (Q.asg rfl) <| J.p rfl (Q.asg rfl) <| J.nil <| J.then_n <| J.cret <| J.then_r ?_
        refine J.give (X := MatAt 22 none 0 []) (MatAt.nil _) ?_
        refine J.shutI [pt b30 (.cells [.int .i64 k, .int .i64 0, .slice none 0 0].toArray 127 (0, 0)), MatAt 22 none 0 []] (CodeAt b30 k 0) (fun h s => ⟨(none, 0), s⟩) ?_
        exact J.ret2I [CodeAt b30 k 0] rfl rfl rfl ⟨b30, rfl, rfl⟩
      try (first | (exfalso; omega))
      all_goals
       refine J.cond_f rfl <| J.cskip <| J.then_n <| J.seq <| J.region <| J.m rfl <| J.m rfl <| J.p rfl (Q.bld (l := [.int .i64 k, .int .i64 0, .slice none 0 0]) runUnderlying127 zeroValue127 places127 rfl (by kernel_rfl)) ?_
       refine J.c rfl rfl (C.box (l := [_, _, _]) rfl rfl) ?_
       rintro _ _ ⟨b30, rfl, rfl⟩
       refine J.norm rfl <| J.p rfl (Q.asg rfl) <| J.nil <| J.then_n <| J.seq <| J.region <| J.m rfl <| J.m rfl <| J.m rfl ?_
       refine J.call call47 (cauchy_no k hk) [] rfl rfl rfl rfl ?_
       rintro _ _ ⟨rfl, rfl⟩
       refine J.norm rfl <| J.m rfl <| J.p rfl (Q.ext rfl rfl) <| J.p rfl (Q.ext rfl rfl) <| J.p rfl (Q.nil_ rfl) <| J.p rfl (Q.fa (n := 2) runUnderlying127 rfl rfl sizeOf125 rfl) ?_
       refine J.stJ rfl sizeOf125 rfl rfl rfl ?_
       refine J.nil <| J.then_n <| J.seq <| J.region <| J.m rfl <| J.p rfl (Q.asg rfl) <| J.p rfl (Q.asg rfl) <| J.nil <| J.then_n <| J.cret ?_
       refine J.give (X := MatAt 22 none 0 []) (MatAt.nil _) ?_
       refine J.shutI [pt b30 (.cells [.int .i64 k, .int .i64 0, .slice none 0 0].toArray 127 (0, 0)), MatAt 22 none 0 []] (CodeAt b30 k 0) (fun h s => ⟨(none, 0), s⟩) ?_
       exact J.ret2I [CodeAt b30 k 0] rfl rfl rfl ⟨b30, rfl, rfl⟩
theorem new_spec (k m : Nat) (hk : 0 < k) (hkm : k + m ≤ 255) : FSpec Tryz.prog 15 [.int .i64 k, .int .i64 m] [] (fun v B => ∃ b, v = .tuple #[.pointer (some ⟨b, 0, none⟩), .int .i64 0] ∧ B = [CodeAt b k m]) := by
  rcases Nat.eq_zero_or_pos m with rfl | h
  · exact new_zero k hk hkm
  · exact new_pos k m hk h hkm

theorem clone_spec (G : Assn) (sp : Option Addr) (sc : Nat) (bs : List UInt8) (hs : SlR [G] 1 (.slice sp bs.length sc) (bytesV bs)) (hn : bs.length ≤ 140737488355328) :
    FSpec Tryz.prog 70 [.slice sp bs.length sc] [G] (fun v B => ∃ p c, v = .slice p bs.length c ∧ B = [own 5 1 (.slice p bs.length c) (bytesV bs), G]) := by
  refine FSpec.of func70 rfl ntmps70 rfl fun W0 F => ?_
  refine J.seq <| J.region <| J.p rfl (Q.asg rfl) <| J.nil <| J.then_n <| J.seq <| J.seq <| J.region <| J.m rfl <| J.p rfl (Q.eqlsl runUnderlying22 rfl rfl) <| J.nil <| J.then_n ?_
  refine J.kases 4 rfl (fun hc4 => ?_) (fun hc4 => ?_)
  ·
   refine J.cond_t rfl <| J.seq <| J.region <| J.p rfl (Q.asg rfl) <| J.nil <| J.then_n <| J.cret <| J.then_r ?_
   have hb : bs = [] := by
     cases sp with
     | none =>
       rcases hs with ⟨_, c, e, hx⟩ | ⟨b, off, len, cap, e, _⟩
       · simpa [bytesV] using hx
       · cases e
     | some a => simp at hc4
   subst hb
   refine J.give (own.nil 5 1 _) ?_
   refine J.ret1 (B := [own 5 1 (.slice none 0 0) [], G]) rfl rfl ⟨none, 0, rfl, rfl⟩ rfl
  refine J.cond_f rfl <| J.cskip <| J.then_n <| J.seq <| J.region ?_
  refine J.c rfl rfl (C.bslG (l := []) runUnderlying22 sizeOf5 zeroValue5 (by decide) rfl rfl rfl rfl rfl) ?_
  rintro _ _ ⟨b5, rfl, rfl⟩
  refine J.norm rfl ?_
  refine J.conv (Y := own 5 1 (.slice (some ⟨b5, 0, none⟩) 0 0) []) 0 rfl (own.of_pt rfl (Nat.le_refl _) (by simp) (by simp) (by simp)) ?_
  refine J.m rfl ?_
  refine J.c rfl rfl (C.app (i := 0) runUnderlying22 runUnderlying22 typeInfo5 sizeOf5 zeroValue5 rfl rfl rfl (hs.within (i := 1) rfl) (bytesV_one bs) (by rw [show Tryz.t5.bytes = 1 from rfl]; omega) (by decide)) ?_
  rintro _ _ ⟨p7, c7, rfl, rfl⟩
  refine J.norm rfl <| J.p rfl (Q.asg rfl) <| J.nil <| J.then_n <| J.cret ?_
  refine J.ret1 (B := [own 5 1 (.slice p7 (0 + bs.length) c7) ([] ++ bytesV bs), G]) rfl rfl ⟨p7, c7, by rw [Nat.zero_add], by rw [Nat.zero_add, List.nil_append]⟩ rfl

abbrev codeAs (b k m : Nat) (z : Option Addr × Nat) : List Assn := [pt b (.cells [.int .i64 k, .int .i64 m, .slice z.1 m z.2].toArray 127 (0, 0)), MatAt 22 z.1 z.2 (cauchyL m k)]
theorem CodeAt.opn {b k m : Nat} : ∀ h, CodeAt b k m h → ∃ z : Option Addr × Nat, True ∧ HSat h (codeAs b k m z) := fun _ ⟨z, s⟩ => ⟨z, trivial, s⟩
theorem shLen_ge {k n : Nat} : 1 ≤ shLen k n := Nat.le_max_left _ _
theorem shLen_lt {k n : Nat} : shLen k n ≤ n + 1 := by
  unfold shLen
  have : (n + k - 1) / k ≤ n := by
    rcases Nat.eq_zero_or_pos k with rfl | hk
    · simp
    · rw [Nat.div_le_iff_le_mul_add_pred hk]
      have := Nat.le_mul_of_pos_left n hk
      omega
  omega
theorem shLen_int {k n : Nat} (hk : 0 < k) : (if ((n : Int) + k - 1) / k > 1 then ((n : Int) + k - 1) / k else 1) = ((shLen k n : Nat) : Int) := by
  have e : (n : Int) + k - 1 = ((n + k - 1 : Nat) : Int) := by omega
  rw [e, ← Int.natCast_ediv]
  unfold shLen
  split <;> omega
theorem dataL_at {k i : Nat} {data : List U} (hi : i < k) : (dataL k data)[i]? = some (((padded k data).drop (i * shLen k data.length)).take (shLen k data.length)) := by
  simp [dataL, hi]
theorem rows_next {l : Ml} {hs : List RowH} {r : RowH} (h : hs.map RowH.bs = l.take hs.length) (hr : l[hs.length]? = some r.bs) : (hs ++ [r]).map RowH.bs = l.take (hs ++ [r]).length := by
  obtain ⟨h1, h2⟩ := List.getElem?_eq_some_iff.1 hr
  rw [List.map_append, h, List.length_append, List.length_singleton, List.take_succ_eq_append_getElem h1, h2]; rfl

theorem split_spec (cb k m : Nat) (hk : 0 < k) (hk2 : k ≤ 255) (G : Assn) (dp : Option Addr) (dc : Nat) (data : List U) (hd : SlR [G] 1 (.slice dp data.length dc) (bytesV data)) (hn : data.length ≤ 1073741824) :
    FSpec Tryz.prog 55 [.pointer (some ⟨cb, 0, none⟩), .slice dp data.length dc] [CodeAt cb k m, G] (fun v B => ∃ p c, v = .slice p k c ∧ B = [MatAt 22 p c (dataL k data), CodeAt cb k m, G]) := by
  refine FSpec.of func55 rfl ntmps55 rfl fun W0 F => ?_
  refine J.seq ?_
  refine J.openI (CodeAt cb k m) CodeAt.opn fun z _ => ?_
  obtain ⟨s, hs⟩ : ∃ s, s = shLen k data.length := ⟨_, rfl⟩
  have hs1 : 1 ≤ s := hs ▸ shLen_ge
  have hs2 : s ≤ data.length + 1 := hs ▸ shLen_lt
  have hks : k * s ≤ 255 * (data.length + 1) := Nat.mul_le_mul hk2 hs2
  have hkd : data.length ≤ k * s := hs ▸ shLen_le hk
  have hk1 : 1 * s ≤ k * s := Nat.mul_le_mul_right s hk
  have hpl : (padded k data).length = k * s := by rw [padded_len hk, hs]
  refine J.region <| J.p rfl (Q.asg rfl) <| J.nil <| J.then_n <| J.seq ?_
  refine J.draw [14] Tryz.mixed (by kernel_rfl) fun hR => ?_
  refine RG.p 0 hR rfl (Q.mv rfl) <| RG.p 1 hR rfl (Q.lenSl runUnderlying22 rfl) <| RG.p 2 hR rfl (Q.mv rfl) <| RG.p 3 hR rfl (Q.nil_ rfl) <| RG.p 4 hR rfl (Q.fa (n := 0) runUnderlying127 rfl rfl sizeOf3 rfl) ?_
  refine RG.p 5 hR rfl (Q.ldI isAgg3 rfl) ?_
  refine RG.p 6 hR rfl (Q.add64 rfl rfl (by omega)) <| RG.p 7 hR rfl (Q.sub64 rfl rfl (by omega)) <| RG.p 8 hR rfl (Q.mv rfl) <| RG.p 9 hR rfl (Q.nil_ rfl) <| RG.p 10 hR rfl (Q.fa (n := 0) runUnderlying127 rfl rfl sizeOf3 rfl) ?_
  refine RG.p 11 hR rfl (Q.ldI isAgg3 rfl) ?_
  refine RG.p 12 hR rfl (Q.quo64 rfl rfl (by omega) (by omega) (by omega)) <| RG.p 13 hR rfl (Q.maxI rfl) ?_
  refine RG.slot 22 (.int .i64 (s : Int)) rfl (congrArg _ (by rw [hs]; exact shLen_int hk)) ?_
  refine RG.bar 14 hR rfl rfl rfl rfl rfl rfl (Q.asg rfl).toC ?_
  rintro _ _ ⟨rfl, rfl⟩
  refine RG.norm rfl ?_
  refine RG.fin hR rfl ?_
  refine J.norm rfl <| J.then_n <| J.seq <| J.region <| J.m rfl <| J.p rfl (Q.nil_ rfl) <| J.p rfl (Q.fa (n := 0) runUnderlying127 rfl rfl sizeOf3 rfl) ?_
  refine J.p rfl (Q.ldI isAgg3 rfl) ?_
  refine J.m rfl ?_
  have hci : (k : Int) * (s : Int) = ((k * s : Nat) : Int) := by rw [Int.natCast_mul]
  refine J.p rfl (Q.mul64 rfl rfl (by omega)) ?_
  refine J.slot 28 (.int .i64 ((k * s : Nat) : Int)) rfl (congrArg _ hci) ?_
  refine J.c rfl rfl (C.mksl runUnderlying22 typeInfo5 sizeOf5 zeroValue5 rfl rfl rfl (by omega) (by omega) (by simp [Tryz.t5]; omega) (by omega)) ?_
  rintro _ _ ⟨b29, rfl, rfl⟩
  refine J.norm rfl ?_
  refine J.slot 29 (.slice (some ⟨b29, 0, none⟩) (k * s) (k * s)) rfl rfl ?_
  refine J.conv (Y := own 5 1 (.slice (some ⟨b29, 0, none⟩) (k * s) (k * s)) (bytesV (List.replicate (k * s) 0))) 0 rfl (by rw [bytesV, List.map_replicate]; exact own_of_block (by rw [List.length_replicate, Nat.mul_one, Int.toNat_natCast])) ?_
  refine J.p rfl (Q.asg rfl) <| J.nil <| J.then_n <| J.seq <| J.region <| J.m rfl <| J.m rfl ?_
  refine J.c rfl rfl (C.copyI (b := b29) runUnderlying22 sizeOf5 rfl hd.inI (by omega) (by simp [bytesV]) (by simp [bytesV, byteV, oneC])) ?_
  rintro _ _ ⟨rfl, rfl⟩
  refine J.norm rfl ?_
  have hpad : bytesV data ++ (bytesV (List.replicate (k * s) 0)).drop data.length = bytesV (padded k data) := by
   rw [padded, ← hs]; simp [bytesV]
  rw [hpad]
  refine J.slrI (E0 := 5) (sz := 1) (p := some ⟨b29, 0, none⟩) (n := k * s) (c := k * s) (xs := bytesV (padded k data)) fun hal => ?_
  refine J.nil <| J.then_n <| J.seq <| J.region <| J.p rfl (Q.asg rfl) <| J.nil <| J.then_n <| J.seq <| J.seq <| J.region <| J.m rfl <| J.p rfl (Q.nil_ rfl) <| J.p rfl (Q.fa (n := 0) runUnderlying127 rfl rfl sizeOf3 rfl) ?_
  refine J.p rfl (Q.ldI isAgg3 rfl) ?_
  refine J.m rfl <| J.nil <| J.then_n <| J.block ?_
  refine J.give (X := star (([] : List RowH).map RowH.asn)) trivial ?_
  refine J.give (X := own 22 1 (.slice none 0 0) (([] : List RowH).map RowH.val)) (own.nil _ _ _) ?_
  refine J.loop3I (fun (hs : List RowH) (_ : Option Addr) (_ : Nat) => hs.length ≤ k ∧ hs.map RowH.bs = (dataL k data).take hs.length) (fun hs _ _ => k - hs.length) (fun hs p c => [(5, .int .i64 s), (6, .slice (some ⟨b29, 0, none⟩) (k * s) (k * s)), (7, .slice p hs.length c), (36, .int .i64 k), (37, .int .i64 hs.length)])
   (fun hs p c => [own 22 1 (.slice p hs.length c) (hs.map RowH.val), star (hs.map RowH.asn), own 5 1 (.slice (some ⟨b29, 0, none⟩) (k * s) (k * s)) (bytesV (padded k data)), pt cb (.cells [.int .i64 k, .int .i64 m, .slice z.1 m z.2].toArray 127 (0, 0)), MatAt 22 z.1 z.2 (cauchyL m k), G, F]) [] none 0 ⟨by simp, rfl⟩ ⟨rfl, rfl, rfl, rfl, rfl, trivial⟩ fun hs2 p c hz => ?_
  obtain ⟨hz1, hz2⟩ := hz
  refine J.seq <| J.region <| J.p rfl (Q.lss rfl rfl) <| J.nil <| J.then_n <| J.seq ?_
  refine J.kases 38 rfl (fun hc38 => ?_) (fun hc38 => ?_)
  ·
   try (first | (cases hc38; done) | (exfalso; simp at hc38; done))
   all_goals
    refine J.cond_t rfl <| J.cskip <| J.then_n <| J.seq <| J.block <| J.seq ?_
    obtain ⟨i, hi⟩ : ∃ i, i = hs2.length := ⟨_, rfl⟩
    rw [← hi] at hz1 hz2 ⊢
    have hik : (i + 1) * s ≤ k * s := Nat.mul_le_mul_right s (by omega)
    have hi1 : (i + 1) * s = i * s + s := Nat.succ_mul i s
    have hc1 : (i : Int) * (s : Int) = ((i * s : Nat) : Int) := by rw [Int.natCast_mul]
    have hc2 : ((i : Int) + 1) * (s : Int) = ((i * s + s : Nat) : Int) := by rw [← hi1, Int.natCast_mul]; rfl
    obtain ⟨_, _, hb29, hrd⟩ := hal.some_ (by omega)
    cases hb29
    obtain ⟨o2, d2, hsl, hval⟩ := slr_part hrd (show (bytesV (padded k data)).length = k * s by rw [bytesV_len, hpl]) (show i * s + s ≤ k * s by omega) (Nat.le_refl _)
    have hchl : (((padded k data).drop (i * s)).take s).length = s := by rw [List.length_take, List.length_drop, hpl]; omega
    refine J.region <| J.m rfl <| J.p rfl (Q.asg rfl) <| J.nil <| J.then_n <| J.region <| J.m rfl <| J.m rfl <| J.m rfl <| J.m rfl <| J.p rfl (Q.mul64 rfl rfl (by omega)) ?_
    refine J.slot 44 (.int .i64 ((i * s : Nat) : Int)) rfl (congrArg _ hc1) ?_
    refine J.m rfl <| J.p rfl (Q.add64 rfl rfl (by omega)) <| J.m rfl <| J.p rfl (Q.mul64 rfl rfl (by omega)) ?_
    refine J.slot 48 (.int .i64 ((i * s + s : Nat) : Int)) rfl (congrArg _ hc2) ?_
    refine J.p rfl (Q.slLH runUnderlying22 sizeOf5 rfl rfl rfl (by omega) (by omega) (by omega)) ?_
    refine J.slot 49 (.slice o2 (((padded k data).drop (i * s)).take s).length d2) rfl (by rw [hchl, ← hval]; rfl) ?_
    refine J.callI call70 (clone_spec (own 5 1 (.slice (some ⟨b29, 0, none⟩) (k * s) (k * s)) (bytesV (padded k data))) o2 d2 (((padded k data).drop (i * s)).take s) (by rw [hchl, bytesV_part]; exact hsl) (by omega)) rfl rfl rfl ?_
    rintro _ _ ⟨rp, rc, rfl, rfl⟩
    refine J.norm rfl ?_
    obtain ⟨r, hr⟩ : ∃ r : RowH, r = ⟨rp, rc, ((padded k data).drop (i * s)).take s⟩ := ⟨_, rfl⟩
    refine J.slot 50 r.val rfl (by subst hr; rfl) ?_
    refine J.convI (own 5 1 (.slice rp (((padded k data).drop (i * s)).take s).length rc) (bytesV (((padded k data).drop (i * s)).take s))) r.asn (fun h s => by subst hr; exact s) ?_
    refine J.c rfl rfl (C.bslG (l := [r.val]) runUnderlying45 sizeOf22 zeroValue22 (by decide) rfl rfl rfl rfl rfl) ?_
    rintro _ _ ⟨b51, rfl, rfl⟩
    refine J.norm rfl ?_
    refine J.c rfl rfl (C.appI runUnderlying45 runUnderlying45 typeInfo22 sizeOf22 zeroValue22 rfl rfl (SlR.ptI rfl) (by simp [oneC, RowH.val]) (by simp [Tryz.t22] <;> omega) (by decide)) ?_
    rintro _ _ ⟨p52, c52, rfl, rfl⟩
    refine J.norm rfl ?_
    refine J.addoneI (f := RowH.asn) (l := hs2) r ?_
    refine J.p rfl (Q.asg rfl) <| J.nil <| J.blk_n <| J.then_n <| J.region <| J.p rfl (Q.add64 rfl rfl (by omega)) <| J.m rfl <| J.nil ?_
    have hn1 : hs2.length + 1 = (hs2 ++ [r]).length := by simp
    have hv1 : hs2.map RowH.val ++ [r.val] = (hs2 ++ [r]).map RowH.val := by simp
    have hne : (hs2 ++ [r]).map RowH.bs = (dataL k data).take (hs2 ++ [r]).length := rows_next (by rw [← hi]; exact hz2) (by rw [← hi, dataL_at (by omega), ← hs]; subst hr; rfl)
    rw [hi, hn1, hv1]
    refine J.againI (hs2 ++ [r], p52, c52) ⟨by show (hs2 ++ [r]).length ≤ k; omega, hne⟩ (by show k - (hs2 ++ [r]).length < k - hs2.length; omega) ⟨rfl, rfl, (by show _ = some (Value.slice p52 (hs2 ++ [r]).length c52); rw [← hn1]; rfl), rfl, (by show _ = some (Value.int .i64 ((hs2 ++ [r]).length : Nat)); rw [← hn1]; rfl), trivial⟩
  try (first | (cases hc38; done) | (exfalso; simp at hc38; done))
  all_goals
   refine J.cond_f rfl <| J.exit <| J.then_x <| J.lp_x <| J.blk_x <| J.then_n <| J.seq <| J.region <| J.m rfl <| J.p rfl (Q.asg rfl) <| J.nil <| J.then_n <| J.cret ?_
   have hkl : hs2.length = k := by omega
   rw [hkl] at hz2 ⊢
   refine J.shutI [own 22 1 (.slice p k c) (hs2.map RowH.val), star (hs2.map RowH.asn)] (MatAt 22 p c (dataL k data)) (fun h s => ⟨hs2, by rw [hz2, List.take_of_length_le (by simp [dataL])], by rw [show (dataL k data).length = k by simp [dataL]]; exact s⟩) ?_
   refine J.shutI (codeAs cb k m z) (CodeAt cb k m) (fun h s => ⟨z, s⟩) ?_
   exact J.ret1I [MatAt 22 p c (dataL k data), CodeAt cb k m, G] rfl rfl ⟨p, c, rfl, rfl⟩

theorem J.rowsI [Dfs] {W0 : World} {N : Nat} {L : Slots} {A D : List Assn} {Gl : Act → World → Prop} {hs : List RowH} [h : PickO A (star (hs.map RowH.asn)) D] (j : (∀ r, r ∈ hs → SlR [star (hs.map RowH.asn)] 1 r.val (bytesV r.bs)) → J W0 N L A Gl) : J W0 N L A Gl :=
  J.slrAllI (f := RowH.asn) (p := RowH.p) (n := fun r => r.bs.length) (c := RowH.c) (xs := fun r => bytesV r.bs) (fun _ => rfl) j
theorem none_missing {n : Nat} {hs : List RowH} (hl : hs.length = n) (h : ∀ r, r ∈ hs → 0 < r.bs.length) {r : Int} (hf : First n (fun i => decide (((hs[i]?.map (·.bs.length)).getD 0 : Int) = 0)) r) : r < 0 := by
  rcases hf with ⟨h, _⟩ | ⟨i, _, hi, hq⟩
  · omega
  · obtain ⟨x, hx⟩ : ∃ x, hs[i]? = some x := ⟨_, List.getElem?_eq_getElem (by omega)⟩
    have := h x (List.mem_of_getElem? hx)
    simp only [hx, Option.map_some, Option.getD_some, decide_eq_true_eq] at hq
    omega
theorem J.joinI [Dfs] {W0 : World} {N : Nat} {L : Slots} {A D : List Assn} {Gl : Act → World → Prop} {α : Type} {f : α → Assn} (a b : List α) [h : PickL A [star (a.map f), star (b.map f)] D] (k : J W0 N L (star ((a ++ b).map f) :: D) Gl) : J W0 N L A Gl :=
  J.shutI [star (a.map f), star (b.map f)] (star ((a ++ b).map f)) (fun q s => by rw [List.map_append]; exact stars_in s) k
theorem parity_spec (cb k m w : Nat) (hk : 0 < k) (hkm : k + m ≤ 255) (hw1 : 0 < w) (hw : w ≤ 1000000) (G : Assn) (sp : Option Addr) (sc : Nat) (ss : List RowH) (hsl : ss.length = k)
    (hs : SlR [G] 1 (.slice sp k sc) (ss.map RowH.val)) (hsr : ∀ r, r ∈ ss → r.bs.length = w ∧ SlR [G] 1 r.val (bytesV r.bs)) :
    FSpec Tryz.prog 56 [.pointer (some ⟨cb, 0, none⟩), .slice sp k sc] [CodeAt cb k m, G] (fun v B => ∃ p c, v = .tuple #[.slice p m c, .int .i64 0] ∧ B = [MatAt 22 p c (timesL (cauchyL m k) (ss.map RowH.bs)), CodeAt cb k m, G]) := by
  refine FSpec.ofD func56 rfl ntmps56 rfl fun W0 F => ?_
  refine J.seq ?_
  refine J.openI (CodeAt cb k m) CodeAt.opn fun z _ => ?_
  refine J.region ?_
  refine J.c rfl rfl (C.alloc (l := [_]) zeroValue45 rfl) ?_
  rintro _ _ ⟨b4, rfl, rfl⟩
  refine J.norm rfl ?_
  refine J.c rfl rfl (C.alloc (l := [_]) zeroValue27 rfl) ?_
  rintro _ _ ⟨b5, rfl, rfl⟩
  refine J.norm rfl <| J.nil <| J.then_n <| J.seq <| J.region <| J.p rfl (Q.func rfl rfl) ?_
  refine J.defer rfl rfl ?_
  intro iD hDf
  refine J.nil <| J.then_n <| J.seq <| J.seq <| J.region <| J.m rfl <| J.p rfl (Q.nil_ rfl) <| J.p rfl (Q.fa (n := 0) runUnderlying127 rfl rfl sizeOf3 rfl) ?_
  refine J.p rfl (Q.ldI isAgg3 rfl) ?_
  refine J.m rfl ?_
  refine J.callI call66 (alike_spec k w G sp sc ss hsl (by omega) (by omega) hs (fun r hr => .inr (hsr r hr).1)) rfl rfl rfl ?_
  rintro _ _ ⟨m', rfl, _, _, rfl⟩
  refine J.norm rfl <| J.nil <| J.then_n <| J.seq <| J.region <| J.m rfl ?_
  refine J.callI call113 (missing_spec k G sp sc ss hsl (by omega) hs) rfl rfl rfl ?_
  rintro _ _ ⟨r, rfl, hr, rfl⟩
  refine J.norm rfl <| J.p rfl (Q.geq rfl rfl) <| J.nil <| J.then_n ?_
  refine J.cases 15 rfl (fun hc15 => ?_) (fun hc15 => ?_)
  ·
   have h1 := X.nm hc15; have h2 := none_missing hsl (fun r hr => by have := (hsr r hr).1; omega) hr; exfalso; omega
  replace hc15 := X.nm hc15
  try (first | (cases hc15; done) | (exfalso; simp at hc15; done))
  all_goals
   refine J.cond_f rfl <| J.cskip <| J.then_n <| J.seq <| J.seq <| J.region <| J.m rfl <| J.p rfl (Q.nil_ rfl) <| J.p rfl (Q.fa (n := 1) runUnderlying127 rfl rfl sizeOf3 rfl) ?_
   refine J.p rfl (Q.ldI isAgg3 rfl) ?_
   refine J.p rfl (Q.eql rfl rfl) <| J.nil <| J.then_n ?_
   refine J.kases 21 rfl (fun hc21 => ?_) (fun hc21 => ?_)
   ·
    try (first | (cases hc21; done) | (exfalso; simp at hc21; done))
    all_goals
     refine J.cond_t rfl <| J.seq <| J.region ?_
     refine J.stJ rfl sizeOf45 rfl rfl rfl ?_
     refine J.stJ rfl sizeOf27 rfl rfl rfl ?_
     refine J.nil <| J.then_n <| J.cret <| J.then_r ?_
     have hm0 : m = 0 := by omega
     subst hm0
     refine J.shutI (codeAs cb k 0 z) (CodeAt cb k 0) (fun h s => ⟨z, s⟩) ?_
     refine J.give (X := MatAt 22 none 0 []) (MatAt.nil _) ?_
     exact J.retD (p := ⟨b4, 0, none⟩) (q := ⟨b5, 0, none⟩) [MatAt 22 none 0 [], CodeAt cb k 0, G] hDf call64 (told_spec _ _) rfl rfl rfl isAgg45 isAgg27 (rdI (by exact rfl)) (rdI (by exact rfl)) ⟨none, 0, rfl, rfl⟩
   try (first | (cases hc21; done) | (exfalso; simp at hc21; done))
   all_goals
    refine J.cond_f rfl <| J.cskip <| J.then_n <| J.seq ?_
    have hm1 : 0 < m := by omega
    refine J.openI (MatAt 22 z.1 z.2 (cauchyL m k)) (p := fun ms : List RowH => ms.map RowH.bs = cauchyL m k) (Bs := fun ms => [own 22 1 (.slice z.1 m z.2) (ms.map RowH.val), star (ms.map RowH.asn)]) (fun h ⟨ms, h1, h2⟩ => ⟨ms, h1, by rw [cauchyL_len] at h2; exact h2⟩) fun ms hms => ?_
    have hml : ms.length = m := by have := congrArg List.length hms; simpa [cauchyL] using this
    have hmr : ∀ r, r ∈ ms → r.bs.length = k := fun r hr => by
     have : r.bs ∈ cauchyL m k := hms ▸ List.mem_map_of_mem hr
     simp only [cauchyL, List.mem_map] at this
     obtain ⟨i, _, hi⟩ := this; rw [← hi]; simp
    refine J.slrI (E0 := 22) (sz := 1) (p := z.1) (n := m) (c := z.2) (xs := ms.map RowH.val) fun h1 => ?_
    refine J.rowsI (hs := ms) fun h2 => ?_
    refine J.shutI [own 22 1 (.slice z.1 m z.2) (ms.map RowH.val), star (ms.map RowH.asn), G] (star [own 22 1 (.slice z.1 m z.2) (ms.map RowH.val), star (ms.map RowH.asn), G]) (fun h s => s) ?_
    refine J.region <| J.m rfl <| J.p rfl (Q.nil_ rfl) <| J.p rfl (Q.fa (n := 2) runUnderlying127 rfl rfl sizeOf125 rfl) ?_
    refine J.p rfl (Q.ldI isAgg125 rfl) ?_
    refine J.m rfl ?_
    refine J.callI call114 (times_spec (star [own 22 1 (.slice z.1 m z.2) (ms.map RowH.val), star (ms.map RowH.asn), G]) k w m hk (by omega) hw hm1 (by omega) z.1 z.2 ms hml sp sc ss hsl (h1.into 0 rfl) (fun r hr => ⟨hmr r hr, (h2 r hr).into 1 rfl⟩) (hs.into 2 rfl) (fun r hr => ⟨(hsr r hr).1, (hsr r hr).2.into 2 rfl⟩)) rfl rfl rfl ?_
    rintro _ _ ⟨p, c, rfl, rfl⟩
    refine J.norm rfl ?_
    refine J.stJ rfl sizeOf45 rfl rfl rfl ?_
    refine J.stJ rfl sizeOf27 rfl rfl rfl ?_
    refine J.nil <| J.then_n <| J.cret ?_
    refine J.unpackI [own 22 1 (.slice z.1 m z.2) (ms.map RowH.val), star (ms.map RowH.asn), G] ?_
    refine J.norm rfl ?_
    refine J.shutI [own 22 1 (.slice z.1 m z.2) (ms.map RowH.val), star (ms.map RowH.asn)] (MatAt 22 z.1 z.2 (cauchyL m k)) (fun h s => ⟨ms, hms, by rw [cauchyL_len]; exact s⟩) ?_
    refine J.shutI (codeAs cb k m z) (CodeAt cb k m) (fun h s => ⟨z, s⟩) ?_
    rw [hms]
    exact J.retD (p := ⟨b4, 0, none⟩) (q := ⟨b5, 0, none⟩) [MatAt 22 p c (timesL (cauchyL m k) (ss.map RowH.bs)), CodeAt cb k m, G] hDf call64 (told_spec _ _) rfl rfl rfl isAgg45 isAgg27 (rdI (by exact rfl)) (rdI (by exact rfl)) ⟨p, c, rfl, rfl⟩

theorem encode_spec (cb k m : Nat) (hk : 0 < k) (hkm : k + m ≤ 255) (G : Assn) (dp : Option Addr) (dc : Nat) (data : List U) (hd : SlR [G] 1 (.slice dp data.length dc) (bytesV data)) (hn : data.length ≤ 999999) :
    FSpec Tryz.prog 19 [.pointer (some ⟨cb, 0, none⟩), .slice dp data.length dc] [CodeAt cb k m, G] (fun v B => ∃ p c, v = .slice p (k + m) c ∧ B = [MatAt 22 p c (fullL k m (dataL k data)), CodeAt cb k m, G]) := by
  refine FSpec.of func19 rfl ntmps19 rfl fun W0 F => ?_
  refine J.seq <| J.region <| J.p rfl (Q.asg rfl) <| J.nil <| J.then_n <| J.seq <| J.region <| J.m rfl <| J.m rfl ?_
  refine J.callI call55 (split_spec cb k m hk (by omega) G dp dc data hd (by omega)) rfl rfl rfl ?_
  rintro _ _ ⟨p, c, rfl, rfl⟩
  refine J.norm rfl ?_
  have hrect := dataL_rect (k := k) (data := data) hk
  have hsl1 := shLen_ge (k := k) (n := data.length)
  have hsl2 := shLen_lt (k := k) (n := data.length)
  refine J.openI (MatAt 22 p c (dataL k data)) (p := fun hs : List RowH => hs.map RowH.bs = dataL k data) (Bs := fun hs => [own 22 1 (.slice p k c) (hs.map RowH.val), star (hs.map RowH.asn)]) (fun h ⟨hs, h1, h2⟩ => ⟨hs, h1, by rw [hrect.len] at h2; exact h2⟩) fun hs hhs => ?_
  have hhl : hs.length = k := by have := congrArg List.length hhs; rw [hrect.len] at this; simpa using this
  have hhr : ∀ r, r ∈ hs → r.bs.length = shLen k data.length := fun r hr => hrect.row _ (hhs ▸ List.mem_map_of_mem hr)
  refine J.slrI (E0 := 22) (sz := 1) (p := p) (n := k) (c := c) (xs := hs.map RowH.val) fun h1 => ?_
  refine J.rowsI (hs := hs) fun h2 => ?_
  refine J.shutI [own 22 1 (.slice p k c) (hs.map RowH.val), star (hs.map RowH.asn)] (star [own 22 1 (.slice p k c) (hs.map RowH.val), star (hs.map RowH.asn)]) (fun h s => s) ?_
  refine J.p rfl (Q.asg rfl) <| J.nil <| J.then_n <| J.seq <| J.region <| J.m rfl <| J.m rfl ?_
  refine J.callI call56 (parity_spec cb k m (shLen k data.length) hk hkm hsl1 (by omega) (star [own 22 1 (.slice p k c) (hs.map RowH.val), star (hs.map RowH.asn)]) p c hs hhl (h1.into 0 rfl) (fun r hr => ⟨hhr r hr, (h2 r hr).into 1 rfl⟩)) rfl rfl rfl ?_
  rintro _ _ ⟨p2, c2, rfl, rfl⟩
  refine J.norm rfl <| J.m rfl <| J.p rfl (Q.ext rfl rfl) <| J.p rfl (Q.ext rfl rfl) <| J.p rfl (Q.asg rfl) <| J.p rfl (Q.asg rfl) <| J.nil <| J.then_n <| J.seq ?_
  rw [hhs]
  have hpl : (timesL (cauchyL m k) (dataL k data)).length = m := by rw [(timesL_rect (m := cauchyL m k) hrect hk).len, cauchyL_len]
  refine J.openI (MatAt 22 p2 c2 (timesL (cauchyL m k) (dataL k data))) (p := fun ms : List RowH => ms.map RowH.bs = timesL (cauchyL m k) (dataL k data)) (Bs := fun ms => [own 22 1 (.slice p2 m c2) (ms.map RowH.val), star (ms.map RowH.asn)]) (fun h ⟨ms, h1, h2⟩ => ⟨ms, h1, by rw [hpl] at h2; exact h2⟩) fun ms hms => ?_
  refine J.unpackI [own 22 1 (.slice p k c) (hs.map RowH.val), star (hs.map RowH.asn)] ?_
  refine J.norm rfl ?_
  refine J.slrI (E0 := 22) (sz := 1) (p := p2) (n := m) (c := c2) (xs := ms.map RowH.val) fun h3 => ?_
  refine J.region <| J.m rfl <| J.m rfl ?_
  refine J.c rfl rfl (C.appI runUnderlying45 runUnderlying45 typeInfo22 sizeOf22 zeroValue22 rfl rfl (h3.inI) (by simp [oneC, RowH.val]) (by simp [Tryz.t22] <;> omega) (by decide)) ?_
  rintro _ _ ⟨p19, c19, rfl, rfl⟩
  refine J.norm rfl <| J.p rfl (Q.asg rfl) <| J.nil <| J.then_n <| J.cret ?_
  refine J.joinI (f := RowH.asn) hs ms ?_
  rw [← List.map_append (f := RowH.val)]
  refine J.shutI [own 22 1 (.slice p19 (k + m) c19) ((hs ++ ms).map RowH.val), star ((hs ++ ms).map RowH.asn)] (MatAt 22 p19 c19 (fullL k m (dataL k data))) (fun h s => ⟨hs ++ ms, by rw [List.map_append, hhs, hms]; rfl, by rw [(fullL_rect (m := m) hrect hk).len]; exact s⟩) ?_
  exact J.ret1I [MatAt 22 p19 c19 (fullL k m (dataL k data)), CodeAt cb k m, G] rfl rfl ⟨p19, c19, rfl, rfl⟩
end Go.Proofs.YtblpcabdfbpcnaaGreatDoor
namespace Go.X
set_option linter.unusedSectionVars false
set_option linter.unusedSimpArgs false
set_option linter.unusedVariables false

section
variable {P : Program} {L : Slots} {A D : List Assn} {ty T : TypeId} {x y : Operand}

theorem slr_cells {sz n c : Nat} {p : Option Addr} {xs : List Value} {W0 w : World} (h : SlR A sz (.slice p n c) xs) (s : Sat W0 w A) : (Builtin.firstCells sz n (.slice p n c)).run P w = .ok xs.toArray w := by
  rcases h with ⟨_, c, e, rfl⟩ | ⟨b, off, len, cap, e, hl, hr⟩
  · cases e; cases p <;> simp [Builtin.firstCells, loadCells, loadCellsFrom]
  · cases e; simp only [Builtin.firstCells]; rw [← hl]; exact hr.cells s

theorem C.appNew {E sz n m c2 : Nat} {T' E2 : TypeId} {ti : TypeInfo} {zv : Value} {p p2 : Option Addr} {xs ys : List Value}
    (ht : ∀ w, (underlying T).run P w = .ok (.slice E) w) (ht2 : ∀ w, (underlying T').run P w = .ok (.slice E2) w)
    (hi : ∀ w, (typeInfo E).run P w = .ok ti w) (hs : ∀ w, (sizeOf E).run P w = .ok sz w) (hz : ∀ w, (zeroValue E).run P w = .ok zv w) (hzs : zv.cells.size = sz)
    (ex : evs L [x, y] = some [.slice p n n, .slice p2 m c2]) (hx : SlR A sz (.slice p n n) xs) (hsrc : SlR A sz (.slice p2 m c2) ys) (hm : 0 < m)
    (hfit : (n + m) * ti.bytes ≤ 140737488355328) (hb0 : ti.bytes ≠ 0) :
    OpC P (.call { callee := .builtin .append, args := #[x, y], argTypes := #[T, T'] }) ty L A (fun v B => ∃ b c', v = .slice (some ⟨b, 0, none⟩) (n + m) c' ∧ B = own E sz (.slice (some ⟨b, 0, none⟩) (n + m) c') (xs ++ ys) :: A) := by
  refine ⟨fun dst pos aft g a W0 w ag s K Q k => ?_⟩
  have hfits : Builtin.nextslicecap (n + m) n * ti.bytes ≤ 281474976710656 := growslice_fits (by omega) hfit
  have h48 : ¬ (281474976710656 < Builtin.nextslicecap (n + m) n * ti.bytes) := by omega
  have hn : ¬ n + m ≤ n := by omega
  have s1 : Sat W0 w.drew A := ⟨s.os, s.tape, s.out, s.heap⟩
  have hf := slr_cells (P := P) hsrc s1
  have hold := slr_cells (P := P) hx s1
  have hy := hsrc.len
  have hxl := hx.len
  have hlen : ∀ w, (Builtin.lenOf (.slice p2 m c2)).run P w = .ok m w := fun _ => rfl
  have hge := grownCap_ge w (n + m) n E
  have hz0 : (Builtin.zeroCells zv.cells (grownCap w (n + m) n E - (n + m))).size = (grownCap w (n + m) n E - (n + m)) * sz := by rw [size_zeroCells, hzs]
  have hr : ∃ gc, n + m ≤ gc ∧ ∃ zc : Array Value, zc.size = (gc - (n + m)) * sz ∧ (Builtin.append_ #[T, T'] ty #[.slice p n n, .slice p2 m c2]).run P w = .ok (.slice (some ⟨w.heap.size, 0, none⟩) (n + m) gc) { w.drew with heap := w.drew.heap.push (.cells (xs ++ ys ++ zc.toList).toArray E (0, 0)) } := by
    refine ⟨grownCap w (n + m) n E, hge, _, hz0, ?_⟩
    have e1 : (xs ++ ys ++ (Builtin.zeroCells zv.cells (grownCap w (n + m) n E - (n + m))).toList).toArray = xs.toArray ++ ys.toArray ++ (Builtin.zeroCells zv.cells (grownCap w (n + m) n E - (n + m))) := by apply Array.ext'; simp
    rw [e1]
    simp [Builtin.append_, ht, ht2, hi, hs, hz, hlen, hn, hb0, h48, Question.forced, hf, hold, newRow, grownCap] <;> rw [← Array.append_assoc, show xs.toArray ++ ys.toArray = (xs ++ ys).toArray from by simp] <;> rfl
  obtain ⟨gc, hge, zc, hz0, r⟩ := hr
  have s2 := s1.new (.cells (xs ++ ys ++ zc.toList).toArray E (0, 0))
  have e := evs_map (l := [x, y]) (fun z hz => ag z (by simp only [Op.operands, Call.operands]; simpa using hz)) ex
  simp only [List.map_cons, List.map_nil, List.cons.injEq, and_true] at e
  obtain ⟨e1, e2⟩ := e
  have hrr : (execOp a.eval ⟨dst, .call { callee := .builtin .append, args := #[x, y], argTypes := #[T, T'] }, ty, pos, aft, g⟩).run P w = .ok (.value (.slice (some ⟨w.heap.size, 0, none⟩) (n + m) gc)) { w.drew with heap := w.drew.heap.push (.cells (xs ++ ys ++ zc.toList).toArray E (0, 0)) } := by
    simp [execOp, resolve, invoke, builtin, e1, e2, r]
  unfold Oper.wp
  rw [hrr, Oper.upon_value]
  refine k _ _ _ ⟨w.heap.size, gc, rfl, rfl⟩ (s2.imp fun q t => HSat.imp t fun k hk => .inr ⟨⟨w.heap.size, 0, n + m, gc, xs ++ ys ++ zc.toList, (0, 0)⟩, ⟨rfl, by simp [hxl, hy, Nat.add_mul], hge, ?_, ?_, by simp⟩, hk⟩)
  · have : gc * sz = (n + m) * sz + (gc - (n + m)) * sz := by rw [← Nat.add_mul]; congr 1; omega
    simp [hxl, hy, hz0, Nat.add_mul] at this ⊢; omega
  · intro j u hj
    rw [Nat.zero_add, List.getElem?_append_left (List.getElem?_eq_some_iff.1 hj).1]; exact hj

theorem Q.app0 {E sz n c c2 : Nat} {T' E2 : TypeId} {p p2 : Option Addr}
    (ht : ∀ w, (underlying T).run P w = .ok (.slice E) w) (ht2 : ∀ w, (underlying T').run P w = .ok (.slice E2) w) (hs : ∀ w, (sizeOf E).run P w = .ok sz w)
    (ex : evs L [x, y] = some [.slice p n c, .slice p2 0 c2]) (hc : n ≤ c) :
    OpQ P (.call { callee := .builtin .append, args := #[x, y], argTypes := #[T, T'] }) ty L D (.slice p n c) :=
  OpQ.built (xs := [x, y]) ex fun w cs => by
    have hlen : ∀ w, (Builtin.lenOf (.slice p2 0 c2)).run P w = .ok 0 w := fun _ => rfl
    have hf : (Builtin.firstCells sz 0 (.slice p2 0 c2)).run P w = .ok #[] w := by cases p2 <;> simp [Builtin.firstCells, loadCells, loadCellsFrom]
    cases p <;> simp [builtin, Builtin.append_, ht, ht2, hs, hlen, hf, hc, storeCells]

theorem C.appZ {E n : Nat} {T' : TypeId} {ti : TypeInfo} {zv : Value}
    (ht : ∀ w, (underlying T).run P w = .ok (.slice E) w) (ht2 : ∀ w, (underlying T').run P w = .ok (.int .i64) w)
    (hi : ∀ w, (typeInfo E).run P w = .ok ti w) (hs : ∀ w, (sizeOf E).run P w = .ok 1 w) (hz : ∀ w, (zeroValue E).run P w = .ok zv w) (hzs : zv.cells.size = 1)
    (ex : evs L [x, y] = some [.slice none 0 0, .int .i64 n]) (hm : 0 < n)
    (hfit : n * ti.bytes ≤ 140737488355328) (hb0 : ti.bytes ≠ 0) :
    OpC P (.call { callee := .builtin .append, args := #[x, y], argTypes := #[T, T'] }) ty L A (fun v B => ∃ b c' xs, xs.length = n ∧ v = .slice (some ⟨b, 0, none⟩) n c' ∧ B = own E 1 (.slice (some ⟨b, 0, none⟩) n c') xs :: A) := by
  refine ⟨fun dst pos aft g a W0 w ag s K Q k => ?_⟩
  have hfits : Builtin.nextslicecap n 0 * ti.bytes ≤ 281474976710656 := growslice_fits (by omega) hfit
  have h48 : ¬ (281474976710656 < Builtin.nextslicecap n 0 * ti.bytes) := by omega
  have hn0 : ¬ n = 0 := by omega
  have hb1 : n ≤ n * ti.bytes := Nat.le_mul_of_pos_right n (by omega)
  have hw : IntKind.i64.wrap (n : Int) = n := IntWalk.i64_in _ (by omega)
  have hbig : ¬ (281474976710656 < (n : Int) * (ti.bytes : Int)) := by
    have : ((n * ti.bytes : Nat) : Int) = (n : Int) * (ti.bytes : Int) := by rw [Int.natCast_mul]
    omega
  have hneg : ¬ ((n : Int) < 0) := by omega
  have hmax : ¬ (IntKind.i64.max < (n : Int)) := by show ¬ (9223372036854775807 < (n : Int)); omega
  have s1 : Sat W0 w.drew A := ⟨s.os, s.tape, s.out, s.heap⟩
  have hge := grownCap_ge w n 0 E
  have hz0 : (Builtin.zeroCells zv.cells (grownCap w n 0 E - n)).size = (grownCap w n 0 E - n) * 1 := by rw [size_zeroCells, hzs]
  have hz1 : (Builtin.zeroCells zv.cells n).size = n * 1 := by rw [size_zeroCells, hzs]
  have hr : ∃ gc, n ≤ gc ∧ ∃ zc yc : Array Value, zc.size = (gc - n) * 1 ∧ yc.size = n ∧ (Builtin.append_ #[T, T'] ty #[.slice none 0 0, .int .i64 n]).run P w = .ok (.slice (some ⟨w.heap.size, 0, none⟩) n gc) { w.drew with heap := w.drew.heap.push (.cells (yc.toList ++ zc.toList).toArray E (0, 0)) } := by
    refine ⟨grownCap w n 0 E, hge, _, _, hz0, by rw [hz1, Nat.mul_one], ?_⟩
    have e1 : ((Builtin.zeroCells zv.cells n).toList ++ (Builtin.zeroCells zv.cells (grownCap w n 0 E - n)).toList).toArray = Builtin.zeroCells zv.cells n ++ Builtin.zeroCells zv.cells (grownCap w n 0 E - n) := by apply Array.ext'; simp
    rw [e1]
    simp [Builtin.append_, ht, ht2, hi, hs, hz, hn0, hw, asInt, asIntOf, hneg, hbig, hmax, hb0, h48, Question.forced, Builtin.firstCells, newRow, grownCap]
    rw [if_neg (by omega)]
    rfl
  obtain ⟨gc, hge, zc, yc, hz0, hyc, r⟩ := hr
  have s2 := s1.new (.cells (yc.toList ++ zc.toList).toArray E (0, 0))
  have e := evs_map (l := [x, y]) (fun z hz => ag z (by simp only [Op.operands, Call.operands]; simpa using hz)) ex
  simp only [List.map_cons, List.map_nil, List.cons.injEq, and_true] at e
  obtain ⟨e1, e2⟩ := e
  have hrr : (execOp a.eval ⟨dst, .call { callee := .builtin .append, args := #[x, y], argTypes := #[T, T'] }, ty, pos, aft, g⟩).run P w = .ok (.value (.slice (some ⟨w.heap.size, 0, none⟩) n gc)) { w.drew with heap := w.drew.heap.push (.cells (yc.toList ++ zc.toList).toArray E (0, 0)) } := by
    simp [execOp, resolve, invoke, builtin, e1, e2, r]
  unfold Oper.wp
  rw [hrr, Oper.upon_value]
  refine k _ _ _ ⟨w.heap.size, gc, yc.toList, by simpa using hyc, rfl, rfl⟩ (s2.imp fun q t => HSat.imp t fun k hk => .inr ⟨⟨w.heap.size, 0, n, gc, yc.toList ++ zc.toList, (0, 0)⟩, ⟨rfl, by simp [hyc], hge, ?_, ?_, by simp⟩, hk⟩)
  · simp [hyc, hz0]; omega
  · intro j u hj
    rw [Nat.zero_add, List.getElem?_append_left (List.getElem?_eq_some_iff.1 hj).1]; exact hj
end

theorem own.cut {E : Nat} {p : Option Addr} {n c k : Nat} {xs : List Value} (hk : k ≤ n) : ∀ h, own E 1 (.slice p n c) xs h → own E 1 (.slice p k c) (xs.take k) h := by
  rintro h (⟨e1, e2⟩ | ⟨o, ho, hp⟩)
  · cases e1; exact .inl ⟨by rw [show k = 0 from by omega], by rw [e2]; simp⟩
  · have hv := ho.val
    simp only [Value.slice.injEq] at hv
    obtain ⟨rfl, rfl, rfl⟩ := hv
    have hl := ho.len
    refine .inr ⟨{ o with len := k }, ⟨rfl, by rw [List.length_take]; show min k xs.length = k * 1; omega, Nat.le_trans hk ho.cap, ho.fits, fun j u hj => ho.get j u ?_, ho.free⟩, hp⟩
    rw [List.getElem?_take] at hj
    split at hj
    · exact hj
    · cases hj

section
variable {P : Program} {L : Slots} {A D : List Assn} {ty T : TypeId} {x y : Operand}
theorem C.appFull {E sz n m c2 : Nat} {T' E2 : TypeId} {ti : TypeInfo} {zv : Value} {p p2 : Option Addr} {xs ys : List Value} (Gs : Assn)
    (ht : ∀ w, (underlying T).run P w = .ok (.slice E) w) (ht2 : ∀ w, (underlying T').run P w = .ok (.slice E2) w)
    (hi : ∀ w, (typeInfo E).run P w = .ok ti w) (hs : ∀ w, (sizeOf E).run P w = .ok sz w) (hz : ∀ w, (zeroValue E).run P w = .ok zv w) (hzs : zv.cells.size = sz)
    (ex : evs L [x, y] = some [.slice p n n, .slice p2 m c2]) (hx : SlR [Gs] sz (.slice p n n) xs) (hsrc : SlR [Gs] sz (.slice p2 m c2) ys) [hg : PickO A Gs D]
    (hfit : (n + m) * ti.bytes ≤ 140737488355328) (hb0 : ti.bytes ≠ 0) :
    OpC P (.call { callee := .builtin .append, args := #[x, y], argTypes := #[T, T'] }) ty L A (fun v B => ∃ q d Y, v = .slice q (n + m) d ∧ SlR [star [Y, Gs]] sz (.slice q (n + m) d) (xs ++ ys) ∧ B = Y :: A) := by
  rcases Nat.eq_zero_or_pos m with rfl | hm
  · refine ⟨fun dst pos aft g a W0 w ag s K Q k => ?_⟩
    have hq := Go.X.Q.app0 (P := P) (D := A) (ty := ty) ht ht2 hs ex (Nat.le_refl _)
    refine hq.toC.wp dst pos aft g a W0 w ag s K Q ?_
    rintro v B w' ⟨rfl, rfl⟩ s'
    have hys : ys = [] := by have := hsrc.len; simpa using this
    subst hys
    refine k _ (star ([] : List Assn) :: _) w' ⟨p, n, star ([] : List Assn), rfl, ?_, rfl⟩ ⟨s'.os, s'.tape, s'.out, ⟨fun _ => none, hp w', trivial, s'.heap, fun _ => .inl rfl, (fun _ _ e => nomatch e), Sub.refl _⟩⟩
    rw [List.append_nil]
    exact hx.into 1 rfl
  · refine ⟨fun dst pos aft g a W0 w ag s K Q k => ?_⟩
    have hq := C.appNew (P := P) (A := A) (ty := ty) ht ht2 hi hs hz hzs ex hx.inI hsrc.inI hm hfit hb0
    refine hq.wp dst pos aft g a W0 w ag s K Q ?_
    rintro v B w' ⟨b, c', rfl, rfl⟩ s'
    obtain ⟨k1, _, hk1, _⟩ := s'.heap
    refine k _ _ w' ⟨_, _, _, rfl, ?_, rfl⟩ s'
    exact (own.slr (D := [own E sz (.slice (some ⟨b, 0, none⟩) (n + m) c') (xs ++ ys)]) (i := 0) rfl ⟨k1, k1, fun _ => none, hk1, trivial, fun _ => .inr rfl, Sub.refl _, fun _ _ e => nomatch e⟩).into 0 rfl
end
end Go.X
namespace Go.Proofs.YtblpcabdfbpcnaaGreatDoor
open Go.Proofs.Tryz
open Go.X Go.X.T

def rowAt (ss : List RowH) (i : Nat) : RowH := (ss[i]?).getD ⟨none, 0, []⟩
def presB (ss : List RowH) (i : Nat) : Bool := decide (0 < (rowAt ss i).bs.length)
def firstK (ss : List RowH) (k i : Nat) : List Nat := ((List.range i).filter (presB ss)).take k
theorem rowAt_some {ss : List RowH} {i : Nat} {r : RowH} (h : ss[i]? = some r) : rowAt ss i = r := by simp [rowAt, h]
theorem firstK_yes {ss : List RowH} {k i : Nat} (h : presB ss i = true) (hl : (firstK ss k i).length < k) : firstK ss k (i + 1) = firstK ss k i ++ [i] := by
  unfold firstK at *
  rw [List.length_take] at hl
  rw [List.range_succ, List.filter_append, List.filter_cons_of_pos h, List.filter_nil, List.take_append, List.take_of_length_le (i := k - _) (by simp; omega)]
theorem firstK_no {ss : List RowH} {k i : Nat} (h : presB ss i = false ∨ k ≤ (firstK ss k i).length) : firstK ss k (i + 1) = firstK ss k i := by
  unfold firstK at *
  rw [List.range_succ, List.filter_append]
  rcases h with h | h
  · rw [List.filter_cons_of_neg (by simp [h]), List.filter_nil, List.append_nil]
  · rw [List.length_take] at h
    rw [List.take_append_of_le_length (by omega)]
theorem firstK_le {ss : List RowH} {k i : Nat} : (firstK ss k i).length ≤ k := by unfold firstK; rw [List.length_take]; omega
theorem firstK_mem {ss : List RowH} {k i n : Nat} (h : n ∈ firstK ss k i) : n < i ∧ presB ss n = true := by
  have := List.mem_of_mem_take h
  rw [List.mem_filter, List.mem_range] at this
  exact this
theorem firstK_nodup {ss : List RowH} {k i : Nat} : (firstK ss k i).Nodup := (List.nodup_range.filter _).sublist (List.take_sublist _ _)
theorem rows_all (l : List RowH) : (List.range l.length).map (rowAt l) = l := by
  apply List.ext_getElem (by simp)
  intro i h1 h2
  simp [rowAt, h2]
theorem picked_perm (ss l : List RowH) (k : Nat) : ∃ rest, l.Perm ((firstK ss k l.length).map (rowAt l) ++ rest) := by
  refine ⟨(((List.range l.length).filter (presB ss)).drop k ++ (List.range l.length).filter fun i => !presB ss i).map (rowAt l), ?_⟩
  have h1 : ((List.range l.length).filter (presB ss) ++ (List.range l.length).filter fun i => !presB ss i).Perm (List.range l.length) := List.filter_append_perm _ _
  have h2 : (List.range l.length).filter (presB ss) = firstK ss k l.length ++ ((List.range l.length).filter (presB ss)).drop k := (List.take_append_drop k _).symm
  rw [h2, List.append_assoc] at h1
  have h3 := (h1.map (rowAt l)).symm
  rw [rows_all] at h3
  rwa [List.map_append] at h3
theorem slr_take {D : List Assn} {p : Option Addr} {n c c' k : Nat} {xs : List Value} (h : SlR D 1 (.slice p n c) xs) (hk : k ≤ n) : SlR D 1 (.slice p k c') (xs.take k) := by
  rcases Nat.eq_zero_or_pos k with rfl | h0
  · exact .inl ⟨_, c', rfl, by simp⟩
  · obtain ⟨b, off, rfl, hr⟩ := h.some_ (by omega)
    have hl := h.len
    refine .inr ⟨b, off, k, c', rfl, by rw [List.length_take]; omega, fun j u hj => hr j u ?_⟩
    rw [List.getElem?_take] at hj
    split at hj
    · exact hj
    · cases hj
theorem fill_set {f : Nat → Value} {R : List Nat} {k i n : Nat} {z : Value} (hk : R.length = k) (h : R[i]? = some n) : ((R.take i).map f ++ List.replicate (k - i) z).set i (f n) = (R.take (i + 1)).map f ++ List.replicate (k - (i + 1)) z := by
  obtain ⟨h1, h2⟩ := List.getElem?_eq_some_iff.1 h
  have hl : ((R.take i).map f).length = i := by rw [List.length_map, List.length_take]; omega
  rw [List.set_append_right _ _ (by omega), hl, Nat.sub_self, show k - i = (k - (i + 1)) + 1 from by omega, List.replicate_succ, List.set_cons_zero, List.take_succ_eq_append_getElem h1, h2, List.map_append, List.append_assoc]; rfl
theorem J.splitI [Dfs] {W0 : World} {N : Nat} {L : Slots} {A D : List Assn} {Gl : Act → World → Prop} {α : Type} {f : α → Assn} (a b : List α) [h : PickO A (star ((a ++ b).map f)) D] (k : J W0 N L ([star (a.map f), star (b.map f)] ++ D) Gl) : J W0 N L A Gl :=
  J.openI (star ((a ++ b).map f)) (p := fun _ : Unit => True) (Bs := fun _ => [star (a.map f), star (b.map f)]) (fun q s => ⟨(), trivial, stars_out (by rw [← List.map_append]; exact s)⟩) fun _ _ => k
theorem rows_picked {al : List RowH} {l : Ml} (h : al.map RowH.bs = l) (R : List Nat) : (R.map (rowAt al)).map RowH.bs = picked l R := by
  subst h
  unfold picked
  rw [List.map_map]
  apply List.map_congr_left
  intro n _
  simp only [Function.comp, rowAt, List.getElem?_map]
  cases al[n]? <;> rfl
theorem full_lo {k m w i : Nat} {D : Ml} (hD : Rect k w D) (hi : i < k) : (fullL k m D)[i]? = D[i]? := by
  unfold fullL
  rw [List.getElem?_append_left (by rw [hD.len]; exact hi)]

section
variable (cb k m w : Nat) (hk : 0 < k) (hkm : k + m ≤ 255) (hw1 : 0 < w) (hw : w ≤ 1000000) (D : Ml) (hD : Rect k w D) (G : Assn) (sp : Option Addr) (sc : Nat) (hsc : k + m ≤ sc) (ss : List RowH) (hsl : ss.length = k + m)
  (hs : SlR [G] 1 (.slice sp (k + m) sc) (ss.map RowH.val)) (hsr : ∀ r, r ∈ ss → SlR [G] 1 r.val (bytesV r.bs)) (hf : ∀ (i : Nat) r, ss[i]? = some r → r.bs = [] ∨ (fullL k m D)[i]? = some r.bs)
include hsl hf hD
theorem all_there (h : ∀ i, i < k → presB ss i = true) : (ss.take k).map RowH.bs = D := by
  apply List.ext_getElem?
  intro i
  rw [List.getElem?_map, List.getElem?_take]
  by_cases hi : i < k
  · rw [if_pos hi]
    obtain ⟨r, hr⟩ : ∃ r, ss[i]? = some r := ⟨_, List.getElem?_eq_getElem (by omega)⟩
    have h1 := h i hi
    rw [presB, rowAt_some hr] at h1
    rcases hf i r hr with h2 | h2
    · rw [h2] at h1; simp at h1
    · rw [full_lo hD hi] at h2; rw [hr, h2]; rfl
  · rw [if_neg hi, List.getElem?_eq_none (by rw [hD.len]; omega)]; rfl
theorem some_there {n : Nat} (h : n < k + m) (hp : presB ss n = true) : (fullL k m D)[n]? = some (rowAt ss n).bs := by
  obtain ⟨r, hr⟩ : ∃ r, ss[n]? = some r := ⟨_, List.getElem?_eq_getElem (by omega)⟩
  rw [presB, rowAt_some hr] at hp
  rw [rowAt_some hr]
  rcases hf n r hr with h2 | h2
  · rw [h2] at hp; simp at hp
  · exact h2
theorem some_picked : ((firstK ss k (k + m)).map (rowAt ss)).map RowH.bs = picked (fullL k m D) (firstK ss k (k + m)) := by
  unfold picked
  rw [List.map_map]
  apply List.map_congr_left
  intro n hn
  have h := firstK_mem hn
  rw [some_there k m w D hD ss hsl hf h.1 h.2]; rfl

include hk hkm hw1 hw hsc hs hsr
set_option maxHeartbeats 4000000 in
theorem whole_spec (hc : k ≤ ((List.range (k + m)).filter (presB ss)).length) : FSpec Tryz.prog 69 [.pointer (some ⟨cb, 0, none⟩), .slice sp (k + m) sc] [CodeAt cb k m, G]
    (fun v B => ∃ (p : Option Addr) (c : Nat) (rs : List RowH) (X : Assn), v = .slice p k c ∧ k ≤ c ∧ rs.map RowH.bs = D ∧ SlR [star [X, G]] 1 (.slice p k c) (rs.map RowH.val) ∧ (∀ r, r ∈ rs → SlR [star [X, G]] 1 r.val (bytesV r.bs)) ∧ B = [CodeAt cb k m, star [X, G]]) := by
  refine FSpec.of func69 rfl ntmps69 rfl fun W0 F => ?_
  refine J.seq ?_
  refine J.openI (CodeAt cb k m) CodeAt.opn fun z _ => ?_
  have htk : (ss.take k).length = k := by rw [List.length_take]; omega
  refine J.region <| J.p rfl (Q.asg rfl) <| J.nil <| J.then_n <| J.seq <| J.seq <| J.region <| J.m rfl <| J.m rfl <| J.p rfl (Q.nil_ rfl) <| J.p rfl (Q.fa (n := 0) runUnderlying127 rfl rfl sizeOf3 rfl) ?_
  refine J.p rfl (Q.ldI isAgg3 rfl) ?_
  refine J.p rfl (Q.slH runUnderlying45 sizeOf22 rfl rfl (by omega) (by omega)) ?_
  refine J.callI call113 (missing_spec k G sp sc (ss.take k) htk (by omega) (by rw [List.map_take]; exact slr_take hs (by omega))) rfl rfl rfl ?_
  rintro _ _ ⟨r, rfl, hr, rfl⟩
  refine J.norm rfl <| J.p rfl (Q.lss rfl rfl) <| J.nil <| J.then_n ?_
  refine J.kases 23 rfl (fun hc23 => ?_) (fun hc23 => ?_)
  ·
   try (first | (cases hc23; done) | (exfalso; simp at hc23; done))
   all_goals
    refine J.cond_t rfl <| J.seq ?_
    refine J.draw [10] Tryz.mixed (by kernel_rfl) fun hR => ?_
    refine RG.p 0 hR rfl (Q.mv rfl) <| RG.p 1 hR rfl (Q.mv rfl) <| RG.p 2 hR rfl (Q.nil_ rfl) <| RG.p 3 hR rfl (Q.fa (n := 0) runUnderlying127 rfl rfl sizeOf3 rfl) ?_
    refine RG.p 4 hR rfl (Q.ldI isAgg3 rfl) ?_
    refine RG.p 5 hR rfl (Q.mv rfl) <| RG.p 6 hR rfl (Q.nil_ rfl) <| RG.p 7 hR rfl (Q.fa (n := 0) runUnderlying127 rfl rfl sizeOf3 rfl) ?_
    refine RG.p 8 hR rfl (Q.ldI isAgg3 rfl) ?_
    refine RG.p 9 hR rfl (Q.slHM runUnderlying45 sizeOf22 rfl rfl rfl (by omega) (by omega) (by omega)) ?_
    refine RG.bar 10 hR rfl rfl rfl rfl rfl rfl (Q.asg rfl).toC ?_
    rintro _ _ ⟨rfl, rfl⟩
    refine RG.norm rfl ?_
    refine RG.fin hR rfl ?_
    refine J.norm rfl <| J.then_n <| J.cret <| J.then_r ?_
    have hall : ∀ i, i < k → presB ss i = true := fun i hi => by
     rcases hr with ⟨_, h⟩ | ⟨i, h, _⟩
     · have h2 := h i hi
       dsimp only at h2
       obtain ⟨x, hx⟩ : ∃ x, ss[i]? = some x := ⟨_, List.getElem?_eq_getElem (by omega)⟩
       rw [List.getElem?_take, if_pos hi, hx] at h2
       rw [presB, rowAt_some hx]
       simp only [Option.map_some, Option.getD_some, decide_eq_false_iff_not] at h2
       exact decide_eq_true (by omega)
     · omega
    refine J.shutI (codeAs cb k m z) (CodeAt cb k m) (fun h s => ⟨z, s⟩) ?_
    refine J.give (X := star ([] : List Assn)) trivial ?_
    refine J.shutI [star ([] : List Assn), G] (star [star ([] : List Assn), G]) (fun h s => s) ?_
    exact J.ret1I [CodeAt cb k m, star [star ([] : List Assn), G]] rfl rfl ⟨sp, k, ss.take k, star [], rfl, Nat.le_refl _, all_there k m w D hD ss hsl hf hall, by rw [List.map_take]; exact (slr_take hs (by omega)).into 1 rfl, fun r hr => (hsr r (List.mem_of_mem_take hr)).into 1 rfl, rfl⟩
  try (first | (cases hc23; done) | (exfalso; simp at hc23; done))
  all_goals
   refine J.cond_f rfl <| J.cskip <| J.then_n <| J.seq <| J.region <| J.m rfl <| J.p rfl (Q.nil_ rfl) <| J.p rfl (Q.fa (n := 0) runUnderlying127 rfl rfl sizeOf3 rfl) ?_
   refine J.p rfl (Q.ldI isAgg3 rfl) ?_
   refine J.callI call128 (unit_spec k hk (by omega)) rfl rfl rfl ?_
   rintro _ _ ⟨pu, cu, rfl, rfl⟩
   refine J.norm rfl <| J.m rfl <| J.p rfl (Q.ext rfl rfl) <| J.p rfl (Q.ext rfl rfl) <| J.p rfl (Q.asg rfl) <| J.p rfl (Q.asg rfl) <| J.nil <| J.then_n <| J.seq ?_
   have hul : (unitL k).length = k := (unitL_sq k).len
   refine J.openI (MatAt 22 pu cu (unitL k)) (p := fun us : List RowH => us.map RowH.bs = unitL k) (Bs := fun us => [own 22 1 (.slice pu k cu) (us.map RowH.val), star (us.map RowH.asn)]) (fun h ⟨us, h1, h2⟩ => ⟨us, h1, by rw [hul] at h2; exact h2⟩) fun us hus => ?_
   refine J.openI (MatAt 22 z.1 z.2 (cauchyL m k)) (p := fun ms : List RowH => ms.map RowH.bs = cauchyL m k) (Bs := fun ms => [own 22 1 (.slice z.1 m z.2) (ms.map RowH.val), star (ms.map RowH.asn)]) (fun h ⟨ms, h1, h2⟩ => ⟨ms, h1, by rw [cauchyL_len] at h2; exact h2⟩) fun ms hms => ?_
   refine J.norm rfl ?_
   refine J.slrI (E0 := 22) (sz := 1) (p := z.1) (n := m) (c := z.2) (xs := ms.map RowH.val) fun h1 => ?_
   refine J.region <| J.m rfl <| J.m rfl <| J.p rfl (Q.nil_ rfl) <| J.p rfl (Q.fa (n := 2) runUnderlying127 rfl rfl sizeOf125 rfl) ?_
   refine J.p rfl (Q.ldI isAgg125 rfl) ?_
   refine J.c rfl rfl (C.appI runUnderlying125 runUnderlying125 typeInfo22 sizeOf22 zeroValue22 rfl rfl (h1.inI) (by simp [oneC, RowH.val]) (by simp [Tryz.t22] <;> omega) (by decide)) ?_
   rintro _ _ ⟨p47, c47, rfl, rfl⟩
   refine J.norm rfl ?_
   refine J.joinI (f := RowH.asn) us ms ?_
   rw [← List.map_append (f := RowH.val)]
   obtain ⟨al, hal⟩ : ∃ al, al = us ++ ms := ⟨_, rfl⟩
   rw [← hal]
   have halb : al.map RowH.bs = allRows k m := by rw [hal, List.map_append, hus, hms]; rfl
   have hall : al.length = k + m := by have := congrArg List.length halb; rw [(allRows_rect (k := k) (m := m)).len] at this; simpa using this
   obtain ⟨p1, hp1⟩ : ∃ p : Option Addr, p = none := ⟨_, rfl⟩
   refine J.p rfl (Q.asg rfl) <| J.nil <| J.then_n <| J.seq <| J.region <| J.p rfl (Q.asg rfl) <| J.nil <| J.then_n <| J.seq <| J.region <| J.p rfl (Q.asg rfl) <| J.nil <| J.then_n <| J.seq <| J.seq <| J.region <| J.m rfl <| J.p rfl (Q.lenSl runUnderlying45 rfl) <| J.m rfl <| J.nil <| J.then_n <| J.block ?_
   have hz0 : firstK ss k 0 = [] := by simp [firstK]
   refine J.give (X := own 3 1 (.slice none (firstK ss k 0).length 0) ((firstK ss k 0).map fun n : Nat => Value.int .i64 n)) (by rw [hz0]; exact own.nil _ _ _) ?_
   refine J.give (X := own 22 1 (.slice none (firstK ss k 0).length 0) (((firstK ss k 0).map (rowAt ss)).map RowH.val)) (by rw [hz0]; exact own.nil _ _ _) ?_
   refine J.loop3I (fun (i : Nat) (_ : Option Addr × Nat) (_ : Option Addr × Nat) => i ≤ k + m) (fun i _ _ => k + m - i) (fun i a b => [(0, .pointer (some ⟨cb, 0, none⟩)), (1, .slice sp (k + m) sc), (5, .slice p47 (k + m) c47), (7, .slice a.1 (firstK ss k i).length a.2), (8, .slice b.1 (firstK ss k i).length b.2), (48, .slice sp (k + m) sc), (49, .int .i64 (k + m : Nat)), (50, .int .i64 i)])
    (fun i a b => [own 3 1 (.slice a.1 (firstK ss k i).length a.2) ((firstK ss k i).map fun n : Nat => Value.int .i64 n), own 22 1 (.slice b.1 (firstK ss k i).length b.2) (((firstK ss k i).map (rowAt ss)).map RowH.val), own 22 1 (.slice p47 (k + m) c47) (al.map RowH.val), star (al.map RowH.asn), own 22 1 (.slice z.1 m z.2) (ms.map RowH.val), pt cb (.cells [.int .i64 k, .int .i64 m, .slice z.1 m z.2].toArray 127 (0, 0)), G, F]) 0 (none, 0) (none, 0) (Nat.zero_le _) ⟨rfl, rfl, rfl, by rw [hz0]; rfl, by rw [hz0]; rfl, rfl, rfl, rfl, trivial⟩ fun i a b hi => ?_
   refine J.seq <| J.region <| J.p rfl (Q.lss rfl rfl) <| J.nil <| J.then_n <| J.seq ?_
   refine J.kases 51 rfl (fun hc51 => ?_) (fun hc51 => ?_)
   ·
    try (first | (cases hc51; done) | (exfalso; simp at hc51; done))
    all_goals
     refine J.cond_t rfl <| J.cskip <| J.then_n <| J.seq <| J.block <| J.seq ?_
     obtain ⟨sb, soff, hsp, hsrd⟩ := hs.some_ (by omega)
     obtain ⟨x, hx⟩ : ∃ x, ss[i]? = some x := ⟨_, List.getElem?_eq_getElem (by omega)⟩
     have hxv : (ss.map RowH.val)[i]? = some x.val := by rw [List.getElem?_map, hx]; rfl
     have hfl := firstK_le (ss := ss) (k := k) (i := i)
     have hpx : presB ss i = decide (0 < x.bs.length) := by rw [presB, rowAt_some hx]
     refine J.region <| J.m rfl <| J.p rfl (Q.ia runUnderlying45 sizeOf22 (by rw [← hsp]; rfl) rfl (by omega) (by omega)) <| J.p rfl (Q.ld isAgg22 rfl (((hsrd i _ hxv).inI).cast (by simp))) <| J.p rfl (Q.asg rfl) <| J.p rfl (Q.asg rfl) <| J.nil <| J.then_n <| J.seq <| J.region <| J.m rfl <| J.p rfl (Q.lenSl runUnderlying22 rfl) <| J.p rfl (Q.gtr rfl rfl) ?_
     refine J.m rfl ?_
     refine J.kases 58 rfl (fun hb58 => ?_) (fun hb58 => ?_)
     ·
      try (first | (cases hb58; done) | (exfalso; simp at hb58; done))
      all_goals
       refine J.m rfl <| J.p rfl (Q.lenSl runUnderlying23 rfl) <| J.m rfl <| J.p rfl (Q.nil_ rfl) <| J.p rfl (Q.fa (n := 0) runUnderlying127 rfl rfl sizeOf3 rfl) ?_
       refine J.p rfl (Q.ldI isAgg3 rfl) ?_
       refine J.p rfl (Q.lss rfl rfl) <| J.p rfl (Q.pick_t rfl rfl) <| J.nil <| J.then_n ?_
       refine J.kases 66 rfl (fun hc66 => ?_) (fun hc66 => ?_)
       ·
        try (first | (cases hc66; done) | (exfalso; simp at hc66; done))
        all_goals
         refine J.cond_t rfl <| J.region <| J.m rfl <| J.m rfl ?_
         refine J.c rfl rfl (C.bslG (l := [.int .i64 i]) runUnderlying23 sizeOf3 zeroValue3 (by decide) rfl rfl rfl rfl rfl) ?_
         rintro _ _ ⟨b69, rfl, rfl⟩
         refine J.norm rfl ?_
         refine J.c rfl rfl (C.appI runUnderlying23 runUnderlying23 typeInfo3 sizeOf3 zeroValue3 rfl rfl (SlR.ptI rfl) (by simp [oneC]) (by simp [Tryz.t3] <;> omega) (by decide)) ?_
         rintro _ _ ⟨p70, c70, rfl, rfl⟩
         refine J.norm rfl <| J.m rfl <| J.m rfl ?_
         refine J.c rfl rfl (C.bslG (l := [x.val]) runUnderlying45 sizeOf22 zeroValue22 (by decide) rfl rfl rfl rfl rfl) ?_
         rintro _ _ ⟨b73, rfl, rfl⟩
         refine J.norm rfl ?_
         refine J.c rfl rfl (C.appI runUnderlying45 runUnderlying45 typeInfo22 sizeOf22 zeroValue22 rfl rfl (SlR.ptI rfl) (by simp [oneC, RowH.val]) (by simp [Tryz.t22] <;> omega) (by decide)) ?_
         rintro _ _ ⟨p74, c74, rfl, rfl⟩
         refine J.norm rfl <| J.p rfl (Q.asg rfl) <| J.p rfl (Q.asg rfl) <| J.nil <| J.blk_n <| J.then_n <| J.region <| J.p rfl (Q.add64 rfl rfl (by omega)) <| J.m rfl <| J.nil ?_
         have hp : presB ss i = true := by rw [hpx]; exact decide_eq_true (by omega)
         have hst := firstK_yes (k := k) hp (by omega)
         have e1 : (firstK ss k i).length + 1 = (firstK ss k (i + 1)).length := by rw [hst]; simp
         have e2 : ((firstK ss k i).map fun n : Nat => Value.int .i64 n) ++ [Value.int .i64 i] = (firstK ss k (i + 1)).map fun n : Nat => Value.int .i64 n := by rw [hst]; simp
         have e3 : ((firstK ss k i).map (rowAt ss)).map RowH.val ++ [x.val] = ((firstK ss k (i + 1)).map (rowAt ss)).map RowH.val := by rw [hst]; simp [rowAt_some hx]
         rw [e1, e2, e3]
         refine J.againI (i + 1, (p70, c70), (p74, c74)) (by show i + 1 ≤ k + m; omega) (by show k + m - (i + 1) < k + m - i; omega) ⟨rfl, rfl, rfl, rfl, rfl, rfl, rfl, rfl, trivial⟩
       try (first | (cases hc66; done) | (exfalso; simp at hc66; done))
       all_goals
        refine J.cond_f rfl <| J.cskip <| J.blk_n <| J.then_n <| J.region <| J.p rfl (Q.add64 rfl rfl (by omega)) <| J.m rfl <| J.nil ?_
        have hst : firstK ss k (i + 1) = firstK ss k i := firstK_no (by rw [hpx]; first | exact .inl (decide_eq_false (by omega)) | exact .inr (by omega))
        rw [← hst]
        refine J.againI (i + 1, a, b) (by show i + 1 ≤ k + m; omega) (by show k + m - (i + 1) < k + m - i; omega) ⟨rfl, rfl, rfl, rfl, rfl, rfl, rfl, rfl, trivial⟩
     try (first | (cases hb58; done) | (exfalso; simp at hb58; done))
     all_goals
      refine J.k rfl <| J.k rfl <| J.k rfl <| J.k rfl <| J.k rfl <| J.k rfl <| J.k rfl <| J.p rfl (Q.pick_f rfl rfl) <| J.nil <| J.then_n <| J.cond_f rfl <| J.cskip <| J.blk_n <| J.then_n <| J.region <| J.p rfl (Q.add64 rfl rfl (by omega)) <| J.m rfl <| J.nil ?_
      have hst : firstK ss k (i + 1) = firstK ss k i := firstK_no (by rw [hpx]; first | exact .inl (decide_eq_false (by omega)) | exact .inr (by omega))
      rw [← hst]
      refine J.againI (i + 1, a, b) (by show i + 1 ≤ k + m; omega) (by show k + m - (i + 1) < k + m - i; omega) ⟨rfl, rfl, rfl, rfl, rfl, rfl, rfl, rfl, trivial⟩
   try (first | (cases hc51; done) | (exfalso; simp at hc51; done))
   all_goals
    refine J.cond_f rfl <| J.exit <| J.then_x <| J.lp_x <| J.blk_x <| J.then_n <| J.seq <| J.seq ?_
    obtain rfl : i = k + m := by omega
    obtain ⟨a1, a2⟩ := a
    obtain ⟨b1, b2⟩ := b
    dsimp only
    have hmem := @firstK_mem ss k (k + m)
    have hnod := @firstK_nodup ss k (k + m)
    have hspick := some_picked k m w D hD ss hsl hf
    have hRl : (firstK ss k (k + m)).length = k := by unfold firstK; rw [List.length_take]; omega
    obtain ⟨rest, hperm⟩ := picked_perm ss al k
    rw [hall] at hperm
    obtain ⟨R, hR⟩ : ∃ R, R = firstK ss k (k + m) := ⟨_, rfl⟩
    rw [← hR] at hmem hnod hspick hRl hperm ⊢
    rw [hRl]
    refine J.slrI (E0 := 3) (sz := 1) (p := a1) (n := k) (c := a2) (xs := R.map fun n : Nat => Value.int .i64 n) fun hr1 => ?_
    obtain ⟨ba, oa, rfl, _⟩ := hr1.some_ hk
    refine J.slrI (E0 := 22) (sz := 1) (p := p47) (n := k + m) (c := c47) (xs := al.map RowH.val) fun hr2 => ?_
    obtain ⟨bm, om, rfl, _⟩ := hr2.some_ (by omega)
    refine J.region <| J.m rfl <| J.p rfl (Q.lenSl runUnderlying23 rfl) <| J.m rfl <| J.p rfl (Q.nil_ rfl) <| J.p rfl (Q.fa (n := 0) runUnderlying127 rfl rfl sizeOf3 rfl) ?_
    refine J.p rfl (Q.ldI isAgg3 rfl) ?_
    refine J.p rfl (Q.lss rfl rfl) <| J.nil <| J.then_n ?_
    refine J.cases 82 rfl (fun hc82 => ?_) (fun hc82 => ?_)
    ·
     have h := X.nm hc82; exfalso; omega
    replace hc82 := X.nm hc82
    try (first | (cases hc82; done) | (exfalso; simp at hc82; done))
    all_goals
     refine J.cond_f rfl <| J.cskip <| J.then_n <| J.seq <| J.region <| J.m rfl <| J.p rfl (Q.nil_ rfl) <| J.p rfl (Q.fa (n := 0) runUnderlying127 rfl rfl sizeOf3 rfl) ?_
     refine J.p rfl (Q.ldI isAgg3 rfl) ?_
     refine J.c rfl rfl (C.mksl runUnderlying125 typeInfo22 sizeOf22 zeroValue22 rfl rfl rfl (by omega) (by omega) (by simp [Tryz.t22]; omega) (by omega)) ?_
     rintro _ _ ⟨b88, rfl, rfl⟩
     refine J.norm rfl ?_
     refine J.slot 88 (.slice (some ⟨b88, 0, none⟩) k k) rfl rfl ?_
     refine J.conv (Y := own 22 1 (.slice (some ⟨b88, 0, none⟩) k k) (List.replicate k (Value.slice none 0 0))) 0 rfl (own_of_block (by rw [List.length_replicate, Nat.mul_one, Int.toNat_natCast])) ?_
     refine J.p rfl (Q.asg rfl) <| J.nil <| J.then_n <| J.seq <| J.seq <| J.region <| J.m rfl <| J.p rfl (Q.lenSl runUnderlying23 rfl) <| J.m rfl <| J.nil <| J.then_n <| J.block ?_
     refine J.convI (own 22 1 (.slice (some ⟨b88, 0, none⟩) k k) (List.replicate k (Value.slice none 0 0))) (own 22 1 (.slice (some ⟨b88, 0, none⟩) k k) ((R.take 0).map (fun n => (rowAt al n).val) ++ List.replicate (k - 0) (Value.slice none 0 0))) (fun h s => s) ?_
     refine J.loopI (fun i : Nat => i ≤ k) (fun i => k - i) (fun i => [(5, .slice (some ⟨bm, om, none⟩) (k + m) c47), (8, .slice b1 k b2), (11, .slice (some ⟨b88, 0, none⟩) k k), (89, .slice (some ⟨ba, oa, none⟩) k a2), (90, .int .i64 k), (91, .int .i64 i)])
      (fun i => [own 22 1 (.slice (some ⟨b88, 0, none⟩) k k) ((R.take i).map (fun n => (rowAt al n).val) ++ List.replicate (k - i) (Value.slice none 0 0)), own 3 1 (.slice (some ⟨ba, oa, none⟩) k a2) (R.map fun n : Nat => Value.int .i64 n), own 22 1 (.slice b1 k b2) ((R.map (rowAt ss)).map RowH.val), own 22 1 (.slice (some ⟨bm, om, none⟩) (k + m) c47) (al.map RowH.val), star (al.map RowH.asn), own 22 1 (.slice z.1 m z.2) (ms.map RowH.val), pt cb (.cells [.int .i64 k, .int .i64 m, .slice z.1 m z.2].toArray 127 (0, 0)), G, F]) 0 (Nat.zero_le _) ⟨rfl, rfl, rfl, rfl, rfl, rfl, trivial⟩ fun i hi => ?_
     refine J.seq <| J.region <| J.p rfl (Q.lss rfl rfl) <| J.nil <| J.then_n <| J.seq ?_
     refine J.kases 92 rfl (fun hc92 => ?_) (fun hc92 => ?_)
     ·
      try (first | (cases hc92; done) | (exfalso; simp at hc92; done))
      all_goals
       refine J.cond_t rfl <| J.cskip <| J.then_n <| J.seq <| J.block <| J.seq ?_
       obtain ⟨n, hn⟩ : ∃ n, R[i]? = some n := ⟨_, List.getElem?_eq_getElem (by omega)⟩
       have hnb := (hmem (List.mem_of_getElem? hn)).1
       have hnv : (al.map RowH.val)[n]? = some (rowAt al n).val := by
        obtain ⟨x, hx⟩ : ∃ x, al[n]? = some x := ⟨_, List.getElem?_eq_getElem (by omega)⟩
        rw [List.getElem?_map, hx, rowAt_some hx]; rfl
       refine J.region <| J.m rfl <| J.p rfl (Q.ia runUnderlying23 sizeOf3 rfl rfl (by omega) (by omega)) <| J.p rfl (Q.ld isAgg3 rfl (rdO (b := ba) (v := .int .i64 n) (by rw [List.getElem?_map, hn]; rfl) (by omega))) <| J.p rfl (Q.asg rfl) <| J.p rfl (Q.asg rfl) <| J.nil <| J.then_n <| J.region <| J.m rfl <| J.m rfl <| J.m rfl ?_
       refine J.m rfl <| J.p rfl (Q.ia runUnderlying125 sizeOf22 rfl rfl (by omega) (by omega)) <| J.p rfl (Q.ld isAgg22 rfl (rdO (b := bm) hnv (by omega))) <| J.p rfl (Q.ia runUnderlying125 sizeOf22 rfl rfl (by omega) (by omega)) ?_
       refine J.c0 rfl (C.st1O (b := b88) i sizeOf22 rfl rfl rfl (by omega) (by rw [List.length_append, List.length_map, List.length_take, List.length_replicate]; omega)) ?_
       rintro _ _ ⟨rfl, rfl⟩
       refine J.norm rfl ?_
       rw [fill_set (f := fun n => (rowAt al n).val) hRl hn]
       refine J.nil <| J.blk_n <| J.then_n <| J.region <| J.p rfl (Q.add64 rfl rfl (by omega)) <| J.m rfl <| J.nil ?_
       refine J.againI (i + 1) (by omega) (by omega) ⟨rfl, rfl, rfl, rfl, rfl, rfl, trivial⟩
     try (first | (cases hc92; done) | (exfalso; simp at hc92; done))
     all_goals
      refine J.cond_f rfl <| J.exit <| J.then_x <| J.lp_x <| J.blk_x <| J.then_n <| J.seq ?_
      obtain rfl : i = k := by omega
      rw [List.take_of_length_le (by omega), Nat.sub_self, List.replicate_zero, List.append_nil]
      have hpv : R.map (fun n => (rowAt al n).val) = (R.map (rowAt al)).map RowH.val := by rw [List.map_map]; rfl
      rw [hpv]
      have hpb := rows_picked halb R
      have hpr := picked_rect (rows := R) (allRows_rect (k := i) (m := m)) (fun n hn => (hmem hn).1)
      rw [hRl] at hpr
      have hreg := part_reg (k := i) (m := m) (rows := R) (by omega) hRl hnod (fun n hn => (hmem hn).1)
      refine J.convI (star (al.map RowH.asn)) (star ((R.map (rowAt al) ++ rest).map RowH.asn)) (fun h s => rowsA_perm hperm h s) ?_
      refine J.splitI (f := RowH.asn) (R.map (rowAt al)) rest ?_
      refine J.norm rfl <| J.region <| J.m rfl ?_
      refine J.callI call129 (inverse_spec i hk (by omega) (picked (allRows i m) R) ⟨hpr.len, hpr.row⟩ hreg (R.map (rowAt al)) hpb (some ⟨b88, 0, none⟩) i) rfl rfl rfl ?_
      rintro _ _ ⟨p', c', o, rfl, ⟨ai, hel⟩, rfl⟩
      refine J.norm rfl <| J.m rfl <| J.p rfl (Q.ext rfl rfl) <| J.p rfl (Q.ext rfl rfl) <| J.p rfl (Q.asg rfl) <| J.p rfl (Q.asg rfl) <| J.nil <| J.then_n <| J.seq ?_
      have hol := hel.so.len
      refine J.openI (MatAt 22 p' c' o) (p := fun os : List RowH => os.map RowH.bs = o) (Bs := fun os => [own 22 1 (.slice p' i c') (os.map RowH.val), star (os.map RowH.asn)]) (fun h ⟨os, h1, h2⟩ => ⟨os, h1, by rw [hol] at h2; exact h2⟩) fun os hos => ?_
      refine J.norm rfl ?_
      have hosl : os.length = i := by have := congrArg List.length hos; rw [hol] at this; simpa using this
      have hosr : ∀ r, r ∈ os → r.bs.length = i := fun r hr => hel.so.row _ (hos ▸ List.mem_map_of_mem hr)
      refine J.slrI (E0 := 22) (sz := 1) (p := p') (n := i) (c := c') (xs := os.map RowH.val) fun ho1 => ?_
      refine J.rowsI (hs := os) fun ho2 => ?_
      refine J.slrI (E0 := 22) (sz := 1) (p := b1) (n := i) (c := b2) (xs := (R.map (rowAt ss)).map RowH.val) fun hs1 => ?_
      have hfr := fullL_rect (m := m) hD hk
      have hsrow : ∀ r, r ∈ R.map (rowAt ss) → r.bs.length = w ∧ SlR [G] 1 r.val (bytesV r.bs) := fun r hr => by
       obtain ⟨n, hn, rfl⟩ := List.mem_map.1 hr
       have h := hmem hn
       have h1 := some_there i m w D hD ss hsl hf h.1 h.2
       obtain ⟨x, hx⟩ : ∃ x, ss[n]? = some x := ⟨_, List.getElem?_eq_getElem (by omega)⟩
       refine ⟨hfr.row _ (List.mem_of_getElem? h1), ?_⟩
       rw [rowAt_some hx]
       exact hsr x (List.mem_of_getElem? hx)
      refine J.shutI [own 22 1 (.slice p' i c') (os.map RowH.val), star (os.map RowH.asn), own 22 1 (.slice b1 i b2) ((R.map (rowAt ss)).map RowH.val), G] (star [own 22 1 (.slice p' i c') (os.map RowH.val), star (os.map RowH.asn), own 22 1 (.slice b1 i b2) ((R.map (rowAt ss)).map RowH.val), G]) (fun h s => s) ?_
      refine J.region <| J.m rfl <| J.m rfl ?_
      refine J.callI call114 (times_spec (star [own 22 1 (.slice p' i c') (os.map RowH.val), star (os.map RowH.asn), own 22 1 (.slice b1 i b2) ((R.map (rowAt ss)).map RowH.val), G]) i w i hk (by omega) hw hk (by omega) p' c' os hosl b1 b2 (R.map (rowAt ss)) (by rw [List.length_map]; exact hRl) (ho1.into 0 rfl) (fun r hr => ⟨hosr r hr, (ho2 r hr).into 1 rfl⟩) (hs1.into 2 rfl) (fun r hr => ⟨(hsrow r hr).1, (hsrow r hr).2.into 3 rfl⟩)) rfl rfl rfl ?_
      rintro _ _ ⟨p, c, rfl, rfl⟩
      refine J.norm rfl <| J.p rfl (Q.asg rfl) <| J.nil <| J.then_n <| J.cret ?_
      have hback := back_law hD hk hRl (fun n hn => (hmem hn).1) hel
      rw [hos, hspick, hback]
      refine J.unpackI [own 22 1 (.slice p' i c') (os.map RowH.val), star (os.map RowH.asn), own 22 1 (.slice b1 i b2) ((R.map (rowAt ss)).map RowH.val), G] ?_
      refine J.norm rfl ?_
      refine J.joinI (f := RowH.asn) (R.map (rowAt al)) rest ?_
      refine J.convI (star ((R.map (rowAt al) ++ rest).map RowH.asn)) (star (al.map RowH.asn)) (fun h s => rowsA_perm hperm.symm h s) ?_
      rw [hal]
      refine J.splitI (f := RowH.asn) us ms ?_
      refine J.norm rfl ?_
      refine J.shutI [own 22 1 (.slice z.1 m z.2) (ms.map RowH.val), star (ms.map RowH.asn)] (MatAt 22 z.1 z.2 (cauchyL m i)) (fun h s => ⟨ms, hms, by rw [cauchyL_len]; exact s⟩) ?_
      refine J.shutI (codeAs cb i m z) (CodeAt cb i m) (fun h s => ⟨z, s⟩) ?_
      refine J.openI (MatAt 22 p c D) (p := fun rs : List RowH => rs.map RowH.bs = D) (Bs := fun rs => [own 22 1 (.slice p i c) (rs.map RowH.val), star (rs.map RowH.asn)]) (fun h ⟨rs, h1, h2⟩ => ⟨rs, h1, by rw [hD.len] at h2; exact h2⟩) fun rs hrs => ?_
      refine J.norm rfl ?_
      refine J.slrI (E0 := 22) (sz := 1) (p := p) (n := i) (c := c) (xs := rs.map RowH.val) fun hq1 => ?_
      refine J.rowsI (hs := rs) fun hq2 => ?_
      refine J.tellsI (own 22 1 (.slice p i c) (rs.map RowH.val)) own.len fun hln => ?_
      refine J.shutI [own 22 1 (.slice p i c) (rs.map RowH.val), star (rs.map RowH.asn)] (star [own 22 1 (.slice p i c) (rs.map RowH.val), star (rs.map RowH.asn)]) (fun h s => s) ?_
      refine J.shutI [star [own 22 1 (.slice p i c) (rs.map RowH.val), star (rs.map RowH.asn)], G] (star [star [own 22 1 (.slice p i c) (rs.map RowH.val), star (rs.map RowH.asn)], G]) (fun h s => s) ?_
      exact J.ret1I [CodeAt cb i m, star [star [own 22 1 (.slice p i c) (rs.map RowH.val), star (rs.map RowH.asn)], G]] rfl rfl ⟨p, c, rs, star [own 22 1 (.slice p i c) (rs.map RowH.val), star (rs.map RowH.asn)], rfl, hln.2, hrs, (hq1.into 0 rfl).into 0 rfl, fun r hr => ((hq2 r hr).into 1 rfl).into 0 rfl, rfl⟩
end

theorem grow_spec (n : Nat) (h0 : 0 < n) (hn : n ≤ 1099511627776) : FSpec Tryz.prog 127 [.slice none 0 0, .int .i64 n] [] (fun v B => ∃ p c, v = .slice p 0 c ∧ B = [own 5 1 (.slice p 0 c) []]) := by
  refine FSpec.of func127 rfl ntmps127 rfl fun W0 F => ?_
  refine J.seq <| J.region <| J.p rfl (Q.asg rfl) <| J.nil <| J.then_n <| J.seq <| J.seq <| J.region <| J.m rfl <| J.p rfl (Q.lss rfl rfl) <| J.nil <| J.then_n ?_
  refine J.cases 6 rfl (fun hc6 => ?_) (fun hc6 => ?_)
  ·
   have h := X.nm hc6; exfalso; omega
  replace hc6 := X.nm hc6
  try (first | (exfalso; omega))
  all_goals
   refine J.cond_f rfl <| J.cskip <| J.then_n <| J.seq <| J.seq <| J.region <| J.m rfl <| J.m rfl <| J.p rfl (Q.capSl runUnderlying22 rfl) <| J.m rfl <| J.p rfl (Q.lenSl runUnderlying22 rfl) <| J.p rfl (Q.sub64 rfl rfl (by omega)) <| J.p rfl (Q.sub64 rfl rfl (by omega)) ?_
   refine J.slot 1 (.int .i64 n) rfl (congrArg _ (by omega)) ?_
   refine J.p rfl (Q.asg rfl) <| J.nil <| J.then_n <| J.seq <| J.region <| J.m rfl <| J.p rfl (Q.gtr rfl rfl) <| J.nil <| J.then_n ?_
   refine J.kases 16 rfl (fun hc16 => ?_) (fun hc16 => ?_)
   ·
    try (first | (exfalso; omega))
    all_goals
     refine J.cond_t rfl <| J.region <| J.m rfl <| J.m rfl <| J.p rfl (Q.capSl runUnderlying22 rfl) <| J.p rfl (Q.slH runUnderlying22 sizeOf5 rfl rfl (by omega) (by omega)) <| J.m rfl ?_
     refine J.c rfl rfl (C.appZ (n := n) runUnderlying22 runUnderlying3 typeInfo5 sizeOf5 zeroValue5 rfl rfl h0 (by rw [show Tryz.t5.bytes = 1 from rfl]; omega) (by decide)) ?_
     rintro _ _ ⟨b22, c22, xs, hxs, rfl, rfl⟩
     refine J.norm rfl <| J.m rfl <| J.p rfl (Q.lenSl runUnderlying22 rfl) <| J.p rfl (Q.slH runUnderlying22 sizeOf5 rfl rfl (by omega) (by omega)) <| J.p rfl (Q.asg rfl) <| J.nil <| J.then_n <| J.seq <| J.region <| J.m rfl <| J.p rfl (Q.asg rfl) <| J.nil <| J.then_n <| J.cret ?_
     refine J.convI (own 5 1 (.slice (some ⟨b22, 0, none⟩) n c22) xs) (own 5 1 (.slice (some ⟨b22, 0, none⟩) 0 c22) []) (fun h s => by have := own.cut (k := 0) (Nat.zero_le _) h s; simpa using this) ?_
     exact J.ret1I [own 5 1 (.slice (some ⟨b22, 0, none⟩) 0 c22) []] rfl rfl ⟨_, _, rfl, rfl⟩
   try (first | (exfalso; omega))
   all_goals
    refine J.cond_f rfl <| J.cskip <| J.then_n <| J.seq <| J.region <| J.m rfl <| J.p rfl (Q.asg rfl) <| J.nil <| J.then_n <| J.cret ?_
    refine J.convI (own 5 1 (.slice (some ⟨b22, 0, none⟩) n c22) xs) (own 5 1 (.slice (some ⟨b22, 0, none⟩) 0 c22) []) (fun h s => by have := own.cut (k := 0) (Nat.zero_le _) h s; simpa using this) ?_
    exact J.ret1I [own 5 1 (.slice (some ⟨b22, 0, none⟩) 0 c22) []] rfl rfl ⟨_, _, rfl, rfl⟩

theorem flat_step {l : Ml} {i : Nat} {r : List U} (h : l[i]? = some r) : (l.take (i + 1)).flatten = (l.take i).flatten ++ r := by
  obtain ⟨h1, h2⟩ := List.getElem?_eq_some_iff.1 h
  rw [List.take_succ_eq_append_getElem h1, h2]; simp
theorem flat_le (l : Ml) (i : Nat) : (l.take i).flatten.length ≤ l.flatten.length := by
  conv => rhs; rw [← List.take_append_drop i l, List.flatten_append, List.length_append]
  try omega
theorem flat_len {k w : Nat} {l : Ml} (h : Rect k w l) : l.flatten.length = k * w := by
  obtain ⟨h1, h2⟩ := h
  subst h1
  induction l with
  | nil => simp
  | cons r l ih => rw [List.flatten_cons, List.length_append, ih fun r hr => h2 r (List.mem_cons_of_mem _ hr), h2 r List.mem_cons_self, List.length_cons, Nat.succ_mul]; omega

theorem concat_spec (G : Assn) (k : Nat) (p : Option Addr) (c : Nat) (rs : List RowH) (hl : rs.length = k) (hk : k ≤ 1000000) (hs : SlR [G] 1 (.slice p k c) (rs.map RowH.val)) (hr : ∀ r, r ∈ rs → SlR [G] 1 r.val (bytesV r.bs))
    (h0 : 0 < (rs.map RowH.bs).flatten.length) (hn : (rs.map RowH.bs).flatten.length ≤ 1099511627776) :
    FSpec Tryz.prog 68 [.slice p k c] [G] (fun v B => ∃ p' c', v = .slice p' (rs.map RowH.bs).flatten.length c' ∧ B = [own 5 1 (.slice p' (rs.map RowH.bs).flatten.length c') (bytesV (rs.map RowH.bs).flatten), G]) := by
  refine FSpec.of func68 rfl ntmps68 rfl fun W0 F => ?_
  refine J.seq ?_
  obtain ⟨b, off, rfl, hrd⟩ := hs.some_ (by have : rs ≠ [] := fun h => (by rw [h] at h0; simp at h0); have := List.length_pos_iff.2 this; omega)
  obtain ⟨l, hll⟩ : ∃ l, l = rs.map RowH.bs := ⟨_, rfl⟩
  have hlk : l.length = k := by rw [hll, List.length_map, hl]
  rw [← hll] at h0 hn
  refine J.region <| J.p rfl (Q.asg rfl) <| J.nil <| J.then_n <| J.seq <| J.region <| J.p rfl (Q.asg rfl) <| J.nil <| J.then_n <| J.seq <| J.seq <| J.region <| J.m rfl <| J.p rfl (Q.lenSl runUnderlying45 rfl) <| J.m rfl <| J.nil <| J.then_n <| J.block ?_
  refine J.loopI (fun i : Nat => i ≤ k) (fun i => k - i) (fun i => [(0, .slice (some ⟨b, off, none⟩) k c), (3, .int .i64 ((l.take i).flatten.length : Nat)), (9, .slice (some ⟨b, off, none⟩) k c), (10, .int .i64 k), (11, .int .i64 i)]) (fun _ => [G, F]) 0 (Nat.zero_le _) ⟨rfl, rfl, rfl, rfl, rfl, trivial⟩ fun i hi => ?_
  refine J.seq <| J.region <| J.p rfl (Q.lss rfl rfl) <| J.nil <| J.then_n <| J.seq ?_
  refine J.kases 12 rfl (fun hc12 => ?_) (fun hc12 => ?_)
  ·
   try (first | (cases hc12; done) | (exfalso; simp at hc12; done))
   all_goals
    refine J.cond_t rfl <| J.cskip <| J.then_n <| J.seq <| J.block <| J.seq ?_
    obtain ⟨r, h1⟩ : ∃ r, rs[i]? = some r := ⟨_, List.getElem?_eq_getElem (by omega)⟩
    have hr2 : (rs.map RowH.val)[i]? = some r.val := by rw [List.getElem?_map, h1]; rfl
    have hlr : l[i]? = some r.bs := by rw [hll, List.getElem?_map, h1]; rfl
    have hst := flat_step hlr
    have hle := flat_le l (i + 1)
    have hsl := congrArg List.length hst
    rw [List.length_append] at hsl
    refine J.region <| J.p rfl (Q.ia runUnderlying45 sizeOf22 rfl rfl (by omega) (by omega)) <| J.p rfl (Q.ld isAgg22 rfl (((hrd i _ hr2).inI).cast (by simp))) <| J.p rfl (Q.asg rfl) <| J.nil <| J.then_n <| J.seq <| J.region <| J.m rfl <| J.m rfl <| J.p rfl (Q.lenSl runUnderlying22 rfl) <| J.p rfl (Q.add64 rfl rfl (by omega)) <| J.p rfl (Q.asg rfl) ?_
    refine J.nil <| J.then_n <| J.seq <| J.region <| J.m rfl <| J.p rfl (Q.lss rfl rfl) <| J.nil <| J.then_n ?_
    refine J.cases 20 rfl (fun hc20 => ?_) (fun hc20 => ?_)
    ·
     have h := X.nm hc20; exfalso; omega
    replace hc20 := X.nm hc20
    try (first | (cases hc20; done) | (exfalso; simp at hc20; done))
    all_goals
     refine J.cond_f rfl <| J.cskip <| J.blk_n <| J.then_n <| J.region <| J.p rfl (Q.add64 rfl rfl (by omega)) <| J.m rfl <| J.nil ?_
     refine J.slot 3 (.int .i64 ((l.take (i + 1)).flatten.length : Nat)) rfl (by congr 1; omega) ?_
     refine J.againI (i + 1) (by omega) (by omega) ⟨rfl, rfl, rfl, rfl, rfl, trivial⟩
  try (first | (cases hc12; done) | (exfalso; simp at hc12; done))
  all_goals
   refine J.cond_f rfl <| J.exit <| J.then_x <| J.lp_x <| J.blk_x <| J.then_n <| J.seq ?_
   obtain rfl : k = i := by omega
   rw [List.take_of_length_le (by omega)]
   refine J.region <| J.m rfl ?_
   refine J.callI call127 (grow_spec l.flatten.length h0 hn) rfl rfl rfl ?_
   rintro _ _ ⟨p', c', rfl, rfl⟩
   refine J.norm rfl <| J.p rfl (Q.asg rfl) <| J.nil <| J.then_n <| J.seq <| J.seq <| J.region <| J.m rfl <| J.p rfl (Q.lenSl runUnderlying45 rfl) <| J.m rfl <| J.nil <| J.then_n <| J.block ?_
   refine J.convI (own 5 1 (.slice p' 0 c') []) (own 5 1 (.slice p' (l.take 0).flatten.length c') (bytesV (l.take 0).flatten)) (fun h s => s) ?_
   refine J.loop3I (fun (i : Nat) (_ : Option Addr) (_ : Nat) => i ≤ k) (fun i _ _ => k - i) (fun i q d => [(6, .slice q (l.take i).flatten.length d), (25, .slice (some ⟨b, off, none⟩) k c), (26, .int .i64 k), (27, .int .i64 i)]) (fun i q d => [own 5 1 (.slice q (l.take i).flatten.length d) (bytesV (l.take i).flatten), G, F]) 0 p' c' (Nat.zero_le _) ⟨rfl, rfl, rfl, rfl, trivial⟩ fun i q d hi => ?_
   refine J.seq <| J.region <| J.p rfl (Q.lss rfl rfl) <| J.nil <| J.then_n <| J.seq ?_
   refine J.kases 28 rfl (fun hc28 => ?_) (fun hc28 => ?_)
   ·
    try (first | (cases hc28; done) | (exfalso; simp at hc28; done))
    all_goals
     refine J.cond_t rfl <| J.cskip <| J.then_n <| J.seq <| J.block <| J.seq ?_
     obtain ⟨r, h1⟩ : ∃ r, rs[i]? = some r := ⟨_, List.getElem?_eq_getElem (by omega)⟩
     have hr2 : (rs.map RowH.val)[i]? = some r.val := by rw [List.getElem?_map, h1]; rfl
     have hlr : l[i]? = some r.bs := by rw [hll, List.getElem?_map, h1]; rfl
     have hst := flat_step hlr
     have hle := flat_le l (i + 1)
     have hsl := congrArg List.length hst
     rw [List.length_append] at hsl
     have hrr := hr r (List.mem_of_getElem? h1)
     refine J.region <| J.p rfl (Q.ia runUnderlying45 sizeOf22 rfl rfl (by omega) (by omega)) <| J.p rfl (Q.ld isAgg22 rfl (((hrd i _ hr2).inI).cast (by simp))) <| J.p rfl (Q.asg rfl) <| J.nil <| J.then_n <| J.region <| J.m rfl <| J.m rfl ?_
     refine J.c rfl rfl (C.appI runUnderlying22 runUnderlying22 typeInfo5 sizeOf5 zeroValue5 rfl rfl hrr.inI (bytesV_one _) (by rw [show Tryz.t5.bytes = 1 from rfl]; omega) (by decide)) ?_
     rintro _ _ ⟨p33, c33, rfl, rfl⟩
     refine J.norm rfl <| J.p rfl (Q.asg rfl) <| J.nil <| J.blk_n <| J.then_n <| J.region <| J.p rfl (Q.add64 rfl rfl (by omega)) <| J.m rfl <| J.nil ?_
     rw [← hsl, bytesV_append, ← hst]
     refine J.againI (i + 1, p33, c33) (by show i + 1 ≤ k; omega) (by show k - (i + 1) < k - i; omega) ⟨(by show _ = some (Value.slice p33 (l.take (i + 1)).flatten.length c33); rw [hsl]; rfl), rfl, rfl, rfl, trivial⟩
   try (first | (cases hc28; done) | (exfalso; simp at hc28; done))
   all_goals
    refine J.cond_f rfl <| J.exit <| J.then_x <| J.lp_x <| J.blk_x <| J.then_n <| J.seq <| J.region <| J.m rfl <| J.p rfl (Q.asg rfl) <| J.nil <| J.then_n <| J.cret ?_
    obtain rfl : k = i := by omega
    rw [List.take_of_length_le (by omega)]
    rw [← hll]
    exact J.ret1I [own 5 1 (.slice q l.flatten.length d) (bytesV l.flatten), G] rfl rfl ⟨q, d, rfl, rfl⟩

theorem clipB_spec (q : Option Addr) (n c : Nat) (hn : n ≤ 1000000) (hc : n ≤ c) : FSpec Tryz.prog 74 [.slice q n c] [] (fun v B => v = .slice q n n ∧ B = []) := by
  refine FSpec.of func74 rfl ntmps74 rfl fun W0 F => ?_
  refine J.seq <| J.region <| J.p rfl (Q.asg rfl) <| J.nil <| J.then_n <| J.seq <| J.region <| J.m rfl <| J.m rfl <| J.p rfl (Q.lenSl runUnderlying45 rfl) <| J.m rfl <| J.p rfl (Q.lenSl runUnderlying45 rfl) <| J.p rfl (Q.slHM runUnderlying45 sizeOf22 rfl rfl rfl (by omega) (by omega) (by omega)) <| J.p rfl (Q.asg rfl) <| J.nil ?_
  refine J.then_n <| J.cret ?_
  exact J.ret1I [] rfl rfl ⟨rfl, rfl⟩

section
variable (cb k m w : Nat) (hk : 0 < k) (hkm : k + m ≤ 255) (hw1 : 0 < w) (hw : w ≤ 1000000) (D : Ml) (hD : Rect k w D) (G : Assn) (sp : Option Addr) (sc : Nat) (hsc : k + m ≤ sc) (ss : List RowH) (hsl : ss.length = k + m)
  (hs : SlR [G] 1 (.slice sp (k + m) sc) (ss.map RowH.val)) (hsr : ∀ r, r ∈ ss → SlR [G] 1 r.val (bytesV r.bs)) (hf : ∀ (i : Nat) r, ss[i]? = some r → r.bs = [] ∨ (fullL k m D)[i]? = some r.bs)
include hsl hf hD hk
theorem lens_ok : ∀ r, r ∈ ss → r.bs.length = 0 ∨ r.bs.length = w := fun r hr => by
  obtain ⟨i, hi⟩ := List.getElem?_of_mem hr
  rcases hf i r hi with h | h
  · left; rw [h]; rfl
  · right; exact (fullL_rect (m := m) hD hk).row _ (List.mem_of_getElem? h)
theorem one_there (hc : k ≤ ((List.range (k + m)).filter (presB ss)).length) : ∃ r, r ∈ ss ∧ r.bs.length = w := by
  obtain ⟨n, hn⟩ : ∃ n, n ∈ (List.range (k + m)).filter (presB ss) := List.exists_mem_of_length_pos (by omega)
  rw [List.mem_filter, List.mem_range] at hn
  obtain ⟨x, hx⟩ : ∃ x, ss[n]? = some x := ⟨_, List.getElem?_eq_getElem (by omega)⟩
  have h2 := hn.2
  rw [presB, rowAt_some hx] at h2
  refine ⟨x, List.mem_of_getElem? hx, ?_⟩
  rcases lens_ok k m w hk D hD ss hsl hf x (List.mem_of_getElem? hx) with h | h
  · simp [h] at h2
  · exact h

include hkm hw1 hw hsc hs hsr
theorem decode_spec (hc : k ≤ ((List.range (k + m)).filter (presB ss)).length) (size : Nat) (hsize : size ≤ k * w) : FSpec Tryz.prog 34 [.pointer (some ⟨cb, 0, none⟩), .int .i64 size, .slice sp (k + m) sc] [CodeAt cb k m, G]
    (fun v B => ∃ (p : Option Addr) (c : Nat), v = .tuple #[.slice p size c, .int .i64 0] ∧ B = [own 5 1 (.slice p size c) (bytesV (D.flatten.take size)), CodeAt cb k m, G]) := by
  refine FSpec.ofD func34 rfl ntmps34 rfl fun W0 F => ?_
  refine J.seq ?_
  refine J.openI (CodeAt cb k m) CodeAt.opn fun z _ => ?_
  obtain ⟨r0, hr0, hr0w⟩ := one_there k m w hk D hD ss hsl hf hc
  have hlo := lens_ok k m w hk D hD ss hsl hf
  have hkw : k * w ≤ 255 * 1000000 := Nat.mul_le_mul (by omega) hw
  refine J.region ?_
  refine J.c rfl rfl (C.alloc (l := [_]) zeroValue22 rfl) ?_
  rintro _ _ ⟨b6, rfl, rfl⟩
  refine J.norm rfl ?_
  refine J.c rfl rfl (C.alloc (l := [_]) zeroValue27 rfl) ?_
  rintro _ _ ⟨b7, rfl, rfl⟩
  refine J.norm rfl <| J.nil <| J.then_n <| J.seq <| J.region <| J.p rfl (Q.func rfl rfl) ?_
  refine J.defer rfl rfl ?_
  intro iD hDf
  refine J.nil <| J.then_n <| J.seq <| J.seq ?_
  refine J.draw [10, 11] Tryz.mixed (by kernel_rfl) fun hR => ?_
  refine RG.p 0 hR rfl (Q.mv rfl) <| RG.p 1 hR rfl (Q.nil_ rfl) <| RG.p 2 hR rfl (Q.fa (n := 0) runUnderlying127 rfl rfl sizeOf3 rfl) ?_
  refine RG.p 3 hR rfl (Q.ldI isAgg3 rfl) ?_
  refine RG.p 4 hR rfl (Q.mv rfl) <| RG.p 5 hR rfl (Q.nil_ rfl) <| RG.p 6 hR rfl (Q.fa (n := 1) runUnderlying127 rfl rfl sizeOf3 rfl) ?_
  refine RG.p 7 hR rfl (Q.ldI isAgg3 rfl) ?_
  refine RG.p 8 hR rfl (Q.add64 rfl rfl (by omega)) <| RG.p 9 hR rfl (Q.mv rfl) ?_
  have hci : (k : Int) + (m : Int) = ((k + m : Nat) : Int) := by omega
  refine RG.slot 18 (.int .i64 ((k + m : Nat) : Int)) rfl (congrArg _ hci) ?_
  refine RG.callI 10 hR rfl rfl rfl rfl rfl rfl call66 (alike_spec (k + m) w G sp sc ss hsl (by omega) (by omega) hs hlo) rfl ?_
  rintro _ _ ⟨m', rfl, hm1, hm2, rfl⟩
  refine RG.norm rfl ?_
  obtain rfl : m' = w := by have := hm2 r0 hr0; omega
  refine RG.bar 11 hR rfl rfl rfl rfl rfl rfl (Q.asg rfl).toC ?_
  rintro _ _ ⟨rfl, rfl⟩
  refine RG.norm rfl ?_
  refine RG.fin hR rfl ?_
  refine J.norm rfl <| J.then_n <| J.seq <| J.region <| J.m rfl <| J.p rfl (Q.lss rfl rfl) <| J.m rfl ?_
  refine J.kases 23 rfl (fun hb23 => ?_) (fun hb23 => ?_)
  ·
   try (first | (cases hb23; done) | (exfalso; simp at hb23; done))
   all_goals
    refine J.k rfl <| J.k rfl <| J.k rfl <| J.k rfl <| J.k rfl <| J.k rfl <| J.k rfl <| J.k rfl <| J.p rfl (Q.pick_t rfl rfl) <| J.nil <| J.then_n <| J.cond_t rfl <| J.region ?_
    -- call@33 call f67<rs.give>(1)
    stop
    refine J.nil <| J.then_n <| J.seq ?_
    refine J.shutI (codeAs cb k m z) (CodeAt cb k m) (fun h s => ⟨z, s⟩) ?_
    refine J.region <| J.m rfl <| J.m rfl ?_
    refine J.callI call69 (whole_spec cb k m m' hk hkm hw1 hw D hD G sp sc hsc ss hsl hs hsr hf hc) rfl rfl rfl ?_
    rintro _ _ ⟨p, c, rs, X, rfl, hkc, hrs, h1, h2, rfl⟩
    refine J.norm rfl ?_
    have hrl : rs.length = k := by have := congrArg List.length hrs; rw [hD.len] at this; simpa using this
    have hfl := flat_len hD
    have hpos : 0 < k * m' := Nat.mul_pos hk hw1
    refine J.callI call68 (concat_spec (star [X, G]) k p c rs hrl (by omega) h1 h2 (by rw [hrs, hfl]; exact hpos) (by rw [hrs, hfl]; omega)) rfl rfl rfl ?_
    rintro _ _ ⟨p2, c2, rfl, rfl⟩
    refine J.norm rfl ?_
    rw [hrs, hfl]
    refine J.tellsI (own 5 1 (.slice p2 (k * m') c2) (bytesV D.flatten)) own.len fun hln => ?_
    have hcap := hln.2
    refine J.m rfl <| J.m rfl <| J.p rfl (Q.slHM runUnderlying22 sizeOf5 rfl rfl rfl (by omega) (by omega) (by omega)) ?_
    refine J.stJ rfl sizeOf22 rfl rfl rfl ?_
    refine J.stJ rfl sizeOf27 rfl rfl rfl ?_
    refine J.nil <| J.then_n <| J.cret ?_
    refine J.unpackI [X, G] ?_
    refine J.norm rfl ?_
    refine J.convI (own 5 1 (.slice p2 (k * m') c2) (bytesV D.flatten)) (own 5 1 (.slice p2 size size) (bytesV (D.flatten.take size))) (fun h s => by rw [show bytesV (D.flatten.take size) = (bytesV D.flatten).take size from by simp [bytesV]]; exact own.clip h (own.cut hsize h s)) ?_
    exact J.retD (p := ⟨b6, 0, none⟩) (q := ⟨b7, 0, none⟩) [own 5 1 (.slice p2 size size) (bytesV (D.flatten.take size)), CodeAt cb k m, G] hDf call64 (told_spec _ _) rfl rfl rfl isAgg22 isAgg27 (rdI (by exact rfl)) (rdI (by exact rfl)) ⟨p2, size, rfl, rfl⟩
  try (first | (cases hb23; done) | (exfalso; simp at hb23; done))
  all_goals
   refine J.m rfl <| J.m rfl <| J.p rfl (Q.nil_ rfl) <| J.p rfl (Q.fa (n := 0) runUnderlying127 rfl rfl sizeOf3 rfl) ?_
   refine J.p rfl (Q.ldI isAgg3 rfl) ?_
   refine J.m rfl ?_
   have hci2 : (k : Int) * (m' : Int) = ((k * m' : Nat) : Int) := by rw [Int.natCast_mul]
   refine J.p rfl (Q.mul64 rfl rfl (by omega)) ?_
   refine J.slot 30 (.int .i64 ((k * m' : Nat) : Int)) rfl (congrArg _ hci2) ?_
   refine J.p rfl (Q.gtr rfl rfl) <| J.p rfl (Q.pick_f rfl rfl) <| J.nil <| J.then_n ?_
   refine J.cases 32 rfl (fun hc32 => ?_) (fun hc32 => ?_)
   ·
    have h := X.nm hc32; exfalso; omega
   replace hc32 := X.nm hc32
   try (first | (cases hc32; done) | (exfalso; simp at hc32; done))
   all_goals
    refine J.cond_f rfl <| J.cskip <| J.then_n <| J.seq ?_
    refine J.shutI (codeAs cb k m z) (CodeAt cb k m) (fun h s => ⟨z, s⟩) ?_
    refine J.region <| J.m rfl <| J.m rfl ?_
    refine J.callI call69 (whole_spec cb k m m' hk hkm hw1 hw D hD G sp sc hsc ss hsl hs hsr hf hc) rfl rfl rfl ?_
    rintro _ _ ⟨p, c, rs, X, rfl, hkc, hrs, h1, h2, rfl⟩
    refine J.norm rfl ?_
    have hrl : rs.length = k := by have := congrArg List.length hrs; rw [hD.len] at this; simpa using this
    have hfl := flat_len hD
    have hpos : 0 < k * m' := Nat.mul_pos hk hw1
    refine J.callI call68 (concat_spec (star [X, G]) k p c rs hrl (by omega) h1 h2 (by rw [hrs, hfl]; exact hpos) (by rw [hrs, hfl]; omega)) rfl rfl rfl ?_
    rintro _ _ ⟨p2, c2, rfl, rfl⟩
    refine J.norm rfl ?_
    rw [hrs, hfl]
    refine J.tellsI (own 5 1 (.slice p2 (k * m') c2) (bytesV D.flatten)) own.len fun hln => ?_
    have hcap := hln.2
    refine J.m rfl <| J.m rfl <| J.p rfl (Q.slHM runUnderlying22 sizeOf5 rfl rfl rfl (by omega) (by omega) (by omega)) ?_
    refine J.stJ rfl sizeOf22 rfl rfl rfl ?_
    refine J.stJ rfl sizeOf27 rfl rfl rfl ?_
    refine J.nil <| J.then_n <| J.cret ?_
    refine J.unpackI [X, G] ?_
    refine J.norm rfl ?_
    refine J.convI (own 5 1 (.slice p2 (k * m') c2) (bytesV D.flatten)) (own 5 1 (.slice p2 size size) (bytesV (D.flatten.take size))) (fun h s => by rw [show bytesV (D.flatten.take size) = (bytesV D.flatten).take size from by simp [bytesV]]; exact own.clip h (own.cut hsize h s)) ?_
    exact J.retD (p := ⟨b6, 0, none⟩) (q := ⟨b7, 0, none⟩) [own 5 1 (.slice p2 size size) (bytesV (D.flatten.take size)), CodeAt cb k m, G] hDf call64 (told_spec _ _) rfl rfl rfl isAgg22 isAgg27 (rdI (by exact rfl)) (rdI (by exact rfl)) ⟨p2, size, rfl, rfl⟩

set_option maxHeartbeats 4000000 in
theorem repair_spec (hc : k ≤ ((List.range (k + m)).filter (presB ss)).length) : FSpec Tryz.prog 37 [.pointer (some ⟨cb, 0, none⟩), .slice sp (k + m) sc] [CodeAt cb k m, G]
    (fun v B => ∃ (p : Option Addr) (c : Nat), v = .tuple #[.slice p (k + m) c, .int .i64 0] ∧ B = [MatAt 22 p c (fullL k m D), CodeAt cb k m, G]) := by
  refine FSpec.ofD func37 rfl ntmps37 rfl fun W0 F => ?_
  refine J.seq ?_
  refine J.openI (CodeAt cb k m) CodeAt.opn fun z _ => ?_
  have hlo := lens_ok k m w hk D hD ss hsl hf
  refine J.region ?_
  refine J.c rfl rfl (C.alloc (l := [_]) zeroValue45 rfl) ?_
  rintro _ _ ⟨b4, rfl, rfl⟩
  refine J.norm rfl ?_
  refine J.c rfl rfl (C.alloc (l := [_]) zeroValue27 rfl) ?_
  rintro _ _ ⟨b5, rfl, rfl⟩
  refine J.norm rfl <| J.nil <| J.then_n <| J.seq <| J.region <| J.p rfl (Q.func rfl rfl) ?_
  refine J.defer rfl rfl ?_
  intro iD hDf
  refine J.nil <| J.then_n <| J.seq ?_
  refine J.draw [10] Tryz.mixed (by kernel_rfl) fun hR => ?_
  refine RG.p 0 hR rfl (Q.mv rfl) <| RG.p 1 hR rfl (Q.nil_ rfl) <| RG.p 2 hR rfl (Q.fa (n := 0) runUnderlying127 rfl rfl sizeOf3 rfl) ?_
  refine RG.p 3 hR rfl (Q.ldI isAgg3 rfl) ?_
  refine RG.p 4 hR rfl (Q.mv rfl) <| RG.p 5 hR rfl (Q.nil_ rfl) <| RG.p 6 hR rfl (Q.fa (n := 1) runUnderlying127 rfl rfl sizeOf3 rfl) ?_
  refine RG.p 7 hR rfl (Q.ldI isAgg3 rfl) ?_
  refine RG.p 8 hR rfl (Q.add64 rfl rfl (by omega)) <| RG.p 9 hR rfl (Q.mv rfl) ?_
  have hci : (k : Int) + (m : Int) = ((k + m : Nat) : Int) := by omega
  refine RG.slot 20 (.int .i64 ((k + m : Nat) : Int)) rfl (congrArg _ hci) ?_
  refine RG.callI 10 hR rfl rfl rfl rfl rfl rfl call66 (alike_spec (k + m) w G sp sc ss hsl (by omega) (by omega) hs hlo) rfl ?_
  rintro _ _ ⟨m', rfl, hm1, hm2, rfl⟩
  refine RG.norm rfl ?_
  refine RG.fin hR rfl ?_
  refine J.norm rfl <| J.then_n <| J.seq ?_
  refine J.shutI (codeAs cb k m z) (CodeAt cb k m) (fun h s => ⟨z, s⟩) ?_
  refine J.region <| J.m rfl <| J.m rfl ?_
  refine J.callI call69 (whole_spec cb k m w hk hkm hw1 hw D hD G sp sc hsc ss hsl hs hsr hf hc) rfl rfl rfl ?_
  rintro _ _ ⟨p, c, rs, X0, rfl, hkc, hrs, h1, h2, rfl⟩
  refine J.norm rfl ?_
  have hrl : rs.length = k := by have := congrArg List.length hrs; rw [hD.len] at this; simpa using this
  have hrr : ∀ r, r ∈ rs → r.bs.length = w := fun r hr => hD.row _ (hrs ▸ List.mem_map_of_mem hr)
  refine J.p rfl (Q.asg rfl) <| J.nil <| J.then_n <| J.seq <| J.region <| J.m rfl <| J.m rfl ?_
  refine J.callI call56 (parity_spec cb k m w hk hkm hw1 hw (star [X0, G]) p c rs hrl h1 (fun r hr => ⟨hrr r hr, h2 r hr⟩)) rfl rfl rfl ?_
  rintro _ _ ⟨p2, c2, rfl, rfl⟩
  refine J.norm rfl ?_
  rw [hrs]
  have hpl : (timesL (cauchyL m k) D).length = m := by rw [(timesL_rect (m := cauchyL m k) hD hk).len, cauchyL_len]
  refine J.m rfl <| J.p rfl (Q.ext rfl rfl) <| J.p rfl (Q.ext rfl rfl) <| J.p rfl (Q.asg rfl) <| J.p rfl (Q.asg rfl) <| J.nil <| J.then_n <| J.seq <| J.seq ?_
  refine J.openI (MatAt 22 p2 c2 (timesL (cauchyL m k) D)) (p := fun ms : List RowH => ms.map RowH.bs = timesL (cauchyL m k) D) (Bs := fun ms => [own 22 1 (.slice p2 m c2) (ms.map RowH.val), star (ms.map RowH.asn)]) (fun h ⟨ms, h1, h2⟩ => ⟨ms, h1, by rw [hpl] at h2; exact h2⟩) fun ms hms => ?_
  refine J.norm rfl ?_
  have hml : ms.length = m := by have := congrArg List.length hms; rw [hpl] at this; simpa using this
  refine J.slrI (E0 := 22) (sz := 1) (p := p2) (n := m) (c := c2) (xs := ms.map RowH.val) fun h3 => ?_
  refine J.rowsI (hs := ms) fun h4 => ?_
  refine J.region <| J.m rfl ?_
  refine J.callI call74 (clipB_spec p k c (by omega) hkc) rfl rfl rfl ?_
  rintro _ _ ⟨rfl, rfl⟩
  refine J.norm rfl ?_
  refine J.shutI [own 22 1 (.slice p2 m c2) (ms.map RowH.val), star (ms.map RowH.asn), star [X0, G]] (star [own 22 1 (.slice p2 m c2) (ms.map RowH.val), star (ms.map RowH.asn), star [X0, G]]) (fun h s => s) ?_
  obtain ⟨Gs, hGs⟩ : ∃ Gs, Gs = star [own 22 1 (.slice p2 m c2) (ms.map RowH.val), star (ms.map RowH.asn), star [X0, G]] := ⟨_, rfl⟩
  have hx1 : SlR [Gs] 1 (.slice p k k) (rs.map RowH.val) := by have := slr_take (c' := k) h1 (Nat.le_refl k); rw [List.take_of_length_le (by rw [List.length_map]; omega)] at this; rw [hGs]; exact this.into 2 rfl
  have hy1 : SlR [Gs] 1 (.slice p2 m c2) (ms.map RowH.val) := by rw [hGs]; exact h3.into 0 rfl
  have hrr2 : ∀ r, r ∈ rs ++ ms → SlR [Gs] 1 r.val (bytesV r.bs) := fun r hr => by
   rw [hGs]
   rcases List.mem_append.1 hr with hr | hr
   · exact (h2 r hr).into 2 rfl
   · exact (h4 r hr).into 1 rfl
  have hgs : ∀ {v : Value} {xs : List Value}, SlR [G] 1 v xs → SlR [Gs] 1 v xs := fun h => by rw [hGs]; exact (h.into 1 rfl).into 2 rfl
  rw [← hGs]
  refine J.m rfl ?_
  refine J.c rfl rfl (C.appFull Gs runUnderlying45 runUnderlying45 typeInfo22 sizeOf22 zeroValue22 rfl rfl hx1 hy1 (by rw [show Tryz.t22.bytes = 24 from rfl]; omega) (by decide)) ?_
  rintro _ _ ⟨q, d, Y, rfl, hal0, rfl⟩
  refine J.norm rfl ?_
  rw [← List.map_append] at hal0
  obtain ⟨al, hal⟩ : ∃ al, al = rs ++ ms := ⟨_, rfl⟩
  rw [← hal] at hal0 hrr2
  have halb : al.map RowH.bs = fullL k m D := by rw [hal, List.map_append, hrs, hms]; rfl
  have hfr := fullL_rect (m := m) hD hk
  have hall : al.length = k + m := by rw [hal, List.length_append]; omega
  refine J.shutI [Y, Gs] (star [Y, Gs]) (fun h s => s) ?_
  refine J.p rfl (Q.lenSl runUnderlying45 rfl) <| J.m rfl <| J.nil <| J.then_n <| J.block ?_
  refine J.give (X := star (([] : List RowH).map RowH.asn)) trivial ?_
  refine J.give (X := own 22 1 (.slice none 0 0) (([] : List RowH).map RowH.val)) (own.nil _ _ _) ?_
  refine J.loop3I (fun (hs : List RowH) (_ : Option Addr) (_ : Nat) => hs.length ≤ k + m ∧ hs.map RowH.bs = (fullL k m D).take hs.length) (fun hs _ _ => k + m - hs.length) (fun hs p c => [(1, .slice sp (k + m) sc), (4, .pointer (some ⟨b4, 0, none⟩)), (5, .pointer (some ⟨b5, 0, none⟩)), (35, .slice q (k + m) d), (36, .int .i64 (k + m : Nat)), (37, .int .i64 hs.length)])
   (fun hs p c => [own 22 1 (.slice p hs.length c) (hs.map RowH.val), star (hs.map RowH.asn), pt b4 (.cells [.slice p hs.length c].toArray 45 (0, 0)), star [Y, Gs], CodeAt cb k m, pt b5 (.cells [Value.int .i64 0].toArray 27 (0, 0)), F]) [] none 0 ⟨by simp, rfl⟩ ⟨rfl, rfl, rfl, rfl, rfl, rfl, trivial⟩ fun hs2 p3 c3 hz => ?_
  obtain ⟨hz1, hz2⟩ := hz
  refine J.seq <| J.region <| J.p rfl (Q.lss rfl rfl) <| J.nil <| J.then_n <| J.seq ?_
  refine J.kases 38 rfl (fun hc38 => ?_) (fun hc38 => ?_)
  ·
   try (first | (cases hc38; done) | (exfalso; simp at hc38; done))
   all_goals
    refine J.cond_t rfl <| J.cskip <| J.then_n <| J.seq <| J.block <| J.seq ?_
    obtain ⟨i, hi⟩ : ∃ i, i = hs2.length := ⟨_, rfl⟩
    rw [← hi] at hz1 hz2 ⊢
    obtain ⟨qb, qo, rfl, hqr⟩ := hal0.some_ (by omega)
    obtain ⟨sb, so, rfl, hsrd⟩ := ((hgs hs).into (As := [Y, Gs]) 1 rfl).some_ (by omega)
    obtain ⟨y, hy⟩ : ∃ y, al[i]? = some y := ⟨_, List.getElem?_eq_getElem (by omega)⟩
    have hyv : (al.map RowH.val)[i]? = some y.val := by rw [List.getElem?_map, hy]; rfl
    have hyb : (fullL k m D)[i]? = some y.bs := by rw [← halb, List.getElem?_map, hy]; rfl
    have hyl := hfr.row _ (List.mem_of_getElem? hyb)
    obtain ⟨x, hx⟩ : ∃ x, ss[i]? = some x := ⟨_, List.getElem?_eq_getElem (by omega)⟩
    have hxv : (ss.map RowH.val)[i]? = some x.val := by rw [List.getElem?_map, hx]; rfl
    have hxy : 0 < x.bs.length → x.bs = y.bs := fun h => by
     rcases hf i x hx with h2 | h2
     · rw [h2] at h; simp at h
     · rw [hyb] at h2; exact (Option.some.inj h2).symm
    refine J.region <| J.m rfl <| J.p rfl (Q.ia runUnderlying45 sizeOf22 rfl rfl (by omega) (by omega)) <| J.p rfl (Q.ld isAgg22 rfl (((hqr i _ hyv).inI).cast (by simp))) <| J.p rfl (Q.asg rfl) <| J.p rfl (Q.asg rfl) <| J.nil <| J.then_n <| J.seq <| J.seq <| J.region <| J.m rfl <| J.m rfl <| J.p rfl (Q.ia runUnderlying45 sizeOf22 rfl rfl (by omega) (by omega)) ?_
    refine J.p rfl (Q.ld isAgg22 rfl (((hsrd i _ hxv).inI).cast (by simp))) <| J.p rfl (Q.lenSl runUnderlying22 rfl) <| J.p rfl (Q.gtr rfl rfl) <| J.nil <| J.then_n ?_
    refine J.kases 47 rfl (fun hc47 => ?_) (fun hc47 => ?_)
    ·
     obtain ⟨u, hu1, hu2, hu3⟩ : ∃ u : RowH, u = x ∧ u.bs = y.bs ∧ SlR [star [Y, Gs]] 1 u.val (bytesV u.bs) := ⟨x, rfl, hxy (by omega), (hgs (hsr x (List.mem_of_getElem? hx))).into 1 rfl⟩
     try (first | (cases hc47; done) | (exfalso; simp at hc47; done))
     all_goals
      refine J.cond_t rfl <| J.region <| J.m rfl <| J.m rfl <| J.p rfl (Q.ia runUnderlying45 sizeOf22 rfl rfl (by omega) (by omega)) <| J.p rfl (Q.ld isAgg22 rfl (((hsrd i _ hxv).inI).cast (by simp))) <| J.p rfl (Q.asg rfl) <| J.nil <| J.then_n ?_
      have hul : u.bs.length = w := by rw [hu2]; exact hyl
      have hub : (fullL k m D)[i]? = some u.bs := by rw [hu2]; exact hyb
      clear hu2 hxy hyl hyb
      subst hu1
      refine J.pickI [pt b4 (.cells [.slice p3 i c3].toArray 45 (0, 0))] ?_
      refine J.norm rfl ?_
      refine J.drawE [2, 3, 4, 5] 1 Tryz.mixed (by kernel_rfl) rfl rfl fun hR => ?_
      refine RG.p 0 hR rfl (Q.ldI isAgg45 rfl) ?_
      refine RG.p 1 hR rfl (Q.mv rfl) ?_
      refine RG.callkI 2 hR rfl rfl rfl rfl rfl call70 (clone_spec (star [Y, Gs]) u.p u.c u.bs hu3 (by omega)) rfl ?_
      rintro _ _ ⟨rp, rc, rfl, rfl⟩
      refine RG.normE rfl ?_
      refine RG.made 3 hR rfl rfl rfl rfl rfl (C.bslG (l := [.slice rp u.bs.length rc]) runUnderlying45 sizeOf22 zeroValue22 (by decide) rfl rfl rfl rfl rfl) ?_
      rintro b55
      refine RG.many hR 4 [] rfl ⟨?_, trivial⟩
      ·
       refine RGi.appI rfl rfl rfl rfl runUnderlying45 runUnderlying45 typeInfo22 sizeOf22 zeroValue22 rfl rfl (SlR.ptI rfl) (by simp [oneC]) (by simp [Tryz.t22] <;> omega) (by decide) ?_
       rintro p56 c56
       refine RG.normE rfl ?_
       refine RG.stI 5 hR rfl rfl rfl rfl rfl sizeOf45 rfl rfl rfl (by exact rfl) (by exact rfl) (by exact rfl) ?_
       refine RG.fin hR rfl ?_
       refine J.norm rfl <| J.blk_n <| J.then_n <| J.region <| J.p rfl (Q.add64 rfl rfl (by omega)) <| J.m rfl <| J.nil ?_
       obtain ⟨r, hr⟩ : ∃ r : RowH, r = ⟨rp, rc, u.bs⟩ := ⟨_, rfl⟩
       have hrv : r.val = .slice rp u.bs.length rc := by subst hr; rfl
       refine J.convI (own 5 1 (.slice rp u.bs.length rc) (bytesV u.bs)) r.asn (fun h s => by subst hr; exact s) ?_
       refine J.addoneI (f := RowH.asn) (l := hs2) r ?_
       have hn1 : hs2.length + 1 = (hs2 ++ [r]).length := by simp
       have hv1 : hs2.map RowH.val ++ [r.val] = (hs2 ++ [r]).map RowH.val := by simp
       have hne : (hs2 ++ [r]).map RowH.bs = (fullL k m D).take (hs2 ++ [r]).length := rows_next (by rw [← hi]; exact hz2) (by rw [← hi, hub]; subst hr; rfl)
       rw [← hrv, hi, hn1, hv1]
       refine J.againI (hs2 ++ [r], p56, c56) ⟨by show (hs2 ++ [r]).length ≤ k + m; omega, hne⟩ (by show k + m - (hs2 ++ [r]).length < k + m - hs2.length; omega) ⟨rfl, rfl, rfl, rfl, rfl, (by show _ = some (Value.int .i64 ((hs2 ++ [r]).length : Nat)); rw [← hn1]; rfl), trivial⟩
    obtain ⟨u, hu1, hu2, hu3⟩ : ∃ u : RowH, u = y ∧ u.bs = y.bs ∧ SlR [star [Y, Gs]] 1 u.val (bytesV u.bs) := ⟨y, rfl, rfl, (hrr2 y (List.mem_of_getElem? hy)).into 1 rfl⟩
    try (first | (cases hc47; done) | (exfalso; simp at hc47; done))
    all_goals
     refine J.cond_f rfl <| J.cskip <| J.then_n ?_
     have hul : u.bs.length = w := by rw [hu2]; exact hyl
     have hub : (fullL k m D)[i]? = some u.bs := by rw [hu2]; exact hyb
     clear hu2 hxy hyl hyb
     subst hu1
     refine J.pickI [pt b4 (.cells [.slice p3 i c3].toArray 45 (0, 0))] ?_
     refine J.norm rfl ?_
     refine J.drawE [2, 3, 4, 5] 1 Tryz.mixed (by kernel_rfl) rfl rfl fun hR => ?_
     refine RG.p 0 hR rfl (Q.ldI isAgg45 rfl) ?_
     refine RG.p 1 hR rfl (Q.mv rfl) ?_
     refine RG.callkI 2 hR rfl rfl rfl rfl rfl call70 (clone_spec (star [Y, Gs]) u.p u.c u.bs hu3 (by omega)) rfl ?_
     rintro _ _ ⟨rp, rc, rfl, rfl⟩
     refine RG.normE rfl ?_
     refine RG.made 3 hR rfl rfl rfl rfl rfl (C.bslG (l := [.slice rp u.bs.length rc]) runUnderlying45 sizeOf22 zeroValue22 (by decide) rfl rfl rfl rfl rfl) ?_
     rintro b55
     refine RG.many hR 4 [] rfl ⟨?_, trivial⟩
     ·
      refine RGi.appI rfl rfl rfl rfl runUnderlying45 runUnderlying45 typeInfo22 sizeOf22 zeroValue22 rfl rfl (SlR.ptI rfl) (by simp [oneC]) (by simp [Tryz.t22] <;> omega) (by decide) ?_
      rintro p56 c56
      refine RG.normE rfl ?_
      refine RG.stI 5 hR rfl rfl rfl rfl rfl sizeOf45 rfl rfl rfl (by exact rfl) (by exact rfl) (by exact rfl) ?_
      refine RG.fin hR rfl ?_
      refine J.norm rfl <| J.blk_n <| J.then_n <| J.region <| J.p rfl (Q.add64 rfl rfl (by omega)) <| J.m rfl <| J.nil ?_
      obtain ⟨r, hr⟩ : ∃ r : RowH, r = ⟨rp, rc, u.bs⟩ := ⟨_, rfl⟩
      have hrv : r.val = .slice rp u.bs.length rc := by subst hr; rfl
      refine J.convI (own 5 1 (.slice rp u.bs.length rc) (bytesV u.bs)) r.asn (fun h s => by subst hr; exact s) ?_
      refine J.addoneI (f := RowH.asn) (l := hs2) r ?_
      have hn1 : hs2.length + 1 = (hs2 ++ [r]).length := by simp
      have hv1 : hs2.map RowH.val ++ [r.val] = (hs2 ++ [r]).map RowH.val := by simp
      have hne : (hs2 ++ [r]).map RowH.bs = (fullL k m D).take (hs2 ++ [r]).length := rows_next (by rw [← hi]; exact hz2) (by rw [← hi, hub]; subst hr; rfl)
      rw [← hrv, hi, hn1, hv1]
      refine J.againI (hs2 ++ [r], p56, c56) ⟨by show (hs2 ++ [r]).length ≤ k + m; omega, hne⟩ (by show k + m - (hs2 ++ [r]).length < k + m - hs2.length; omega) ⟨rfl, rfl, rfl, rfl, rfl, (by show _ = some (Value.int .i64 ((hs2 ++ [r]).length : Nat)); rw [← hn1]; rfl), trivial⟩
  try (first | (cases hc38; done) | (exfalso; simp at hc38; done))
  all_goals
   refine J.cond_f rfl <| J.exit <| J.then_x <| J.lp_x <| J.blk_x <| J.then_n <| J.seq <| J.region ?_
   refine J.p rfl (Q.ldI isAgg45 rfl) ?_
   refine J.stJ rfl sizeOf45 rfl rfl rfl ?_
   refine J.stJ rfl sizeOf27 rfl rfl rfl ?_
   refine J.nil <| J.then_n <| J.cret ?_
   have hkl : hs2.length = k + m := by omega
   rw [hkl] at hz2 ⊢
   refine J.unpackI [Y, Gs] ?_
   rw [hGs]
   refine J.norm rfl ?_
   refine J.unpackI [own 22 1 (.slice p2 m c2) (ms.map RowH.val), star (ms.map RowH.asn), star [X0, G]] ?_
   refine J.norm rfl ?_
   refine J.unpackI [X0, G] ?_
   refine J.norm rfl ?_
   refine J.shutI [own 22 1 (.slice p3 (k + m) c3) (hs2.map RowH.val), star (hs2.map RowH.asn)] (MatAt 22 p3 c3 (fullL k m D)) (fun h s => ⟨hs2, by rw [hz2, List.take_of_length_le (by rw [hfr.len]; omega)], by rw [hfr.len]; exact s⟩) ?_
   exact J.retD (p := ⟨b4, 0, none⟩) (q := ⟨b5, 0, none⟩) [MatAt 22 p3 c3 (fullL k m D), CodeAt cb k m, G] hDf call64 (told_spec _ _) rfl rfl rfl isAgg45 isAgg27 (rdI (by exact rfl)) (rdI (by exact rfl)) ⟨p3, c3, rfl, rfl⟩
end

def andV (a b : Int) : Int := IntKind.u32.wrap (BitVec.ofInt IntKind.u32.bits a &&& BitVec.ofInt IntKind.u32.bits b).toNat
def xorV (a b : Int) : Int := IntKind.u32.wrap (BitVec.ofInt IntKind.u32.bits a ^^^ BitVec.ofInt IntKind.u32.bits b).toNat
def shrV (a : Int) (n : Nat) : Int := a.fdiv (2 ^ n)
def tstep (c : Int) : Int := if andV c 1 = 1 then xorV (shrV c 1) 2197175160 else shrV c 1
def tpow (i : Nat) : Nat → Int
  | 0 => IntKind.u32.wrap (i : Int)
  | j + 1 => tstep (tpow i j)
def tabV (i : Nat) : Int := tpow i 4
def tabL : List Value := (List.range 16).map fun i => Value.int .u32 (tabV i)
def nib (c : Int) : Int := xorV (shrV c 4) (tabV (andV c 15).toNat)
def crcStep (c : Int) (b : U) : Int := nib (nib (xorV c (IntKind.u32.wrap (b.toNat : Int))))
def crcL (bs : List U) : Int := xorV IntKind.u32.max (bs.foldl crcStep 4294967295)
theorem wrap32 (n : Int) : 0 ≤ IntKind.u32.wrap n ∧ IntKind.u32.wrap n < 4294967296 := by
  unfold IntKind.wrap
  simp only [IntKind.bits, IntKind.signed]
  show 0 ≤ n % 2 ^ 32 ∧ n % 2 ^ 32 < 4294967296
  omega
theorem crcL_nat (bs : List U) : ∃ n : Nat, crcL bs = (n : Int) ∧ n < 4294967296 := by
  have h := wrap32 (BitVec.ofInt IntKind.u32.bits IntKind.u32.max ^^^ BitVec.ofInt IntKind.u32.bits (bs.foldl crcStep 4294967295)).toNat
  exact ⟨(crcL bs).toNat, by unfold crcL xorV; omega, by unfold crcL xorV; omega⟩
theorem and15 (c : Int) : 0 ≤ andV c 15 ∧ andV c 15 < 16 := by
  have h : (BitVec.ofInt IntKind.u32.bits c &&& BitVec.ofInt IntKind.u32.bits 15).toNat ≤ 15 := by
    rw [BitVec.toNat_and]
    exact Nat.le_trans Nat.and_le_right (by decide)
  have e : andV c 15 = ((BitVec.ofInt IntKind.u32.bits c &&& BitVec.ofInt IntKind.u32.bits 15).toNat : Int) := by
    show IntKind.u32.wrap _ = _
    unfold IntKind.wrap
    simp only [IntKind.signed]
    show (_ : Int) % 2 ^ 32 = _
    omega
  rw [e]; omega
theorem tabL_at (c : Int) : tabL[(andV c 15).toNat]? = some (.int .u32 (tabV (andV c 15).toNat)) := by
  have h := and15 c
  unfold tabL
  rw [List.getElem?_map, List.getElem?_range (by omega)]; rfl
theorem range_fill {f : Nat → Value} {n i : Nat} {z : Value} (h : i < n) : ((List.range i).map f ++ List.replicate (n - i) z).set i (f i) = (List.range (i + 1)).map f ++ List.replicate (n - (i + 1)) z := by
  rw [List.set_append_right _ _ (by simp), List.range_succ, List.map_append, List.append_assoc]
  congr 1
  rw [show n - i = (n - (i + 1)) + 1 from by omega, List.replicate_succ]
  simp

theorem table_spec : FSpec Tryz.prog 58 [] [] (fun v B => v = .agg tabL.toArray ∧ B = []) := by
  refine FSpec.of func58 rfl ntmps58 rfl fun W0 F => ?_
  refine J.seq <| J.region ?_
  refine J.c rfl rfl (C.alloc (l := List.replicate 16 (Value.int .u32 0)) zeroValue141 (by kernel_rfl)) ?_
  rintro _ _ ⟨b0, rfl, rfl⟩
  refine J.norm rfl ?_
  refine J.conv (Y := own 141 1 (.slice (some ⟨b0, 0, none⟩) 16 16) ((List.range 0).map (fun i => Value.int .u32 (tabV i)) ++ List.replicate (16 - 0) (Value.int .u32 0))) 0 rfl (own_of_block (by rfl)) ?_
  refine J.nil <| J.then_n <| J.seq <| J.seq <| J.region <| J.m rfl <| J.nil <| J.then_n <| J.block ?_
  refine J.loopI (fun i : Nat => i ≤ 16) (fun i => 16 - i) (fun i => [(0, .pointer (some ⟨b0, 0, none⟩)), (4, .int .i64 i)]) (fun i => [own 141 1 (.slice (some ⟨b0, 0, none⟩) 16 16) ((List.range i).map (fun i => Value.int .u32 (tabV i)) ++ List.replicate (16 - i) (Value.int .u32 0)), F]) 0 (by omega) ⟨rfl, rfl, trivial⟩ fun i hi => ?_
  refine J.seq <| J.region <| J.p rfl (Q.lss rfl rfl) <| J.nil <| J.then_n <| J.seq ?_
  refine J.kases 5 rfl (fun hc5 => ?_) (fun hc5 => ?_)
  ·
   try (first | fail)
   all_goals
    refine J.cond_t rfl <| J.cskip <| J.then_n <| J.seq <| J.block <| J.seq <| J.region <| J.m rfl <| J.p rfl (Q.asg rfl) <| J.nil <| J.then_n <| J.seq <| J.region <| J.m rfl <| J.p rfl (Q.conv runUnderlying3 runUnderlying31 rfl) ?_
    refine J.slot 8 (.int .u32 (tpow i 0)) rfl rfl ?_
    refine J.p rfl (Q.asg rfl) <| J.nil <| J.then_n <| J.seq <| J.seq <| J.region <| J.m rfl <| J.nil <| J.then_n <| J.block ?_
    refine J.loopI (fun j : Nat => j ≤ 4) (fun j => 4 - j) (fun j => [(0, .pointer (some ⟨b0, 0, none⟩)), (1, .int .i64 i), (2, .int .u32 (tpow i j)), (4, .int .i64 i), (9, .int .i64 j)]) (fun _ => [own 141 1 (.slice (some ⟨b0, 0, none⟩) 16 16) ((List.range i).map (fun i => Value.int .u32 (tabV i)) ++ List.replicate (16 - i) (Value.int .u32 0)), F]) 0 (by omega) ⟨rfl, rfl, rfl, rfl, rfl, trivial⟩ fun j hj => ?_
    refine J.seq <| J.region <| J.p rfl (Q.lss rfl rfl) <| J.nil <| J.then_n <| J.seq ?_
    refine J.kases 10 rfl (fun hc10 => ?_) (fun hc10 => ?_)
    ·
     try (first | fail)
     all_goals
      refine J.cond_t rfl <| J.cskip <| J.then_n <| J.seq <| J.block <| J.seq <| J.region <| J.m rfl <| J.p rfl (Q.and rfl rfl) ?_
      refine J.slot 12 (.int .u32 (andV (tpow i j) 1)) rfl rfl ?_
      refine J.p rfl (Q.asg rfl) <| J.nil <| J.then_n <| J.seq <| J.region <| J.m rfl <| J.p rfl (Q.shr rfl rfl (by omega)) ?_
      refine J.slot 14 (.int .u32 (shrV (tpow i j) 1)) rfl rfl ?_
      refine J.p rfl (Q.asg rfl) <| J.nil <| J.then_n <| J.seq <| J.region <| J.m rfl <| J.p rfl (Q.eql rfl rfl) <| J.nil <| J.then_n ?_
      refine J.kases 16 rfl (fun hc16 => ?_) (fun hc16 => ?_)
      ·
       try (first | fail)
       all_goals
        refine J.cond_t rfl <| J.region <| J.m rfl <| J.p rfl (Q.xor rfl rfl) ?_
        refine J.slot 18 (.int .u32 (xorV (shrV (tpow i j) 1) 2197175160)) rfl rfl ?_
        refine J.p rfl (Q.asg rfl) <| J.nil <| J.blk_n <| J.then_n <| J.region <| J.p rfl (Q.add64 rfl rfl (by omega)) <| J.m rfl <| J.nil ?_
        have ht : tpow i (j + 1) = xorV (shrV (tpow i j) 1) 2197175160 := by rw [tpow, tstep, if_pos hc16]
        rw [← ht]
        refine J.againI (j + 1) (by omega) (by omega) ⟨rfl, rfl, rfl, rfl, rfl, trivial⟩
      try (first | fail)
      all_goals
       refine J.cond_f rfl <| J.cskip <| J.blk_n <| J.then_n <| J.region <| J.p rfl (Q.add64 rfl rfl (by omega)) <| J.m rfl <| J.nil ?_
       have ht : tpow i (j + 1) = shrV (tpow i j) 1 := by rw [tpow, tstep, if_neg hc16]
       rw [← ht]
       refine J.againI (j + 1) (by omega) (by omega) ⟨rfl, rfl, rfl, rfl, rfl, trivial⟩
    try (first | fail)
    all_goals
     refine J.cond_f rfl <| J.exit <| J.then_x <| J.lp_x <| J.blk_x <| J.then_n ?_
     obtain rfl : j = 4 := by omega
     refine J.region <| J.m rfl <| J.m rfl <| J.p rfl (Q.iaA runUnderlying141 sizeOf31 rfl rfl (by omega) (by omega)) ?_
     refine J.c0 rfl (C.st1O (b := b0) i sizeOf31 rfl rfl rfl (by omega) (by rw [List.length_append, List.length_map, List.length_range, List.length_replicate]; omega)) ?_
     rintro _ _ ⟨rfl, rfl⟩
     refine J.norm rfl ?_
     rw [show Value.int IntKind.u32 (tpow i 4) = (fun i => Value.int IntKind.u32 (tabV i)) i from rfl, range_fill (by omega)]
     refine J.nil <| J.blk_n <| J.then_n <| J.region <| J.p rfl (Q.add64 rfl rfl (by omega)) <| J.m rfl <| J.nil ?_
     refine J.againI (i + 1) (by omega) (by omega) ⟨rfl, rfl, trivial⟩
  try (first | fail)
  all_goals
   refine J.cond_f rfl <| J.exit <| J.then_x <| J.lp_x <| J.blk_x <| J.then_n <| J.seq <| J.region ?_
   obtain rfl : i = 16 := by omega
   rw [Nat.sub_self, List.replicate_zero, List.append_nil]
   have htl : tabL.length = 16 := by rw [tabL, List.length_map, List.length_range]
   refine J.p rfl (Q.ldN (vs := tabL) isAgg141 (by intro w; rw [htl]; exact sizeOf141 w) rfl (fun j v hj => rdO hj (by omega))) ?_
   refine J.c0 rfl (C.stNO (vs := tabL) (b := b0) 0 (by intro w; rw [htl]; exact sizeOf141 w) rfl rfl rfl (by rw [htl, List.length_map, List.length_range]; omega) (by rw [tabL, List.all_map]; simp [oneC])) ?_
   rintro _ _ ⟨rfl, rfl⟩
   refine J.norm rfl <| J.nil <| J.then_n <| J.cret ?_
   have e1 : splice tabL 0 tabL = tabL := by rw [splice_at _ _ _ (by omega), List.take_zero, Nat.zero_add, List.drop_length, List.nil_append, List.append_nil]
   rw [show splice ((List.range 16).map fun i => Value.int .u32 (tabV i)) 0 tabL = _ from e1]
   refine J.retCI (vs := tabL) [] rfl rfl isAgg141 (by intro w; rw [htl]; exact sizeOf141 w) (fun j v hj => rdO hj (by omega)) ⟨rfl, rfl⟩

section
variable (G : Assn) (q : Option Addr) (e : Nat) (bs : List UInt8) (hs : SlR [G] 1 (.slice q bs.length e) (bytesV bs)) (hn : bs.length ≤ 70368744100000) (b : Nat)
include hs hn
theorem sum_spec : FSpec Tryz.prog 23 [.slice (some ⟨b, 0, none⟩) 1 1] [pt b (.cells [.slice q bs.length e].toArray 22 (0, 0)), G] (fun v B => v = .int .u32 (crcL bs) ∧ B = [pt b (.cells [.slice q bs.length e].toArray 22 (0, 0)), G]) := by
  refine FSpec.of func23 rfl ntmps23 rfl fun W0 F => ?_
  refine J.seq <| J.region <| J.p rfl (Q.asg rfl) <| J.nil <| J.then_n <| J.seq <| J.region ?_
  refine J.callI call58 (table_spec) rfl rfl rfl ?_
  rintro _ _ ⟨rfl, rfl⟩
  refine J.norm rfl ?_
  have htl : tabL.length = 16 := by rw [tabL, List.length_map, List.length_range]
  refine J.c rfl rfl (C.alloc (l := List.replicate 16 (Value.int .u32 0)) zeroValue141 (by kernel_rfl)) ?_
  rintro _ _ ⟨b3, rfl, rfl⟩
  refine J.norm rfl ?_
  refine J.conv (Y := own 141 1 (.slice (some ⟨b3, 0, none⟩) 16 16) (List.replicate 16 (Value.int .u32 0))) 0 rfl (own_of_block (by rfl)) ?_
  refine J.c0 rfl (C.stNO (vs := tabL) (b := b3) 0 (by intro w; rw [htl]; exact sizeOf141 w) rfl rfl rfl (by rw [htl, List.length_replicate]; omega) (by rw [tabL, List.all_map]; simp [oneC])) ?_
  rintro _ _ ⟨rfl, rfl⟩
  refine J.norm rfl ?_
  have e1 : splice (List.replicate 16 (Value.int .u32 0)) 0 tabL = tabL := by rw [splice_at _ _ _ (by rw [htl, List.length_replicate]; omega), List.take_zero, Nat.zero_add, List.drop_of_length_le (by rw [htl, List.length_replicate]; omega), List.nil_append, List.append_nil]
  rw [e1]
  refine J.nil <| J.then_n <| J.seq <| J.region <| J.p rfl (Q.asg rfl) <| J.nil <| J.then_n <| J.seq <| J.seq <| J.region <| J.m rfl <| J.p rfl (Q.lenSl runUnderlying45 rfl) <| J.m rfl <| J.nil <| J.then_n <| J.block ?_
  refine J.loop2I (fun (i : Nat) (c : Int) => i ≤ 1 ∧ c = (if i = 0 then 4294967295 else bs.foldl crcStep 4294967295)) (fun i _ => 1 - i) (fun i c => [(3, .pointer (some ⟨b3, 0, none⟩)), (4, .int .u32 c), (10, .slice (some ⟨b, 0, none⟩) 1 1), (11, .int .i64 1), (12, .int .i64 i)]) (fun _ _ => [own 141 1 (.slice (some ⟨b3, 0, none⟩) 16 16) tabL, pt b (.cells [.slice q bs.length e].toArray 22 (0, 0)), G, F]) 0 4294967295 ⟨by omega, rfl⟩ ⟨rfl, rfl, rfl, rfl, rfl, trivial⟩ fun i c hz => ?_
  obtain ⟨hi, hc⟩ := hz
  refine J.seq <| J.region <| J.p rfl (Q.lss rfl rfl) <| J.nil <| J.then_n <| J.seq ?_
  refine J.kases 13 rfl (fun hc13 => ?_) (fun hc13 => ?_)
  ·
   try (first | fail)
   all_goals
    refine J.cond_t rfl <| J.cskip <| J.then_n <| J.seq <| J.block <| J.seq ?_
    obtain rfl : i = 0 := by omega
    rw [if_pos rfl] at hc
    subst hc
    refine J.region <| J.p rfl (Q.ia runUnderlying45 sizeOf22 rfl rfl (by omega) (by omega)) ?_
    refine J.p rfl (Q.ldI isAgg22 rfl) ?_
    refine J.p rfl (Q.asg rfl) <| J.nil <| J.then_n <| J.seq <| J.region <| J.m rfl <| J.p rfl (Q.lenSl runUnderlying22 rfl) <| J.m rfl <| J.nil <| J.then_n <| J.block ?_
    refine J.loopI (fun j : Nat => j ≤ bs.length) (fun j => bs.length - j) (fun j => [(3, .pointer (some ⟨b3, 0, none⟩)), (4, .int .u32 ((bs.take j).foldl crcStep 4294967295)), (10, .slice (some ⟨b, 0, none⟩) 1 1), (11, .int .i64 1), (12, .int .i64 (0 : Nat)), (16, .slice q bs.length e), (17, .int .i64 bs.length), (18, .int .i64 j)]) (fun _ => [own 141 1 (.slice (some ⟨b3, 0, none⟩) 16 16) tabL, pt b (.cells [.slice q bs.length e].toArray 22 (0, 0)), G, F]) 0 (by omega) ⟨rfl, rfl, rfl, rfl, rfl, rfl, rfl, rfl, trivial⟩ fun j hj => ?_
    refine J.seq <| J.region <| J.p rfl (Q.lss rfl rfl) <| J.nil <| J.then_n <| J.seq ?_
    refine J.kases 19 rfl (fun hc19 => ?_) (fun hc19 => ?_)
    ·
     try (first | fail)
     all_goals
      refine J.cond_t rfl <| J.cskip <| J.then_n <| J.seq <| J.block <| J.seq ?_
      obtain ⟨bq, oq, rfl, hrd⟩ := hs.some_ (by omega)
      obtain ⟨y, hy⟩ : ∃ y, bs[j]? = some y := ⟨_, List.getElem?_eq_getElem (by omega)⟩
      obtain ⟨c, hcc⟩ : ∃ c, c = (bs.take j).foldl crcStep 4294967295 := ⟨_, rfl⟩
      rw [← hcc]
      have hstep : (bs.take (j + 1)).foldl crcStep 4294967295 = crcStep c y := by
       obtain ⟨h1, h2⟩ := List.getElem?_eq_some_iff.1 hy
       rw [List.take_succ_eq_append_getElem h1, h2, List.foldl_append, ← hcc]; rfl
      refine J.region <| J.p rfl (Q.ia runUnderlying22 sizeOf5 rfl rfl (by omega) (by omega)) <| J.p rfl (Q.ld isAgg5 rfl (((hrd j _ (bytesV_at hy)).inI).cast (by simp))) <| J.p rfl (Q.asg rfl) <| J.nil <| J.then_n <| J.seq <| J.region <| J.m rfl <| J.m rfl <| J.p rfl (Q.conv runUnderlying5 runUnderlying31 rfl) <| J.p rfl (Q.xor rfl rfl) ?_
      refine J.slot 25 (.int .u32 (xorV c (IntKind.u32.wrap (y.toNat : Int)))) rfl rfl ?_
      obtain ⟨c1, hc1⟩ : ∃ c1, c1 = xorV c (IntKind.u32.wrap (y.toNat : Int)) := ⟨_, rfl⟩
      rw [← hc1]
      have h15 := and15 c1
      refine J.p rfl (Q.asg rfl) <| J.nil <| J.then_n <| J.seq <| J.region <| J.m rfl <| J.p rfl (Q.shr rfl rfl (by omega)) <| J.m rfl <| J.p rfl (Q.and rfl rfl) ?_
      refine J.slot 29 (.int .u32 (andV c1 15)) rfl rfl ?_
      refine J.p rfl (Q.iaA runUnderlying141 sizeOf31 rfl rfl (by omega) (by omega)) <| J.p rfl (Q.ld isAgg31 rfl (rdO (b := b3) (tabL_at c1) (by omega))) <| J.p rfl (Q.xor rfl rfl) ?_
      refine J.slot 32 (.int .u32 (nib c1)) rfl rfl ?_
      obtain ⟨c2, hc2⟩ : ∃ c2, c2 = nib c1 := ⟨_, rfl⟩
      rw [← hc2]
      have h15' := and15 c2
      refine J.p rfl (Q.asg rfl) <| J.nil <| J.then_n <| J.region <| J.m rfl <| J.p rfl (Q.shr rfl rfl (by omega)) <| J.m rfl <| J.p rfl (Q.and rfl rfl) ?_
      refine J.slot 36 (.int .u32 (andV c2 15)) rfl rfl ?_
      refine J.p rfl (Q.iaA runUnderlying141 sizeOf31 rfl rfl (by omega) (by omega)) <| J.p rfl (Q.ld isAgg31 rfl (rdO (b := b3) (tabL_at c2) (by omega))) <| J.p rfl (Q.xor rfl rfl) ?_
      refine J.slot 39 (.int .u32 (nib c2)) rfl rfl ?_
      refine J.p rfl (Q.asg rfl) <| J.nil <| J.blk_n <| J.then_n <| J.region <| J.p rfl (Q.add64 rfl rfl (by omega)) <| J.m rfl <| J.nil ?_
      have hfin : nib c2 = crcStep c y := by rw [hc2, hc1]; rfl
      rw [hfin, ← hstep]
      refine J.againI (j + 1) (by omega) (by omega) ⟨rfl, rfl, rfl, rfl, rfl, rfl, rfl, rfl, trivial⟩
    try (first | fail)
    all_goals
     refine J.cond_f rfl <| J.exit <| J.then_x <| J.lp_x <| J.blk_x <| J.blk_n <| J.then_n <| J.region <| J.p rfl (Q.add64 rfl rfl (by omega)) <| J.m rfl <| J.nil ?_
     have hjn : bs.take j = bs := List.take_of_length_le (by omega)
     rw [hjn]
     refine J.againI (1, bs.foldl crcStep 4294967295) ⟨Nat.le_refl _, rfl⟩ (by show 1 - 1 < 1 - 0; omega) ⟨rfl, rfl, rfl, rfl, rfl, trivial⟩
  try (first | fail)
  all_goals
   refine J.cond_f rfl <| J.exit <| J.then_x <| J.lp_x <| J.blk_x <| J.then_n <| J.seq <| J.region <| J.m rfl <| J.p rfl (Q.com rfl rfl) <| J.p rfl (Q.asg rfl) <| J.nil <| J.then_n <| J.cret ?_
   obtain rfl : i = 1 := by omega
   rw [if_neg (by omega)] at hc
   subst hc
   exact J.ret1I [pt b (.cells [.slice q bs.length e].toArray 22 (0, 0)), G] rfl rfl ⟨rfl, rfl⟩
end

def lowB (v : Nat) : Nat → List U
  | 0 => []
  | n + 1 => UInt8.ofNat v :: lowB (v / 256) n
theorem lowB_len : ∀ (n v : Nat), (lowB v n).length = n
  | 0, _ => rfl
  | n + 1, v => by rw [lowB, List.length_cons, lowB_len n]
theorem lowB_at : ∀ (n v i : Nat), i < n → lowB v (i + 1) = lowB v i ++ [UInt8.ofNat (v / 256 ^ i)]
  | 0, _, _, h => by omega
  | n + 1, v, 0, _ => by simp [lowB]
  | n + 1, v, i + 1, h => by
    rw [lowB, lowB_at n (v / 256) i (by omega), lowB, List.cons_append, Nat.div_div_eq_div_mul, Nat.pow_succ, Nat.mul_comm 256]

theorem low_spec (p : Option Addr) (c : Nat) (bs : List U) (v n : Nat) (hb : bs.length ≤ 70368744100000) (hn : n ≤ 8) (hv : v < 18446744073709551616) : FSpec Tryz.prog 185 [.slice p bs.length c, .int .u64 v, .int .i64 n] [own 5 1 (.slice p bs.length c) (bytesV bs)]
    (fun u B => ∃ p' c', u = .slice p' (bs ++ lowB v n).length c' ∧ B = [own 5 1 (.slice p' (bs ++ lowB v n).length c') (bytesV (bs ++ lowB v n))]) := by
  refine FSpec.of func185 rfl ntmps185 rfl fun W0 F => ?_
  refine J.seq <| J.region <| J.p rfl (Q.asg rfl) <| J.nil <| J.then_n <| J.seq <| J.seq <| J.region <| J.m rfl <| J.m rfl <| J.nil <| J.then_n <| J.block ?_
  refine J.convI (own 5 1 (.slice p bs.length c) (bytesV bs)) (own 5 1 (.slice p (bs ++ lowB v 0).length c) (bytesV (bs ++ lowB v 0))) (fun h s => by rw [show bs ++ lowB v 0 = bs from List.append_nil bs]; exact s) ?_
  refine J.loop3I (fun (i : Nat) (_ : Option Addr) (_ : Nat) => i ≤ n) (fun i _ _ => n - i) (fun i p c => [(0, .slice p (bs ++ lowB v i).length c), (1, .int .u64 (v / 256 ^ i : Nat)), (7, .int .i64 n), (8, .int .i64 i)]) (fun i p c => [own 5 1 (.slice p (bs ++ lowB v i).length c) (bytesV (bs ++ lowB v i)), F]) 0 p c (Nat.zero_le _) ⟨by show _ = some (Value.slice p (bs ++ []).length c); rw [List.append_nil]; rfl, by show _ = some (Value.int .u64 ((v / 1 : Nat) : Int)); rw [Nat.div_one]; rfl, rfl, rfl, trivial⟩ fun i p1 c1 hi => ?_
  refine J.seq <| J.region <| J.p rfl (Q.lss rfl rfl) <| J.nil <| J.then_n <| J.seq ?_
  refine J.kases 9 rfl (fun hc9 => ?_) (fun hc9 => ?_)
  ·
   try (first | (cases hc9; done) | (exfalso; simp at hc9; done))
   all_goals
    refine J.cond_t rfl <| J.cskip <| J.then_n <| J.seq <| J.block <| J.seq ?_
    have hst := lowB_at n v i (by omega)
    have hll := lowB_len i v
    refine J.region <| J.m rfl <| J.m rfl <| J.p rfl (Q.conv runUnderlying30 runUnderlying5 rfl) ?_
    refine J.slot 12 (byteV (UInt8.ofNat (v / 256 ^ i))) rfl (by
     show Value.int .u8 _ = Value.int .u8 _
     congr 1
     (try rw [wrap8]); (try simp)) ?_
    refine J.c rfl rfl (C.bslG (l := [_]) runUnderlying22 sizeOf5 zeroValue5 (by decide) rfl rfl rfl rfl rfl) ?_
    rintro _ _ ⟨b13, rfl, rfl⟩
    refine J.norm rfl ?_
    refine J.conv (Y := own 5 1 (.slice (some ⟨b13, 0, none⟩) 1 1) (bytesV [UInt8.ofNat (v / 256 ^ i)])) 0 rfl (own_of_block rfl) ?_
    refine J.slrI (E0 := 5) (sz := 1) (p := some ⟨b13, 0, none⟩) (n := 1) (c := 1) (xs := bytesV [UInt8.ofNat (v / 256 ^ i)]) fun hs13 => ?_
    refine J.c rfl rfl (C.appI runUnderlying22 runUnderlying22 typeInfo5 sizeOf5 zeroValue5 rfl rfl hs13.inI (bytesV_one _) (by rw [show Tryz.t5.bytes = 1 from rfl, List.length_append]; omega) (by decide)) ?_
    rintro _ _ ⟨p14, c14, rfl, rfl⟩
    refine J.norm rfl <| J.p rfl (Q.asg rfl) <| J.nil <| J.then_n <| J.region <| J.m rfl <| J.p rfl (Q.shr rfl rfl (by omega)) ?_
    refine J.slot 16 (.int .u64 ((v / 256 ^ (i + 1) : Nat) : Int)) rfl (by
     show Value.int .u64 _ = Value.int .u64 _
     congr 1
     show ((v / 256 ^ i : Nat) : Int).fdiv (2 ^ 8) = _
     rw [Int.fdiv_eq_ediv_of_nonneg _ (by decide), Nat.pow_succ, ← Nat.div_div_eq_div_mul, Int.natCast_ediv]; rfl) ?_
    refine J.p rfl (Q.asg rfl) <| J.nil <| J.blk_n <| J.then_n <| J.region <| J.p rfl (Q.add64 rfl rfl (by omega)) <| J.m rfl <| J.nil ?_
    rw [bytesV_append, List.append_assoc, ← hst]
    have hl1 : (bs ++ lowB v i).length + 1 = (bs ++ lowB v (i + 1)).length := by rw [hst, ← List.append_assoc, List.length_append (bs := [_])]; rfl
    rw [hl1]
    refine J.againI (i + 1, p14, c14) (by show i + 1 ≤ n; omega) (by show n - (i + 1) < n - i; omega) ⟨rfl, rfl, rfl, rfl, trivial⟩
  try (first | (cases hc9; done) | (exfalso; simp at hc9; done))
  all_goals
   refine J.cond_f rfl <| J.exit <| J.then_x <| J.lp_x <| J.blk_x <| J.then_n <| J.seq <| J.region <| J.m rfl <| J.p rfl (Q.asg rfl) <| J.nil <| J.then_n <| J.cret ?_
   obtain rfl : n = i := by omega
   exact J.ret1I [own 5 1 (.slice p1 (bs ++ lowB v n).length c1) (bytesV (bs ++ lowB v n))] rfl rfl ⟨p1, c1, rfl, rfl⟩

def frameB (x : List U) : List U := numB x.length ++ lowB (crcL x).toNat 4 ++ x
theorem frame_spec (G : Assn) (q : Option Addr) (e : Nat) (x : List U) (hs : SlR [G] 1 (.slice q x.length e) (bytesV x)) (hn : x.length ≤ 70368744000000) :
    FSpec Tryz.prog 116 [.slice q x.length e] [G] (fun u B => ∃ p c, u = .slice p (frameB x).length c ∧ B = [own 5 1 (.slice p (frameB x).length c) (bytesV (frameB x)), G]) := by
  refine FSpec.of func116 rfl ntmps116 rfl fun W0 F => ?_
  refine J.seq <| J.region <| J.p rfl (Q.asg rfl) <| J.nil <| J.then_n <| J.seq ?_
  obtain ⟨cr, hcr, hcr2⟩ := crcL_nat x
  have hnl := numB_len x.length (by omega)
  refine J.region <| J.m rfl <| J.p rfl (Q.lenSl runUnderlying22 rfl) <| J.p rfl (Q.conv runUnderlying3 runUnderlying30 rfl) ?_
  refine J.slot 6 (.int .u64 (x.length : Int)) rfl (by congr 1; exact wrap64 (by omega)) ?_
  refine J.give (X := own 5 1 (.slice none ([] : List U).length 0) (bytesV [])) (own.nil _ _ _) ?_
  refine J.callI call115 (number_spec none 0 [] x.length (by simp) (by omega)) rfl rfl rfl ?_
  rintro _ _ ⟨p7, c7, rfl, rfl⟩
  refine J.norm rfl <| J.m rfl ?_
  refine J.c rfl rfl (C.bslG (l := [_]) runUnderlying45 sizeOf22 zeroValue22 (by decide) rfl rfl rfl rfl rfl) ?_
  rintro _ _ ⟨b9, rfl, rfl⟩
  refine J.norm rfl ?_
  refine J.callI call23 (sum_spec G q e x hs (by omega) b9) rfl rfl rfl ?_
  rintro _ _ ⟨rfl, rfl⟩
  refine J.norm rfl <| J.p rfl (Q.conv runUnderlying31 runUnderlying30 rfl) ?_
  refine J.slot 11 (.int .u64 (cr : Int)) rfl (by rw [hcr, wrap64 (by omega)]) ?_
  refine J.callI call185 (low_spec p7 c7 ([] ++ numB x.length) cr 4 (by simp; omega) (by omega) (by omega)) rfl rfl rfl ?_
  rintro _ _ ⟨p12, c12, rfl, rfl⟩
  refine J.norm rfl <| J.p rfl (Q.asg rfl) <| J.nil <| J.then_n <| J.seq <| J.region <| J.m rfl <| J.m rfl ?_
  have hll := lowB_len 4 cr
  refine J.c rfl rfl (C.appI runUnderlying22 runUnderlying22 typeInfo5 sizeOf5 zeroValue5 rfl rfl hs.inI (bytesV_one _) (by rw [show Tryz.t5.bytes = 1 from rfl, List.length_append, List.length_append, hll]; simp only [List.length_nil]; omega) (by decide)) ?_
  rintro _ _ ⟨p15, c15, rfl, rfl⟩
  refine J.norm rfl <| J.p rfl (Q.asg rfl) <| J.nil <| J.then_n <| J.cret ?_
  have hfr : ([] ++ numB x.length) ++ lowB cr 4 ++ x = frameB x := by unfold frameB; rw [hcr, Int.toNat_natCast]; simp
  have hfl : (([] ++ numB x.length) ++ lowB cr 4).length + x.length = (frameB x).length := by rw [← hfr]; simp only [List.length_append]
  rw [hfl, bytesV_append, hfr]
  exact J.ret1I [own 5 1 (.slice p15 (frameB x).length c15) (bytesV (frameB x)), G] rfl rfl ⟨p15, c15, rfl, rfl⟩

theorem numB_first (w : Nat) : ∃ (c0 : Nat) (r : List UInt8), numB w = UInt8.ofNat c0 :: r ∧ c0 < 256 ∧ c0 % 128 = w % 128 ∧ (c0 < 128 ↔ w < 128) ∧ (w < 128 → r = [] ∧ c0 = w) ∧ (¬ w < 128 → r = numB (w / 128)) := by
  by_cases h : w < 128
  · rw [numB_small h]
    exact ⟨w, [], rfl, by omega, rfl, Iff.rfl, fun _ => ⟨rfl, rfl⟩, fun a => absurd h a⟩
  · rw [numB_step h]
    exact ⟨_, _, rfl, by omega, by omega, by omega, fun a => absurd a h, fun _ => rfl⟩
theorem numB_pos (w : Nat) : 0 < (numB w).length := by obtain ⟨c0, q, f1, _⟩ := numB_first w; rw [f1]; simp
def smallB (w : Nat) : Bool := decide (w < 128)

theorem readNumber_spec (G : Assn) (p : Option Addr) (n c : Nat) (bs rest : List UInt8) (v : Nat) (hr : SlR [G] 1 (.slice p n c) (bytesV bs)) (hbs : bs = numB v ++ rest) (hv : v ≤ 18446744073709551615) (hn : n ≤ 1099511627776) :
    FSpec Tryz.prog 175 [.slice p n c] [G] (fun u B => u = .tuple #[.int .u64 v, .int .i64 (numB v).length, .int .i64 0] ∧ B = [G]) := by
  have hlen : bs.length = n := by have := hr.len; simp [bytesV] at this; omega
  have hnv := numB_len v hv
  refine FSpec.of func175 rfl ntmps175 rfl fun W0 F => ?_
  refine J.seq <| J.region <| J.p rfl (Q.asg rfl) <| J.p rfl (Q.asg rfl) <| J.p rfl (Q.asg rfl) <| J.nil <| J.then_n <| J.seq <| J.region <| J.p rfl (Q.asg rfl) <| J.nil <| J.then_n <| J.seq <| J.seq <| J.region <| J.m rfl <| J.p rfl (Q.lenSl runUnderlying22 rfl) <| J.m rfl <| J.nil <| J.then_n <| J.block ?_
  refine J.loop (fun z : Nat × Nat × Nat => z.1 + (numB z.2.1).length = (numB v).length ∧ bs.drop z.1 = numB z.2.1 ++ rest ∧ z.2.2 + 2 ^ (7 * z.1) * z.2.1 = v ∧ z.2.2 < 2 ^ (7 * z.1) ∧ (0 < z.1 → 1 ≤ z.2.1)) (fun z => n - z.1) (fun z => [(0, .slice p n c), (5, .int .u64 z.2.2), (8, .slice p n c), (9, .int .i64 n), (10, .int .i64 z.1)]) (fun _ => [G, F]) (0, v, 0) ⟨Nat.zero_add _, hbs, by show 0 + 2 ^ 0 * v = v; omega, by show 0 < 2 ^ 0; decide, fun h => absurd h (Nat.lt_irrefl 0)⟩ ⟨rfl, rfl, rfl, rfl, rfl, trivial⟩ rfl fun z hz => ?_
  obtain ⟨i, w, acc⟩ := z
  obtain ⟨h1, h2, h3, h4, h5⟩ := hz
  dsimp only at h1 h2 h3 h4 h5
  obtain ⟨c0, r, f1, f2, f3, f4, f5, f6⟩ := numB_first w
  have hci : bs[i]? = some (UInt8.ofNat (c0)) := by
    have := congrArg (fun l : List UInt8 => l[0]?) h2
    simp only [List.getElem?_drop, f1] at this
    simpa using this
  have hil : i < n := by have := (List.getElem?_eq_some_iff.1 hci).1; omega
  have hi9 : i ≤ 9 := by rw [f1] at h1; simp at h1; omega
  have hct : (UInt8.ofNat (c0)).toNat = c0 := by simp; omega
  refine J.seq <| J.region <| J.p rfl (Q.lss rfl rfl) <| J.nil <| J.then_n <| J.seq ?_
  refine J.cases 11 rfl (fun hc11 => ?_) (fun hc11 => ?_)
  ·
   replace hc11 := X.nm hc11
   skip
   refine J.cond_t rfl <| J.cskip <| J.then_n <| J.seq <| J.block <| J.seq ?_
   obtain ⟨b, off, hp, hrd⟩ := hr.some_ (by omega)
   refine J.slot 8 (.slice (some ⟨b, off, none⟩) n c) rfl (by rw [hp]) ?_
   refine J.region <| J.m rfl <| J.p rfl (Q.ia runUnderlying22 sizeOf5 rfl rfl (by omega) (by omega)) ?_
   refine J.p rfl (Q.ld isAgg5 rfl (((hrd i (.int .u8 (c0)) (by simp [bytesV, byteV, hci, hct])).within (i := 0) rfl).cast (by simp))) ?_
   refine J.p rfl (Q.asg rfl) <| J.p rfl (Q.asg rfl) <| J.nil <| J.then_n <| J.seq <| J.seq ?_
   have c9 : i = 9 → 1 < c0 → False := fun e1 e2 => by
     subst e1
     have e3 : (2 : Nat) ^ (7 * 9) = 9223372036854775808 := by decide
     rw [e3] at h3
     have e4 : w ≤ 1 := by omega
     have := (f5 (by omega)).2
     omega
   have hle : 2 ^ (7 * i) * (w % 128) ≤ 2 ^ (7 * i) * w := Nat.mul_le_mul_left _ (Nat.mod_le _ _)
   have hb64 : acc + 2 ^ (7 * i) * (w % 128) < 18446744073709551616 := by omega
   refine J.region <| J.m rfl <| J.p rfl (Q.eql rfl rfl) <| J.m rfl ?_
   refine J.kases 17 rfl (fun hb17 => ?_) (fun hb17 => ?_)
   ·
    refine J.m rfl <| J.p rfl (Q.gtr rfl rfl) <| J.p rfl (Q.pick_t rfl rfl) <| J.nil <| J.then_n ?_
    refine J.cases 20 rfl (fun hc20 => ?_) (fun hc20 => ?_)
    ·
     first | (exfalso; have q1 := hb17; have q2 := of_decide_eq_true hc20; dsimp only at q1; exact c9 (by omega) (by omega)) | cases hc20
    replace hc20 := X.nm hc20
    refine J.cond_f rfl <| J.cskip <| J.then_n <| J.seq <| J.region <| J.m rfl <| J.m rfl <| J.p rfl (Q.and rfl rfl) ?_
    refine J.slot 23 (.int .u8 ((w % 128 : Nat) : Int)) rfl (by show Value.int .u8 _ = _; rw [and127 f2, f3]) ?_
    refine J.p rfl (Q.conv runUnderlying5 runUnderlying30 rfl) ?_
    refine J.slot 24 (.int .u64 ((w % 128 : Nat) : Int)) rfl (by rw [wrap64 (by omega)]) ?_
    refine J.m rfl <| J.p rfl (Q.mul64 rfl rfl (by omega)) ?_
    refine J.slot 26 (.int .i64 ((7 * i : Nat) : Int)) rfl (by rw [Int.natCast_mul]; rfl) ?_
    refine J.p rfl (Q.shl rfl rfl (by omega)) ?_
    refine J.slot 27 (.int .u64 ((2 ^ (7 * i) * (w % 128) : Nat) : Int)) rfl (by
      have hmin : min (((7 * i : Nat) : Int).toNat) IntKind.u64.bits = 7 * i := by show min _ 64 = _; omega
      have e : ((w % 128 : Nat) : Int) * 2 ^ (7 * i) = ((2 ^ (7 * i) * (w % 128) : Nat) : Int) := by rw [Int.natCast_mul, Int.mul_comm, Int.natCast_pow]; rfl
      rw [hmin, e, wrap64 (by omega)]) ?_
    refine J.p rfl (Q.or rfl rfl) ?_
    refine J.slot 28 (.int .u64 ((acc + 2 ^ (7 * i) * (w % 128) : Nat) : Int)) rfl (by show Value.int .u64 _ = _; rw [or64 h4 hb64]) ?_
    refine J.p rfl (Q.asg rfl) <| J.nil <| J.then_n <| J.seq <| J.region <| J.m rfl <| J.p rfl (Q.lss rfl rfl) ?_
    refine J.slot 30 (.bool (smallB w)) rfl (by show Value.bool (decide ((c0 : Int) < 128)) = _; unfold smallB; rw [decide_eq_decide.2 (show (c0 : Int) < 128 ↔ w < 128 by omega)]) ?_
    refine J.nil <| J.then_n ?_
    refine J.kases 30 rfl (fun hc30 => ?_) (fun hc30 => ?_)
    ·
     refine J.cond_t rfl <| J.seq <| J.seq ?_
     have hw : w < 128 := of_decide_eq_true hc30
     refine J.region <| J.m rfl <| J.p rfl (Q.eql rfl rfl) <| J.m rfl ?_
     refine J.kases 33 rfl (fun hb33 => ?_) (fun hb33 => ?_)
     ·
      refine J.m rfl <| J.p rfl (Q.gtr rfl rfl) <| J.p rfl (Q.pick_t rfl rfl) <| J.nil <| J.then_n ?_
      refine J.cases 36 rfl (fun hc36 => ?_) (fun hc36 => ?_)
      ·
       first | (exfalso; have q1 := hb33; have q2 := of_decide_eq_true hc36; dsimp only at q2; have q3 := h5 (by omega); have q4 := (f5 hw).2; omega) | cases hc36
      replace hc36 := X.nm hc36
      refine J.cond_f rfl <| J.cskip <| J.then_n <| J.seq <| J.region <| J.m rfl <| J.m rfl <| J.p rfl (Q.add64 rfl rfl (by omega)) <| J.p rfl (Q.asg rfl) <| J.p rfl (Q.asg rfl) <| J.p rfl (Q.asg rfl) <| J.nil <| J.then_n <| J.cret <| J.blk_r <| J.then_r <| J.lp_r <| J.blk_r <| J.then_r ?_
      refine J.ret3 (B := [G]) rfl rfl rfl rfl ⟨?_, rfl⟩ rfl
      have e1 : acc + 2 ^ (7 * i) * (w % 128) = v := by rw [Nat.mod_eq_of_lt hw]; exact h3
      have e2 : (numB v).length = i + 1 := by rw [f1, (f5 hw).1] at h1; simp at h1; omega
      rw [e1, e2]
      rfl
     refine J.k rfl <| J.k rfl <| J.p rfl (Q.pick_f rfl rfl) <| J.nil <| J.then_n <| J.cond_f rfl <| J.cskip <| J.then_n <| J.seq <| J.region <| J.m rfl <| J.m rfl <| J.p rfl (Q.add64 rfl rfl (by omega)) <| J.p rfl (Q.asg rfl) <| J.p rfl (Q.asg rfl) <| J.p rfl (Q.asg rfl) <| J.nil <| J.then_n <| J.cret <| J.blk_r <| J.then_r <| J.lp_r <| J.blk_r <| J.then_r ?_
     refine J.ret3 (B := [G]) rfl rfl rfl rfl ⟨?_, rfl⟩ rfl
     have e1 : acc + 2 ^ (7 * i) * (w % 128) = v := by rw [Nat.mod_eq_of_lt hw]; exact h3
     have e2 : (numB v).length = i + 1 := by rw [f1, (f5 hw).1] at h1; simp at h1; omega
     rw [e1, e2]
     rfl
    refine J.cond_f rfl <| J.cskip <| J.blk_n <| J.then_n <| J.region <| J.p rfl (Q.add64 rfl rfl (by omega)) <| J.m rfl <| J.nil ?_
    have hw : ¬ w < 128 := of_decide_eq_false hc30
    have hp7 : (2 : Nat) ^ (7 * (i + 1)) = 2 ^ (7 * i) * 128 := by rw [show 7 * (i + 1) = 7 * i + 7 by omega, Nat.pow_add]
    have hmd : 2 ^ (7 * i) * w = 2 ^ (7 * i) * (w % 128) + 2 ^ (7 * i) * 128 * (w / 128) := by rw [Nat.mul_assoc, ← Nat.mul_add]; congr 1; omega
    have hlt : 2 ^ (7 * i) * (w % 128) + 2 ^ (7 * i) ≤ 2 ^ (7 * i) * 128 := by rw [← Nat.mul_succ]; exact Nat.mul_le_mul_left _ (by omega)
    refine J.again (i + 1, w / 128, acc + 2 ^ (7 * i) * (w % 128)) ⟨?_, ?_, ?_, ?_, fun _ => by show 1 ≤ w / 128; omega⟩ (by show n - (i + 1) < n - i; omega) ⟨rfl, rfl, (by show _ = some (Value.slice p n c); rw [hp]; rfl), rfl, rfl, trivial⟩ rfl
    · show i + 1 + (numB (w / 128)).length = _
      rw [f1, f6 hw, List.length_cons] at h1; omega
    · show bs.drop (i + 1) = numB (w / 128) ++ rest
      rw [← List.drop_drop (i := 1) (j := i), h2, f1, f6 hw]; rfl
    · show acc + 2 ^ (7 * i) * (w % 128) + 2 ^ (7 * (i + 1)) * (w / 128) = v
      rw [hp7]; omega
    · show acc + 2 ^ (7 * i) * (w % 128) < 2 ^ (7 * (i + 1))
      rw [hp7]; omega
   refine J.k rfl <| J.k rfl <| J.p rfl (Q.pick_f rfl rfl) <| J.nil <| J.then_n <| J.cond_f rfl <| J.cskip <| J.then_n <| J.seq <| J.region <| J.m rfl <| J.m rfl <| J.p rfl (Q.and rfl rfl) ?_
   refine J.slot 23 (.int .u8 ((w % 128 : Nat) : Int)) rfl (by show Value.int .u8 _ = _; rw [and127 f2, f3]) ?_
   refine J.p rfl (Q.conv runUnderlying5 runUnderlying30 rfl) ?_
   refine J.slot 24 (.int .u64 ((w % 128 : Nat) : Int)) rfl (by rw [wrap64 (by omega)]) ?_
   refine J.m rfl <| J.p rfl (Q.mul64 rfl rfl (by omega)) ?_
   refine J.slot 26 (.int .i64 ((7 * i : Nat) : Int)) rfl (by rw [Int.natCast_mul]; rfl) ?_
   refine J.p rfl (Q.shl rfl rfl (by omega)) ?_
   refine J.slot 27 (.int .u64 ((2 ^ (7 * i) * (w % 128) : Nat) : Int)) rfl (by
     have hmin : min (((7 * i : Nat) : Int).toNat) IntKind.u64.bits = 7 * i := by show min _ 64 = _; omega
     have e : ((w % 128 : Nat) : Int) * 2 ^ (7 * i) = ((2 ^ (7 * i) * (w % 128) : Nat) : Int) := by rw [Int.natCast_mul, Int.mul_comm, Int.natCast_pow]; rfl
     rw [hmin, e, wrap64 (by omega)]) ?_
   refine J.p rfl (Q.or rfl rfl) ?_
   refine J.slot 28 (.int .u64 ((acc + 2 ^ (7 * i) * (w % 128) : Nat) : Int)) rfl (by show Value.int .u64 _ = _; rw [or64 h4 hb64]) ?_
   refine J.p rfl (Q.asg rfl) <| J.nil <| J.then_n <| J.seq <| J.region <| J.m rfl <| J.p rfl (Q.lss rfl rfl) ?_
   refine J.slot 30 (.bool (smallB w)) rfl (by show Value.bool (decide ((c0 : Int) < 128)) = _; unfold smallB; rw [decide_eq_decide.2 (show (c0 : Int) < 128 ↔ w < 128 by omega)]) ?_
   refine J.nil <| J.then_n ?_
   refine J.kases 30 rfl (fun hc30 => ?_) (fun hc30 => ?_)
   ·
    refine J.cond_t rfl <| J.seq <| J.seq ?_
    have hw : w < 128 := of_decide_eq_true hc30
    refine J.region <| J.m rfl <| J.p rfl (Q.eql rfl rfl) <| J.m rfl ?_
    refine J.kases 33 rfl (fun hb33 => ?_) (fun hb33 => ?_)
    ·
     refine J.m rfl <| J.p rfl (Q.gtr rfl rfl) <| J.p rfl (Q.pick_t rfl rfl) <| J.nil <| J.then_n ?_
     refine J.cases 36 rfl (fun hc36 => ?_) (fun hc36 => ?_)
     ·
      first | (exfalso; have q1 := hb33; have q2 := of_decide_eq_true hc36; dsimp only at q2; have q3 := h5 (by omega); have q4 := (f5 hw).2; omega) | cases hc36
     replace hc36 := X.nm hc36
     refine J.cond_f rfl <| J.cskip <| J.then_n <| J.seq <| J.region <| J.m rfl <| J.m rfl <| J.p rfl (Q.add64 rfl rfl (by omega)) <| J.p rfl (Q.asg rfl) <| J.p rfl (Q.asg rfl) <| J.p rfl (Q.asg rfl) <| J.nil <| J.then_n <| J.cret <| J.blk_r <| J.then_r <| J.lp_r <| J.blk_r <| J.then_r ?_
     refine J.ret3 (B := [G]) rfl rfl rfl rfl ⟨?_, rfl⟩ rfl
     have e1 : acc + 2 ^ (7 * i) * (w % 128) = v := by rw [Nat.mod_eq_of_lt hw]; exact h3
     have e2 : (numB v).length = i + 1 := by rw [f1, (f5 hw).1] at h1; simp at h1; omega
     rw [e1, e2]
     rfl
    refine J.k rfl <| J.k rfl <| J.p rfl (Q.pick_f rfl rfl) <| J.nil <| J.then_n <| J.cond_f rfl <| J.cskip <| J.then_n <| J.seq <| J.region <| J.m rfl <| J.m rfl <| J.p rfl (Q.add64 rfl rfl (by omega)) <| J.p rfl (Q.asg rfl) <| J.p rfl (Q.asg rfl) <| J.p rfl (Q.asg rfl) <| J.nil <| J.then_n <| J.cret <| J.blk_r <| J.then_r <| J.lp_r <| J.blk_r <| J.then_r ?_
    refine J.ret3 (B := [G]) rfl rfl rfl rfl ⟨?_, rfl⟩ rfl
    have e1 : acc + 2 ^ (7 * i) * (w % 128) = v := by rw [Nat.mod_eq_of_lt hw]; exact h3
    have e2 : (numB v).length = i + 1 := by rw [f1, (f5 hw).1] at h1; simp at h1; omega
    rw [e1, e2]
    rfl
   refine J.cond_f rfl <| J.cskip <| J.blk_n <| J.then_n <| J.region <| J.p rfl (Q.add64 rfl rfl (by omega)) <| J.m rfl <| J.nil ?_
   have hw : ¬ w < 128 := of_decide_eq_false hc30
   have hp7 : (2 : Nat) ^ (7 * (i + 1)) = 2 ^ (7 * i) * 128 := by rw [show 7 * (i + 1) = 7 * i + 7 by omega, Nat.pow_add]
   have hmd : 2 ^ (7 * i) * w = 2 ^ (7 * i) * (w % 128) + 2 ^ (7 * i) * 128 * (w / 128) := by rw [Nat.mul_assoc, ← Nat.mul_add]; congr 1; omega
   have hlt : 2 ^ (7 * i) * (w % 128) + 2 ^ (7 * i) ≤ 2 ^ (7 * i) * 128 := by rw [← Nat.mul_succ]; exact Nat.mul_le_mul_left _ (by omega)
   refine J.again (i + 1, w / 128, acc + 2 ^ (7 * i) * (w % 128)) ⟨?_, ?_, ?_, ?_, fun _ => by show 1 ≤ w / 128; omega⟩ (by show n - (i + 1) < n - i; omega) ⟨rfl, rfl, (by show _ = some (Value.slice p n c); rw [hp]; rfl), rfl, rfl, trivial⟩ rfl
   · show i + 1 + (numB (w / 128)).length = _
     rw [f1, f6 hw, List.length_cons] at h1; omega
   · show bs.drop (i + 1) = numB (w / 128) ++ rest
     rw [← List.drop_drop (i := 1) (j := i), h2, f1, f6 hw]; rfl
   · show acc + 2 ^ (7 * i) * (w % 128) + 2 ^ (7 * (i + 1)) * (w / 128) = v
     rw [hp7]; omega
   · show acc + 2 ^ (7 * i) * (w % 128) < 2 ^ (7 * (i + 1))
     rw [hp7]; omega
  exact absurd hil (by have h := of_decide_eq_false hc11; dsimp only at h; omega)

theorem readNumber_nil (G : Assn) (p : Option Addr) (c : Nat) : FSpec Tryz.prog 175 [.slice p 0 c] [G] (fun u B => u = .tuple #[.int .u64 0, .int .i64 0, .int .i64 11] ∧ B = [G]) := by
  refine FSpec.of func175 rfl ntmps175 rfl fun W0 F => ?_
  refine J.seq <| J.region <| J.p rfl (Q.asg rfl) <| J.p rfl (Q.asg rfl) <| J.p rfl (Q.asg rfl) <| J.nil <| J.then_n <| J.seq <| J.region <| J.p rfl (Q.asg rfl) <| J.nil <| J.then_n <| J.seq <| J.seq <| J.region <| J.m rfl <| J.p rfl (Q.lenSl runUnderlying22 rfl) <| J.m rfl <| J.nil <| J.then_n <| J.block ?_
  refine J.loopI (fun _ : Nat => True) (fun _ => 0) (fun _ => [(8, .slice p 0 c), (9, .int .i64 0), (10, .int .i64 0)]) (fun _ => [G, F]) 0 trivial ⟨rfl, rfl, rfl, trivial⟩ fun i _ => ?_
  refine J.seq <| J.region <| J.p rfl (Q.lss rfl rfl) <| J.nil <| J.then_n <| J.seq ?_
  refine J.cases 11 rfl (fun hc11 => ?_) (fun hc11 => ?_)
  ·
   have h := X.nm hc11; exfalso; omega
  replace hc11 := X.nm hc11
  try (first | (cases hc11; done) | (exfalso; simp at hc11; done))
  all_goals
   refine J.cond_f rfl <| J.exit <| J.then_x <| J.lp_x <| J.blk_x <| J.then_n <| J.seq <| J.region <| J.p rfl (Q.asg rfl) <| J.p rfl (Q.asg rfl) <| J.p rfl (Q.asg rfl) <| J.nil <| J.then_n <| J.cret ?_
   exact J.ret3 (B := [G]) rfl rfl rfl rfl ⟨rfl, rfl⟩ rfl

theorem readBytes_spec (G : Assn) (p : Option Addr) (n c : Nat) (bs rest v : List UInt8) (hr : SlR [G] 1 (.slice p n c) (bytesV bs)) (hbs : bs = encB v ++ rest) (hv : v.length ≤ 67108864) (hn : n ≤ 1099511627776) (hc : n ≤ c) :
    FSpec Tryz.prog 125 [.slice p n c, .int .i64 67108864] [G] (fun u B => ∃ q d, u = .tuple #[.slice q v.length d, .int .i64 ((encB v).length : Nat), .int .i64 0] ∧ B = [own 5 1 (.slice q v.length d) (bytesV v), G]) := by
  have hlen : bs.length = n := by have := hr.len; simp [bytesV] at this; omega
  have hl2 : (numB v.length).length + v.length + rest.length = n := by rw [← hlen, hbs]; simp only [encB, List.length_append]
  have hn0 : 0 < (numB v.length).length := by obtain ⟨c0, q, f1, _⟩ := numB_first v.length; rw [f1]; simp
  obtain ⟨b, off, rfl, hrd⟩ := hr.some_ (by omega)
  refine FSpec.of func125 rfl ntmps125 rfl fun W0 F => ?_
  refine J.seq <| J.region <| J.p rfl (Q.asg rfl) <| J.p rfl (Q.asg rfl) <| J.p rfl (Q.asg rfl) <| J.nil <| J.then_n <| J.seq <| J.region <| J.m rfl ?_
  refine J.callI call175 (readNumber_spec G (some ⟨b, off, none⟩) n c bs (v ++ rest) v.length hr (by rw [hbs, encB, List.append_assoc]) (by omega) hn) rfl rfl rfl ?_
  rintro _ _ ⟨rfl, rfl⟩
  refine J.norm rfl <| J.m rfl <| J.p rfl (Q.ext rfl rfl) <| J.p rfl (Q.ext rfl rfl) <| J.p rfl (Q.ext rfl rfl) <| J.p rfl (Q.asg rfl) <| J.p rfl (Q.asg rfl) <| J.p rfl (Q.asg rfl) <| J.nil <| J.then_n <| J.seq <| J.block <| J.seq <| J.region <| J.m rfl <| J.p rfl (Q.neq rfl rfl) <| J.p rfl (Q.asg rfl) <| J.nil <| J.then_n ?_
  refine J.kases 17 rfl (fun hc17 => ?_) (fun hc17 => ?_)
  ·
   try (first | (cases hc17; done) | (exfalso; simp at hc17; done))
   all_goals
    refine J.cond_t rfl <| J.seq <| J.region <| J.m rfl <| J.p rfl (Q.asg rfl) <| J.p rfl (Q.asg rfl) <| J.p rfl (Q.asg rfl) <| J.nil <| J.then_n <| J.cret <| J.blk_r <| J.then_r ?_
    refine J.keepI ([own 5 1 (.slice q v.length d) (bytesV v), G] ++ [F]) ?_
    refine J.ret3 (B := [own 5 1 (.slice q v.length d) (bytesV v), G]) rfl rfl rfl rfl ⟨q, d, by simp [encB], rfl⟩ rfl
  try (first | (cases hc17; done) | (exfalso; simp at hc17; done))
  all_goals
   refine J.cond_f rfl <| J.seq <| J.region <| J.m rfl <| J.m rfl <| J.p rfl (Q.maxI rfl) ?_
   refine J.slot 24 (.int .i64 67108864) rfl rfl ?_
   refine J.p rfl (Q.conv runUnderlying3 runUnderlying30 rfl) ?_
   refine J.slot 25 (.int .u64 67108864) rfl rfl ?_
   refine J.p rfl (Q.gtr rfl rfl) <| J.p rfl (Q.asg rfl) <| J.nil <| J.then_n ?_
   refine J.cases 21 rfl (fun hc21 => ?_) (fun hc21 => ?_)
   ·
    exact absurd (of_decide_eq_true hc21) (by omega)
   replace hc21 := X.nm hc21
   try (first | (cases hc21; done) | (exfalso; simp at hc21; done))
   all_goals
    refine J.cond_f rfl <| J.seq <| J.region <| J.m rfl <| J.m rfl <| J.p rfl (Q.lenSl runUnderlying22 rfl) <| J.m rfl <| J.p rfl (Q.sub64 rfl rfl (by omega)) <| J.p rfl (Q.conv runUnderlying3 runUnderlying30 rfl) ?_
    refine J.slot 33 (.int .u64 ((n - (numB v.length).length : Nat) : Int)) rfl (by
      rw [show (n : Int) - ((numB v.length).length : Int) = ((n - (numB v.length).length : Nat) : Int) by omega, wrap64 (by omega)]) ?_
    refine J.p rfl (Q.gtr rfl rfl) <| J.p rfl (Q.asg rfl) <| J.nil <| J.then_n ?_
    refine J.cases 27 rfl (fun hc27 => ?_) (fun hc27 => ?_)
    ·
     exact absurd (of_decide_eq_true hc27) (by omega)
    replace hc27 := X.nm hc27
    try (first | (cases hc27; done) | (exfalso; simp at hc27; done))
    all_goals
     refine J.cond_f rfl <| J.cskip <| J.blk_n <| J.then_n <| J.seq <| J.region <| J.m rfl <| J.m rfl <| J.p rfl (Q.conv64 runUnderlying30 runUnderlying3 rfl (by omega)) ?_
     refine J.slot 37 (.int .i64 (v.length : Int)) rfl (by congr 1) ?_
     refine J.p rfl (Q.add64 rfl rfl (by omega)) ?_
     refine J.slot 38 (.int .i64 (((numB v.length).length + v.length : Nat) : Int)) rfl (by rw [Int.natCast_add]) ?_
     refine J.p rfl (Q.asg rfl) <| J.nil <| J.then_n <| J.seq <| J.region <| J.m rfl <| J.m rfl <| J.m rfl <| J.p rfl (Q.slLH runUnderlying22 sizeOf5 rfl rfl rfl (by omega) (by omega) (by omega)) ?_
     obtain ⟨o2, d2, hsl, hval⟩ := slr_part hrd (show (bytesV bs).length = n by simp [bytesV, hlen]) (show (numB v.length).length + v.length ≤ n by omega) hc
     have hdr : ((bytesV bs).drop (numB v.length).length).take v.length = bytesV v := by
      rw [hbs]; simp [bytesV, encB]
     rw [hdr] at hsl
     refine J.slot 42 (.slice o2 v.length d2) rfl (by rw [← hval]; simp; omega) ?_
     refine J.callI call70 (clone_spec G o2 d2 v hsl (by omega)) rfl rfl rfl ?_
     rintro _ _ ⟨q, d, rfl, rfl⟩
     refine J.norm rfl <| J.m rfl <| J.p rfl (Q.asg rfl) <| J.p rfl (Q.asg rfl) <| J.p rfl (Q.asg rfl) <| J.nil <| J.then_n <| J.cret ?_
     refine J.keepI ([own 5 1 (.slice q v.length d) (bytesV v), G] ++ [F]) ?_
     refine J.ret3 (B := [own 5 1 (.slice q v.length d) (bytesV v), G]) rfl rfl rfl rfl ⟨q, d, by simp [encB], rfl⟩ rfl

theorem bequal_spec (G H : Assn) (p q : Option Addr) (c d : Nat) (bs cs : List UInt8) (hb : SlR [G] 1 (.slice p bs.length c) (bytesV bs)) (hc : SlR [H] 1 (.slice q cs.length d) (bytesV cs)) :
    FSpec Tryz.prog 192 [.slice p bs.length c, .slice q cs.length d] [G, H] (fun v B => v = .bool (decide (bs = cs)) ∧ B = [G, H]) := by
  refine FSpec.of func192 rfl ntmps192 rfl fun W0 F => ?_
  refine J.seq <| J.region <| J.p rfl (Q.asg rfl) <| J.nil <| J.then_n <| J.seq <| J.region <| J.m rfl <| J.p rfl (Q.b2s runUnderlying22 runUnderlying9 runUnderlying5 rfl hb.inI) <| J.m rfl <| J.p rfl (Q.b2s runUnderlying22 runUnderlying9 runUnderlying5 rfl hc.inI) <| J.p rfl (Q.eqls rfl rfl) <| J.p rfl (Q.asg rfl) <| J.nil <| J.then_n ?_
  refine J.cret ?_
  refine J.ret1I [G, H] rfl rfl ⟨by simp, rfl⟩

theorem hasPrefix_spec (G H : Assn) (p q : Option Addr) (c d : Nat) (bs rest cs : List UInt8) (hbs : bs = cs ++ rest) (hcap : bs.length ≤ c) (hn : bs.length ≤ 1099511627776) (hb : SlR [G] 1 (.slice p bs.length c) (bytesV bs)) (hc : SlR [H] 1 (.slice q cs.length d) (bytesV cs)) :
    FSpec Tryz.prog 124 [.slice p bs.length c, .slice q cs.length d] [G, H] (fun v B => v = .bool true ∧ B = [G, H]) := by
  refine FSpec.of func124 rfl ntmps124 rfl fun W0 F => ?_
  refine J.seq <| J.region <| J.p rfl (Q.asg rfl) <| J.nil <| J.then_n <| J.seq ?_
  have hle : cs.length ≤ bs.length := by rw [hbs, List.length_append]; omega
  refine J.region <| J.m rfl <| J.p rfl (Q.lenSl runUnderlying22 rfl) <| J.m rfl <| J.p rfl (Q.lenSl runUnderlying22 rfl) <| J.p rfl (Q.geq rfl rfl) <| J.m rfl ?_
  refine J.cases 10 rfl (fun hb10 => ?_) (fun hb10 => ?_)
  ·
   replace hb10 := X.nm hb10
   refine J.m rfl <| J.m rfl <| J.p rfl (Q.lenSl runUnderlying22 rfl) <| J.p rfl (Q.slH runUnderlying22 sizeOf5 rfl rfl (by omega) (by omega)) <| J.m rfl ?_
   refine J.callI call192 (bequal_spec G H p q c d cs cs (by have := slr_take (c' := c) hb hle; rwa [show (bytesV bs).take cs.length = bytesV cs by rw [hbs]; simp [bytesV]] at this) hc) rfl rfl rfl ?_
   rintro _ _ ⟨rfl, rfl⟩
   refine J.norm rfl <| J.p rfl (Q.pick_t rfl rfl) <| J.p rfl (Q.asg rfl) <| J.nil <| J.then_n <| J.cret ?_
   exact J.ret1I [G, H] rfl rfl ⟨by simp, rfl⟩
  have h := X.nm hb10; exfalso; omega

theorem sameB_spec (G H : Assn) (p q : Option Addr) (c d n : Nat) (bs : List UInt8) (hl : bs.length = n) (hn : n ≤ 1099511627776) (hb : SlR [G] 1 (.slice p n c) (bytesV bs)) (hc : SlR [H] 1 (.slice q n d) (bytesV bs)) :
    FSpec Tryz.prog 261 [.slice p n c, .slice q n d] [G, H] (fun v B => v = .bool true ∧ B = [G, H]) := by
  refine FSpec.of func261 rfl ntmps261 rfl fun W0 F => ?_
  refine J.seq <| J.region <| J.p rfl (Q.asg rfl) <| J.nil <| J.then_n <| J.seq <| J.seq <| J.region <| J.m rfl <| J.p rfl (Q.lenSl runUnderlying22 rfl) <| J.m rfl <| J.p rfl (Q.lenSl runUnderlying22 rfl) <| J.p rfl (Q.neq rfl rfl) <| J.nil <| J.then_n ?_
  refine J.cases 10 rfl (fun hc10 => ?_) (fun hc10 => ?_)
  ·
   have h := X.nm hc10; exfalso; exact h rfl
  replace hc10 := X.nm hc10
  try (first | (cases hc10; done) | (exfalso; simp at hc10; done))
  all_goals
   refine J.cond_f rfl <| J.cskip <| J.then_n <| J.seq <| J.seq <| J.region <| J.m rfl <| J.p rfl (Q.lenSl runUnderlying22 rfl) <| J.m rfl <| J.nil <| J.then_n <| J.block ?_
   refine J.loopI (fun i : Nat => i ≤ n) (fun i => n - i) (fun i => [(0, .slice p n c), (1, .slice q n d), (12, .int .i64 n), (13, .int .i64 i)]) (fun _ => [G, H, F]) 0 (Nat.zero_le _) ⟨rfl, rfl, rfl, rfl, trivial⟩ fun i hi => ?_
   refine J.seq <| J.region <| J.p rfl (Q.lss rfl rfl) <| J.nil <| J.then_n <| J.seq ?_
   refine J.kases 14 rfl (fun hc14 => ?_) (fun hc14 => ?_)
   ·
    try (first | (cases hc14; done) | (exfalso; simp at hc14; done))
    all_goals
     refine J.cond_t rfl <| J.cskip <| J.then_n <| J.seq <| J.block <| J.seq ?_
     obtain ⟨b1, o1, rfl, h1⟩ := hb.some_ (by omega)
     obtain ⟨b2, o2, rfl, h2⟩ := hc.some_ (by omega)
     obtain ⟨u, hu⟩ : ∃ u, bs[i]? = some u := ⟨_, List.getElem?_eq_getElem (by omega)⟩
     refine J.region <| J.m rfl <| J.p rfl (Q.asg rfl) <| J.nil <| J.then_n <| J.seq ?_
     refine J.draw [] Tryz.mixed (by kernel_rfl) fun hR => ?_
     refine RG.p 0 hR rfl (Q.mv rfl) <| RG.p 1 hR rfl (Q.mv rfl) <| RG.p 2 hR rfl (Q.ia runUnderlying22 sizeOf5 rfl rfl (by omega) (by omega)) <| RG.p 3 hR rfl (Q.ld isAgg5 rfl (((h1 i _ (bytesV_at hu)).inI).cast (by simp))) <| RG.p 4 hR rfl (Q.mv rfl) <| RG.p 5 hR rfl (Q.mv rfl) ?_
     refine RG.p 6 hR rfl (Q.ia runUnderlying22 sizeOf5 rfl rfl (by omega) (by omega)) <| RG.p 7 hR rfl (Q.ld isAgg5 rfl (((h2 i _ (bytesV_at hu)).inI).cast (by simp))) <| RG.p 8 hR rfl (Q.neq rfl rfl) ?_
     refine RG.fin hR rfl ?_
     refine J.norm rfl <| J.then_n ?_
     refine J.cases 24 rfl (fun hc24 => ?_) (fun hc24 => ?_)
     ·
      have h := X.nm hc24; exact absurd rfl h
     replace hc24 := X.nm hc24
     try (first | (cases hc24; done) | (exfalso; simp at hc24; done))
     all_goals
      refine J.cond_f rfl <| J.cskip <| J.blk_n <| J.then_n <| J.region <| J.p rfl (Q.add64 rfl rfl (by omega)) <| J.m rfl <| J.nil ?_
      refine J.againI (i + 1) (by omega) (by omega) ⟨rfl, rfl, rfl, rfl, trivial⟩
   try (first | (cases hc14; done) | (exfalso; simp at hc14; done))
   all_goals
    refine J.cond_f rfl <| J.exit <| J.then_x <| J.lp_x <| J.blk_x <| J.then_n <| J.seq <| J.region <| J.p rfl (Q.asg rfl) <| J.nil <| J.then_n <| J.cret ?_
    exact J.ret1I [G, H] rfl rfl ⟨rfl, rfl⟩

theorem frameB_len (x : List U) : (frameB x).length = (numB x.length).length + 4 + x.length := by
  unfold frameB
  rw [List.length_append, List.length_append, lowB_len]
section
variable (G : Assn) (p : Option Addr) (n c : Nat) (x : List U) (hr : SlR [G] 1 (.slice p n c) (bytesV (frameB x))) (hx : x.length ≤ 67108864) (hnn : (frameB x).length = n) (hc : n ≤ c)
include hr hx hnn hc
theorem unframe_spec : FSpec Tryz.prog 191 [.slice p n c] [G] (fun u B => u = .tuple #[.int .i64 ((numB x.length).length + 4 : Nat), .int .i64 n, .int .i64 0] ∧ B = [G]) := by
  have hfl := frameB_len x
  have hnp := numB_pos x.length
  have hnl := numB_len x.length (by omega)
  obtain ⟨a, ha⟩ : ∃ a, a = (numB x.length).length := ⟨_, rfl⟩
  rw [← ha] at hfl hnp hnl ⊢
  obtain ⟨b, off, rfl, hrd⟩ := hr.some_ (by omega)
  obtain ⟨cr, hcr, hcr2⟩ := crcL_nat x
  refine FSpec.of func191 rfl ntmps191 rfl fun W0 F => ?_
  refine J.seq <| J.region <| J.p rfl (Q.asg rfl) <| J.p rfl (Q.asg rfl) <| J.p rfl (Q.asg rfl) <| J.nil <| J.then_n <| J.seq <| J.region <| J.m rfl ?_
  refine J.callI call175 (readNumber_spec G (some ⟨b, off, none⟩) n c (frameB x) (lowB (crcL x).toNat 4 ++ x) x.length hr (by rw [frameB, List.append_assoc]) (by omega) (by omega)) rfl rfl rfl ?_
  rintro _ _ ⟨rfl, rfl⟩
  refine J.norm rfl ?_
  rw [← ha]
  refine J.m rfl <| J.p rfl (Q.ext rfl rfl) <| J.p rfl (Q.ext rfl rfl) <| J.p rfl (Q.ext rfl rfl) <| J.p rfl (Q.asg rfl) <| J.p rfl (Q.asg rfl) <| J.p rfl (Q.asg rfl) <| J.nil <| J.then_n <| J.seq <| J.block <| J.seq <| J.region <| J.m rfl <| J.p rfl (Q.neq rfl rfl) <| J.p rfl (Q.asg rfl) <| J.nil <| J.then_n ?_
  refine J.cases 13 rfl (fun hc13 => ?_) (fun hc13 => ?_)
  ·
   have h := X.nm hc13; exact absurd rfl h
  replace hc13 := X.nm hc13
  try (first | (cases hc13; done) | (exfalso; simp at hc13; done))
  all_goals
   refine J.cond_f rfl <| J.seq <| J.region <| J.m rfl <| J.p rfl (Q.gtr rfl rfl) <| J.p rfl (Q.asg rfl) <| J.nil <| J.then_n ?_
   refine J.cases 17 rfl (fun hc17 => ?_) (fun hc17 => ?_)
   ·
    have h := X.nm hc17; exfalso; omega
   replace hc17 := X.nm hc17
   try (first | (cases hc17; done) | (exfalso; simp at hc17; done))
   all_goals
    refine J.cond_f rfl <| J.seq <| J.region <| J.m rfl <| J.p rfl (Q.conv64 runUnderlying30 runUnderlying3 rfl (by omega)) ?_
    refine J.slot 22 (.int .i64 (x.length : Int)) rfl (by congr 1) ?_
    refine J.p rfl (Q.add64 rfl rfl (by omega)) <| J.m rfl <| J.p rfl (Q.lenSl runUnderlying22 rfl) <| J.m rfl <| J.p rfl (Q.sub64 rfl rfl (by omega)) <| J.p rfl (Q.gtr rfl rfl) <| J.p rfl (Q.asg rfl) <| J.nil <| J.then_n ?_
    refine J.cases 20 rfl (fun hc20 => ?_) (fun hc20 => ?_)
    ·
     have h := X.nm hc20; exfalso; omega
    replace hc20 := X.nm hc20
    try (first | (cases hc20; done) | (exfalso; simp at hc20; done))
    all_goals
     refine J.cond_f rfl <| J.cskip <| J.blk_n <| J.then_n <| J.seq <| J.region <| J.m rfl <| J.p rfl (Q.add64 rfl rfl (by omega)) ?_
     refine J.slot 30 (.int .i64 ((a + 4 : Nat) : Int)) rfl rfl ?_
     refine J.p rfl (Q.asg rfl) <| J.nil <| J.then_n <| J.seq <| J.region <| J.m rfl <| J.m rfl <| J.p rfl (Q.conv64 runUnderlying30 runUnderlying3 rfl (by omega)) ?_
     refine J.slot 33 (.int .i64 (x.length : Int)) rfl (by congr 1) ?_
     refine J.p rfl (Q.add64 rfl rfl (by omega)) ?_
     refine J.slot 34 (.int .i64 ((a + 4 + x.length : Nat) : Int)) rfl (congrArg _ (by omega)) ?_
     refine J.p rfl (Q.asg rfl) <| J.nil <| J.then_n <| J.seq <| J.seq ?_
     refine J.give (X := own 5 1 (.slice none ([] : List U).length 0) (bytesV [])) (own.nil _ _ _) ?_
     obtain ⟨o2, d2, hsl2, hval2⟩ := slr_part (c := c) hrd (show (bytesV (frameB x)).length = n by rw [bytesV_len, hnn]) (show a + 4 ≤ n by omega) hc
     obtain ⟨o3, d3, hsl3, hval3⟩ := slr_part (c := c) hrd (show (bytesV (frameB x)).length = n by rw [bytesV_len, hnn]) (show (a + 4) + x.length ≤ n by omega) hc
     have hp2 : ((bytesV (frameB x)).drop a).take 4 = bytesV (lowB cr 4) := by
      rw [← bytesV_part]; congr 1
      rw [frameB, hcr, Int.toNat_natCast, List.append_assoc, ha, List.drop_left]
      rw [List.take_append_of_le_length (by rw [lowB_len]; exact Nat.le_refl _), List.take_of_length_le (by rw [lowB_len]; exact Nat.le_refl _)]
     have hp3 : ((bytesV (frameB x)).drop (a + 4)).take x.length = bytesV x := by
      rw [← bytesV_part]; congr 1
      rw [frameB, show a + 4 = (numB x.length ++ lowB (crcL x).toNat 4).length by rw [List.length_append, lowB_len, ha], List.drop_left, List.take_length]
     rw [hp2] at hsl2
     rw [hp3] at hsl3
     refine J.drawE [8, 9, 11, 12] 0 Tryz.mixed (by kernel_rfl) rfl rfl fun hR => ?_
     refine RG.p 0 hR rfl (Q.mv rfl) <| RG.p 1 hR rfl (Q.mv rfl) <| RG.p 2 hR rfl (Q.mv rfl) <| RG.p 3 hR rfl (Q.slLH runUnderlying22 sizeOf5 rfl rfl rfl (by omega) (by omega) (by omega)) ?_
     refine RG.slot 38 (.slice o2 4 d2) rfl (by rw [← hval2]; rfl) ?_
     refine RG.p 4 hR rfl (Q.mv rfl) <| RG.p 5 hR rfl (Q.mv rfl) <| RG.p 6 hR rfl (Q.mv rfl) <| RG.p 7 hR rfl (Q.slLH runUnderlying22 sizeOf5 rfl rfl rfl (by omega) (by omega) (by omega)) ?_
     refine RG.slot 42 (.slice o3 x.length d3) rfl (by rw [← hval3]; rfl) ?_
     refine RG.made 8 hR rfl rfl rfl rfl rfl (C.bslG (l := [.slice o3 x.length d3]) runUnderlying45 sizeOf22 zeroValue22 (by decide) rfl rfl rfl rfl rfl) ?_
     rintro b43
     refine RG.callkI 9 hR rfl rfl rfl rfl rfl call23 (sum_spec G o3 d3 x hsl3 (by omega) b43) rfl ?_
     rintro _ _ ⟨rfl, rfl⟩
     refine RG.normE rfl <| RG.p 10 hR rfl (Q.conv runUnderlying31 runUnderlying30 rfl) ?_
     refine RG.slot 45 (.int .u64 (cr : Int)) rfl (by rw [hcr, wrap64 (by omega)]) ?_
     refine RG.callkI 11 hR rfl rfl rfl rfl rfl call185 (low_spec none 0 [] cr 4 (by simp) (by omega) (by omega)) rfl ?_
     rintro _ _ ⟨p46, c46, rfl, rfl⟩
     refine RG.normE rfl ?_
     refine RG.slr1 (E0 := 5) (sz := 1) (p := p46) (n := ([] ++ lowB cr 4).length) (c := c46) (xs := bytesV ([] ++ lowB cr 4)) fun hs46 => ?_
     have hl46 : ([] ++ lowB cr 4).length = 4 := by rw [List.nil_append, lowB_len]
     refine RG.callI 12 hR rfl rfl rfl rfl rfl rfl call261 (sameB_spec G (own 5 1 (.slice p46 ([] ++ lowB cr 4).length c46) (bytesV ([] ++ lowB cr 4))) o2 p46 d2 c46 4 (lowB cr 4) (lowB_len _ _) (by omega) hsl2 (by rw [hl46] at hs46 ⊢; exact hs46)) rfl ?_
     rintro _ _ ⟨rfl, rfl⟩
     refine RG.norm rfl <| RG.p 13 hR rfl (Q.not rfl) ?_
     refine RG.fin hR rfl ?_
     refine J.norm rfl <| J.then_n ?_
     refine J.kases 48 rfl (fun hc48 => ?_) (fun hc48 => ?_)
     ·
      try (first | (cases hc48; done) | (exfalso; simp at hc48; done))
      all_goals
       refine J.cond_t rfl <| J.seq <| J.region <| J.p rfl (Q.asg rfl) <| J.p rfl (Q.asg rfl) <| J.p rfl (Q.asg rfl) <| J.nil <| J.then_n <| J.cret <| J.then_r ?_
       refine J.keepI ([G] ++ [F]) ?_
       exact J.ret3 (B := [G]) rfl rfl rfl rfl ⟨by rw [show a + 4 + x.length = n by omega], rfl⟩ rfl
     try (first | (cases hc48; done) | (exfalso; simp at hc48; done))
     all_goals
      refine J.cond_f rfl <| J.cskip <| J.then_n <| J.seq <| J.region <| J.m rfl <| J.m rfl <| J.p rfl (Q.asg rfl) <| J.p rfl (Q.asg rfl) <| J.p rfl (Q.asg rfl) <| J.nil <| J.then_n <| J.cret ?_
      refine J.keepI ([G] ++ [F]) ?_
      exact J.ret3 (B := [G]) rfl rfl rfl rfl ⟨by rw [show a + 4 + x.length = n by omega], rfl⟩ rfl
theorem readFrame_spec : FSpec Tryz.prog 123 [.slice p n c] [G] (fun u B => ∃ q d, u = .tuple #[.slice q x.length d, .int .i64 n, .int .i64 0] ∧ B = [own 5 1 (.slice q x.length d) (bytesV x), G]) := by
  have hfl := frameB_len x
  have hnp := numB_pos x.length
  have hnl := numB_len x.length (by omega)
  have hun := unframe_spec G p n c x hr hx hnn hc
  obtain ⟨a, ha⟩ : ∃ a, a = (numB x.length).length := ⟨_, rfl⟩
  rw [← ha] at hfl hnp hnl hun
  obtain ⟨b, off, rfl, hrd⟩ := hr.some_ (by omega)
  refine FSpec.of func123 rfl ntmps123 rfl fun W0 F => ?_
  refine J.seq <| J.region <| J.p rfl (Q.asg rfl) <| J.p rfl (Q.asg rfl) <| J.p rfl (Q.asg rfl) <| J.nil <| J.then_n <| J.seq <| J.region <| J.m rfl ?_
  refine J.callI call191 (hun) rfl rfl rfl ?_
  rintro _ _ ⟨rfl, rfl⟩
  refine J.norm rfl ?_
  have hn4 : n = a + 4 + x.length := by omega
  refine J.m rfl <| J.p rfl (Q.ext rfl rfl) <| J.p rfl (Q.ext rfl rfl) ?_
  refine J.slot 12 (.int .i64 ((a + 4 + x.length : Nat) : Int)) rfl (by rw [← hn4]) ?_
  refine J.p rfl (Q.ext rfl rfl) <| J.p rfl (Q.asg rfl) <| J.p rfl (Q.asg rfl) <| J.p rfl (Q.asg rfl) <| J.nil <| J.then_n <| J.seq <| J.seq <| J.region <| J.m rfl <| J.p rfl (Q.neq rfl rfl) <| J.nil <| J.then_n ?_
  refine J.cases 15 rfl (fun hc15 => ?_) (fun hc15 => ?_)
  ·
   have h := X.nm hc15; exact absurd rfl h
  replace hc15 := X.nm hc15
  try (first | (cases hc15; done) | (exfalso; simp at hc15; done))
  all_goals
   refine J.cond_f rfl <| J.cskip <| J.then_n <| J.seq ?_
   obtain ⟨o3, d3, hsl3, hval3⟩ := slr_part (c := c) hrd (show (bytesV (frameB x)).length = n by rw [bytesV_len, hnn]) (show (a + 4) + x.length ≤ n by omega) hc
   have hp3 : ((bytesV (frameB x)).drop (a + 4)).take x.length = bytesV x := by
    rw [← bytesV_part]; congr 1
    rw [frameB, show a + 4 = (numB x.length ++ lowB (crcL x).toNat 4).length by rw [List.length_append, lowB_len, ha], List.drop_left, List.take_length]
   rw [hp3] at hsl3
   refine J.region <| J.m rfl <| J.m rfl <| J.m rfl <| J.p rfl (Q.slLH runUnderlying22 sizeOf5 rfl rfl rfl (by omega) (by omega) (by omega)) ?_
   refine J.slot 20 (.slice o3 x.length d3) rfl (by rw [← hval3]; rfl) ?_
   refine J.callI call70 (clone_spec G o3 d3 x hsl3 (by omega)) rfl rfl rfl ?_
   rintro _ _ ⟨q, d, rfl, rfl⟩
   refine J.norm rfl <| J.m rfl <| J.p rfl (Q.asg rfl) <| J.p rfl (Q.asg rfl) <| J.p rfl (Q.asg rfl) <| J.nil <| J.then_n <| J.cret ?_
   exact J.ret3 (B := [own 5 1 (.slice q x.length d) (bytesV x), G]) rfl rfl rfl rfl ⟨q, d, by rw [← hn4], rfl⟩ rfl
end
theorem unframe_nil (G : Assn) (p : Option Addr) (c : Nat) : FSpec Tryz.prog 191 [.slice p 0 c] [G] (fun u B => u = .tuple #[.int .i64 0, .int .i64 0, .int .i64 11] ∧ B = [G]) := by
  refine FSpec.of func191 rfl ntmps191 rfl fun W0 F => ?_
  refine J.seq <| J.region <| J.p rfl (Q.asg rfl) <| J.p rfl (Q.asg rfl) <| J.p rfl (Q.asg rfl) <| J.nil <| J.then_n <| J.seq <| J.region <| J.m rfl ?_
  refine J.callI call175 (readNumber_nil G p c) rfl rfl rfl ?_
  rintro _ _ ⟨rfl, rfl⟩
  refine J.norm rfl <| J.m rfl <| J.p rfl (Q.ext rfl rfl) <| J.p rfl (Q.ext rfl rfl) <| J.p rfl (Q.ext rfl rfl) <| J.p rfl (Q.asg rfl) <| J.p rfl (Q.asg rfl) <| J.p rfl (Q.asg rfl) <| J.nil <| J.then_n <| J.seq <| J.block <| J.seq <| J.region <| J.m rfl <| J.p rfl (Q.neq rfl rfl) <| J.p rfl (Q.asg rfl) <| J.nil <| J.then_n ?_
  refine J.kases 13 rfl (fun hc13 => ?_) (fun hc13 => ?_)
  ·
   try (first | (cases hc13; done) | (exfalso; simp at hc13; done))
   all_goals
    refine J.cond_t rfl <| J.seq <| J.region <| J.m rfl <| J.p rfl (Q.asg rfl) <| J.p rfl (Q.asg rfl) <| J.p rfl (Q.asg rfl) <| J.nil <| J.then_n <| J.cret <| J.blk_r <| J.then_r ?_
    exact J.ret3 (B := [G]) rfl rfl rfl rfl ⟨rfl, rfl⟩ rfl
  try (first | (cases hc13; done) | (exfalso; simp at hc13; done))
  all_goals
   refine J.cond_f rfl <| J.seq <| J.region <| J.m rfl <| J.p rfl (Q.gtr rfl rfl) <| J.p rfl (Q.asg rfl) <| J.nil <| J.then_n ?_
   refine J.kases 17 rfl (fun hc17 => ?_) (fun hc17 => ?_)
   ·
    try (first | (cases hc17; done) | (exfalso; simp at hc17; done))
    all_goals
     refine J.cond_t rfl <| J.seq <| J.region <| J.p rfl (Q.asg rfl) <| J.p rfl (Q.asg rfl) <| J.p rfl (Q.asg rfl) <| J.nil <| J.then_n <| J.cret <| J.blk_r <| J.then_r ?_
     exact J.ret3 (B := [G]) rfl rfl rfl rfl ⟨rfl, rfl⟩ rfl
   try (first | (cases hc17; done) | (exfalso; simp at hc17; done))
   all_goals
    refine J.cond_f rfl <| J.seq <| J.region <| J.m rfl <| J.p rfl (Q.conv64 runUnderlying30 runUnderlying3 rfl (by omega)) <| J.p rfl (Q.add64 rfl rfl (by omega)) <| J.m rfl <| J.p rfl (Q.lenSl runUnderlying22 rfl) <| J.m rfl <| J.p rfl (Q.sub64 rfl rfl (by omega)) <| J.p rfl (Q.gtr rfl rfl) <| J.p rfl (Q.asg rfl) <| J.nil <| J.then_n ?_
    refine J.kases 20 rfl (fun hc20 => ?_) (fun hc20 => ?_)
    ·
     try (first | (cases hc20; done) | (exfalso; simp at hc20; done))
     all_goals
      refine J.cond_t rfl <| J.seq <| J.region <| J.p rfl (Q.asg rfl) <| J.p rfl (Q.asg rfl) <| J.p rfl (Q.asg rfl) <| J.nil <| J.then_n <| J.cret <| J.blk_r <| J.then_r ?_
      exact J.ret3 (B := [G]) rfl rfl rfl rfl ⟨rfl, rfl⟩ rfl
    try (first | (cases hc20; done) | (exfalso; simp at hc20; done))
    all_goals
     refine J.cond_f rfl <| J.cskip <| J.blk_n <| J.then_n <| J.seq <| J.region <| J.m rfl <| J.p rfl (Q.add64 rfl rfl (by omega)) <| J.p rfl (Q.asg rfl) <| J.nil <| J.then_n <| J.seq <| J.region <| J.m rfl <| J.m rfl <| J.p rfl (Q.conv64 runUnderlying30 runUnderlying3 rfl (by omega)) <| J.p rfl (Q.add64 rfl rfl (by omega)) <| J.p rfl (Q.asg rfl) ?_
     refine J.nil <| J.then_n <| J.seq <| J.seq ?_
     refine J.draw [8, 9, 11, 12] Tryz.mixed (by kernel_rfl) fun hR => ?_
     refine RG.p 0 hR rfl (Q.mv rfl) <| RG.p 1 hR rfl (Q.mv rfl) <| RG.p 2 hR rfl (Q.mv rfl) <| RG.p 3 hR rfl (Q.slLH runUnderlying22 sizeOf5 rfl rfl rfl (by omega) (by omega) (by omega)) <| RG.p 4 hR rfl (Q.mv rfl) <| RG.p 5 hR rfl (Q.mv rfl) <| RG.p 6 hR rfl (Q.mv rfl) ?_
     refine RG.p 7 hR rfl (Q.slLH runUnderlying22 sizeOf5 rfl rfl rfl (by omega) (by omega) (by omega)) ?_
     refine RG.made 8 hR rfl rfl rfl rfl rfl (C.bslG (l := [_]) runUnderlying45 sizeOf22 zeroValue22 (by decide) rfl rfl rfl rfl rfl) ?_
     rintro b43
     -- call@44
     stop
     refine RG.p 10 hR rfl (Q.conv runUnderlying31 runUnderlying30 rfl) ?_
     -- call@46
     stop
     -- call@47
     stop
     refine RG.p 13 hR rfl (Q.not rfl) ?_
     refine RG.fin hR rfl ?_
     refine J.norm rfl <| J.then_n ?_
     refine J.kases 48 rfl (fun hc48 => ?_) (fun hc48 => ?_)
     ·
      try (first | (cases hc48; done) | (exfalso; simp at hc48; done))
      all_goals
       refine J.cond_t rfl <| J.seq <| J.region <| J.p rfl (Q.asg rfl) <| J.p rfl (Q.asg rfl) <| J.p rfl (Q.asg rfl) <| J.nil <| J.then_n <| J.cret <| J.then_r ?_
       exact J.ret3 (B := [G]) rfl rfl rfl rfl ⟨rfl, rfl⟩ rfl
     try (first | (cases hc48; done) | (exfalso; simp at hc48; done))
     all_goals
      refine J.cond_f rfl <| J.cskip <| J.then_n <| J.seq <| J.region <| J.m rfl <| J.m rfl <| J.p rfl (Q.asg rfl) <| J.p rfl (Q.asg rfl) <| J.p rfl (Q.asg rfl) <| J.nil <| J.then_n <| J.cret ?_
      exact J.ret3 (B := [G]) rfl rfl rfl rfl ⟨rfl, rfl⟩ rfl
theorem readFrame_nil (G : Assn) (p : Option Addr) (c : Nat) : FSpec Tryz.prog 123 [.slice p 0 c] [G] (fun u B => u = .tuple #[.slice none 0 0, .int .i64 0, .int .i64 11] ∧ B = [G]) := by
  refine FSpec.of func123 rfl ntmps123 rfl fun W0 F => ?_
  refine J.seq <| J.region <| J.p rfl (Q.asg rfl) <| J.p rfl (Q.asg rfl) <| J.p rfl (Q.asg rfl) <| J.nil <| J.then_n <| J.seq <| J.region <| J.m rfl ?_
  refine J.callI call191 (unframe_nil G p c) rfl rfl rfl ?_
  rintro _ _ ⟨rfl, rfl⟩
  refine J.norm rfl <| J.m rfl <| J.p rfl (Q.ext rfl rfl) <| J.p rfl (Q.ext rfl rfl) <| J.p rfl (Q.ext rfl rfl) <| J.p rfl (Q.asg rfl) <| J.p rfl (Q.asg rfl) <| J.p rfl (Q.asg rfl) <| J.nil <| J.then_n <| J.seq <| J.seq <| J.region <| J.m rfl <| J.p rfl (Q.neq rfl rfl) <| J.nil <| J.then_n ?_
  refine J.kases 15 rfl (fun hc15 => ?_) (fun hc15 => ?_)
  ·
   try (first | (cases hc15; done) | (exfalso; simp at hc15; done))
   all_goals
    refine J.cond_t rfl <| J.seq <| J.region <| J.m rfl <| J.p rfl (Q.asg rfl) <| J.p rfl (Q.asg rfl) <| J.p rfl (Q.asg rfl) <| J.nil <| J.then_n <| J.cret <| J.then_r ?_
    exact J.ret3 (B := [G]) rfl rfl rfl rfl ⟨rfl, rfl⟩ rfl
  try (first | (cases hc15; done) | (exfalso; simp at hc15; done))
  all_goals
   refine J.cond_f rfl <| J.cskip <| J.then_n <| J.seq <| J.region <| J.m rfl <| J.m rfl <| J.m rfl <| J.p rfl (Q.slLH runUnderlying22 sizeOf5 rfl rfl rfl (by omega) (by omega) (by omega)) ?_
   -- call@21 call f70<slices.Clone[[]byte,byte]>(t20)
   stop
   refine J.m rfl <| J.p rfl (Q.asg rfl) <| J.p rfl (Q.asg rfl) <| J.p rfl (Q.asg rfl) <| J.nil <| J.then_n <| J.cret ?_
   exact J.ret3 (B := [G]) rfl rfl rfl rfl ⟨rfl, rfl⟩ rfl
end Go.Proofs.YtblpcabdfbpcnaaGreatDoor
namespace Go.X
set_option linter.unusedSectionVars false
set_option linter.unusedSimpArgs false
set_option linter.unusedVariables false

theorem eqItems_same {P : Program} {E : TypeId} {k : IntKind} (d : Nat) (he : P.underlying E = some (.int k)) (ha : ∀ w, (isAgg E).run P w = .ok false w) (vs : List Int) (w : World) : ∀ is : List Nat, (∀ i, i ∈ is → i < vs.length) →
    (Op.eqItems (d + 1) E 1 (vs.map (Value.int k)).toArray (vs.map (Value.int k)).toArray is).run P w = .ok true w
  | [], _ => by simp [Op.eqItems]
  | i :: is, h => by
    have hi := h i List.mem_cons_self
    have ih := eqItems_same d he ha vs w is fun j hj => h j (List.mem_cons_of_mem _ hj)
    have e1 : (Op.equalIn (d + 1) E (.int k vs[i]) (.int k vs[i])).run P w = .ok (vs[i] == vs[i]) w := run_equalIn_int (P := P) w d E k k _ _ he
    simp [Op.eqItems, part, ha, hi, e1, ih]
theorem Q.neqA {P : Program} {L : Slots} {D : List Assn} {ty T T' E : TypeId} {x y : Operand} {n : Nat} {k : IntKind} {i : TypeInfo} (vs : List Int) (hl : vs.length = n) (hu : P.underlying T = some (.array n E)) (hi : P.info? E = some i) (hc : P.cellsOf E = 1) (he : P.underlying E = some (.int k)) (ha : ∀ w, (isAgg E).run P w = .ok false w)
    (hg : P.eqGuardType P.depth T = false) (ex : ev L x = some (.agg (vs.map (Value.int k)).toArray)) (ey : ev L y = some (.agg (vs.map (Value.int k)).toArray)) : OpQ P (.binOp .neq T x y T') ty L D (.bool false) :=
  Q.bin ex ey fun w => by
    have e0 : (Op.equal T (.agg (vs.map (Value.int k)).toArray) (.agg (vs.map (Value.int k)).toArray)).run P w = .ok true w := by
      show (Op.equalIn (9999 + 1) T _ _).run P w = _
      rw [run_equalIn_array (P := P) (w := w) 9999 _ _ hu hi, hc]
      exact eqItems_same 9998 he ha vs w _ fun i hi => by rw [hl]; exact List.mem_range.1 hi
    rw [Sem.run_bind, run_eqGuard_agg w .neq T x y _ _ hg, Result.andThen_ok]
    simp [binOp, e0]

theorem own.cutN {E sz : Nat} {p : Option Addr} {n c k : Nat} {xs : List Value} (hk : k ≤ n) : ∀ h, own E sz (.slice p n c) xs h → own E sz (.slice p k c) (xs.take (k * sz)) h := by
  rintro h (⟨e1, e2⟩ | ⟨o, ho, hp⟩)
  · cases e1; exact .inl ⟨by rw [show k = 0 from by omega], by rw [e2]; simp⟩
  · have hv := ho.val
    simp only [Value.slice.injEq] at hv
    obtain ⟨rfl, rfl, rfl⟩ := hv
    have hl := ho.len
    have hm : k * sz ≤ o.len * sz := Nat.mul_le_mul_right sz hk
    refine .inr ⟨{ o with len := k }, ⟨rfl, by rw [List.length_take]; show min (k * sz) xs.length = k * sz; omega, Nat.le_trans hk ho.cap, ho.fits, fun j u hj => ho.get j u ?_, ho.free⟩, hp⟩
    rw [List.getElem?_take] at hj
    split at hj
    · exact hj
    · cases hj

theorem zeroCells_one {cs : Array Value} (h : ∀ v, v ∈ cs.toList → oneC v = true) (n : Nat) : ∀ v, v ∈ (Builtin.zeroCells cs n).toList → oneC v = true := by
  intro v hv
  unfold Builtin.zeroCells at hv
  simp only [Array.toList_map, List.mem_map, Array.toList_range, List.mem_range] at hv
  obtain ⟨i, hi, rfl⟩ := hv
  have hs : 0 < cs.size := by
    rcases Nat.eq_zero_or_pos cs.size with e | e
    · rw [e] at hi; simp at hi
    · exact e
  have hm : i % cs.size < cs.size := Nat.mod_lt _ hs
  rw [getElem!_pos cs _ hm]
  exact h _ (by simp)
theorem C.clearI {P : Program} {L : Slots} {A D : List Assn} {ty T : TypeId} {x : Operand} {E E2 sz n c b off i c2 : Nat} {zv : Value} {p2 : Option Addr} {xs : List Value} (hu : ∀ w, (underlying T).run P w = .ok (.slice E) w) (hz : ∀ w, (zeroValue E).run P w = .ok zv w) (hzs : zv.cells.size = sz) (hz1 : ∀ v, v ∈ zv.cells.toList → oneC v = true)
    (ex : evs L [x] = some [.slice p2 (n - i) c2]) (hp : i < n → p2 = some ⟨b, off + i * sz, none⟩) (hi : i ≤ n) [h : OwnB A b E2 sz off n c xs D] (hx : xs.length = n * sz) :
    OpC P (.call { callee := .builtin .clear, args := #[x], argTypes := #[T] }) ty L A (fun u B => ∃ ys, ys.length = n * sz ∧ ys.take (i * sz) = xs.take (i * sz) ∧ u = .tuple #[] ∧ B = own E2 sz (.slice (some ⟨b, off, none⟩) n c) ys :: D) := by
  refine ⟨fun dst pos aft g a W0 w ag s K Q k => ?_⟩
  have s1 := s.perm h.perm
  have e := evs_map (l := [x]) (fun z hz => ag z (by simp only [Op.operands, Call.operands]; simpa using hz)) ex
  simp only [List.map_cons, List.map_nil, List.cons.injEq, and_true] at e
  unfold Oper.wp
  by_cases hlt : i < n
  · have hp2 := hp hlt
    subst hp2
    have hzl : (Builtin.zeroCells zv.cells (n - i)).toList.length = (n - i) * sz := by rw [Array.length_toList, size_zeroCells, hzs]
    have hmul : i * sz + (n - i) * sz = n * sz := by rw [← Nat.add_mul]; congr 1; omega
    obtain ⟨w', r1, s2⟩ := run_storeO (P := P) (i := 0) (vs := (Builtin.zeroCells zv.cells (n - i)).toList) (j := i * sz) s1 rfl (by rw [hzl]; omega) (zeroCells_one hz1 _)
    obtain ⟨m, hm⟩ : ∃ m, n - i = m + 1 := ⟨n - i - 1, by omega⟩
    have hr : (execOp a.eval ⟨dst, .call { callee := .builtin .clear, args := #[x], argTypes := #[T] }, ty, pos, aft, g⟩).run P w = .ok (.value (.tuple #[])) w' := by
      rw [hm] at r1 e
      simp [execOp, resolve, invoke, builtin, Builtin.clear_, e, hu, hz, r1]
    rw [hr, Oper.upon_value]
    refine k _ _ _ ⟨splice xs (i * sz) (Builtin.zeroCells zv.cells (n - i)).toList, by rw [splice_length, hx], ?_, rfl, rfl⟩ s2
    rw [splice_at _ _ _ (by rw [hzl]; omega), List.append_assoc, List.take_append_of_le_length (by rw [List.length_take]; omega), List.take_take, Nat.min_self]
  · have hni : n - i = 0 := by omega
    have hr : (execOp a.eval ⟨dst, .call { callee := .builtin .clear, args := #[x], argTypes := #[T] }, ty, pos, aft, g⟩).run P w = .ok (.value (.tuple #[])) w := by
      rw [hni] at e
      cases p2 <;> simp [execOp, resolve, invoke, builtin, Builtin.clear_, e, hu]
    rw [hr, Oper.upon_value]
    exact k _ _ _ ⟨xs, hx, rfl, rfl, rfl⟩ s1
end Go.X

