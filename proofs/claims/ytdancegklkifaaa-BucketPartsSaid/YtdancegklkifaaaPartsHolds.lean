/-
  BucketParts: for every input the law returns true, and the input reads as it did.
-/
import Derived.Test.YtdancegklkifaaaBktPartsW
import Derived.Test.YtdancegklkifaaaBktIn
namespace Go.Proofs.Ytdancegklkifaaa
set_option linter.unusedSectionVars false
set_option linter.unusedSimpArgs false
set_option linter.unusedVariables false
open Go.ChangeShapes Go.WideShapes Go.ChangeAt Go.RowKit
open Go.X

namespace bucketParts
set_option linter.unusedVariables false

theorem choose_all {α : Type} {f : α → Value} {Q : α → Prop} : ∀ (css : List (List Value)), (∀ cs, cs ∈ css → ∃ d : α, cs = [f d] ∧ Q d) → ∃ ds : List α, css = ds.map (fun d => [f d]) ∧ ∀ d, d ∈ ds → Q d
  | [], _ => ⟨[], rfl, by simp⟩
  | cs :: r, h => by
    obtain ⟨d, h1, h2⟩ := h cs (by simp)
    obtain ⟨ds, h3, h4⟩ := choose_all r fun c hc => h c (List.mem_cons_of_mem _ hc)
    refine ⟨d :: ds, by rw [h1, h3]; rfl, fun x hx => ?_⟩
    cases List.mem_cons.1 hx with
    | inl e => rw [e]; exact h2
    | inr e => exact h4 x e

section
variable {H : Type} {enc : TypeId × Value → H} {W : World} {base : Nat} {spare : Nat → Bool} {held : Bool} {fuel : Nat} {v : Value} {x : DataW H × List MemPlace}
theorem bytes_in (h : DataW.trod enc Try.prog W base spare held fuel 24 [v] = some x) : ∃ d : DW, v = d.val ∧ SlR [old W] 1 d.val (bytesV d.bs) ∧ d.bs.length ≤ 9223372036854775807 := by
  obtain ⟨p, len, cap, zs, rfl, hc, hz, hr, hw, _⟩ := ints_in Try.underlying24 Try.underlying5 cellsU8 h
  obtain ⟨bs, hb1, hb2⟩ := ints_bytes zs hw
  have l := slice_small Try.underlying24 h
  have e : len = bs.length := by omega
  subst e
  exact ⟨⟨p, bs, cap⟩, rfl, by rw [← hb2]; exact hr, l⟩

theorem datas_in (h : DataW.trod enc Try.prog W base spare held fuel 33 [v] = some x) : ∃ (p : Option Addr) (cap : Nat) (ds : List DW), v = .slice p ds.length cap ∧ SlR [old W] 1 (.slice p ds.length cap) (ds.map DW.val) ∧ (∀ d, d ∈ ds → SlR [old W] 1 d.val (bytesV d.bs) ∧ d.bs.length ≤ 9223372036854775807) ∧ ds.length ≤ 9223372036854775807 := by
  rcases elems_in Try.underlying33 cellsBytes h with ⟨rfl, _⟩ | ⟨a, len, cap, n, es, rs, css, rfl, hc, hx, hel, hcl, hcss⟩
  · exact ⟨none, 0, [], rfl, .inl ⟨none, 0, rfl, rfl⟩, by simp, by simp⟩
  · obtain ⟨ds, hds, hQ⟩ := choose_all (f := DW.val) (Q := fun d => SlR [old W] 1 d.val (bytesV d.bs) ∧ d.bs.length ≤ 9223372036854775807) css (by
      intro cs hm
      obtain ⟨i, hi, he⟩ := List.mem_iff_getElem.1 hm
      have hi' : css[i]? = some cs := by rw [List.getElem?_eq_getElem hi, he]
      obtain ⟨h1, _, h3⟩ := hcss i cs hi'
      match cs, h1 with
      | [u], _ =>
        obtain ⟨y, hy⟩ : ∃ y, es[i]? = some y := ⟨_, List.getElem?_eq_getElem (by omega)⟩
        rw [hy] at h3
        obtain ⟨d, k1, k2⟩ := bytes_in h3
        exact ⟨d, by rw [k1], k2⟩)
    have hl : len = ds.length := by rw [← hcl, hds, List.length_map]
    have hs := slice_small Try.underlying33 h
    subst hl
    refine ⟨some a, cap, ds, rfl, slr_old (by simp) ?_ (by omega), hQ, hs⟩
    intro i u hu
    rw [List.getElem?_map, Option.map_eq_some_iff] at hu
    obtain ⟨d, hd, rfl⟩ := hu
    have := (hcss i [d.val] (by rw [hds, List.getElem?_map, hd]; rfl)).2.1 0 d.val rfl
    simpa using this
end

theorem own : ownKnob Try.prog.godebug = none := by kernel_rfl
theorem laidOut : laidOutB Try.prog = true := by kernel_rfl

theorem walk (ns : List Int) (np : Option Addr) (nc : Nat) (ds : List DW) (dp : Option Addr) (dc : Nat) (nm : List Int) (mp : Option Addr) (mc : Nat) (W : World)
  (hn : SlR [old W] 1 (.slice np ns.length nc) (ns.map (Value.int .i64))) (hd : SlR [old W] 1 (.slice dp ds.length dc) (ds.map DW.val)) (hds : ∀ d, d ∈ ds → SlR [old W] 1 d.val (bytesV d.bs) ∧ d.bs.length ≤ 9223372036854775807)
  (hm : SlR [old W] 1 (.slice mp nm.length mc) (nm.map (Value.int .i64))) (hl : ns.length ≤ 9223372036854775807 ∧ ds.length ≤ 9223372036854775807 ∧ nm.length ≤ 9223372036854775807) :
    Calls Try.prog 4 #[.slice np ns.length nc, .slice dp ds.length dc, .slice mp nm.length mc] W fun e w' => e = .returned (.bool true) ∧ Below W.heap.size W w' := (bparts_spec (old W) ns np nc ds dp dc nm mp mc hn hd hds hm hl).lift

set_option maxRecDepth 100000 in
theorem lifted (os : Os) (started : os.Started) (H : Type) (enc : TypeId × Value → H) :
    ReturnsInHanded {} Try.checked os 4 .any (Rows.bucketPartsSpec.pre6 enc Try.prog Try.f4 Rows.bucketPartsRow.domain false) (Rows.bucketPartsSpec.post enc Try.prog Try.f4 false true false false) := by
  refine returnsInHanded_of_change (C := Try.checked) own started (by kernel_rfl) Try.func4
    (ChangeSpec.witness6 (enc := enc) (C := Try.checked) false ⟨#[], #[.slice none 0 0, .slice none 0 0, .slice none 0 0], []⟩ 8 (by kernel_rfl) (by kernel_rfl) (by kernel_rfl) (by kernel_rfl)) ?_
  intro W base args ds gs before hval0 hW hcnd _
  have hval : ∀ (j : Nat) t v, Try.f4.params[j]? = some t → args[j]? = some v → Value.okWide Try.prog W .any base t v := hval0
  have hW' := hW
  obtain ⟨p, q, hA0, hV, rfl, hfz, hnd⟩ := hW
  have hA : DataW.TrodAll enc Try.prog W 0 (fun _ => true) true Try.f4.params.toList args.toList ds p := hA0
  rw [Try.params4] at hA hval
  obtain ⟨v0, vs0, d0, ds0, p0, q0, hargs, rfl, rfl, h0, r0⟩ := trodAll_cons hA
  obtain ⟨v1, vs1, d1, ds1, p1, q1, rfl, rfl, rfl, h1, r1⟩ := trodAll_cons r0
  obtain ⟨v2, vs2, d2, ds2, p2, q2, rfl, rfl, rfl, h2, r2⟩ := trodAll_cons r1
  obtain ⟨rfl, rfl, rfl⟩ := trodAll_nil r2
  obtain rfl : args = #[v0, v1, v2] := by cases args; simp_all
  obtain ⟨rfl, rfl⟩ := trodVars_none hV
  obtain ⟨xa0, xl0, xc0, rfl⟩ := okWide_slice Try.underlying23 (hval 0 23 v0 rfl rfl)
  obtain ⟨xa1, xl1, xc1, rfl⟩ := okWide_slice Try.underlying33 (hval 1 33 v1 rfl rfl)
  obtain ⟨xa2, xl2, xc2, rfl⟩ := okWide_slice Try.underlying23 (hval 2 23 v2 rfl rfl)
  have lt0 : ∀ x ∈ p0, x.block < W.heap.size := by obtain ⟨m, hm⟩ := h0; exact DataW.trod_lt m _ _ _ hm
  have lt1 : ∀ x ∈ p1, x.block < W.heap.size := by obtain ⟨m, hm⟩ := h1; exact DataW.trod_lt m _ _ _ hm
  have lt2 : ∀ x ∈ p2, x.block < W.heap.size := by obtain ⟨m, hm⟩ := h2; exact DataW.trod_lt m _ _ _ hm
  obtain ⟨np, nc, ns, ev0, hn, hnl⟩ : ∃ (np : Option Addr) (nc : Nat) (ns : List Int), Value.slice xa0 xl0 xc0 = .slice np ns.length nc ∧ SlR [old W] 1 (.slice np ns.length nc) (ns.map (Value.int .i64)) ∧ ns.length ≤ 9223372036854775807 := by
    obtain ⟨m, hm⟩ := h0
    obtain ⟨a, b, c, d, ev, _, e, f, _⟩ := ints_in Try.underlying23 Try.underlying3 cellsInt hm
    have := slice_small Try.underlying23 hm
    cases ev
    subst e
    exact ⟨_, _, d, rfl, f, this⟩
  obtain ⟨dp, dc, dl, ev1, hd, hds, hdl⟩ : ∃ (p : Option Addr) (cap : Nat) (ds : List DW), Value.slice xa1 xl1 xc1 = .slice p ds.length cap ∧ SlR [old W] 1 (.slice p ds.length cap) (ds.map DW.val) ∧ (∀ d, d ∈ ds → SlR [old W] 1 d.val (bytesV d.bs) ∧ d.bs.length ≤ 9223372036854775807) ∧ ds.length ≤ 9223372036854775807 := by
    obtain ⟨m, hm⟩ := h1
    exact datas_in hm
  obtain ⟨mp, mc, nm, ev2, hm, hml⟩ : ∃ (np : Option Addr) (nc : Nat) (ns : List Int), Value.slice xa2 xl2 xc2 = .slice np ns.length nc ∧ SlR [old W] 1 (.slice np ns.length nc) (ns.map (Value.int .i64)) ∧ ns.length ≤ 9223372036854775807 := by
    obtain ⟨m, hm⟩ := h2
    obtain ⟨a, b, c, d, ev, _, e, f, _⟩ := ints_in Try.underlying23 Try.underlying3 cellsInt hm
    have := slice_small Try.underlying23 hm
    cases ev
    subst e
    exact ⟨_, _, d, rfl, f, this⟩
  cases ev0
  cases ev1
  cases ev2
  clear hA0 hval0 hval
  refine (walk ns _ _ dl _ _ nm _ _ W hn hd hds hm ⟨hnl, hdl, hml⟩).mono fun e W' ⟨he, bel⟩ => ?_
  subst he
  exact ⟨_, rfl, _, _, _, [], _, [], hW', trodAll_mk1 (shut_bool Try.underlying4 _),
    (trodAll_cons_mk (Below.trod laidOut (by kernel_rfl) (of_decide_eq_true (by kernel_rfl)) h0 bel lt0) (trodAll_cons_mk (Below.trod laidOut (by kernel_rfl) (of_decide_eq_true (by kernel_rfl)) h1 bel lt1) (trodAll_cons_mk (Below.trod laidOut (by kernel_rfl) (of_decide_eq_true (by kernel_rfl)) h2 bel lt2) trodAll_mk0))), rfl, bel.frame _, fun h => by cases h⟩

theorem over : Rows.bucketPartsRow.holds Try.pinned (OpenSpec.ofChange Rows.bucketPartsSpec) :=
  OpenClaim.holds_of_wide 4 Try.f4 rfl rfl rfl rfl rfl rfl rfl ⟨rfl, rfl, rfl, rfl, rfl⟩ rfl rfl rfl rfl rfl (by kernel_rfl) Try.func4 (by kernel_rfl)
    (of_decide_eq_true (by kernel_rfl)) (by unfold Func.isWrapper; first | (rw [if_pos (by decide +kernel)]; kernel_rfl) | (rw [if_neg (by decide +kernel)]; exact ⟨rfl, rfl⟩))
    (fun os started H enc _ => lifted os started H enc)
end bucketParts

theorem bucketParts_holds : Rows.BucketPartsSaid := bucketParts.over
end Go.Proofs.Ytdancegklkifaaa
