/-
  A row of ops that came in, and a text: what their reading and its bulk tell.
-/
import Derived.Test.YtdancegklkifaaaBktFew
namespace Go.Proofs.Ytdancegklkifaaa
set_option linter.unusedSectionVars false
set_option linter.unusedSimpArgs false
set_option linter.unusedVariables false
open Go.RowKit
open Go.X

section
variable {H : Type} {enc : TypeId × Value → H} {W : World} {base : Nat} {spare : Nat → Bool} {held : Bool} {v : Value}
theorem ops_all : ∀ (es : List (DataW H × List MemPlace)) (css : List (List Value)), css.length = es.length → (∀ (i : Nat) cs, css[i]? = some cs → ∃ n, DataW.trod enc Try.prog W base spare held n 26 cs = es[i]?) →
    ∃ l : List OW, css = l.map OW.cells ∧ (∀ x, x ∈ l → x.ok (old W)) ∧ bulks l ≤ Rows.uptoBulkAll (es.map (·.1))
  | [], css, h, _ => by
    obtain rfl : css = [] := List.eq_nil_of_length_eq_zero h
    exact ⟨[], rfl, by simp, by simp [bulks]⟩
  | e :: es, [], h, _ => by simp at h
  | e :: es, cs :: css, h, hg => by
    obtain ⟨n, h0⟩ := hg 0 cs rfl
    obtain ⟨y, rfl, hy, hb⟩ := op_in (x := e) h0
    obtain ⟨l, rfl, hl, hbl⟩ := ops_all es css (by simpa using h) fun i c hc => hg (i + 1) c hc
    refine ⟨y :: l, rfl, fun x hx => ?_, ?_⟩
    · cases List.mem_cons.1 hx with
      | inl e => rw [e]; exact hy
      | inr e => exact hl x e
    · simp only [bulks, List.map_cons, List.sum_cons, Rows.uptoBulkAll] at hbl ⊢
      omega

theorem ops_in {d : DataW H} {ps : List MemPlace} {a0 : Option Addr} {ln lc : Nat} (h : DataW.Trod enc Try.prog W base spare held 45 (.slice a0 ln lc) d ps) (hb : Rows.uptoBulk d ≤ 1048576) : ∃ l, Ops (old W) a0 ln lc l ∧ bulks l ≤ 1048576 := by
  obtain ⟨fuel, hf⟩ := h
  rcases elems_in (x := (d, ps)) Try.underlying45 cellsOp hf with ⟨e, _⟩ | ⟨a, len, cap, n, es, rs, css, e, hl, hx, hle, hcl, hcs⟩
  · cases e
    exact ⟨[], ⟨.inl ⟨none, 0, rfl, rfl⟩, by simp, by simp⟩, by simp [bulks]⟩
  · cases e
    dsimp only at hx
    rw [hx] at hb
    simp only [Rows.uptoBulk] at hb
    have hbl := bulk_len (es.map (·.1))
    rw [List.length_map, hle] at hbl
    obtain ⟨l, rfl, hok, hbk⟩ := ops_all (enc := enc) (W := W) (base := base) (spare := spare) (held := held) es css (by omega) fun i cs hc => ⟨n, (hcs i cs hc).2.2⟩
    have hll : l.length = ln := by rw [← hcl, List.length_map]
    refine ⟨l, ⟨slr_old (by rw [flat_length OW.cells_length, hll]) ?_ (by omega), hok, by omega⟩, by omega⟩
    intro k u hu
    have hk : k < l.length * 9 := by
      have := (List.getElem?_eq_some_iff.1 hu).1
      rwa [flat_length OW.cells_length] at this
    obtain ⟨y, hy⟩ : ∃ y, l[k / 9]? = some y := ⟨_, List.getElem?_eq_getElem (by omega)⟩
    obtain ⟨u', hu'⟩ : ∃ u', y.cells[k % 9]? = some u' := ⟨_, List.getElem?_eq_getElem (by rw [OW.cells_length]; omega)⟩
    have hfl := flat_get OW.cells_length hy hu'
    rw [show k / 9 * 9 + k % 9 = k from by omega, hu] at hfl
    cases hfl
    obtain ⟨_, h2, _⟩ := hcs (k / 9) y.cells (by rw [List.getElem?_map, hy]; rfl)
    have := h2 _ u hu'
    rwa [show k / 9 * 9 + k % 9 = k from by omega] at this
end
end Go.Proofs.Ytdancegklkifaaa
