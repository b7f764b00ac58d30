/-
  Slices that are read out of a world: of numbers, of strings; within a struct too. No program in sight.
-/
import Derived.Test.YtdancegklkifaaaXl
import Derived.Test.YtdancegklkifaaaXm
import Derived.ChangeArms
namespace Go.X
set_option linter.unusedSectionVars false
set_option linter.unusedSimpArgs false
set_option linter.unusedVariables false
open Go.RowKit Go.WideShapes Go.ChangeShapes

section
variable {P : Program} {H : Type} {enc : TypeId × Value → H} {W : World} {base : Nat} {spare : Nat → Bool} {held : Bool} {fuel : Nat} {t e : TypeId} {v : Value} {x : DataW H × List MemPlace}

theorem cell_plain {a : Addr} {u : Value} (h : W.cell? a = some u) : ∃ b off, a = ⟨b, off, none⟩ := by
  have := World.cell?_spot h
  obtain ⟨b, off, s⟩ := a
  simp only at this; subst this; exact ⟨b, off, rfl⟩

theorem add_add (a : Addr) (m j : Nat) : (a.add m).add j = a.add (m + j) := by
  unfold Addr.add
  by_cases h1 : m = 0
  · subst h1; simp
  · by_cases h2 : j = 0
    · subst h2; simp
    · rw [if_neg h1, if_neg h2, if_neg (by omega)]; simp [Nat.add_assoc]

theorem cells_get {a : Addr} {n : Nat} {cs : List Value} (h : W.cells? base a n = some cs) : cs.length = n ∧ ∀ (i : Nat) u, cs[i]? = some u → W.cell? (a.add i) = some u := by
  unfold World.cells? at h
  split at h
  · have h1 := mapM_some_length h
    simp only [List.length_range] at h1
    refine ⟨h1, fun i u hu => ?_⟩
    have hi : i < n := by have := (List.getElem?_eq_some_iff.1 hu).1; omega
    have := mapM_some_get h i i (by simp [hi])
    rw [this]; exact hu
  · cases h

/-- A slice of cells as they lie in memory. -/
theorem slr_old {a : Addr} {len cap sz : Nat} {xs : List Value} (hl : xs.length = len * sz) (h : ∀ (i : Nat) u, xs[i]? = some u → W.cell? (a.add i) = some u) (hsz : 0 < sz) : SlR [old W] sz (.slice (some a) len cap) xs := by
  rcases Nat.eq_zero_or_pos len with h0 | h0
  · subst h0
    exact .inl ⟨some a, cap, rfl, by simpa using hl⟩
  · have hpos : 0 < xs.length := by rw [hl]; exact Nat.mul_pos h0 hsz
    obtain ⟨u, hu⟩ : ∃ u, xs[0]? = some u := ⟨_, List.getElem?_eq_getElem hpos⟩
    have h1 := h 0 u hu
    rw [show a.add 0 = a from rfl] at h1
    obtain ⟨b, off, rfl⟩ := cell_plain h1
    refine .inr ⟨b, off, len, cap, rfl, hl, fun i w hw => old_reads ?_⟩
    have := h i w hw
    rwa [addr_add] at this

theorem ints_in {k : IntKind} (ht : P.underlying t = some (.slice e)) (he : P.underlying e = some (.int k)) (hc : P.cellsOf e = 1) (h : DataW.trod enc P W base spare held fuel t [v] = some x) :
    ∃ p len cap, ∃ zs : List Int, v = .slice p len cap ∧ len ≤ cap ∧ zs.length = len ∧ SlR [old W] 1 v (zs.map (Value.int k)) ∧ (∀ n ∈ zs, k.min ≤ n ∧ n ≤ k.max) ∧ (x.1 = .nil ∧ len = 0 ∨ ∃ es rs, x.1 = .slice es rs ∧ es.length = len) := by
  rcases open_ints ht he hc h with ⟨hcs, rfl⟩ | ⟨a, len, cap, zs, hcs, _, hl, hm, hz, rfl, hcell, hwz⟩
  · simp at hcs
    subst hcs
    exact ⟨none, 0, 0, [], rfl, Nat.le_refl _, rfl, .inl ⟨none, 0, rfl, rfl⟩, by simp, .inl ⟨rfl, rfl⟩⟩
  · simp at hcs
    subst hcs
    have hlz : len ≤ zs.length := by rw [hz]; split <;> omega
    refine ⟨some a, len, cap, zs.take len, rfl, hl, by simp; omega, slr_old (by simp; omega) ?_ (by omega), fun n hn => wf_has (hwz n (List.mem_of_mem_take hn)), .inr ⟨_, _, rfl, by simp [lits]; omega⟩⟩
    intro i u hu
    have hi : i < len := by
      have := (List.getElem?_eq_some_iff.1 hu).1
      simp at this; omega
    rw [hcell i (by omega)]
    simp [hi] at hu
    obtain ⟨n, hn, rfl⟩ := hu
    simp [List.getD, hn]

/-- A slice of elements of whatever kind: the cells of each, and how each reads. -/
theorem elems_in {sz : Nat} (ht : P.underlying t = some (.slice e)) (hc : P.cellsOf e = sz) (h : DataW.trod enc P W base spare held fuel t [v] = some x) :
    (v = .slice none 0 0 ∧ x.1 = .nil) ∨ ∃ a len cap n, ∃ es : List (DataW H × List MemPlace), ∃ rs : List (DataW H), ∃ css : List (List Value), v = .slice (some a) len cap ∧ len ≤ cap ∧ x.1 = .slice (es.map (·.1)) rs ∧ es.length = len ∧ css.length = len ∧
      (∀ (i : Nat) cs, css[i]? = some cs → cs.length = sz ∧ (∀ (j : Nat) u, cs[j]? = some u → W.cell? (a.add (i * sz + j)) = some u) ∧ DataW.trod enc P W base spare held n e cs = es[i]?) := by
  rcases DataW.trod_slice ht h with ⟨hcs, rfl⟩ | ⟨a, len, cap, es, rs, n, rfl, hcs, rfl, hb, hl, hm, hle, hel, _, _⟩
  · simp at hcs; exact .inl ⟨hcs, rfl⟩
  · simp at hcs
    right
    have hx : ∀ i, i < len → ∃ cs, W.cells? base (a.add (i * sz)) sz = some cs ∧ DataW.trod enc P W base spare held n e cs = es[i]? := by
      intro i hi
      have := hel i hi
      rw [hc] at this
      obtain ⟨y, hy⟩ : ∃ y, es[i]? = some y := ⟨_, List.getElem?_eq_getElem (by omega)⟩
      rw [hy, Option.bind_eq_some_iff] at this
      obtain ⟨cs, h1, h2⟩ := this
      exact ⟨cs, h1, by rw [h2, hy]⟩
    obtain ⟨css, hcl, hcss⟩ : ∃ css : List (List Value), css.length = len ∧ ∀ (i : Nat) cs, css[i]? = some cs → W.cells? base (a.add (i * sz)) sz = some cs ∧ DataW.trod enc P W base spare held n e cs = es[i]? := by
      refine ⟨(List.range len).attach.map fun ⟨i, hi⟩ => Classical.choose (hx i (by simpa using hi)), by simp, fun i cs hi => ?_⟩
      simp only [List.getElem?_map, Option.map_eq_some_iff] at hi
      obtain ⟨⟨j, hj⟩, h1, rfl⟩ := hi
      have hji : j = i := by
        have := congrArg (Option.map Subtype.val) h1
        simp only [← List.getElem?_map, List.attach_map_subtype_val, Option.map_some] at this
        have hr := (List.getElem?_eq_some_iff.1 this).2
        simpa using hr.symm
      subst hji
      exact Classical.choose_spec (hx j (by simpa using hj))
    refine ⟨a, len, cap, n, es, rs.map (·.1), css, hcs, hl, rfl, hle, hcl, fun i cs hi => ?_⟩
    obtain ⟨h1, h2⟩ := hcss i cs hi
    obtain ⟨g1, g2⟩ := cells_get h1
    refine ⟨g1, fun j u hu => ?_, h2⟩
    have := g2 j u hu
    rw [← this, add_add]
end
end Go.X
