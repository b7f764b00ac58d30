/-
  From a contract to the row's statement: old memory as an assertion; arguments out of it. No program in sight.
-/
import Derived.Test.YtdancegklkifaaaXj
import Derived.ProofKit
import Derived.OpenShut
import Derived.ShutString
import Derived.ChangeOld
import Derived.Below
import Derived.WideShapes
namespace Go.X
set_option linter.unusedSectionVars false
set_option linter.unusedSimpArgs false
set_option linter.unusedVariables false
open Go.RowKit Go.WideShapes Go.ChangeShapes

/-- The memory of a world, all of it. -/
def old (W : World) : Assn := fun h => ∀ b o, W.heap[b]? = some o → h b = some o

theorem old_start (W : World) : Sat W W ([old W] ++ [fact True]) := by
  refine ⟨rfl, rfl, rfl, ?_⟩
  refine ⟨hp W, fun _ => none, fun b o e => e, ⟨fun _ => none, fun _ => none, ?_, trivial, fun _ => .inl rfl, Sub.refl _, Sub.refl _⟩, fun _ => .inr rfl, Sub.refl _, fun _ _ e => nomatch e⟩
  exact trivial

theorem old_below {W w : World} {F : Assn} (s : Sat W w ([old W] ++ [F])) : Below W.heap.size W w := by
  have hg : ∀ (b : Nat) (o : Obj), W.heap[b]? = some o → w.heap[b]? = some o := by
    obtain ⟨h1, _, a, _, _, u, _⟩ := s.heap
    exact fun b o e => u b o (a b o e)
  have hs : W.heap.size ≤ w.heap.size := by
    rcases Nat.eq_zero_or_pos W.heap.size with h | h
    · omega
    · have h1 := hg (W.heap.size - 1) _ (Array.getElem?_eq_getElem (by omega))
      have := (Array.getElem?_eq_some_iff.1 h1).1
      omega
  refine ⟨s.os, s.tape, s.out, hs, fun k hk => ?_⟩
  rw [hg k _ (Array.getElem?_eq_getElem hk), Array.getElem?_eq_getElem hk]

theorem FSpec.lift {P : Program} {f : FuncId} {args : List Value} {u : Value} {W : World} (h : FSpec P f args [old W] (fun v B => v = u ∧ B = [old W])) :
    Calls P f args.toArray W fun e w' => e = .returned u ∧ Below W.heap.size W w' :=
  (h.call W W (fact True) (old_start W)).mono fun e w' ⟨v, A, he, ⟨hv, hA⟩, s⟩ => by
    subst hv hA; exact ⟨he, old_below s⟩

theorem old_reads {W : World} {b off : Nat} {v : Value} (h : W.cell? ⟨b, off, none⟩ = some v) : Reads [old W] b off v := by
  intro k s
  obtain ⟨h1, _, a, _, _, u, _⟩ := s
  simp only [World.cell?] at h
  split at h
  · rename_i c e z hb
    simp at h
    exact ⟨c, e, z, u _ _ (a _ _ hb), h⟩
  · cases h

/-- A slice that came in: nil, or with a plain address. -/
theorem okWide_slice_plain {P : Program} {w : World} {r : Reach} {base : Nat} {t e : TypeId} {v : Value} (ht : P.underlying t = some (.slice e)) (h : Value.okWide P w r base t v) :
    v = .slice none 0 0 ∨ ∃ b off len cap, v = .slice (some ⟨b, off, none⟩) len cap := by
  simp only [Value.okWide, ht, Cell.okWide] at h
  cases v <;> try simp_all [Cell.ok]
  rename_i a len cap
  cases a with
  | none =>
    cases len with
    | zero => cases cap with
      | zero => exact .inl ⟨rfl, rfl, rfl⟩
      | succ n => simp_all [Cell.ok]
    | succ n => simp_all [Cell.ok]
  | some a =>
    right
    simp_all [Cell.ok, World.has]
    obtain ⟨b, off, spot⟩ := a
    simp_all

/-- What is known of a slice of integers that came in. -/
def IntsIn (k : IntKind) (W : World) (v : Value) (len : Nat) (zs : List Int) : Prop :=
  ∃ p cap, v = .slice p len cap ∧ len ≤ maxLen ∧ zs.length = len ∧ SlR [old W] 1 v (zs.map (Value.int k)) ∧ ∀ n ∈ zs, k.min ≤ n ∧ n ≤ k.max

theorem wf_has {k : IntKind} {n : Int} (h : (Lit.int k n).wf = true) : k.min ≤ n ∧ n ≤ k.max := by
  simpa [Lit.wf] using h

theorem intsIn {P : Program} {H : Type} {enc : TypeId × Value → H} {W : World} {base base' : Nat} {r : Reach} {t e : TypeId} {k : IntKind} {v : Value} {held : Bool} {spare : Nat → Bool} {d : DataW H} {p : List MemPlace}
    (ht : P.underlying t = some (.slice e)) (he : P.underlying e = some (.int k)) (hc : P.cellsOf e = 1) (hok : Value.okWide P W r base' t v)
    (h : DataW.Trod enc P W base spare held t v d p) : ∃ len zs, IntsIn k W v len zs := by
  obtain ⟨fuel, hf⟩ := h
  have hpl := okWide_slice_plain ht hok
  rcases open_ints ht he hc (by simpa using hf) with ⟨hcs, _⟩ | ⟨x, l, c, zs, hcs, _, hl, hm, hz, _, hcell, hwz⟩
  · refine ⟨0, [], none, 0, ?_, Nat.zero_le _, rfl, ?_, by simp⟩
    · rcases hpl with rfl | ⟨b, off, len, cap, rfl⟩
      · rfl
      · simp [Value.cells] at hcs
    · rcases hpl with rfl | ⟨b, off, len, cap, rfl⟩
      · exact .inl ⟨none, 0, rfl, rfl⟩
      · simp [Value.cells] at hcs
  · rcases hpl with rfl | ⟨b, off, len, cap, rfl⟩
    · simp [Value.cells] at hcs
    · simp [Value.cells] at hcs
      obtain ⟨rfl, rfl, rfl⟩ := hcs
      have hlz : len ≤ zs.length := by rw [hz]; split <;> omega
      refine ⟨len, zs.take len, _, _, rfl, by omega, by simp; omega, ?_, fun n hn => wf_has (hwz n (List.mem_of_mem_take hn))⟩
      refine .inr ⟨b, off, len, cap, rfl, by simp; omega, ?_⟩
      intro i u hu
      refine old_reads ?_
      have hi : i < len := by
        have := (List.getElem?_eq_some_iff.1 hu).1
        simp at this; omega
      have := hcell i (by omega)
      rw [addr_add] at this
      rw [this]
      simp [hi] at hu
      obtain ⟨n, hn, rfl⟩ := hu
      simp [List.getD, hn]

end Go.X
