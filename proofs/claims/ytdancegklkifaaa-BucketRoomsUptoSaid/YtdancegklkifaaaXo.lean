/-
  A region of open order where a part of memory is no concern of those that leave memory as it is. No program in sight.
-/
import Derived.Test.YtdancegklkifaaaXn
namespace Go.X
set_option linter.unusedSectionVars false
set_option linter.unusedSimpArgs false
set_option linter.unusedVariables false

section
variable {P : Program} {W0 : World} {N : Nat} {l : List Oper} {NQ : List Nat} {Q : Exit → Act → World → Prop} {S : List Nat} {L : Slots} {D E A : List Assn}

theorem J.drawE (NQ : List Nat) (k : Nat) {id : Nat} (hm : P.follows .mixedOrders = true) (hR : regOK l NQ = true) (hD : normA (A.take k) = some D) (hE : normA (A.drop k) = some E) (h : RegOK l NQ → RG P W0 N l NQ Q [] L D E) : J W0 N L A ((Code.region id l.toArray true).wp P Q) := by
  refine ⟨fun a w f s => wp_region_any hm ?_⟩
  have hA : A = D ++ E := by rw [← normA_eq hD, ← normA_eq hE, List.take_append_drop]
  have hl : ∀ i, (Array.replicate l.toArray.size false).getD i false = false := fun i => getD_replicate_false _ i
  refine (h (regOK_spec hR)).run _ _ a _ ⟨by simp, f.size, f.defers, ⟨s.os, s.tape, s.out, by rw [← hA]; exact s.heap⟩, ?_, ?_, ?_, fun s v e _ => f.get s v e, ?_⟩ ?_
  · intro i hi; rw [hl] at hi; cases hi
  · intro i o _ hi; rw [hl] at hi; cases hi
  · intro i o _ hi; cases hi
  · intro i hi; cases hi
  · unfold unl
    exact Nat.le_trans (List.length_filter_le _ _) (by simp)
end
end Go.X
namespace Go.X
theorem FSpec.conv {P : Program} {f : FuncId} {args : List Value} {A A' : List Assn} {R R' : Value → List Assn → Prop} (h : FSpec P f args A' R') (pre : ∀ k, HSat k A → HSat k A') (post : ∀ v B', R' v B' → ∃ B, R v B ∧ ∀ k, HSat k B' → HSat k B) : FSpec P f args A R := by
  have key : ∀ {A A' : List Assn} {F : Assn}, (∀ k, HSat k A → HSat k A') → ∀ k, HSat k (A ++ [F]) → HSat k (A' ++ [F]) := by
    intro A A' F g k s
    obtain ⟨h1, h2, a, b, d, u, v⟩ := s.append
    exact HSat.of_append (g h1 a) b d u v
  refine ⟨fun W0 w F s => (h.call W0 w F (s.imp (key pre))).mono ?_⟩
  rintro e w' ⟨v, B', rfl, r, s'⟩
  obtain ⟨B, rB, g⟩ := post v B' r
  exact ⟨v, B, rfl, rB, s'.imp (key g)⟩

theorem HSat.star2 {h : Hp} {X Y Z : Assn} (s : HSat h [X, Y, Z]) : HSat h [X, star [Y, Z]] := HSat.under s fun _ s => HSat.pack (As := [Y, Z]) (Bs := []) s
theorem HSat.unstar2 {h : Hp} {X Y Z : Assn} (s : HSat h [X, star [Y, Z]]) : HSat h [X, Y, Z] := HSat.under s fun _ s => HSat.unpack (As := [Y, Z]) (Bs := []) s
end Go.X
