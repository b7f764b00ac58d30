/-
  '[]T{..}' with each element given. No program in sight.
-/
import Derived.Test.YtdancegklkifaaaXi
namespace Go.X
set_option linter.unusedSectionVars false
set_option linter.unusedSimpArgs false
set_option linter.unusedVariables false

theorem foldl_set : ∀ (vs : List Value) (k : Nat) (off : Nat) (cs : Array Value), ((vs.zipIdx k).foldl (fun (cs : Array Value) (p : Value × Nat) => cs.setIfInBounds (off + p.2) p.1) cs).toList = splice cs.toList (off + k) vs
  | [], k, off, cs => rfl
  | v :: vs, k, off, cs => by
    simp only [List.zipIdx_cons, List.foldl_cons]
    rw [foldl_set vs (k + 1) off, splice, Array.toList_setIfInBounds, Nat.add_assoc]

theorem fill_run (sz : Nat) : ∀ (vs : List Value) (k : Nat) (cs : Array Value), (∀ v, v ∈ vs → v.cells.size = sz) → cs.size = (k + vs.length) * sz →
    Instr.fill (fun i => some (i * sz, sz)) cs ((List.range' k vs.length).zip vs) = some (cs.toList.take (k * sz) ++ vs.flatMap fun v => v.cells.toList).toArray
  | [], k, cs, _, h => by
    simp only [List.length_nil, Nat.add_zero] at h
    have : cs.toList.take (k * sz) = cs.toList := List.take_of_length_le (by simp [h])
    simp [Instr.fill, this]
  | v :: vs, k, cs, hv, h => by
    have hs := hv v (by simp)
    simp only [List.length_cons] at h
    have hle : k * sz + v.cells.size ≤ cs.size := by
      rw [h, hs, ← Nat.succ_mul]; exact Nat.mul_le_mul_right sz (by omega)
    simp only [List.length_cons, List.range'_succ, List.zip_cons_cons, Instr.fill]
    have c1 : (decide (v.cells.size ≠ sz) || decide (k * sz + v.cells.size > cs.size)) = false := by
      simp [hs]; omega
    rw [if_neg (by simp only [Bool.or_eq_true, decide_eq_true_eq]; omega)]
    have hfold : (Array.foldl (fun (cs : Array Value) (x : Value × Nat) => cs.setIfInBounds (k * sz + x.2) x.1) cs v.cells.zipIdx) = (splice cs.toList (k * sz) v.cells.toList).toArray := by
      apply Array.ext'
      rw [← Array.foldl_toList, Array.toList_zipIdx]
      exact foldl_set v.cells.toList 0 (k * sz) cs
    have hfold' : (Array.foldl (fun (cs : Array Value) (x : Value × Nat) => match x with | (c, j) => cs.setIfInBounds (k * sz + j) c) cs v.cells.zipIdx) = (splice cs.toList (k * sz) v.cells.toList).toArray := hfold
    rw [hfold', fill_run sz vs (k + 1) _ (fun u hu => hv u (by simp [hu])) (by rw [List.size_toArray, splice_length, Array.length_toList, h]; congr 1; omega)]
    congr 2
    simp only [List.flatMap_cons]
    rw [← List.append_assoc]
    congr 1
    rw [splice_eq _ _ _ (by simp; omega), Nat.succ_mul, List.take_append_of_le_length (by simp; omega)]
    rw [List.take_of_length_le (by simp; omega)]

section
variable {P : Program} {L : Slots} {A : List Assn} {ty T : TypeId}
/-- '[]T{..}', each element given. -/
theorem C.bslG {E sz len : Nat} {zv : Value} {ps : List (Nat × Operand)} {vs l : List Value} (hu : ∀ w, (underlying T).run P w = .ok (.slice E) w) (hs : ∀ w, (sizeOf E).run P w = .ok sz w) (hz : ∀ w, (zeroValue E).run P w = .ok zv w)
    (hm : len * sz ≤ 16777216) (ev_ : evs L (ps.map (·.2)) = some vs) (hi : ps.map (·.1) = List.range' 0 len) (hn : vs.length = len) (hv : vs.all (fun v => Nat.beq v.cells.size sz) = true) (hl : vs.flatMap (fun v => v.cells.toList) = l) :
    OpC P (.buildSlice T len ps.toArray) ty L A (fun u B => ∃ b, u = .slice (some ⟨b, 0, none⟩) len len ∧ B = pt b (.cells l.toArray E (0, 0)) :: A) := by
  refine C.bsl hu hs hz hm ev_ ?_
  subst hn
  rw [hi, fill_run sz vs 0 _ ?_ ?_, ← hl]
  · simp
  · intro v hv'
    rw [List.all_eq_true] at hv
    exact (beq_iff _ _).1 (hv v hv')
  · simp
end
end Go.X
