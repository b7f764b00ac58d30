/-
  Ranging over a map in memory: what was met, what is left. No program in sight.
-/
import Derived.Test.YtdancegklkifaaaXu
namespace Go.X.G
set_option linter.unusedSectionVars false
set_option linter.unusedSimpArgs false
set_option linter.unusedVariables false
variable {κ ν : Type} [DecidableEq κ]

def edone (es : List (Ent κ ν)) (seen : List Nat) : List (Ent κ ν) := es.filter fun e => seen.contains e.born
def eleft (es : List (Ent κ ν)) (seen : List Nat) : List (Ent κ ν) := es.filter fun e => !seen.contains e.born

theorem mleft_e (es : List (Ent κ ν)) (seen : List Nat) : mleft (es.map Ent.m) seen = (eleft es seen).map Ent.m := by
  unfold mleft eleft; rw [List.filter_map]; rfl
theorem edone_nil (es : List (Ent κ ν)) : edone es [] = [] := by simp [edone]
theorem edone_all {es : List (Ent κ ν)} {seen : List Nat} (h : eleft es seen = []) : edone es seen = es := by
  unfold edone eleft at *
  rw [List.filter_eq_nil_iff] at h
  rw [List.filter_eq_self]
  intro e he
  simpa using h e he

theorem estep {es : List (Ent κ ν)} {seen : List Nat} {e : Ent κ ν} (hn : (es.map (·.born)).Nodup) (he : e ∈ eleft es seen) : (edone es (seen ++ [e.born])).Perm (e :: edone es seen) ∧ (eleft es (seen ++ [e.born])).length < (eleft es seen).length := by
  induction es with
  | nil => cases he
  | cons x es ih =>
    simp only [List.map_cons, List.nodup_cons] at hn
    by_cases hxy : x.born = e.born
    · have hyx : e = x := by
        unfold eleft at he
        rw [List.mem_filter] at he
        rcases List.mem_cons.1 he.1 with h | h
        · exact h
        · exact absurd (hxy ▸ List.mem_map_of_mem h) hn.1
      subst hyx
      have hns : seen.contains e.born = false := by
        unfold eleft at he; rw [List.mem_filter] at he; simpa using he.2
      have hrest : ∀ z, z ∈ es → (seen ++ [e.born]).contains z.born = seen.contains z.born := by
        intro z hz
        have : z.born ≠ e.born := fun q => hn.1 (q ▸ List.mem_map_of_mem hz)
        simp [this]
      have e1 : edone es (seen ++ [e.born]) = edone es seen := List.filter_congr hrest
      have e2 : eleft es (seen ++ [e.born]) = eleft es seen := List.filter_congr fun z hz => by rw [hrest z hz]
      have h1 : (seen ++ [e.born]).contains e.born = true := by simp
      refine ⟨?_, ?_⟩
      · unfold edone at e1 ⊢; rw [List.filter_cons, List.filter_cons, h1, hns, if_pos rfl, e1]; simp
      · unfold eleft at e2 ⊢; rw [List.filter_cons, List.filter_cons, h1, hns, e2]; simp
    · have he' : e ∈ eleft es seen := by
        unfold eleft at he ⊢
        rw [List.mem_filter] at he ⊢
        rcases List.mem_cons.1 he.1 with h | h
        · exact absurd (by rw [h]) hxy
        · exact ⟨h, he.2⟩
      obtain ⟨i1, i2⟩ := ih hn.2 he'
      have hc : (seen ++ [e.born]).contains x.born = seen.contains x.born := by simp [hxy]
      unfold edone eleft at *
      rw [List.filter_cons, List.filter_cons, List.filter_cons, List.filter_cons, hc]
      cases seen.contains x.born with
      | true => exact ⟨by simp only [if_true]; exact (i1.cons x).trans (List.Perm.swap _ _ _), by simpa using i2⟩
      | false => exact ⟨by simpa using i1, by simpa using i2⟩

section ops
variable {P : Program} {L : Slots} {A D : List Assn} {ty : TypeId} {x : Operand} {enc : κ → Value} {S : List (κ × ν)} {es : List (Ent κ ν)} {c : Nat}

/-- A step of a range: over, or one that was not met. -/
theorem C.nextE {i j b r : Nat} {seen : List Nat} (hx : Ents S es c) (ex : ev L x = some (.pointer (some ⟨b, 0, none⟩))) (hA : A[i]? = some (pt b (miter r c seen))) (hM : A[j]? = some (pt r (mobj enc (es.map Ent.m) c))) :
    OpC P (.next x false) ty L A (fun u B => ∃ (t : Bool) (rest : List Value) (seen' : List Nat), u = .tuple (.bool t :: rest).toArray ∧ B = A.set i (pt b (miter r c seen')) ∧ ((t = false ∧ edone es seen = es ∧ seen' = seen) ∨ (t = true ∧ ∃ e, e ∈ eleft es seen ∧ seen' = seen ++ [e.born]))) := by
  refine (C.next1 (P := P) (ty := ty) ex hA hM ?_).shutTo ?_
  · intro e he
    obtain ⟨f, hf, rfl⟩ := List.mem_map.1 he
    exact hx.old f hf
  · rintro v B ⟨t, rest, seen', h1, h2, h3⟩
    refine ⟨B, ⟨t, rest, seen', h1, h2, ?_⟩, fun _ s => s⟩
    rcases h3 with ⟨a1, a2, a3⟩ | ⟨a1, e, a2, a3⟩
    · refine .inl ⟨a1, edone_all ?_, a3⟩
      rw [mleft_e] at a2
      simpa using a2
    · rw [mleft_e] at a2
      obtain ⟨f, hf, rfl⟩ := List.mem_map.1 a2
      exact .inr ⟨a1, f, hf, a3⟩

/-- The entry that the last step met. -/
theorem Q.entryE {i j b r : Nat} {seen : List Nat} {e : Ent κ ν} (hx : Ents S es c) (he : e ∈ eleft es seen) (ex : ev L x = some (.pointer (some ⟨b, 0, none⟩))) (hA : D[i]? = some (pt b (miter r c (seen ++ [e.born])))) (hM : D[j]? = some (pt r (mobj enc (es.map Ent.m) c))) :
    OpQ P (.entry x) ty L D (.tuple #[enc e.key, e.val]) := by
  have hm : e ∈ es := (List.mem_filter.1 he).1
  have hn : ((es.map Ent.m).map (·.born)).Nodup := by rw [List.map_map]; exact hx.born
  exact Q.entry (e := e.m) ex hA hM (List.mem_map_of_mem hm) hn
end ops
end Go.X.G
