/-
  Owned slices of structs: reading a field, writing one; parts of a slice; the order of byte strings. No program in sight.
-/
import Derived.Test.YtdancegklkifaaaXj
namespace Go.X
set_option linter.unusedSectionVars false
set_option linter.unusedSimpArgs false
set_option linter.unusedVariables false

/-! ### Structs in a row -/
theorem flat_length {α : Type} {c : α → List Value} {sz : Nat} (hc : ∀ x, (c x).length = sz) : ∀ l : List α, (l.flatMap c).length = l.length * sz
  | [] => by simp
  | x :: l => by simp [List.flatMap_cons, hc, flat_length hc l, Nat.add_mul, Nat.add_comm]

theorem flat_get {α : Type} {c : α → List Value} {sz : Nat} (hc : ∀ x, (c x).length = sz) : ∀ {l : List α} {i k : Nat} {x : α} {u : Value}, l[i]? = some x → (c x)[k]? = some u → (l.flatMap c)[i * sz + k]? = some u
  | [], _, _, _, _, h, _ => by simp at h
  | y :: l, 0, k, x, u, h, hu => by
    simp at h; subst h
    rw [List.flatMap_cons, Nat.zero_mul, Nat.zero_add, List.getElem?_append_left (List.getElem?_eq_some_iff.1 hu).1]; exact hu
  | y :: l, i + 1, k, x, u, h, hu => by
    rw [List.flatMap_cons, List.getElem?_append_right (by rw [hc, Nat.add_mul]; omega), hc, show (i + 1) * sz + k - sz = i * sz + k from by rw [Nat.add_mul]; omega]
    exact flat_get hc (by simpa using h) hu

theorem flat_take {α : Type} {c : α → List Value} {sz : Nat} (hc : ∀ x, (c x).length = sz) (l : List α) (i : Nat) : (l.flatMap c).take (i * sz) = (l.take i).flatMap c := by
  induction l generalizing i with
  | nil => simp
  | cons x l ih =>
    cases i with
    | zero => simp
    | succ i =>
      rw [List.flatMap_cons, List.take_succ_cons, List.flatMap_cons, List.take_append, hc, List.take_of_length_le (by rw [hc, Nat.add_mul]; omega), show (i + 1) * sz - sz = i * sz from by rw [Nat.add_mul]; omega, ih]
theorem flat_drop {α : Type} {c : α → List Value} {sz : Nat} (hc : ∀ x, (c x).length = sz) (l : List α) (i : Nat) : (l.flatMap c).drop (i * sz) = (l.drop i).flatMap c := by
  induction l generalizing i with
  | nil => simp
  | cons x l ih =>
    cases i with
    | zero => simp
    | succ i =>
      rw [List.flatMap_cons, List.drop_succ_cons, List.drop_append, hc, List.drop_of_length_le (by rw [hc, Nat.add_mul]; omega), show (i + 1) * sz - sz = i * sz from by rw [Nat.add_mul]; omega, ih]; simp

theorem flat_set {α : Type} {c : α → List Value} {sz : Nat} (hc : ∀ x, (c x).length = sz) (l : List α) (i : Nat) (x : α) (hi : i < l.length) : splice (l.flatMap c) (i * sz) (c x) = (l.set i x).flatMap c := by
  have hle : i * sz + sz ≤ l.length * sz := by rw [← Nat.succ_mul]; exact Nat.mul_le_mul_right sz hi
  rw [splice_eq _ _ _ (by rw [flat_length hc, hc]; exact hle), hc, ← Nat.succ_mul, flat_take hc, flat_drop hc, List.set_eq_take_append_cons_drop, if_pos hi, List.flatMap_append, List.flatMap_cons, List.append_assoc]

/-- A field of an element. -/
theorem rd_field {α : Type} {c : α → List Value} {sz : Nat} (hc : ∀ x, (c x).length = sz) {D : List Assn} {b off : Nat} {l : List α} (h : ReadsN D b off (l.flatMap c)) {i k : Nat} {x : α} {u : Value} (hx : l[i]? = some x) (hk : (c x)[k]? = some u)
    {o : Nat} (ho : o = off + (i * sz + k)) : Reads D b o u := by
  subst ho; exact h _ _ (flat_get hc hx hk)
/-- An element whole. -/
theorem rd_elem {α : Type} {c : α → List Value} {sz : Nat} (hc : ∀ x, (c x).length = sz) {D : List Assn} {b off : Nat} {l : List α} (h : ReadsN D b off (l.flatMap c)) {i : Nat} {x : α} (hx : l[i]? = some x)
    {o : Nat} (ho : o = off + i * sz) : ReadsN D b o (c x) := by
  subst ho
  intro k u hk
  have := h _ _ (flat_get hc hx hk)
  rwa [← Nat.add_assoc] at this

/-! ### Writing into an owned slice -/
theorem splice_get {xs vs : List Value} {j k : Nat} (h : j + vs.length ≤ xs.length) : (splice xs j vs)[k]? = if j ≤ k ∧ k < j + vs.length then vs[k - j]? else xs[k]? := by
  rw [splice_eq _ _ _ h, List.append_assoc]
  by_cases h1 : k < j
  · rw [List.getElem?_append_left (by simp; omega), if_neg (by omega), List.getElem?_take_of_lt h1]
  · rw [List.getElem?_append_right (by simp; omega)]
    have hm : min j xs.length = j := by omega
    simp only [List.length_take, hm]
    by_cases h2 : k < j + vs.length
    · rw [List.getElem?_append_left (by omega), if_pos (by omega)]
    · rw [List.getElem?_append_right (by omega), if_neg (by omega), List.getElem?_drop]; congr 1; omega

theorem Lies.ok.put {o : Lies} {sz : Nat} {v : Value} {xs vs : List Value} {j : Nat} (ho : o.ok sz v xs) (hj : j + vs.length ≤ xs.length) : Lies.ok { o with l := splice o.l (o.off + j) vs } sz v (splice xs j vs) := by
  have hf := ho.fits
  have hl := ho.len
  have hm : o.len * sz ≤ o.cap * sz := Nat.mul_le_mul_right sz ho.cap
  refine ⟨ho.val, by rw [splice_length]; exact hl, ho.cap, by rw [splice_length]; exact hf, ?_, by rw [splice_length]; exact ho.free⟩
  intro k u hk
  rw [splice_get hj] at hk
  show (splice o.l (o.off + j) vs)[o.off + k]? = some u
  rw [splice_get (by omega)]
  by_cases h : j ≤ k ∧ k < j + vs.length
  · rw [if_pos h] at hk; rw [if_pos (by omega), show o.off + k - (o.off + j) = k - j from by omega]; exact hk
  · rw [if_neg h] at hk; rw [if_neg (by omega)]; exact ho.get k u hk

section
variable {P : Program} {L : Slots} {A D : List Assn} {ty T : TypeId} {x y : Operand} {W0 : World}

theorem run_storeO {i E sz n c b off j : Nat} {xs vs : List Value} {w : World} (s : Sat W0 w A) (hA : A[i]? = some (own E sz (.slice (some ⟨b, off, none⟩) n c) xs)) (hj : j + vs.length ≤ xs.length) (hv : ∀ v, v ∈ vs → oneC v = true) :
    ∃ w', (storeCells ⟨b, off + j, none⟩ vs 0).run P w = .ok () w' ∧ Sat W0 w' (A.set i (own E sz (.slice (some ⟨b, off, none⟩) n c) (splice xs j vs))) := by
  have hi : i < A.length := (List.getElem?_eq_some_iff.1 hA).1
  obtain ⟨o, ho, hh⟩ := open_at (p := fun o : Lies => o.ok sz (.slice (some ⟨b, off, none⟩) n c) xs) (Y := fun o => pt o.b (.cells o.l.toArray E o.z)) s.heap hA (by
    rintro k (⟨e1, _⟩ | h)
    · cases e1
    · exact h)
  have hval := ho.val
  simp only [Value.slice.injEq, Option.some.injEq, Addr.mk.injEq] at hval
  obtain ⟨⟨rfl, rfl, _⟩, rfl, rfl⟩ := hval
  have hf := ho.fits
  have hl := ho.len
  have hm : o.len * sz ≤ o.cap * sz := Nat.mul_le_mul_right sz ho.cap
  obtain ⟨w', r, s2⟩ := run_storeCells (P := P) (i := i) (b := o.b) (off := o.off + j) (e := E) (z := o.z) vs o.l 0 w (A.set i (pt o.b (.cells o.l.toArray E o.z))) ⟨s.os, s.tape, s.out, hh⟩ (by simp [hi]) (by omega)
    (fun k hk => by rw [Nat.add_zero]; exact ho.free _ (by omega)) hv
  rw [List.set_set, Nat.add_zero] at s2
  refine ⟨w', r, ?_⟩
  have := set_imp (Y := own E sz (.slice (some ⟨o.b, o.off, none⟩) o.len o.cap) (splice xs j vs)) s2.heap (i := i) (X := pt o.b (.cells (splice o.l (o.off + j) vs).toArray E o.z)) (by simp [hi]) (fun k hk => .inr ⟨_, ho.put hj, hk⟩)
  rw [List.set_set] at this
  exact ⟨s2.os, s2.tape, s2.out, this⟩

/-- A struct into an owned slice. -/
theorem C.stON (i : Nat) {E sz n c b off j o : Nat} {xs vs : List Value} (hs : ∀ w, (sizeOf T).run P w = .ok vs.length w) (ex : ev L x = some (.pointer (some ⟨b, o, none⟩))) (ey : ev L y = some (.agg vs.toArray)) (hA : A[i]? = some (own E sz (.slice (some ⟨b, off, none⟩) n c) xs))
    (hoj : o = off + j) (hj : j + vs.length ≤ xs.length) (hv : ∀ v, v ∈ vs → oneC v = true) :
    OpC P (.store T x y) ty L A (fun u B => u = undef ∧ B = A.set i (own E sz (.slice (some ⟨b, off, none⟩) n c) (splice xs j vs))) := by
  subst hoj
  refine ⟨fun dst pos aft g a W0 w ag s K Q k => ?_⟩
  obtain ⟨w', r1, s1⟩ := run_storeO (P := P) s hA hj hv
  have hr : (execOp a.eval ⟨dst, .store T x y, ty, pos, aft, g⟩).run P w = .ok .skip w' := by
    simp [execOp, ag.at_ ex (by simp [Op.operands]), ag.at_ ey (by simp [Op.operands]), Instr.storeAt, Instr.sureAddr, storeVar, hs, Value.cells, r1]
  unfold Oper.wp
  rw [hr, Oper.upon_skip]
  exact k _ _ _ ⟨rfl, rfl⟩ s1

/-- One value into an owned slice. -/
theorem C.stO (i : Nat) {E sz n c b off j o : Nat} {xs : List Value} {v : Value} (hs : ∀ w, (sizeOf T).run P w = .ok 1 w) (ex : ev L x = some (.pointer (some ⟨b, o, none⟩))) (ey : ev L y = some v) (hv : oneC v = true) (hA : A[i]? = some (own E sz (.slice (some ⟨b, off, none⟩) n c) xs))
    (hoj : o = off + j) (hj : j + 1 ≤ xs.length) :
    OpC P (.store T x y) ty L A (fun u B => u = undef ∧ B = A.set i (own E sz (.slice (some ⟨b, off, none⟩) n c) (xs.set j v))) := by
  subst hoj
  refine ⟨fun dst pos aft g a W0 w ag s K Q k => ?_⟩
  obtain ⟨w', r1, s1⟩ := run_storeO (P := P) (vs := [v]) s hA hj (by simpa using hv)
  have hc : v.cells = #[v] := by cases v <;> first | rfl | simp [oneC] at hv
  have hr : (execOp a.eval ⟨dst, .store T x y, ty, pos, aft, g⟩).run P w = .ok .skip w' := by
    simp [execOp, ag.at_ ex (by simp [Op.operands]), ag.at_ ey (by simp [Op.operands]), Instr.storeAt, Instr.sureAddr, storeVar, hs, hc, r1]
  unfold Oper.wp
  rw [hr, Oper.upon_skip]
  exact k _ _ _ ⟨rfl, rfl⟩ s1

/-! ### Parts of a slice -/
/-- 's[lo:]' -/
theorem slL_ {E n c sz lo : Nat} {p : Option Addr} {xs : List Value} (hu : ∀ w, (underlying T).run P w = .ok (.slice E) w) (hs : ∀ w, (sizeOf E).run P w = .ok sz w) (h : SlR D sz (.slice p n c) xs) (hlo : lo ≤ n) (hnc : n ≤ c) :
    ∃ p' c', (∀ (L : Slots) (A : List Assn) (ty : TypeId) (x l : Operand) (k : IntKind), ev L x = some (.slice p n c) → ev L l = some (.int k lo) → OpQ P (.slice T x (some l) none none) ty L A (.slice p' (n - lo) c')) ∧ SlR D sz (.slice p' (n - lo) c') (xs.drop (lo * sz)) := by
  rcases h with ⟨p', c', e, rfl⟩ | ⟨b, off, len, cap, e, hl, hr⟩
  · simp only [Value.slice.injEq] at e
    obtain ⟨rfl, rfl, rfl⟩ := e
    have : lo = 0 := by omega
    subst this
    refine ⟨p, c, fun L A ty x l k ex el => .pure_ fun _ _ _ _ a w ag => ?_, .inl ⟨p, c, rfl, by simp⟩⟩
    have e1 := ag.at_ ex (by simp [Op.operands])
    have e2 := ag.at_ el (by simp [Op.operands])
    cases p <;> simp [execOp, e1, e2, Instr.sliceAt, Instr.slice, hu, Instr.sliceBounds, Instr.sliceBound, asIntOf, hs, Addr.add]
  · simp only [Value.slice.injEq] at e
    obtain ⟨rfl, rfl, rfl⟩ := e
    refine ⟨some ⟨b, off + (if c = (lo : Int).toNat then 0 else (lo : Int).toNat) * sz, none⟩, c - (lo : Int).toNat, fun L A ty x l k ex el => Q.slL hu hs ex el (by omega) (by omega), .inr ⟨_, _, _, _, rfl, ?_, ?_⟩⟩
    · rw [List.length_drop, hl, Nat.sub_mul]
    · intro i u hi
      rw [List.getElem?_drop] at hi
      have hlt := (List.getElem?_eq_some_iff.1 hi).1
      by_cases hc : c = lo
      · subst hc
        -- then nothing is left, or the slice is as long as its room
        rw [hl] at hlt
        have hcn : c = n := by omega
        subst hcn
        omega
      · rw [if_neg (by simpa using hc)]
        have := hr _ _ hi
        simpa [Nat.add_assoc] using this

/-- 's[:hi]' -/
theorem slH_ {E n c sz hi : Nat} {p : Option Addr} {xs : List Value} (hu : ∀ w, (underlying T).run P w = .ok (.slice E) w) (hs : ∀ w, (sizeOf E).run P w = .ok sz w) (h : SlR D sz (.slice p n c) xs) (hhi : hi ≤ n) (hc : n ≤ c) :
    (∀ (L : Slots) (A : List Assn) (ty : TypeId) (x l : Operand) (k : IntKind), ev L x = some (.slice p n c) → ev L l = some (.int k hi) → OpQ P (.slice T x none (some l) none) ty L A (.slice p hi c)) ∧ SlR D sz (.slice p hi c) (xs.take (hi * sz)) := by
  refine ⟨fun L A ty x l k ex el => ?_, ?_⟩
  · have := Q.slH (P := P) (T := T) (D := A) (ty := ty) hu hs ex el (by omega) (by omega)
    simpa using this
  · rcases h with ⟨p', c', e, rfl⟩ | ⟨b, off, len, cap, e, hl, hr⟩
    · simp only [Value.slice.injEq] at e
      obtain ⟨rfl, rfl, rfl⟩ := e
      have : hi = 0 := by omega
      subst this
      exact .inl ⟨p, c, rfl, by simp⟩
    · simp only [Value.slice.injEq] at e
      obtain ⟨rfl, rfl, rfl⟩ := e
      have hm : hi * sz ≤ n * sz := Nat.mul_le_mul_right sz hhi
      refine .inr ⟨b, off, hi, c, rfl, by rw [List.length_take]; omega, ?_⟩
      intro i u hi'
      have hlt := (List.getElem?_eq_some_iff.1 hi').1
      rw [List.length_take] at hlt
      rw [List.getElem?_take_of_lt (by omega)] at hi'
      exact hr i u hi'
end

/-! ### The order of byte strings -/
theorem less_iff (a b : List UInt8) : Op.bytesLess a b = true ↔ a < b := by
  induction a generalizing b with
  | nil => cases b <;> simp [Op.bytesLess]
  | cons x a ih =>
    cases b with
    | nil => simp [Op.bytesLess]
    | cons y b =>
      simp only [Op.bytesLess, List.cons_lt_cons_iff, Bool.or_eq_true, Bool.and_eq_true, decide_eq_true_eq, beq_iff_eq, ih]
end Go.X
