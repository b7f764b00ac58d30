/-
  Rules for operations that write or make memory. No program in sight.
-/
import Derived.Test.YtdancegklkifaaaXc
namespace Go.X
set_option linter.unusedSectionVars false
set_option linter.unusedSimpArgs false
set_option linter.unusedVariables false

/-! ### Lists brought into their plain form -/
def setA : Nat → Assn → List Assn → Option (List Assn)
  | _, _, [] => none
  | 0, x, _ :: l => match normA l with | some r => some (x :: r) | none => none
  | i + 1, x, a :: l => match setA i x l with | some r => some (a :: r) | none => none
theorem setA_eq : ∀ {i : Nat} {x : Assn} {l m : List Assn}, setA i x l = some m → l.set i x = m
  | _, _, [], _, e => by simp [setA] at e
  | 0, x, a :: l, m, e => by
    simp only [setA] at e
    split at e
    · rename_i r hr
      simp only [Option.some.injEq] at e
      rw [← e, normA_eq hr]; rfl
    · cases e
  | i + 1, x, a :: l, m, e => by
    simp only [setA] at e
    split at e
    · rename_i r hr
      simp only [Option.some.injEq] at e
      rw [← e, List.set_cons_succ, setA_eq hr]
    · cases e
def setV : Nat → Value → List Value → Option (List Value)
  | _, _, [] => none
  | 0, x, _ :: l => some (x :: l)
  | i + 1, x, a :: l => match setV i x l with | some r => some (a :: r) | none => none
theorem setV_eq : ∀ {i : Nat} {x : Value} {l m : List Value}, setV i x l = some m → i < l.length ∧ l.set i x = m
  | _, _, [], _, e => by simp [setV] at e
  | 0, x, a :: l, m, e => by simp only [setV, Option.some.injEq] at e; exact ⟨by simp, by rw [← e]; rfl⟩
  | i + 1, x, a :: l, m, e => by
    simp only [setV] at e
    split at e
    · rename_i r hr
      simp only [Option.some.injEq] at e
      obtain ⟨h1, h2⟩ := setV_eq hr
      exact ⟨by simp; omega, by rw [← e, List.set_cons_succ, h2]⟩
    · cases e

theorem J.norm {W0 : World} {N : Nat} {L : Slots} {A B : List Assn} {G : Act → World → Prop} (e : normA A = some B) (h : J W0 N L B G) : J W0 N L A G := by rw [normA_eq e]; exact h

/-! ### Runs -/
/-- The value of one cell. -/
def oneC : Value → Bool
  | .agg _ | .tuple _ => false
  | _ => true
section
variable {P : Program} {L : Slots} {A : List Assn} {ty : TypeId} {W0 w : World}

theorem Sat.at_ {i b : Nat} {o : Obj} (s : Sat W0 w A) (h : A[i]? = some (pt b o)) : w.heap[b]? = some o := by
  obtain ⟨k, a, u⟩ := s.heap.at_ h
  exact u _ _ a

/-- A block's new content. -/
theorem Sat.set {i b : Nat} {o : Obj} {w' : World} (s : Sat W0 w A) (h : A[i]? = some (pt b o)) (p : Obj) (h1 : w'.os = w.os) (h2 : w'.tape = w.tape) (h3 : w'.output = w.output) (h4 : hp w' = upd (hp w) b p) : Sat W0 w' (A.set i (pt b p)) :=
  ⟨h1.trans s.os, h2.trans s.tape, h3.trans s.out, by rw [h4]; exact s.heap.update h (fun k hk => ⟨⟨o, hk⟩, by simp [pt, upd]⟩)⟩

theorem hp_setCell {b off : Nat} {l : List Value} {e : TypeId} {z : Nat × Nat} {v : Value} (h : w.heap[b]? = some (.cells l.toArray e z)) : hp (w.setCell ⟨b, off, none⟩ v) = upd (hp w) b (.cells (l.set off v).toArray e z) := by
  unfold World.setCell
  rw [hp_modify w b _ (.cells l.toArray e z) h]
  simp

theorem run_store {b off i : Nat} {l : List Value} {e : TypeId} {z : Nat × Nat} {v : Value} (s : Sat W0 w A) (h : A[i]? = some (pt b (.cells l.toArray e z))) (ho : off < l.length) (hz : (decide (z.1 ≤ off) && decide (off < z.2)) = false) (hv : oneC v = true) :
    (store ⟨b, off, none⟩ v).run P w = .ok () (w.setCell ⟨b, off, none⟩ v) ∧ Sat W0 (w.setCell ⟨b, off, none⟩ v) (A.set i (pt b (.cells (l.set off v).toArray e z))) := by
  have hb := s.at_ h
  have hc : w.cell? ⟨b, off, none⟩ = some l[off] := by simp [World.cell?, hb, ho]
  have hf : w.frozen? ⟨b, off, none⟩ = false := by
    obtain ⟨z1, z2⟩ := z
    simp only [World.frozen?, hb]; exact hz
  refine ⟨?_, s.set h _ rfl rfl rfl (hp_setCell hb)⟩
  unfold store
  cases v <;> simp_all [Sem.run, oneC]

def splice : List Value → Nat → List Value → List Value
  | l, _, [] => l
  | l, o, v :: vs => splice (l.set o v) (o + 1) vs

theorem splice_length : ∀ (vs l : List Value) (o : Nat), (splice l o vs).length = l.length
  | [], l, o => rfl
  | v :: vs, l, o => by simp [splice, splice_length vs]

theorem splice_eq : ∀ (vs l : List Value) (o : Nat), o + vs.length ≤ l.length → splice l o vs = l.take o ++ vs ++ l.drop (o + vs.length)
  | [], l, o, _ => by simp [splice]
  | v :: vs, l, o, h => by
    simp only [List.length_cons] at h
    rw [splice, splice_eq vs (l.set o v) (o + 1) (by simp; omega)]
    have h1 : (l.set o v).take (o + 1) = l.take o ++ [v] := by
      rw [List.take_succ_eq_append_getElem (by simp; omega)]
      simp [List.take_set_of_le]
    have h2 : (l.set o v).drop (o + 1 + vs.length) = l.drop (o + (vs.length + 1)) := by
      rw [List.drop_set_of_lt (by omega)]; congr 1; omega
    rw [h1, h2]; simp

theorem run_storeCells {b off i : Nat} {e : TypeId} {z : Nat × Nat} : ∀ (vs l : List Value) (k : Nat) (w : World) (A : List Assn), Sat W0 w A → A[i]? = some (pt b (.cells l.toArray e z)) → off + k + vs.length ≤ l.length →
    (∀ j, j < vs.length → (decide (z.1 ≤ off + k + j) && decide (off + k + j < z.2)) = false) → (∀ v, v ∈ vs → oneC v = true) →
    ∃ w', (storeCells ⟨b, off, none⟩ vs k).run P w = .ok () w' ∧ Sat W0 w' (A.set i (pt b (.cells (splice l (off + k) vs).toArray e z)))
  | [], l, k, w, A, s, h, _, _, _ => ⟨w, by simp [storeCells], by
      have : A.set i (pt b (.cells l.toArray e z)) = A := by
        apply List.ext_getElem?
        intro j
        rw [List.getElem?_set]
        split
        · subst_vars; split
          · exact h.symm
          · rename_i q; rw [List.getElem?_eq_none (by omega)]
        · rfl
      simp only [splice]; rw [this]; exact s⟩
  | v :: vs, l, k, w, A, s, h, hl, hz, hv => by
    simp only [List.length_cons] at hl
    obtain ⟨r1, s1⟩ := run_store (P := P) (off := off + k) (v := v) s h (by omega) (by simpa using hz 0 (by simp)) (hv v (by simp))
    have hi : i < A.length := (List.getElem?_eq_some_iff.1 h).1
    obtain ⟨w', r2, s2⟩ := run_storeCells (b := b) (off := off) (i := i) (e := e) (z := z) vs (l.set (off + k) v) (k + 1) _ _ s1 (by simp [hi]) (by simp; omega) (by
      intro j hj; have := hz (j + 1) (by simp; omega); rw [show off + (k + 1) + j = off + k + (j + 1) from by omega]; exact this) (fun u hu => hv u (by simp [hu]))
    refine ⟨w', ?_, ?_⟩
    · simp only [storeCells, addr_add, Sem.run_bind, r1, Result.andThen_ok, r2]
    · rw [List.set_set] at s2
      rw [splice, show off + k + 1 = off + (k + 1) from by omega]; exact s2

variable {T T' : TypeId} {x y : Operand}

theorem C.st {i b off : Nat} {l : List Value} {e : TypeId} {z : Nat × Nat} {v : Value} (hs : ∀ w, (sizeOf T).run P w = .ok 1 w) (ex : ev L x = some (.pointer (some ⟨b, off, none⟩))) (ey : ev L y = some v) (hv : oneC v = true)
    (h : A[i]? = some (pt b (.cells l.toArray e z))) (ho : off < l.length) (hz : (decide (z.1 ≤ off) && decide (off < z.2)) = false) :
    OpC P (.store T x y) ty L A (fun u B => u = undef ∧ B = A.set i (pt b (.cells (l.set off v).toArray e z))) := by
  refine ⟨fun dst pos aft g a W0 w ag s K Q k => ?_⟩
  obtain ⟨r1, s1⟩ := run_store (P := P) (v := v) s h ho hz hv
  have hc : v.cells = #[v] := by cases v <;> first | rfl | simp [oneC] at hv
  have hr : (execOp a.eval ⟨dst, .store T x y, ty, pos, aft, g⟩).run P w = .ok .skip (w.setCell ⟨b, off, none⟩ v) := by
    simp [execOp, ag.at_ ex (by simp [Op.operands]), ag.at_ ey (by simp [Op.operands]), Instr.storeAt, Instr.sureAddr, storeVar, hs, hc, storeCells, addr_add, r1]
  unfold Oper.wp
  rw [hr, Oper.upon_skip]
  exact k _ _ _ ⟨rfl, rfl⟩ s1

theorem C.stN {i b off : Nat} {l vs : List Value} {e : TypeId} {z : Nat × Nat} (hs : ∀ w, (sizeOf T).run P w = .ok vs.length w) (ex : ev L x = some (.pointer (some ⟨b, off, none⟩))) (ey : ev L y = some (.agg vs.toArray)) (hv : ∀ v, v ∈ vs → oneC v = true)
    (h : A[i]? = some (pt b (.cells l.toArray e z))) (ho : off + vs.length ≤ l.length) (hz : ∀ j, j < vs.length → (decide (z.1 ≤ off + j) && decide (off + j < z.2)) = false) :
    OpC P (.store T x y) ty L A (fun u B => u = undef ∧ B = A.set i (pt b (.cells (splice l off vs).toArray e z))) := by
  refine ⟨fun dst pos aft g a W0 w ag s K Q k => ?_⟩
  obtain ⟨w', r1, s1⟩ := run_storeCells (P := P) vs l 0 w A s h (by simpa using ho) (by simpa using hz) hv
  have hr : (execOp a.eval ⟨dst, .store T x y, ty, pos, aft, g⟩).run P w = .ok .skip w' := by
    simp [execOp, ag.at_ ex (by simp [Op.operands]), ag.at_ ey (by simp [Op.operands]), Instr.storeAt, Instr.sureAddr, storeVar, hs, Value.cells, r1]
  unfold Oper.wp
  rw [hr, Oper.upon_skip]
  exact k _ _ _ ⟨rfl, rfl⟩ (by simpa using s1)

theorem run_new (o : Obj) : (newObj o).run P w = .ok w.heap.size { w with heap := w.heap.push o } := rfl

theorem C.ofNew {op : Op} {v : Nat → Value} {o : Obj} (hr : ∀ (dst : Option Tmp) (pos : String) (aft : Array Edge) (g : Option (Nat × Bool)) (a : Act) (w : World), Agree a L op → (execOp a.eval ⟨dst, op, ty, pos, aft, g⟩).run P w = .ok (.value (v w.heap.size)) { w with heap := w.heap.push o }) :
    OpC P op ty L A (fun u B => ∃ b, u = v b ∧ B = pt b o :: A) := by
  refine ⟨fun dst pos aft g a W0 w ag s K Q k => ?_⟩
  unfold Oper.wp
  rw [hr dst pos aft g a w ag, Oper.upon_value]
  exact k _ _ _ ⟨_, rfl, rfl⟩ (s.new o)

theorem C.alloc {E : TypeId} {zv : Value} {l : List Value} (hz : ∀ w, (zeroValue E).run P w = .ok zv w) (hl : zv.cells = l.toArray) :
    OpC P (.alloc E) ty L A (fun u B => ∃ b, u = .pointer (some ⟨b, 0, none⟩) ∧ B = pt b (.cells l.toArray E (0, 0)) :: A) :=
  C.ofNew (v := fun b => .pointer (some ⟨b, 0, none⟩)) fun dst pos aft g a w ag => by
    simp [execOp, Instr.alloc, hz, newVar, newRow, hl]
theorem C.box {E : TypeId} {v : Value} {l : List Value} (ex : ev L x = some v) (hl : v.cells = l.toArray) :
    OpC P (.box E x) ty L A (fun u B => ∃ b, u = .pointer (some ⟨b, 0, none⟩) ∧ B = pt b (.cells l.toArray E (0, 0)) :: A) :=
  C.ofNew (v := fun b => .pointer (some ⟨b, 0, none⟩)) fun dst pos aft g a w ag => by
    simp [execOp, ag.at_ ex (by simp [Op.operands]), Instr.box, newVar, newRow, hl]
theorem C.mkMap : OpC P (.makeMap T none) ty L A (fun u B => ∃ b, u = .map (some b) ∧ B = pt b (.map #[] 0) :: A) :=
  C.ofNew (v := fun b => .map (some b)) fun dst pos aft g a w ag => by
    simp [execOp, Instr.makeMap]

/-- '[]T{..}' of elements of whatever size. -/
theorem C.bsl {E sz len : Nat} {zv : Value} {ps : List (Nat × Operand)} {vs : List Value} {l : List Value} (hu : ∀ w, (underlying T).run P w = .ok (.slice E) w) (hs : ∀ w, (sizeOf E).run P w = .ok sz w) (hz : ∀ w, (zeroValue E).run P w = .ok zv w)
    (hm : len * sz ≤ 16777216) (ev_ : evs L (ps.map (·.2)) = some vs)
    (hl : Instr.fill (fun i => some (i * sz, sz)) ((Array.range (len * sz)).map fun j => (if len * sz = 0 then #[] else zv.cells)[j % (if len * sz = 0 then #[] else zv.cells).size]!) ((ps.map (·.1)).zip vs) = some l.toArray) :
    OpC P (.buildSlice T len ps.toArray) ty L A (fun u B => ∃ b, u = .slice (some ⟨b, 0, none⟩) len len ∧ B = pt b (.cells l.toArray E (0, 0)) :: A) :=
  C.ofNew (v := fun b => .slice (some ⟨b, 0, none⟩) len len) fun dst pos aft g a w ag => by
    have hx : (ps.map (·.2)).map a.eval = vs := evs_map (fun x hx => ag x (by simpa [Op.operands] using hx)) ev_
    have hp : (ps.map fun q => (q.1, a.eval q.2)) = (ps.map (·.1)).zip vs := by
      rw [← hx]; clear hx hl ev_ ag
      induction ps with
      | nil => rfl
      | cons q r ih => simp [ih]
    have hm' : ¬ len * sz > 2 ^ 24 := by omega
    have hpar : (Array.map (fun q : Nat × Operand => (q.1, a.eval q.2)) ps.toArray).toList = (ps.map (·.1)).zip vs := by simpa using hp
    simp only [execOp, Instr.buildSlice, Sem.run_bind, hu, hs, Result.andThen_ok]
    rw [if_neg hm']
    by_cases h0 : len * sz = 0
    · simp only [h0, if_true] at hl
      simp only [h0, if_true, Sem.run_bind, Result.andThen_ok, Sem.run_pure, hpar, hl, newRow, run_new]
    · simp only [h0, if_false] at hl
      simp only [h0, if_false, Sem.run_bind, hz, Result.andThen_ok, Sem.run_pure, hpar, hl, newRow, run_new]

/-- 'make([]T, n, c)', elements of one cell. -/
theorem C.mksl {E : TypeId} {zv : Value} {ti : TypeInfo} {n c : Int} {k k' : IntKind} (hu : ∀ w, (underlying T).run P w = .ok (.slice E) w) (hi : ∀ w, (typeInfo E).run P w = .ok ti w) (hs : ∀ w, (sizeOf E).run P w = .ok 1 w) (hz : ∀ w, (zeroValue E).run P w = .ok zv w) (h1 : zv.cells = #[zv])
    (ex : ev L x = some (.int k n)) (ey : ev L y = some (.int k' c)) (h0 : 0 ≤ n) (hc : n ≤ c) (hb : (ti.bytes : Int) * c ≤ 281474976710656) (hc' : c ≤ 9223372036854775807) :
    OpC P (.makeSlice T x y) ty L A (fun u B => ∃ b, u = .slice (some ⟨b, 0, none⟩) n.toNat c.toNat ∧ B = pt b (.cells (List.replicate c.toNat zv).toArray E (0, 0)) :: A) :=
  C.ofNew (v := fun b => .slice (some ⟨b, 0, none⟩) n.toNat c.toNat) fun dst pos aft g a w ag => by
    have e1 := ag.at_ ex (by simp [Op.operands])
    have e2 := ag.at_ ey (by simp [Op.operands])
    have w1 : IntKind.i64.wrap n = n := IntWalk.i64_in _ (by omega)
    have w2 : IntKind.i64.wrap c = c := IntWalk.i64_in _ (by omega)
    have c1 : ¬ c < 0 := by omega
    have c2 : ¬ (281474976710656 : Int) < ti.bytes * c := by omega
    have c3 : ¬ n < 0 := by omega
    have c4 : ¬ c < n := by omega
    have hfill : (Array.map (fun j => (if c.toNat = 0 then #[] else #[zv])[j % (if c.toNat = 0 then (#[] : Array Value) else #[zv]).size]!) (Array.range c.toNat)) = (List.replicate c.toNat zv).toArray := by
      by_cases hc0 : c.toNat = 0
      · simp [hc0]
      · simp only [hc0, if_false]
        apply Array.ext
        · simp
        · intro i h1 h2; simp [Nat.mod_one]
    simp only [execOp, e1, e2, Instr.makeSlice, asInt, asIntOf, Sem.run_bind, hu, hi, hs, hz, Result.andThen_ok, Sem.run_pure, w1, w2]
    simp only [Bool.or_eq_true, decide_eq_true_eq]
    rw [if_neg (by omega)]
    by_cases hc0 : c.toNat = 0
    · simp [hc0, askRoom, newRow, run_new, hs]
      rw [show Array.map (fun _ => (default : Value)) (Array.range 0) = #[] from by apply Array.ext <;> simp]
    · have hroom : (askRoom (c.toNat * ti.bytes)).run P w = .ok () w := by
        unfold askRoom; split <;> rfl
      simp only [hc0, if_false] at hfill
      simp only [Sem.run_bind, hroom, hs, Result.andThen_ok, Nat.mul_one, Sem.run_ite, if_neg hc0, hz, h1, Sem.run_pure, newRow, run_new, hfill]

end
end Go.X
