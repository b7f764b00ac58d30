/-
  Maps with strings for keys; ranging over such a map. No program in sight.
-/
import Derived.Test.YtdancegklkifaaaXe
import Derived.Laws.StructEq
namespace Go.X
set_option linter.unusedSectionVars false
set_option linter.unusedSimpArgs false
set_option linter.unusedVariables false

/-- An entry: its key, what it holds, when it came. -/
structure MEnt where
  key : ByteArray
  val : Value
  born : Nat

def MEnt.toEntry (e : MEnt) : MapEntry := ⟨.string e.key, e.val, e.born⟩

def mobj (m : List MEnt) (clock : Nat) : Obj := .map (m.map MEnt.toEntry).toArray clock

/-- Where a key is, from place i on. -/
def mfind (k : ByteArray) : List MEnt → Nat → Option (Nat × Value)
  | [], _ => none
  | e :: m, i => if k = e.key then some (i, e.val) else mfind k m (i + 1)

def mget (k : ByteArray) : List MEnt → Option Value
  | [] => none
  | e :: m => if k = e.key then some e.val else mget k m

def mset (k : ByteArray) (v : Value) : List MEnt → List MEnt
  | [] => []
  | e :: m => if k = e.key then ⟨k, v, e.born⟩ :: m else e :: mset k v m

/-- The map behind 'm[k] = v', and its clock. -/
def mput (k : ByteArray) (v : Value) (m : List MEnt) (clock : Nat) : List MEnt × Nat :=
  match mget k m with
  | some _ => (mset k v m, clock)
  | none => (m ++ [⟨k, v, clock⟩], clock + 1)

def mdel (k : ByteArray) : List MEnt → List MEnt
  | [] => []
  | e :: m => if k = e.key then m else e :: mdel k m

theorem map_erase : ∀ (m : List MEnt) (j : Nat), (m.map MEnt.toEntry).eraseIdx j = (m.eraseIdx j).map MEnt.toEntry
  | [], _ => rfl
  | _ :: _, 0 => rfl
  | e :: m, j + 1 => by simp [map_erase m j]

theorem mfind_get (k : ByteArray) : ∀ (m : List MEnt) (i : Nat), (mfind k m i).map (·.2) = mget k m
  | [], i => rfl
  | e :: m, i => by
    simp only [mfind, mget]
    split
    · rfl
    · exact mfind_get k m (i + 1)

theorem mfind_some {k : ByteArray} : ∀ {m : List MEnt} {i j : Nat} {v : Value}, mfind k m i = some (j, v) → ∃ n e, j = i + n ∧ m[n]? = some e ∧ e.key = k ∧ e.val = v ∧ (∀ u : Value, mset k u m = m.set n ⟨k, u, e.born⟩) ∧ mdel k m = m.eraseIdx n
  | [], _, _, _, e => by simp [mfind] at e
  | e :: m, i, j, v, h => by
    simp only [mfind] at h
    split at h
    · rename_i hk
      simp only [Option.some.injEq, Prod.mk.injEq] at h
      exact ⟨0, e, by omega, rfl, hk.symm, h.2, fun u => by simp [mset, hk], by simp [mdel, hk]⟩
    · rename_i hk
      obtain ⟨n, e', h1, h2, h3, h4, h5, h6⟩ := mfind_some h
      exact ⟨n + 1, e', by omega, by simpa using h2, h3, h4, fun u => by simp [mset, hk, h5 u], by simp [mdel, hk, h6]⟩

theorem mfind_none {k : ByteArray} : ∀ {m : List MEnt} {i : Nat}, mfind k m i = none → mget k m = none ∧ mdel k m = m
  | [], _, _ => ⟨rfl, rfl⟩
  | e :: m, i, h => by
    simp only [mfind] at h
    split at h
    · cases h
    · rename_i hk
      obtain ⟨h1, h2⟩ := mfind_none h
      exact ⟨by simp [mget, hk, h1], by simp [mdel, hk, h2]⟩

theorem str_beq (a b : ByteArray) : (a == b) = decide (a = b) := by
  rw [beq_toListBytes, ByteArray.toList_eq, ByteArray.toList_eq]
  by_cases h : a = b
  · subst h; simp
  · have : ¬ a.data.toList = b.data.toList := fun e => h (by cases a; cases b; simp at e; simpa using e)
    simp only [h, decide_false]
    exact beq_eq_false_iff_ne.2 this

theorem findNow_str (k : ByteArray) : ∀ (m : List MEnt) (i : Nat), Instr.findNow .string (.string k) (m.map MEnt.toEntry) i = some (mfind k m i)
  | [], i => rfl
  | e :: m, i => by
    simp only [List.map_cons, Instr.findNow, MEnt.toEntry, Instr.sameNow, mfind]
    rw [str_beq]
    by_cases h : k = e.key
    · simp [h]
    · simp only [h, if_false, decide_false]
      exact findNow_str k m (i + 1)

section
variable {P : Program} {L : Slots} {A D : List Assn} {ty : TypeId} {W0 w : World} {T K E : TypeId} {x y z : Operand}

theorem run_checkKey_str (n : Nat) (b : Bool) (k : ByteArray) (hk : ∀ w, (underlying K).run P w = .ok .string w) : (Instr.checkKey b (n + 1) K (.string k)).run P w = .ok () w := by
  simp [Instr.checkKey, hk]

theorem run_findKey_str (k : ByteArray) (m : List MEnt) (hk : ∀ w, (underlying K).run P w = .ok .string w) : (Instr.findKey K (.string k) (m.map MEnt.toEntry)).run P w = .ok (mfind k m 0) w := by
  simp [Instr.findKey, hk, findNow_str]

theorem run_getObj_map {r c : Nat} {m : List MEnt} (h : w.heap[r]? = some (mobj m c)) : (getObj r).run P w = .ok (mobj m c) w := by
  simp [getObj, Sem.run, h, mobj]

/-- 'm[k]' -/
theorem Q.lk {i r c : Nat} {m : List MEnt} {k : ByteArray} {zv v : Value} (hT : ∀ w, (underlying T).run P w = .ok (.map K E) w) (hk : ∀ w, (underlying K).run P w = .ok .string w) (hz : ∀ w, (zeroValue E).run P w = .ok zv w)
    (ex : ev L x = some (.map (some r))) (ey : ev L y = some (.string k)) (hA : D[i]? = some (pt r (mobj m c))) (hv : (mget k m).getD zv = v) : OpQ P (.lookup T x y false) ty L D v := by
  refine ⟨fun dst pos aft g a W0 w F ag s => ⟨w, ?_, s⟩⟩
  have e1 := ag.at_ ex (by simp [Op.operands])
  have e2 := ag.at_ ey (by simp [Op.operands])
  have hb : w.heap[r]? = some (mobj m c) := s.at_ (i := i) (by rw [List.getElem?_append_left (List.getElem?_eq_some_iff.1 hA).1]; exact hA)
  have hg := run_getObj_map (P := P) hb
  have hf := mfind_get k m 0
  subst hv
  rw [← hf]
  simp only [execOp, e1, e2, Instr.lookup, Sem.run_bind, hT, Result.andThen_ok, hg, mobj, Sem.run_pure]
  rw [run_checkKey_str 9999 _ k hk]
  simp only [Result.andThen_ok, List.toList_toArray, run_findKey_str k m hk]
  cases hm : mfind k m 0 with
  | none => simp [hz]
  | some q => obtain ⟨j, u⟩ := q; simp

/-- 'v, ok := m[k]' -/
theorem Q.lk2 {i r c : Nat} {m : List MEnt} {k : ByteArray} {zv : Value} (hT : ∀ w, (underlying T).run P w = .ok (.map K E) w) (hk : ∀ w, (underlying K).run P w = .ok .string w) (hz : ∀ w, (zeroValue E).run P w = .ok zv w)
    (ex : ev L x = some (.map (some r))) (ey : ev L y = some (.string k)) (hA : D[i]? = some (pt r (mobj m c))) : OpQ P (.lookup T x y true) ty L D (.tuple #[(mget k m).getD zv, .bool (mget k m).isSome]) := by
  refine ⟨fun dst pos aft g a W0 w F ag s => ⟨w, ?_, s⟩⟩
  have e1 := ag.at_ ex (by simp [Op.operands])
  have e2 := ag.at_ ey (by simp [Op.operands])
  have hb : w.heap[r]? = some (mobj m c) := s.at_ (i := i) (by rw [List.getElem?_append_left (List.getElem?_eq_some_iff.1 hA).1]; exact hA)
  have hg := run_getObj_map (P := P) hb
  have hf := mfind_get k m 0
  rw [← hf]
  simp only [execOp, e1, e2, Instr.lookup, Sem.run_bind, hT, Result.andThen_ok, hg, mobj, Sem.run_pure]
  rw [run_checkKey_str 9999 _ k hk]
  simp only [Result.andThen_ok, List.toList_toArray, run_findKey_str k m hk]
  cases hm : mfind k m 0 with
  | none => simp [hz]
  | some q => obtain ⟨j, u⟩ := q; simp

theorem run_setObj {i r : Nat} {m : List MEnt} {c : Nat} (s : Sat W0 w A) (hA : A[i]? = some (pt r (mobj m c))) (o : Obj) : ∃ w', (setObj r o).run P w = .ok () w' ∧ Sat W0 w' (A.set i (pt r o)) := by
  have hb := s.at_ hA
  refine ⟨{ w with heap := w.heap.setIfInBounds r o }, by simp [setObj, Sem.run, hb, mobj], s.set hA o rfl rfl rfl (hp_set w r o _ hb)⟩

/-- 'm[k] = v' -/
theorem C.mput {i r c : Nat} {m : List MEnt} {k : ByteArray} {v : Value} (hT : ∀ w, (underlying T).run P w = .ok (.map K E) w) (hk : ∀ w, (underlying K).run P w = .ok .string w)
    (ex : ev L x = some (.map (some r))) (ey : ev L y = some (.string k)) (ez : ev L z = some v) (hA : A[i]? = some (pt r (mobj m c))) :
    OpC P (.mapUpdate T x y z) ty L A (fun u B => u = undef ∧ B = A.set i (pt r (mobj (mput k v m c).1 (mput k v m c).2))) := by
  refine ⟨fun dst pos aft g a W0 w ag s K' Q kk => ?_⟩
  have e1 := ag.at_ ex (by simp [Op.operands])
  have e2 := ag.at_ ey (by simp [Op.operands])
  have e3 := ag.at_ ez (by simp [Op.operands])
  have hg := run_getObj_map (P := P) (s.at_ hA)
  have key : ∃ w', (Instr.mapUpdate T (.map (some r)) (.string k) v).run P w = .ok () w' ∧ Sat W0 w' (A.set i (pt r (mobj (X.mput k v m c).1 (X.mput k v m c).2))) := by
    simp only [Instr.mapUpdate, Sem.run_bind, hT, Result.andThen_ok, hg, mobj, run_checkKey_str 9999 _ k hk, List.toList_toArray, run_findKey_str k m hk]
    cases hm : mfind k m 0 with
    | none =>
      obtain ⟨h1, _⟩ := mfind_none hm
      obtain ⟨w', r1, s1⟩ := run_setObj (P := P) s hA (mobj (m ++ [⟨k, v, c⟩]) (c + 1))
      refine ⟨w', ?_, ?_⟩
      · rw [← r1]; simp [mobj, MEnt.toEntry]
      · simpa [X.mput, h1, mobj] using s1
    | some q =>
      obtain ⟨j, u⟩ := q
      obtain ⟨n, e, h1, h2, h3, h4, h5, _⟩ := mfind_some hm
      have hget : mget k m = some u := by rw [← mfind_get k m 0, hm]; rfl
      obtain ⟨w', r1, s1⟩ := run_setObj (P := P) s hA (mobj (mset k v m) c)
      refine ⟨w', ?_, ?_⟩
      · have hj : j = n := by omega
        subst hj
        have hent : (((m.map MEnt.toEntry).toArray[j]?).map (·.key)).getD (.string k) = .string k := by
          simp [h2, MEnt.toEntry, h3]
        have hstay : (Instr.keyThatStays (.string k) (.string k)).run P w = .ok (.string k) w := by
          have : Instr.sameBits 10000 (.string k) (.string k) = true := by unfold Instr.sameBits; rw [str_beq]; simp
          simp only [Instr.keyThatStays, this, if_true, Sem.run_pure]
        have hmod : ((m.map MEnt.toEntry).toArray.modify j fun e => { e with key := .string k, val := v }) = ((mset k v m).map MEnt.toEntry).toArray := by
          rw [h5 v]
          apply Array.ext'
          rw [Array.toList_modify]
          apply List.ext_getElem?
          intro q
          simp only [List.getElem?_modify, List.map_set, List.getElem?_set, List.length_map]
          by_cases hq : j = q
          · subst hq
            have hlt : j < m.length := (List.getElem?_eq_some_iff.1 h2).1
            have he : m[j] = e := (List.getElem?_eq_some_iff.1 h2).2
            simp [hlt, MEnt.toEntry, he]
          · simp [hq]
        simp only [hent, Sem.run_bind, hstay, Result.andThen_ok, hmod]
        exact r1
      · simpa [X.mput, hget, mobj] using s1
  obtain ⟨w', r1, s1⟩ := key
  have hr : (execOp a.eval ⟨dst, .mapUpdate T x y z, ty, pos, aft, g⟩).run P w = .ok .skip w' := by
    simp [execOp, e1, e2, e3, r1]
  unfold Oper.wp
  rw [hr, Oper.upon_skip]
  exact kk _ _ _ ⟨rfl, rfl⟩ s1

/-- 'delete(m, k)' -/
theorem C.mdel {i r c : Nat} {m : List MEnt} {k : ByteArray} (hT : ∀ w, (underlying T).run P w = .ok (.map K E) w) (hk : ∀ w, (underlying K).run P w = .ok .string w) {ts : TypeId}
    (e : evs L [x, y] = some [.map (some r), .string k]) (hA : A[i]? = some (pt r (mobj m c))) :
    OpC P (.call { callee := .builtin .delete, args := #[x, y], argTypes := #[T, ts] }) ty L A (fun u B => u = .tuple #[] ∧ B = A.set i (pt r (mobj (mdel k m) c))) := by
  refine ⟨fun dst pos aft g a W0 w ag s K' Q kk => ?_⟩
  have hx : [x, y].map a.eval = _ := evs_map (fun x hx => ag x (by simp only [Op.operands, Call.operands]; simpa using hx)) e
  simp only [List.map_cons, List.map_nil, List.cons.injEq, and_true] at hx
  obtain ⟨e1, e2⟩ := hx
  have hg := run_getObj_map (P := P) (s.at_ hA)
  have key : ∃ w', (Builtin.delete_ #[T, ts] ty #[.map (some r), .string k]).run P w = .ok (.tuple #[]) w' ∧ Sat W0 w' (A.set i (pt r (mobj (X.mdel k m) c))) := by
    obtain ⟨w', r1, s1⟩ := run_setObj (P := P) s hA (mobj (X.mdel k m) c)
    refine ⟨w', ?_, s1⟩
    have hstep : (Builtin.delete_ #[T, ts] ty #[.map (some r), .string k]).run P w = ((setObj r (mobj (X.mdel k m) c)).run P w).andThen fun _ w' => .ok (.tuple #[]) w' := by
      simp only [Builtin.delete_, Sem.run_bind, hT, Result.andThen_ok, List.getElem?_toArray, List.getElem?_cons_zero, List.getElem?_cons_succ, hg, mobj, run_checkKey_str 9999 _ k hk, List.toList_toArray, run_findKey_str k m hk, Sem.run_pure]
      cases hm : mfind k m 0 with
      | none =>
        obtain ⟨_, h2⟩ := mfind_none hm
        simp only [h2, Sem.run_bind, Sem.run_pure]
      | some q =>
        obtain ⟨j, u⟩ := q
        obtain ⟨n, en, h1, h2, h3, h4, _, h6⟩ := mfind_some hm
        have hj : j = n := by omega
        subst hj
        have her : ((m.map MEnt.toEntry).toArray.eraseIdxIfInBounds j) = ((X.mdel k m).map MEnt.toEntry).toArray := by
          rw [h6]
          apply Array.ext'
          rw [Array.toList_eraseIdxIfInBounds]
          simp only [List.toList_toArray]
          exact map_erase m j
        simp only [her, Sem.run_bind, Sem.run_pure]
    rw [hstep, r1]; rfl
  obtain ⟨w', r1, s1⟩ := key
  have hr : (execOp a.eval ⟨dst, .call { callee := .builtin .delete, args := #[x, y], argTypes := #[T, ts] }, ty, pos, aft, g⟩).run P w = .ok (.value (.tuple #[])) w' := by
    simp [execOp, resolve, invoke, builtin, e1, e2, r1]
  unfold Oper.wp
  rw [hr, Oper.upon_value]
  exact kk _ _ _ ⟨rfl, rfl⟩ s1

theorem Q.lenM {i r c : Nat} {m : List MEnt} (hT : ∀ w, (underlying T).run P w = .ok (.map K E) w) (e : evs L [x] = some [.map (some r)]) (hA : D[i]? = some (pt r (mobj m c))) :
    OpQ P (.call { callee := .builtin .len, args := #[x], argTypes := #[T] }) ty L D (.int .i64 m.length) := by
  refine ⟨fun dst pos aft g a W0 w F ag s => ⟨w, ?_, s⟩⟩
  have hx : [x].map a.eval = _ := evs_map (fun x hx => ag x (by simp only [Op.operands, Call.operands]; simpa using hx)) e
  simp only [List.map_cons, List.map_nil, List.cons.injEq, and_true] at hx
  have hb : w.heap[r]? = some (mobj m c) := s.at_ (i := i) (by rw [List.getElem?_append_left (List.getElem?_eq_some_iff.1 hA).1]; exact hA)
  have hg := run_getObj_map (P := P) hb
  simp [execOp, resolve, invoke, builtin, hx, Builtin.len_, hT, hg, mobj, goInt]

/-! ranging over a map that stands still meanwhile -/
def miter (r c : Nat) (seen : List Nat) : Obj := .mapIter (some r) c seen.toArray c

/-- 'for k, v := range m' begins. -/
theorem C.range {i r c : Nat} {m : List MEnt} (hT : ∀ w, (underlying T).run P w = .ok (.map K E) w) (ex : ev L x = some (.map (some r))) (hA : A[i]? = some (pt r (mobj m c))) :
    OpC P (.range T x) ty L A (fun u B => ∃ b, u = .pointer (some ⟨b, 0, none⟩) ∧ B = pt b (miter r c []) :: A) := by
  refine ⟨fun dst pos aft g a W0 w ag s K' Q kk => ?_⟩
  have e1 := ag.at_ ex (by simp [Op.operands])
  have hg := run_getObj_map (P := P) (s.at_ hA)
  have hr : (execOp a.eval ⟨dst, .range T x, ty, pos, aft, g⟩).run P w = .ok (.value (.pointer (some ⟨w.heap.size, 0, none⟩))) { w with heap := w.heap.push (miter r c []) } := by
    simp only [execOp, e1, Instr.range, Sem.run_bind, hT, Result.andThen_ok, hg, mobj, Sem.run_pure, run_new, miter]
  unfold Oper.wp
  rw [hr, Oper.upon_value]
  exact kk _ _ _ ⟨_, rfl, rfl⟩ (s.new _)

/-- The entries that were not met yet. -/
def mleft (m : List MEnt) (seen : List Nat) : List MEnt := m.filter fun e => !seen.contains e.born

theorem C.next {i j b r c : Nat} {m : List MEnt} {seen : List Nat} (ex : ev L x = some (.pointer (some ⟨b, 0, none⟩))) (hA : A[i]? = some (pt b (miter r c seen))) (hM : A[j]? = some (pt r (mobj m c))) (hborn : ∀ e, e ∈ m → e.born < c) :
    OpC P (.next x false) ty L A (fun u B => (mleft m seen = [] ∧ u = .tuple #[.bool false] ∧ B = A) ∨ ∃ e, e ∈ mleft m seen ∧ u = .tuple #[.bool true, .string e.key, e.val] ∧ B = A.set i (pt b (miter r c (seen ++ [e.born])))) := by
  refine ⟨fun dst pos aft g a W0 w ag s K' Q kk => ?_⟩
  have e1 := ag.at_ ex (by simp [Op.operands])
  have hbI : w.heap[b]? = some (miter r c seen) := s.at_ hA
  have hgI : (getObj b).run P w = .ok (miter r c seen) w := by simp [getObj, Sem.run, hbI, miter]
  have hgM := run_getObj_map (P := P) (s.at_ hM)
  have hunsup : (!seen.toArray.isEmpty && !(m.map MEnt.toEntry).toArray.isEmpty && (m.map MEnt.toEntry).toArray.all (·.born ≥ c)) = false := by
    cases m with
    | nil => simp
    | cons e m =>
      have : ¬ c ≤ e.born := by have := hborn e (by simp); omega
      simp [MEnt.toEntry, this]
  have hleft : ((m.map MEnt.toEntry).toArray.filter fun e => !seen.toArray.contains e.born) = ((mleft m seen).map MEnt.toEntry).toArray := by
    apply Array.ext'
    simp [mleft, List.filter_map]
    rfl
  have hold : (((mleft m seen).map MEnt.toEntry).toArray.filter (·.born < c)) = ((mleft m seen).map MEnt.toEntry).toArray := by
    apply Array.ext'
    rw [Array.toList_filter]
    apply List.filter_eq_self.2
    intro e he
    simp only [List.mem_map] at he
    obtain ⟨e', he', rfl⟩ := he
    have := hborn e' (List.mem_filter.1 he').1
    exact decide_eq_true (by simpa [MEnt.toEntry] using this)
  have hnew : (((mleft m seen).map MEnt.toEntry).toArray.filter (·.born ≥ c)) = #[] := by
    apply Array.ext'
    rw [Array.toList_filter]
    apply List.filter_eq_nil_iff.2
    intro e he
    simp only [List.mem_map] at he
    obtain ⟨e', he', rfl⟩ := he
    have := hborn e' (List.mem_filter.1 he').1
    simp [MEnt.toEntry]; omega
  have key : ∃ u w' B, (Instr.next (.pointer (some ⟨b, 0, none⟩)) false ty).run P w = .ok u w' ∧ Sat W0 w' B ∧
      ((mleft m seen = [] ∧ u = .tuple #[.bool false] ∧ B = A) ∨ ∃ e, e ∈ mleft m seen ∧ u = .tuple #[.bool true, .string e.key, e.val] ∧ B = A.set i (pt b (miter r c (seen ++ [e.born])))) := by
    simp only [Instr.next, Sem.run_bind, hgI, miter, Result.andThen_ok, hgM, mobj, hunsup]
    simp only [Bool.false_eq_true, if_false, hleft, hold, hnew]
    generalize mleft m seen = ml
    have hch : ∀ n : Nat, ∃ q w1, (choose (.mapNext n)).run P w = .ok q w1 ∧ (0 < n → q < n) ∧ Sat W0 w1 A := by
      intro n
      by_cases hn : n ≤ 1
      · exact ⟨0, w, by simp [Question.forced, hn], fun h => h, s⟩
      · exact ⟨_, w.drew, by simp [Question.forced, hn]; rfl, fun h => by simp only [Question.cut]; exact Nat.mod_lt _ h, ⟨s.os, s.tape, s.out, s.heap⟩⟩
    cases ml with
    | nil =>
      obtain ⟨q, w1, hq, hlt, s1⟩ := hch 1
      have : q = 0 := by have := hlt (by omega); omega
      subst this
      refine ⟨_, w1, A, ?_, s1, .inl ⟨rfl, rfl, rfl⟩⟩
      have hc : ((if (List.map MEnt.toEntry ([] : List MEnt)).toArray.isEmpty = true then #[none] else #[]) ++ Array.map some ((List.map MEnt.toEntry ([] : List MEnt)).toArray ++ #[])) = (#[none] : Array (Option MapEntry)) := by simp
      rw [hc, Sem.run_bind, show (#[none] : Array (Option MapEntry)).size = 1 from rfl, hq]
      rfl
    | cons e0 ml =>
      obtain ⟨q, w1, hq, hlt, s1⟩ := hch (ml.length + 1)
      have hq' := hlt (by omega)
      have hb1 := s1.at_ hA
      obtain ⟨e, he⟩ : ∃ e, (e0 :: ml)[q]? = some e := ⟨(e0 :: ml)[q], List.getElem?_eq_getElem (by simpa using hq')⟩
      refine ⟨_, { w1 with heap := w1.heap.setIfInBounds b (miter r c (seen ++ [e.born])) }, _, ?_, s1.set hA (miter r c (seen ++ [e.born])) rfl rfl rfl (hp_set w1 b _ _ hb1), .inr ⟨e, List.mem_of_getElem? he, rfl, rfl⟩⟩
      have hcand : (((e0 :: ml).map MEnt.toEntry).map some)[q]? = some (some e.toEntry) := by
        rw [List.getElem?_map, List.getElem?_map, he]; rfl
      have hc : ((if (List.map MEnt.toEntry (e0 :: ml)).toArray.isEmpty = true then #[none] else #[]) ++ Array.map some ((List.map MEnt.toEntry (e0 :: ml)).toArray ++ #[])) = (((e0 :: ml).map MEnt.toEntry).map some).toArray := by
        apply Array.ext'; simp
      rw [hc, Sem.run_bind, show (((e0 :: ml).map MEnt.toEntry).map some).toArray.size = ml.length + 1 from by simp, hq]
      simp only [Result.andThen_ok, List.getElem?_toArray, hcand, Sem.run_bind]
      have hset : (setObj b (Obj.mapIter (some r) c (seen.toArray.push e.toEntry.born) c)).run P w1 = .ok () { w1 with heap := w1.heap.setIfInBounds b (miter r c (seen ++ [e.born])) } := by
        have e2 : seen.toArray.push e.toEntry.born = (seen ++ [e.born]).toArray := by simp [MEnt.toEntry]
        rw [e2]
        simp [setObj, Sem.run, hb1, miter]
      rw [hset]
      rfl
  obtain ⟨u, w', B, r1, s1, hR⟩ := key
  have hr : (execOp a.eval ⟨dst, .next x false, ty, pos, aft, g⟩).run P w = .ok (.value u) w' := by
    simp [execOp, e1, r1]
  unfold Oper.wp
  rw [hr, Oper.upon_value]
  exact kk _ _ _ hR s1
end
end Go.X
