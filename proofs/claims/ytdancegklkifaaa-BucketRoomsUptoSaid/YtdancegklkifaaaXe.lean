/-
  Slices that are owned, append, conversions between bytes and strings; maps with strings for keys. No program in sight.
-/
import Derived.Test.YtdancegklkifaaaXd
import Derived.Laws.BytesString
import Derived.Laws.Append
namespace Go.X
set_option linter.unusedSectionVars false
set_option linter.unusedSimpArgs false
set_option linter.unusedVariables false

def byteV (u : UInt8) : Value := .int .u8 u.toNat
def bytesV (bs : List UInt8) : List Value := bs.map byteV

/-- Where a slice lies in its block, and all of the block's cells. -/
structure Lies where
  b : Nat
  off : Nat
  len : Nat
  cap : Nat
  l : List Value
  z : Nat × Nat

structure Lies.ok (o : Lies) (sz : Nat) (v : Value) (xs : List Value) : Prop where
  val : v = .slice (some ⟨o.b, o.off, none⟩) o.len o.cap
  len : xs.length = o.len * sz
  cap : o.len ≤ o.cap
  fits : o.off + o.cap * sz ≤ o.l.length
  get : ∀ j u, xs[j]? = some u → o.l[o.off + j]? = some u
  free : ∀ k, k < o.l.length → (decide (o.z.1 ≤ k) && decide (k < o.z.2)) = false

/-- A slice that is its holder's own: its block, of whose cells those up to the length are xs. -/
def own (E sz : Nat) (v : Value) (xs : List Value) : Assn := fun h =>
  (v = .slice none 0 0 ∧ xs = []) ∨ ∃ o : Lies, o.ok sz v xs ∧ pt o.b (.cells o.l.toArray E o.z) h

/-- A slice value reads as xs. -/
def SlR (D : List Assn) (sz : Nat) (v : Value) (xs : List Value) : Prop :=
  (∃ p c, v = .slice p 0 c ∧ xs = []) ∨ ∃ b off len cap, v = .slice (some ⟨b, off, none⟩) len cap ∧ xs.length = len * sz ∧ ReadsN D b off xs

theorem perm_set {B X : Assn} : ∀ {A : List Assn} {i : Nat}, A[i]? = some X → (B :: A).Perm (X :: A.set i B)
  | [], _, e => by simp at e
  | C :: A, 0, e => by simp at e; subst e; exact List.Perm.swap _ _ _
  | C :: A, i + 1, e => by
    have ih := perm_set (B := B) (X := X) (A := A) (i := i) (by simpa using e)
    exact (List.Perm.swap _ _ _).trans ((ih.cons C).trans (List.Perm.swap _ _ _))

theorem HSat.replace {h : Hp} {A : List Assn} {B X : Assn} {i : Nat} (s : HSat h (B :: A)) (e : A[i]? = some X) : HSat h (A.set i B) := (s.perm (perm_set e)).tail

/-- A place of the list: its assertion first. -/
theorem HSat.front {h : Hp} {A : List Assn} {X : Assn} {i : Nat} (s : HSat h A) (e : A[i]? = some X) : HSat h (X :: A.set i (fact True)) := by
  refine HSat.perm (perm_set e) ?_
  exact ⟨fun _ => none, h, trivial, s, fun _ => Or.inl rfl, (fun _ _ e => nomatch e), Sub.refl _⟩

theorem set_imp {h : Hp} {A : List Assn} {X Y : Assn} {i : Nat} (s : HSat h A) (e : A[i]? = some X) (f : ∀ k, X k → Y k) : HSat h (A.set i Y) := by
  have h1 := (s.front e).imp f
  have hi : i < A.length := (List.getElem?_eq_some_iff.1 e).1
  have := HSat.replace (A := A.set i (fact True)) (B := Y) (X := fact True) (i := i) h1 (by simp [hi])
  rwa [List.set_set] at this

section
variable {P : Program} {L : Slots} {A D : List Assn} {ty : TypeId} {W0 w : World}

theorem ReadsN.cells {b off : Nat} {vs : List Value} (h : ReadsN D b off vs) (s : Sat W0 w D) : (loadCells ⟨b, off, none⟩ vs.length).run P w = .ok vs.toArray w := run_loadCells s h

theorem SlR.first {sz : Nat} {v : Value} {xs : List Value} (h : SlR D sz v xs) (s : Sat W0 w D) : ∃ n, (Builtin.lenOf v).run P w = .ok n w ∧ xs.length = n * sz ∧ (Builtin.firstCells sz n v).run P w = .ok xs.toArray w := by
  rcases h with ⟨p, c, rfl, rfl⟩ | ⟨b, off, len, cap, rfl, hl, hr⟩
  · exact ⟨0, rfl, by simp, by cases p <;> simp [Builtin.firstCells, loadCells, loadCellsFrom]⟩
  · exact ⟨len, rfl, hl, by simp only [Builtin.firstCells]; rw [← hl]; exact hr.cells s⟩

theorem open_at {α : Type} {h : Hp} {X : Assn} {i : Nat} {p : α → Prop} {Y : α → Assn} (s : HSat h A) (e : A[i]? = some X) (f : ∀ k, X k → ∃ x, p x ∧ Y x k) : ∃ x, p x ∧ HSat h (A.set i (Y x)) := by
  obtain ⟨h1, h2, hX, hR, d, u, v⟩ := s.front e
  obtain ⟨x, px, hx⟩ := f h1 hX
  refine ⟨x, px, ?_⟩
  have hi : i < A.length := (List.getElem?_eq_some_iff.1 e).1
  have := HSat.replace (A := A.set i (fact True)) (B := Y x) (X := fact True) (i := i) ⟨h1, h2, hx, hR, d, u, v⟩ (by simp [hi])
  rwa [List.set_set] at this

theorem run_loadCells_at {b off : Nat} {l : List Value} {e : TypeId} {z : Nat × Nat} (hb : w.heap[b]? = some (.cells l.toArray e z)) : ∀ (vs : List Value), (∀ j u, vs[j]? = some u → l[off + j]? = some u) →
    (loadCells ⟨b, off, none⟩ vs.length).run P w = .ok vs.toArray w := by
  intro vs h
  refine run_loadCells (W0 := w) (D := [pt b (.cells l.toArray e z)]) ⟨rfl, rfl, rfl, ⟨hp w, fun _ => none, hb, trivial, fun _ => .inr rfl, Sub.refl _, fun _ _ e => nomatch e⟩⟩ ?_
  intro j u hu
  exact Reads.pt 0 rfl (h j u hu)

/-- What lies behind an append in its place. -/
theorem Lies.ok.grown {o : Lies} {sz m : Nat} {v : Value} {xs ys : List Value} (ho : o.ok sz v xs) (hy : ys.length = m * sz) (hc : o.len + m ≤ o.cap) :
    Lies.ok { o with len := o.len + m, l := splice o.l (o.off + o.len * sz) ys } sz (.slice (some ⟨o.b, o.off, none⟩) (o.len + m) o.cap) (xs ++ ys) := by
  have hmul : (o.len + m) * sz ≤ o.cap * sz := Nat.mul_le_mul_right sz hc
  have hf := ho.fits
  have hl := ho.len
  rw [Nat.add_mul] at hmul
  have hsp := splice_eq ys o.l (o.off + o.len * sz) (by omega)
  refine ⟨rfl, by rw [List.length_append, hl, hy, Nat.add_mul], hc, by rw [splice_length]; exact hf, ?_, by rw [splice_length]; exact ho.free⟩
  intro j u hj
  show (splice o.l (o.off + o.len * sz) ys)[o.off + j]? = some u
  rw [hsp]
  by_cases hjx : j < xs.length
  · rw [List.getElem?_append_left hjx] at hj
    have := ho.get j u hj
    rw [List.append_assoc, List.getElem?_append_left (by simp; omega), List.getElem?_take_of_lt (by omega)]
    exact this
  · rw [List.getElem?_append_right (by omega)] at hj
    have hlt := (List.getElem?_eq_some_iff.1 hj).1
    rw [List.append_assoc, List.getElem?_append_right (by simp; omega), List.getElem?_append_left (by simp; omega)]
    rw [List.length_take, Nat.min_eq_left (by omega)]
    rw [show o.off + j - (o.off + o.len * sz) = j - xs.length from by omega]
    exact hj

theorem run_append {i E sz n c m : Nat} {t t2 : TypeId} {td2 : TypeDesc} {ti : TypeInfo} {zv : Value} {p : Option Addr} {xs ys : List Value} {x : Value}
    (ht : ∀ w, (underlying t).run P w = .ok (.slice E) w) (ht2 : ∀ w, (underlying t2).run P w = .ok td2 w) (hd : (∃ e, td2 = .slice e) ∨ td2 = .string)
    (hi : ∀ w, (typeInfo E).run P w = .ok ti w) (hs : ∀ w, (sizeOf E).run P w = .ok sz w) (hz : ∀ w, (zeroValue E).run P w = .ok zv w) (hzs : zv.cells.size = sz)
    (s : Sat W0 w A) (hA : A[i]? = some (own E sz (.slice p n c) xs))
    (hlen : ∀ w, (Builtin.lenOf x).run P w = .ok m w) (hy : ys.length = m * sz) (hfc : ∀ w, Sat W0 w A → (Builtin.firstCells sz m x).run P w = .ok ys.toArray w) (hone : ∀ v, v ∈ ys → oneC v = true)
    (hfit : (n + m) * ti.bytes ≤ 140737488355328) (hb0 : ti.bytes ≠ 0) :
    ∃ w' p' c', (Builtin.append_ #[t, t2] ty #[.slice p n c, x]).run P w = .ok (.slice p' (n + m) c') w' ∧ Sat W0 w' (A.set i (own E sz (.slice p' (n + m) c') (xs ++ ys))) := by
  have hi' : i < A.length := (List.getElem?_eq_some_iff.1 hA).1
  by_cases hn : n + m ≤ c
  · -- there is room
    have hf := hfc w s
    obtain ⟨k, hk, hs'⟩ := s.heap.at_ hA
    rcases hk with ⟨e1, e2⟩ | ⟨o', ho', _⟩
    · cases e1
      have hm : m = 0 := by omega
      subst hm
      have hys : ys = [] := by simpa using hy
      subst hys; subst e2
      refine ⟨w, none, 0, ?_, ?_⟩
      · rcases hd with ⟨e, rfl⟩ | rfl <;> simp [Builtin.append_, ht, ht2, hs, hlen, hf]
      · have := set_imp (Y := own E sz (.slice none (0 + 0) 0) ([] ++ [])) s.heap hA (fun k _ => .inl ⟨rfl, rfl⟩)
        exact ⟨s.os, s.tape, s.out, this⟩
    · have hv' := ho'.val
      obtain ⟨o, ho, hh⟩ := open_at (p := fun o : Lies => o.ok sz (.slice p n c) xs) (Y := fun o => pt o.b (.cells o.l.toArray E o.z)) s.heap hA (by
        rintro k (⟨e1, _⟩ | h)
        · rw [hv'] at e1; cases e1
        · exact h)
      have hval := ho.val
      simp only [Value.slice.injEq] at hval
      obtain ⟨rfl, rfl, rfl⟩ := hval
      have hg := ho.grown hy hn
      have hfits := ho.fits
      have hmul : (o.len + m) * sz ≤ o.cap * sz := Nat.mul_le_mul_right sz hn
      rw [Nat.add_mul] at hmul
      obtain ⟨w', r, s2⟩ := run_storeCells (P := P) (i := i) (b := o.b) (off := o.off + o.len * sz) (e := E) (z := o.z) ys o.l 0 w (A.set i (pt o.b (.cells o.l.toArray E o.z))) ⟨s.os, s.tape, s.out, hh⟩ (by simp [hi']) (by omega)
        (fun j hj => by rw [Nat.add_zero]; exact ho.free _ (by omega)) hone
      rw [List.set_set, Nat.add_zero] at s2
      refine ⟨w', some ⟨o.b, o.off, none⟩, o.cap, ?_, ?_⟩
      · rcases hd with ⟨e, rfl⟩ | rfl <;> simp [Builtin.append_, ht, ht2, hs, hlen, hf, hn, addr_add, r]
      · have := set_imp (Y := own E sz (.slice (some ⟨o.b, o.off, none⟩) (o.len + m) o.cap) (xs ++ ys)) s2.heap (i := i) (X := pt o.b (.cells (splice o.l (o.off + o.len * sz) ys).toArray E o.z)) (by simp [hi']) (fun k hk => .inr ⟨_, hg, hk⟩)
        rw [List.set_set] at this
        exact ⟨s2.os, s2.tape, s2.out, this⟩
  · -- a new block
    have hfits : Builtin.nextslicecap (n + m) c * ti.bytes ≤ 281474976710656 := growslice_fits (by omega) hfit
    have h48 : ¬ (281474976710656 < Builtin.nextslicecap (n + m) c * ti.bytes) := by omega
    have s1 : Sat W0 w.drew A := ⟨s.os, s.tape, s.out, s.heap⟩
    have hf := hfc w.drew s1
    have hold : (Builtin.firstCells sz n (.slice p n c)).run P w.drew = .ok xs.toArray w.drew ∧ xs.length = n * sz := by
      obtain ⟨k, hk, hs'⟩ := s.heap.at_ hA
      rcases hk with ⟨e1, e2⟩ | ⟨o, ho, hb⟩
      · cases e1; subst e2; simp [Builtin.firstCells]
      · have hval := ho.val
        simp only [Value.slice.injEq] at hval
        obtain ⟨rfl, rfl, rfl⟩ := hval
        refine ⟨?_, ho.len⟩
        simp only [Builtin.firstCells]; rw [← ho.len]
        exact run_loadCells_at (w := w.drew) (hs' _ _ hb) xs ho.get
    have hge := grownCap_ge w (n + m) c E
    have hz0 : (Builtin.zeroCells zv.cells (grownCap w (n + m) c E - (n + m))).size = (grownCap w (n + m) c E - (n + m)) * sz := by rw [size_zeroCells, hzs]
    generalize hq : Builtin.zeroCells zv.cells (grownCap w (n + m) c E - (n + m)) = zc at hz0
    generalize hgc : grownCap w (n + m) c E = gc at hge hz0
    have s2 := s1.new (.cells (xs ++ ys ++ zc.toList).toArray E)
    refine ⟨_, some ⟨w.heap.size, 0, none⟩, gc, ?_, ⟨s2.os, s2.tape, s2.out, ?_⟩⟩
    · have e1 : (xs ++ ys ++ zc.toList).toArray = xs.toArray ++ ys.toArray ++ zc := by apply Array.ext'; simp
      rw [e1, ← hq, ← hgc]
      rcases hd with ⟨e, rfl⟩ | rfl <;> simp [Builtin.append_, ht, ht2, hi, hs, hz, hlen, hn, hb0, h48, Question.forced, hf, hold.1, newRow, grownCap] <;> rw [← Array.append_assoc, show xs.toArray ++ ys.toArray = (xs ++ ys).toArray from by simp] <;> rfl
    · refine HSat.replace (X := own E sz (.slice p n c) xs) (s2.heap.imp (B := own E sz (.slice (some ⟨w.heap.size, 0, none⟩) (n + m) gc) (xs ++ ys)) ?_) hA
      intro k hk
      refine .inr ⟨⟨w.heap.size, 0, n + m, gc, xs ++ ys ++ zc.toList, (0, 0)⟩, ⟨rfl, by simp [hold.2, hy, Nat.add_mul], hge, ?_, ?_, by simp⟩, hk⟩
      · have : gc * sz = (n + m) * sz + (gc - (n + m)) * sz := by rw [← Nat.add_mul]; congr 1; omega
        simp [hold.2, hy, hz0, Nat.add_mul] at this ⊢; omega
      · intro j u hj
        rw [Nat.zero_add, List.getElem?_append_left (List.getElem?_eq_some_iff.1 hj).1]; exact hj


/-- 'append(s, x...)' onto an owned slice: from another slice or a string. -/
theorem C.app_ {i E sz n c m : Nat} {T T' : TypeId} {td2 : TypeDesc} {ti : TypeInfo} {zv : Value} {p : Option Addr} {xs ys : List Value} {x y : Operand} {u : Value}
    (ht : ∀ w, (underlying T).run P w = .ok (.slice E) w) (ht2 : ∀ w, (underlying T').run P w = .ok td2 w) (hd : (∃ e, td2 = .slice e) ∨ td2 = .string)
    (hi : ∀ w, (typeInfo E).run P w = .ok ti w) (hs : ∀ w, (sizeOf E).run P w = .ok sz w) (hz : ∀ w, (zeroValue E).run P w = .ok zv w) (hzs : zv.cells.size = sz)
    (ex : evs L [x, y] = some [.slice p n c, u]) (hA : A[i]? = some (own E sz (.slice p n c) xs))
    (hlen : ∀ w, (Builtin.lenOf u).run P w = .ok m w) (hy : ys.length = m * sz) (hfc : ∀ W0 w, Sat W0 w A → (Builtin.firstCells sz m u).run P w = .ok ys.toArray w) (hone : ∀ v, v ∈ ys → oneC v = true)
    (hfit : (n + m) * ti.bytes ≤ 140737488355328) (hb0 : ti.bytes ≠ 0) :
    OpC P (.call { callee := .builtin .append, args := #[x, y], argTypes := #[T, T'] }) ty L A (fun v B => ∃ p' c', v = .slice p' (n + m) c' ∧ B = A.set i (own E sz (.slice p' (n + m) c') (xs ++ ys))) := by
  refine ⟨fun dst pos aft g a W0 w ag s K Q k => ?_⟩
  obtain ⟨w', p', c', r, s'⟩ := run_append (ty := ty) ht ht2 hd hi hs hz hzs s hA hlen hy (hfc W0) hone hfit hb0
  have hx : [x, y].map a.eval = _ := evs_map (fun x hx => ag x (by simp only [Op.operands, Call.operands]; simpa using hx)) ex
  simp only [List.map_cons, List.map_nil, List.cons.injEq, and_true] at hx
  obtain ⟨e1, e2⟩ := hx
  have hr : (execOp a.eval ⟨dst, .call { callee := .builtin .append, args := #[x, y], argTypes := #[T, T'] }, ty, pos, aft, g⟩).run P w = .ok (.value (.slice p' (n + m) c')) w' := by
    simp [execOp, resolve, invoke, builtin, e1, e2, r]
  unfold Oper.wp
  rw [hr, Oper.upon_value]
  exact k _ _ _ ⟨p', c', rfl, rfl⟩ s'

theorem C.app {i E sz n c m c2 : Nat} {T T' E2 : TypeId} {ti : TypeInfo} {zv : Value} {p p2 : Option Addr} {xs ys : List Value} {x y : Operand}
    (ht : ∀ w, (underlying T).run P w = .ok (.slice E) w) (ht2 : ∀ w, (underlying T').run P w = .ok (.slice E2) w)
    (hi : ∀ w, (typeInfo E).run P w = .ok ti w) (hs : ∀ w, (sizeOf E).run P w = .ok sz w) (hz : ∀ w, (zeroValue E).run P w = .ok zv w) (hzs : zv.cells.size = sz)
    (ex : evs L [x, y] = some [.slice p n c, .slice p2 m c2]) (hA : A[i]? = some (own E sz (.slice p n c) xs))
    (hsrc : SlR A sz (.slice p2 m c2) ys) (hone : ∀ v, v ∈ ys → oneC v = true)
    (hfit : (n + m) * ti.bytes ≤ 140737488355328) (hb0 : ti.bytes ≠ 0) :
    OpC P (.call { callee := .builtin .append, args := #[x, y], argTypes := #[T, T'] }) ty L A (fun v B => ∃ p' c', v = .slice p' (n + m) c' ∧ B = A.set i (own E sz (.slice p' (n + m) c') (xs ++ ys))) := by
  have hy : ys.length = m * sz := by
    rcases hsrc with ⟨_, c, e, rfl⟩ | ⟨b, off, len, cap, e, hl, _⟩
    · cases e; simp
    · cases e; exact hl
  refine C.app_ ht ht2 (.inl ⟨_, rfl⟩) hi hs hz hzs ex hA (fun _ => rfl) hy ?_ hone hfit hb0
  intro W0 w s
  rcases hsrc with ⟨_, c, e, rfl⟩ | ⟨b, off, len, cap, e, hl, hr⟩
  · cases e; cases p2 <;> simp [Builtin.firstCells, loadCells, loadCellsFrom]
  · cases e; simp only [Builtin.firstCells]; rw [← hl]; exact hr.cells s

theorem C.apps {i E n c : Nat} {T T' : TypeId} {ti : TypeInfo} {zv : Value} {p : Option Addr} {xs : List Value} {x y : Operand} {t : ByteArray}
    (ht : ∀ w, (underlying T).run P w = .ok (.slice E) w) (ht2 : ∀ w, (underlying T').run P w = .ok .string w)
    (hi : ∀ w, (typeInfo E).run P w = .ok ti w) (hs : ∀ w, (sizeOf E).run P w = .ok 1 w) (hz : ∀ w, (zeroValue E).run P w = .ok zv w) (hzs : zv.cells.size = 1)
    (ex : evs L [x, y] = some [.slice p n c, .string t]) (hA : A[i]? = some (own E 1 (.slice p n c) xs))
    (hfit : (n + t.size) * ti.bytes ≤ 140737488355328) (hb0 : ti.bytes ≠ 0) :
    OpC P (.call { callee := .builtin .append, args := #[x, y], argTypes := #[T, T'] }) ty L A (fun v B => ∃ p' c', v = .slice p' (n + t.size) c' ∧ B = A.set i (own E 1 (.slice p' (n + t.size) c') (xs ++ bytesV t.data.toList))) := by
  refine C.app_ ht ht2 (.inr rfl) hi hs hz hzs ex hA (fun _ => rfl) (by simp [bytesV]) ?_ (by intro v hv; simp only [bytesV, List.mem_map] at hv; obtain ⟨u, _, rfl⟩ := hv; rfl) hfit hb0
  intro W0 w s
  simp only [Builtin.firstCells, Sem.run_pure]
  congr 1
  apply Array.ext'
  simp [bytesV, byteV]

/-! bytes and strings -/
theorem bytes_fold : ∀ (bs : List UInt8) (r : ByteArray), (bs.map fun u => (u.toNat : Int)).foldl (fun r n => r.push (UInt8.ofNat n.toNat)) r = ⟨r.data ++ bs.toArray⟩
  | [], r => by simp
  | u :: bs, r => by
    simp only [List.map_cons, List.foldl_cons]
    rw [bytes_fold bs]
    congr 1
    apply Array.ext'
    simp [ByteArray.push]

theorem Q.b2s {E : TypeId} {T T' : TypeId} {x : Operand} {v : Value} {bs : List UInt8} (h1 : ∀ w, (underlying T).run P w = .ok (.slice E) w) (h2 : ∀ w, (underlying T').run P w = .ok .string w) (h3 : ∀ w, (underlying E).run P w = .ok (.int .u8) w)
    (ex : ev L x = some v) (hr : SlR D 1 v (bytesV bs)) : OpQ P (.convert T T' x) ty L D (.string ⟨bs.toArray⟩) := by
  refine ⟨fun dst pos aft g a W0 w F ag s => ⟨w, ?_, s⟩⟩
  have e1 := ag.at_ ex (by simp [Op.operands])
  rcases hr with ⟨p, c, rfl, hb⟩ | ⟨b, off, len, cap, rfl, hl, hr⟩
  · have : bs = [] := by simpa [bytesV] using hb
    subst this
    cases p with
    | none => simp [execOp, e1, convert, h1, h2, h3, Conv.bytesToString]; rfl
    | some p =>
      have := run_bytesToString (P := P) w p 0 c [] (by simp [loadCells, loadCellsFrom])
      simp only [List.foldl_nil] at this
      simp [execOp, e1, convert, h1, h2, h3, this]; rfl
  · have hc := run_loadCells (P := P) s (fun i v hv => (hr i v hv).more (F := F))
    have hbv : bytesV bs = (bs.map fun u => (u.toNat : Int)).map (Value.int .u8) := by simp [bytesV, byteV, Function.comp_def]
    rw [hl, Nat.mul_one, hbv] at hc
    have := run_bytesToString (P := P) w ⟨b, off, none⟩ len cap _ hc
    rw [bytes_fold] at this
    simp [execOp, e1, convert, h1, h2, h3, this]

theorem C.s2b {E : TypeId} {T T' : TypeId} {x : Operand} {t : ByteArray} (h1 : ∀ w, (underlying T).run P w = .ok .string w) (h2 : ∀ w, (underlying T').run P w = .ok (.slice E) w) (h3 : ∀ w, (underlying E).run P w = .ok (.int .u8) w)
    (ex : ev L x = some (.string t)) : OpC P (.convert T T' x) ty L A (fun v B => ∃ b c, v = .slice (some ⟨b, 0, none⟩) t.size c ∧ B = own E 1 (.slice (some ⟨b, 0, none⟩) t.size c) (bytesV t.data.toList) :: A) := by
  refine ⟨fun dst pos aft g a W0 w ag s K Q k => ?_⟩
  have e1 := ag.at_ ex (by simp [Op.operands])
  have hge : t.size ≤ grownCap w t.size 0 E := grownCap_ge w t.size 0 E
  generalize hgc : grownCap w t.size 0 E = gc at hge
  have s1 : Sat W0 w.drew A := ⟨s.os, s.tape, s.out, s.heap⟩
  have s2 : Sat W0 { w.drew with heap := w.drew.heap.push (.cells (bytesV t.data.toList ++ List.replicate (gc - t.size) (Value.int .u8 0)).toArray E (0, 0)) } (pt w.heap.size (.cells (bytesV t.data.toList ++ List.replicate (gc - t.size) (Value.int .u8 0)).toArray E (0, 0)) :: A) := s1.new _
  have hb2 : ({ w.drew with heap := w.drew.heap.push (.cells (bytesV t.data.toList ++ List.replicate (gc - t.size) (Value.int .u8 0)).toArray E (0, 0)) } : World).heap[w.heap.size]? = some (.cells (bytesV t.data.toList ++ List.replicate (gc - t.size) (Value.int .u8 0)).toArray E (0, 0)) := by
    show (w.heap.push _)[w.heap.size]? = _
    simp
  have hlen : (bytesV t.data.toList ++ List.replicate (gc - t.size) (Value.int .u8 0)).length = gc := by
    have : t.data.toList.length = t.size := by simp
    simp only [bytesV, List.length_append, List.length_map, List.length_replicate, this]; omega
  generalize hw2 : ({ w.drew with heap := w.drew.heap.push (.cells (bytesV t.data.toList ++ List.replicate (gc - t.size) (Value.int .u8 0)).toArray E (0, 0)) } : World) = w2 at s2 hb2
  have s3 : Sat W0 (w2.freeze ⟨w.heap.size, gc, none⟩ 1) (pt w.heap.size (.cells (bytesV t.data.toList ++ List.replicate (gc - t.size) (Value.int .u8 0)).toArray E (gc, gc + 1)) :: A) := by
    refine s2.set (i := 0) (b := w.heap.size) (p := .cells (bytesV t.data.toList ++ List.replicate (gc - t.size) (Value.int .u8 0)).toArray E (gc, gc + 1)) rfl rfl rfl rfl ?_
    unfold World.freeze
    rw [if_neg (by omega)]
    show hp { w2 with heap := w2.heap.modify w.heap.size _ } = _
    rw [hp_modify w2 _ _ _ hb2]
    simp
  have hr : (execOp a.eval ⟨dst, .convert T T' x, ty, pos, aft, g⟩).run P w = .ok (.value (.slice (some ⟨w.heap.size, 0, none⟩) t.size gc)) (w2.freeze ⟨w.heap.size, gc, none⟩ 1) := by
    have hea : (Array.map (fun b : UInt8 => Value.int .u8 b.toNat) t.data ++ Array.replicate (gc - t.size) (Value.int .u8 0)) = (bytesV t.data.toList ++ List.replicate (gc - t.size) (Value.int .u8 0)).toArray := by
      apply Array.ext'; simp [bytesV, byteV]
    have hsh : w2.shape? w.heap.size = some (E, gc) := by
      have : w2.heap[w.heap.size]? = _ := hb2
      simp only [World.shape?, this, List.size_toArray, hlen]
    have hch : ∀ v : World, (choose (.appendCap t.size 0 E)).run P v = .ok (grownCap v t.size 0 E) v.drew := by
      intro v; simp [Question.forced, grownCap]
    simp only [execOp, e1, convert, Sem.run_bind, h1, h2, h3, Result.andThen_ok, Conv.stringToBytes, hch, hgc, newRow, run_new, hea, hw2, markStringish, run_shape, Sem.run_pure]
    rw [show w.drew.heap.size = w.heap.size from rfl, hsh]
    rfl
  unfold Oper.wp
  rw [hr, Oper.upon_value]
  refine k _ _ _ ⟨_, _, rfl, rfl⟩ ⟨s3.os, s3.tape, s3.out, s3.heap.imp ?_⟩
  intro h hh
  refine .inr ⟨⟨w.heap.size, 0, t.size, gc, _, (gc, gc + 1)⟩, ⟨rfl, by simp [bytesV], hge, by rw [hlen]; simp, ?_, ?_⟩, hh⟩
  · intro j u hj
    rw [Nat.zero_add, List.getElem?_append_left (List.getElem?_eq_some_iff.1 hj).1]; exact hj
  · intro o ho
    rw [hlen] at ho
    simp; omega

end
end Go.X
