/-
  Maps in memory with whatever their entries hold: the assertion, and what look-ups, updates and deletions do to it. No program in sight.
-/
import Derived.Test.YtdancegklkifaaaXr
namespace Go.X
set_option linter.unusedSectionVars false
set_option linter.unusedSimpArgs false
set_option linter.unusedVariables false

section opened
variable {P : Program} {op : Op} {ty : TypeId} {L : Slots} {A D : List Assn}

theorem perm_take {α : Type} {x : α} : ∀ {l : List α} {j : Nat}, l[j]? = some x → l.Perm (x :: l.eraseIdx j)
  | [], _, h => by simp at h
  | y :: l, 0, h => by simp at h; subst h; exact List.Perm.refl _
  | y :: l, j + 1, h => ((perm_take (l := l) (j := j) (by simpa using h)).cons y).trans (List.Perm.swap _ _ _)
theorem perm_give {α : Type} {x : α} {l : List α} {j : Nat} (h : j < l.length) : (l.set j x).Perm (x :: l.eraseIdx j) := by
  have := perm_take (l := l.set j x) (j := j) (x := x) (by simp [h])
  rwa [List.eraseIdx_set_eq] at this

theorem HSat.openAt {h : Hp} {A : List Assn} {X : Assn} {i : Nat} (s : HSat h A) (e : A[i]? = some X) : ∃ h1 h2, X h1 ∧ HSat h2 (A.eraseIdx i) ∧ Dis h1 h2 ∧ Sub h1 h ∧ Sub h2 h := by
  exact s.perm (perm_take e)

theorem perm_erase {A : List Assn} {X Y : Assn} {i : Nat} (e : A[i]? = some X) : (Y :: A.eraseIdx i).Perm (A.set i Y) := (perm_give (List.getElem?_eq_some_iff.1 e).1).symm

/-- What an operation gives, found where one assertion is opened. -/
theorem OpQ.opened {α : Type} {i : Nat} {B : Assn} {Bs : α → List Assn} {p : α → Prop} {v : Value} (e : D[i]? = some B) (f : ∀ h, B h → ∃ x, p x ∧ HSat h (Bs x)) (g : ∀ x, p x → ∀ h, HSat h (Bs x) → B h)
    (k : ∀ x, p x → OpQ P op ty L (Bs x ++ D.eraseIdx i) v) : OpQ P op ty L D v := by
  refine ⟨fun dst pos aft gd a W0 w F ag s => ?_⟩
  have e' : (D ++ F)[i]? = some B := by rw [List.getElem?_append_left (List.getElem?_eq_some_iff.1 e).1]; exact e
  have he : (D ++ F).eraseIdx i = D.eraseIdx i ++ F := by rw [List.eraseIdx_append_of_lt_length (List.getElem?_eq_some_iff.1 e).1]
  obtain ⟨h1, h2, hb, hd, d, s1, s2⟩ := s.heap.openAt e'
  obtain ⟨x, px, hx⟩ := f h1 hb
  rw [he] at hd
  obtain ⟨w', r, s'⟩ := (k x px).run dst pos aft gd a W0 w F ag ⟨s.os, s.tape, s.out, by rw [List.append_assoc]; exact HSat.of_append hx hd d s1 s2⟩
  refine ⟨w', r, s'.imp fun q t => ?_⟩
  rw [List.append_assoc] at t
  obtain ⟨k1, k2, t1, t2, t3, t4, t5⟩ := t.append
  have : HSat q (B :: (D ++ F).eraseIdx i) := ⟨k1, k2, g x px _ t1, by rw [he]; exact t2, t3, t4, t5⟩
  refine this.perm ((perm_erase (Y := B) e').trans ?_)
  rw [set_self e']

/-- What an operation comes to, found where one assertion is opened. -/
theorem OpC.opened {α : Type} {i : Nat} {B : Assn} {Bs : α → List Assn} {p : α → Prop} {R : Value → List Assn → Prop} (e : A[i]? = some B) (f : ∀ h, B h → ∃ x, p x ∧ HSat h (Bs x))
    (k : ∀ x, p x → OpC P op ty L (Bs x ++ A.eraseIdx i) R) : OpC P op ty L A R := by
  refine ⟨fun dst pos aft gd a W0 w ag s K Q kk => ?_⟩
  obtain ⟨h1, h2, hb, hd, d, s1, s2⟩ := s.heap.openAt e
  obtain ⟨x, px, hx⟩ := f h1 hb
  exact (k x px).wp dst pos aft gd a W0 w ag ⟨s.os, s.tape, s.out, HSat.of_append hx hd d s1 s2⟩ K Q kk

/-- Another way to say what it comes to. -/
theorem OpC.shutTo {R R' : Value → List Assn → Prop} (k : OpC P op ty L A R) (f : ∀ v B, R v B → ∃ B', R' v B' ∧ ∀ h, HSat h B → HSat h B') : OpC P op ty L A R' := by
  refine ⟨fun dst pos aft gd a W0 w ag s K Q kk => k.wp dst pos aft gd a W0 w ag s K Q fun v B w' r s' => ?_⟩
  obtain ⟨B', r', hb⟩ := f v B r
  exact kk v B' w' r' (s'.imp hb)
end opened

namespace G
variable {κ ν : Type} [DecidableEq κ]

/-- An entry: its key, what it stands for, what the map holds for it, when it came. -/
structure Ent (κ ν : Type) where
  key : κ
  v : ν
  val : Value
  born : Nat
def Ent.m (e : Ent κ ν) : MEnt κ := ⟨e.key, e.val, e.born⟩
def Ent.kv (e : Ent κ ν) : κ × ν := (e.key, e.v)

structure Ents (S : List (κ × ν)) (es : List (Ent κ ν)) (c : Nat) : Prop where
  perm : (es.map Ent.kv).Perm S
  keys : (es.map (·.key)).Nodup
  born : (es.map (·.born)).Nodup
  old : ∀ e, e ∈ es → e.born < c

def Ent.asn (rep : κ → ν → Value → Assn) (e : Ent κ ν) : Assn := rep e.key e.v e.val

/-- A map that stands for S. -/
def MapAt (enc : κ → Value) (rep : κ → ν → Value → Assn) (r : Nat) (S : List (κ × ν)) : Assn := fun h => ∃ x : List (Ent κ ν) × Nat, Ents S x.1 x.2 ∧ HSat h [pt r (mobj enc (x.1.map Ent.m) x.2), star (x.1.map (Ent.asn rep))]

/-- The same without what the entry under k holds. -/
def MapHole (enc : κ → Value) (rep : κ → ν → Value → Assn) (r : Nat) (S : List (κ × ν)) (k : κ) (val : Value) : Assn := fun h => ∃ x : List (Ent κ ν) × Nat × Nat × Ent κ ν, Ents S x.1 x.2.1 ∧ x.1[x.2.2.1]? = some x.2.2.2 ∧ x.2.2.2.key = k ∧ x.2.2.2.val = val ∧
  HSat h [pt r (mobj enc (x.1.map Ent.m) x.2.1), star ((x.1.eraseIdx x.2.2.1).map (Ent.asn rep))]

theorem Ents.kvnodup {S : List (κ × ν)} {es : List (Ent κ ν)} {c : Nat} (h : Ents S es c) : (S.map (·.1)).Nodup := by
  have : ((es.map Ent.kv).map (·.1)).Nodup := by
    have e : (es.map Ent.kv).map (·.1) = es.map (·.key) := by rw [List.map_map]; rfl
    rw [e]; exact h.keys
  exact (h.perm.map _).nodup_iff.1 this
theorem Ents.get {S : List (κ × ν)} {es : List (Ent κ ν)} {c : Nat} (h : Ents S es c) (k : κ) : sget k S = sget k (es.map Ent.kv) := (sget_perm h.perm h.kvnodup).symm
theorem Ents.len {S : List (κ × ν)} {es : List (Ent κ ν)} {c : Nat} (h : Ents S es c) : es.length = S.length := by rw [← h.perm.length_eq, List.length_map]

/-- Where a key is, on all levels at once. -/
theorem elook (k : κ) : ∀ es : List (Ent κ ν), (mget k (es.map Ent.m) = none ∧ sget k (es.map Ent.kv) = none ∧ mdel k (es.map Ent.m) = es.map Ent.m ∧ ∀ e, e ∈ es → e.key ≠ k) ∨
    ∃ i e, es[i]? = some e ∧ e.key = k ∧ mget k (es.map Ent.m) = some e.val ∧ sget k (es.map Ent.kv) = some e.v ∧ mdel k (es.map Ent.m) = (es.eraseIdx i).map Ent.m ∧ (∀ v, mset k v (es.map Ent.m) = (es.map Ent.m).set i ⟨k, v, e.born⟩)
  | [] => .inl ⟨rfl, rfl, rfl, fun _ h => by cases h⟩
  | y :: es => by
    by_cases h : k = y.key
    · refine .inr ⟨0, y, rfl, h.symm, ?_, ?_, ?_, ?_⟩ <;> simp [mget, sget, mdel, mset, Ent.m, Ent.kv, h]
    · have e1 : ¬ k = (Ent.m y).key := h
      have e2 : ¬ k = (Ent.kv y).1 := h
      rcases elook k es with ⟨h1, h2, h3, h4⟩ | ⟨i, e, h1, h2, h3, h4, h5, h6⟩
      · left
        refine ⟨?_, ?_, ?_, ?_⟩
        · simp only [List.map_cons, mget, e1, if_false, h1]
        · simp only [List.map_cons, sget, e2, if_false, h2]
        · simp only [List.map_cons, mdel, e1, if_false, h3]
        · intro e he
          rcases List.mem_cons.1 he with rfl | he
          · exact fun q => h q.symm
          · exact h4 e he
      · right
        refine ⟨i + 1, e, by simpa using h1, h2, ?_, ?_, ?_, ?_⟩
        · simp only [List.map_cons, mget, e1, if_false, h3]
        · simp only [List.map_cons, sget, e2, if_false, h4]
        · simp only [List.map_cons, mdel, e1, if_false, h5, List.eraseIdx_cons_succ]
        · intro v; simp only [List.map_cons, mset, e1, if_false, h6 v, List.set_cons_succ]

theorem mget_none {S : List (κ × ν)} {es : List (Ent κ ν)} {c : Nat} (h : Ents S es c) {k : κ} (hk : sget k S = none) : mget k (es.map Ent.m) = none := by
  rw [h.get] at hk
  rcases elook k es with ⟨h1, _⟩ | ⟨i, e, _, _, _, h4, _⟩
  · exact h1
  · rw [h4] at hk; cases hk
theorem at_key {es : List (Ent κ ν)} (h : (es.map (·.key)).Nodup) {i j : Nat} {e f : Ent κ ν} (hi : es[i]? = some e) (hj : es[j]? = some f) (hk : e.key = f.key) : i = j := by
  have h1 := (List.getElem?_eq_some_iff.1 hi).1
  exact (List.getElem?_inj (by rw [List.length_map]; exact h1) h).1 (by rw [List.getElem?_map, List.getElem?_map, hi, hj]; exact congrArg some hk)
theorem mget_at {es : List (Ent κ ν)} (h : (es.map (·.key)).Nodup) {j : Nat} {e : Ent κ ν} (hj : es[j]? = some e) : mget e.key (es.map Ent.m) = some e.val ∧ sget e.key (es.map Ent.kv) = some e.v ∧ mdel e.key (es.map Ent.m) = (es.eraseIdx j).map Ent.m ∧ (∀ v, mset e.key v (es.map Ent.m) = (es.map Ent.m).set j ⟨e.key, v, e.born⟩) := by
  rcases elook e.key es with ⟨_, _, _, h4⟩ | ⟨i, f, h1, h2, h3, h4, h5, h6⟩
  · exact absurd rfl (h4 e (List.mem_of_getElem? hj))
  · have := at_key h h1 hj h2
    subst this
    rw [h1] at hj; cases hj
    exact ⟨h3, h4, h5, h6⟩

theorem sdel_kv {S : List (κ × ν)} {es : List (Ent κ ν)} (hn : (es.map (·.key)).Nodup) (hS : S.Perm (es.map Ent.kv)) {j : Nat} {e : Ent κ ν} (hj : es[j]? = some e) : (sdel e.key S).Perm ((es.eraseIdx j).map Ent.kv) := by
  have hS2 : S.Perm ((e.key, e.v) :: (es.eraseIdx j).map Ent.kv) := hS.trans ((perm_take hj).map Ent.kv)
  unfold sdel
  refine (hS2.filter _).trans ?_
  rw [List.filter_cons]
  simp only [decide_true, Bool.not_true]
  have : ((es.eraseIdx j).map Ent.kv).filter (fun p => !decide (p.1 = e.key)) = (es.eraseIdx j).map Ent.kv := by
    rw [List.filter_eq_self]
    intro p hp
    obtain ⟨f, hf, rfl⟩ := List.mem_map.1 hp
    have : f.key ≠ e.key := by
      intro q
      obtain ⟨i, hi⟩ := List.getElem?_of_mem hf
      rw [List.getElem?_eraseIdx] at hi
      split at hi
      · have := at_key hn hi hj q; omega
      · have := at_key hn hi hj q; omega
    simp [Ent.kv, this]
  simp [this]

/-! ### Opening and shutting -/
section asn
variable {enc : κ → Value} {rep : κ → ν → Value → Assn} {r : Nat} {S : List (κ × ν)} {k : κ} {v : ν} {val : Value}

/-- An empty map. -/
theorem HSat.one {X : Assn} {h : Hp} (hx : X h) : HSat h [X] := ⟨h, fun _ => none, hx, trivial, fun _ => Or.inr rfl, Sub.refl _, fun _ _ e => nomatch e⟩
theorem HSat.two {X Y : Assn} {h h1 h2 : Hp} (hx : X h1) (hy : Y h2) (d : Dis h1 h2) (s1 : Sub h1 h) (s2 : Sub h2 h) : HSat h [X, Y] := ⟨h1, h2, hx, HSat.one hy, d, s1, s2⟩
theorem MapAt.new : ∀ h, pt r (.map #[] 0) h → MapAt enc rep r ([] : List (κ × ν)) h := fun h hh =>
  ⟨([], 0), ⟨List.Perm.refl _, by simp, by simp, by simp⟩, HSat.two (h2 := fun _ => none) hh trivial (fun _ => Or.inr rfl) (Sub.refl _) (fun _ _ e => nomatch e)⟩

/-- The entry under a key is looked at. -/
theorem MapAt.focus (hk : sget k S = some v) : ∀ h, MapAt enc rep r S h → ∃ val, HSat h [rep k v val, MapHole enc rep r S k val] := by
  rintro h ⟨⟨es, c⟩, ok, hs⟩
  have hk' := hk
  rw [ok.get] at hk'
  rcases elook k es with ⟨_, h2, _⟩ | ⟨i, e, h1, h2, h3, h4, _⟩
  · rw [h2] at hk'; cases hk'
  · rw [h4] at hk'; cases hk'
    refine ⟨e.val, ?_⟩
    subst h2
    obtain ⟨a1, a2, p1, ⟨b1, b2, q1, _, _, s1, _⟩, d, t1, t2⟩ := hs
    have hp := HSat.perm (perm_focus (Ent.asn rep) h1) q1
    obtain ⟨c1, c2, u1, u2, d2, v1, v2⟩ := hp
    have hdis : Dis a1 c2 := d.mono (Sub.refl _) (v2.trans s1)
    refine HSat.two (h1 := c1) (h2 := join a1 c2) u1 ⟨(es, c, i, e), ok, h1, rfl, rfl, HSat.two p1 u2 hdis (join_left _ _) (join_right hdis)⟩ ?_ ?_ ?_
    · exact (join_dis (d.mono (Sub.refl _) (v1.trans s1)) d2.symm).symm
    · exact v1.trans (s1.trans t2)
    · exact join_sub t1 (v2.trans (s1.trans t2))

/-- And is put back, standing for whatever it then does. -/
theorem MapHole.back {lt : κ → κ → Bool} (o : Ord3 lt) (hS : Srtd lt S) (v' : ν) : ∀ h, HSat h [rep k v' val, MapHole enc rep r S k val] → MapAt enc rep r (sput lt k v' S) h := by
  rintro h ⟨a1, a2, p1, ⟨b1, b2, ⟨⟨es, c, j, e⟩, ok, hj, he, hv, hs⟩, _, _, s1, _⟩, d, t1, t2⟩
  subst he hv
  obtain ⟨c1, c2, q1, ⟨d1, d2, q2, _, _, x1, _⟩, dd, y1, y2⟩ := hs
  dsimp only at q1 q2 hj ok
  have hlt := (List.getElem?_eq_some_iff.1 hj).1
  have hel : es[j] = e := (List.getElem?_eq_some_iff.1 hj).2
  have hset : (es.set j { e with v := v' }).map Ent.m = es.map Ent.m := by
    rw [List.map_set]
    exact set_self (by rw [List.getElem?_map, hj]; rfl)
  have hstar : star ((es.set j { e with v := v' }).map (Ent.asn rep)) (join a1 d1) :=
    HSat.perm (perm_unfocus (Ent.asn rep) (l := es) (k := j) (x := { e with v := v' }) hlt) ⟨a1, d1, p1, q2, d.mono (Sub.refl _) (x1.trans (y2.trans s1)), join_left _ _, join_right (d.mono (Sub.refl _) (x1.trans (y2.trans s1)))⟩
  have hdis2 : Dis c1 (join a1 d1) := (join_dis (d.mono (Sub.refl _) (y1.trans s1)) (dd.mono (Sub.refl _) x1).symm).symm
  refine ⟨(es.set j { e with v := v' }, c), ⟨?_, ?_, ?_, ?_⟩, ?_⟩
  · have hkv : ((es.set j { e with v := v' }).map Ent.kv) = (es.map Ent.kv).set j (e.key, v') := by rw [List.map_set]; rfl
    rw [hkv]
    have hpe2 : ((es.map Ent.kv).set j (e.key, v')).Perm ((e.key, v') :: (es.eraseIdx j).map Ent.kv) := by
      rw [← hkv]; exact (perm_give hlt).map Ent.kv
    exact hpe2.trans (((sdel_kv ok.keys ok.perm.symm hj).symm.cons _).trans (sput_perm o (hS.nodup o) _ _).symm)
  · show ((es.set j { e with v := v' }).map (·.key)).Nodup
    rw [List.map_set]
    have : (es.map (·.key)).set j e.key = es.map (·.key) := set_self (by rw [List.getElem?_map, hj]; rfl)
    rw [this]; exact ok.keys
  · show ((es.set j { e with v := v' }).map (·.born)).Nodup
    rw [List.map_set]
    have : (es.map (·.born)).set j e.born = es.map (·.born) := set_self (by rw [List.getElem?_map, hj]; rfl)
    rw [this]; exact ok.born
  · intro f hf
    rcases List.mem_or_eq_of_mem_set hf with h | rfl
    · exact ok.old f h
    · exact ok.old e (List.mem_of_getElem? hj)
  · rw [hset]
    exact HSat.two q1 hstar hdis2 (y1.trans (s1.trans t2)) (join_sub t1 (x1.trans (y2.trans (s1.trans t2))))

/-- What was under the key is let go. -/
theorem MapHole.sub : ∀ h, MapHole enc rep r S k val h → ∃ x : List (Ent κ ν) × Nat × Nat × Ent κ ν, (Ents S x.1 x.2.1 ∧ x.1[x.2.2.1]? = some x.2.2.2 ∧ x.2.2.2.key = k ∧ x.2.2.2.val = val) ∧ HSat h [pt r (mobj enc (x.1.map Ent.m) x.2.1), star ((x.1.eraseIdx x.2.2.1).map (Ent.asn rep))] := by
  rintro h ⟨x, h1, h2, h3, h4, h5⟩; exact ⟨x, ⟨h1, h2, h3, h4⟩, h5⟩
theorem MapHole.mk' : ∀ x : List (Ent κ ν) × Nat × Nat × Ent κ ν, (Ents S x.1 x.2.1 ∧ x.1[x.2.2.1]? = some x.2.2.2 ∧ x.2.2.2.key = k ∧ x.2.2.2.val = val) → ∀ h, HSat h [pt r (mobj enc (x.1.map Ent.m) x.2.1), star ((x.1.eraseIdx x.2.2.1).map (Ent.asn rep))] → MapHole enc rep r S k val h := by
  rintro x ⟨h1, h2, h3, h4⟩ h h5; exact ⟨x, h1, h2, h3, h4, h5⟩
end asn

/-! ### Operations -/
section ops
variable {P : Program} {L : Slots} {A D : List Assn} {ty : TypeId} {T K E : TypeId} {x y z : Operand}
variable {enc : κ → Value} {rep : κ → ν → Value → Assn} {r : Nat} {S : List (κ × ν)} {k : κ} {val : Value}

theorem Q.lkNo {i : Nat} {zv : Value} (hT : ∀ w, (underlying T).run P w = .ok (.map K E) w) (hk : Keyed P K enc) (hz : ∀ w, (zeroValue E).run P w = .ok zv w) (ex : ev L x = some (.map (some r))) (ey : ev L y = some (enc k))
    (hA : D[i]? = some (MapAt enc rep r S)) (hn : sget k S = none) : OpQ P (.lookup T x y false) ty L D zv :=
  OpQ.opened hA (fun _ h => h) (fun x hx h s => ⟨x, hx, s⟩) fun x hx => Q.lk (i := 0) hT hk hz ex ey rfl (by rw [mget_none hx hn]; rfl)
theorem Q.lk2No {i : Nat} {zv : Value} (hT : ∀ w, (underlying T).run P w = .ok (.map K E) w) (hk : Keyed P K enc) (hz : ∀ w, (zeroValue E).run P w = .ok zv w) (ex : ev L x = some (.map (some r))) (ey : ev L y = some (enc k))
    (hA : D[i]? = some (MapAt enc rep r S)) (hn : sget k S = none) : OpQ P (.lookup T x y true) ty L D (.tuple #[zv, .bool false]) :=
  OpQ.opened hA (fun _ h => h) (fun x hx h s => ⟨x, hx, s⟩) fun x hx => by
    have := Q.lk2 (P := P) (ty := ty) (D := pt r (mobj enc (x.1.map Ent.m) x.2) :: star (x.1.map (Ent.asn rep)) :: D.eraseIdx i) (i := 0) hT hk hz ex ey rfl
    rw [mget_none hx hn] at this; exact this
theorem Q.lkYes {i : Nat} {zv : Value} (hT : ∀ w, (underlying T).run P w = .ok (.map K E) w) (hk : Keyed P K enc) (hz : ∀ w, (zeroValue E).run P w = .ok zv w) (ex : ev L x = some (.map (some r))) (ey : ev L y = some (enc k))
    (hA : D[i]? = some (MapHole enc rep r S k val)) : OpQ P (.lookup T x y false) ty L D val :=
  OpQ.opened hA MapHole.sub MapHole.mk' fun x hx => Q.lk (i := 0) hT hk hz ex ey rfl (by
    obtain ⟨h1, h2, h3, h4⟩ := hx
    have := (mget_at h1.keys h2).1
    rw [h3, h4] at this; rw [this]; rfl)
theorem Q.lk2Yes {i : Nat} {zv : Value} (hT : ∀ w, (underlying T).run P w = .ok (.map K E) w) (hk : Keyed P K enc) (hz : ∀ w, (zeroValue E).run P w = .ok zv w) (ex : ev L x = some (.map (some r))) (ey : ev L y = some (enc k))
    (hA : D[i]? = some (MapHole enc rep r S k val)) : OpQ P (.lookup T x y true) ty L D (.tuple #[val, .bool true]) :=
  OpQ.opened hA MapHole.sub MapHole.mk' fun x hx => by
    obtain ⟨h1, h2, h3, h4⟩ := hx
    have h5 := (mget_at h1.keys h2).1
    rw [h3, h4] at h5
    have := Q.lk2 (P := P) (ty := ty) (D := pt r (mobj enc (x.1.map Ent.m) x.2.1) :: star ((x.1.eraseIdx x.2.2.1).map (Ent.asn rep)) :: D.eraseIdx i) (i := 0) hT hk hz ex ey rfl
    rw [h5] at this; exact this
theorem Q.lenAt {i : Nat} (hT : ∀ w, (underlying T).run P w = .ok (.map K E) w) (e : evs L [x] = some [.map (some r)]) (hA : D[i]? = some (MapAt enc rep r S)) :
    OpQ P (.call { callee := .builtin .len, args := #[x], argTypes := #[T] }) ty L D (.int .i64 S.length) :=
  OpQ.opened hA (fun _ h => h) (fun x hx h s => ⟨x, hx, s⟩) fun x hx => by
    have := Q.lenM (P := P) (ty := ty) (D := pt r (mobj enc (x.1.map Ent.m) x.2) :: star (x.1.map (Ent.asn rep)) :: D.eraseIdx i) (i := 0) hT e rfl
    rw [List.length_map, hx.len] at this; exact this

theorem HSat.rear {h : Hp} {A : List Assn} {X Y : Assn} {i : Nat} (e : A[i]? = some X) (s : HSat h (Y :: A.eraseIdx i)) : HSat h (A.set i Y) := s.perm (perm_erase e)

/-- What a map holds behind 'm[k] = val', whatever was there: all but what val stands for. -/
theorem ents_put {lt : κ → κ → Bool} (o : Ord3 lt) (hS : Srtd lt S) (k : κ) (v : ν) (val : Value) {es : List (Ent κ ν)} {c : Nat} (ok : Ents S es c) :
    ∃ es' c' j e, mput k val (es.map Ent.m) c = (es'.map Ent.m, c') ∧ Ents (sput lt k v S) es' c' ∧ es'[j]? = some e ∧ e.key = k ∧ e.val = val ∧ ∀ (rep : κ → ν → Value → Assn) h, star (es.map (Ent.asn rep)) h → star ((es'.eraseIdx j).map (Ent.asn rep)) h := by
  rcases elook k es with ⟨h1, h2, h3, h4⟩ | ⟨j, e, hj, h2, h3, h4, h5, h6⟩
  · refine ⟨es ++ [⟨k, v, val, c⟩], c + 1, es.length, ⟨k, v, val, c⟩, ?_, ⟨?_, ?_, ?_, ?_⟩, by simp, rfl, rfl, ?_⟩
    · simp [mput, h1, Ent.m]
    · have hS0 : sget k S = none := by rw [ok.get]; exact h2
      have e1 : ((es ++ [(⟨k, v, val, c⟩ : Ent κ ν)]).map Ent.kv) = es.map Ent.kv ++ [(k, v)] := by simp [Ent.kv]
      rw [e1]
      refine ((List.perm_append_singleton _ _).trans (ok.perm.cons _)).trans ?_
      have := (sput_perm o (hS.nodup o) k v).symm
      rwa [sdel_none hS0] at this
    · rw [List.map_append, List.nodup_append]
      refine ⟨ok.keys, by simp, ?_⟩
      intro a ha b hb
      simp only [List.map_cons, List.map_nil, List.mem_singleton] at hb
      subst hb
      obtain ⟨f, hf, rfl⟩ := List.mem_map.1 ha
      exact h4 f hf
    · rw [List.map_append, List.nodup_append]
      refine ⟨ok.born, by simp, ?_⟩
      intro a ha b hb
      simp only [List.map_cons, List.map_nil, List.mem_singleton] at hb
      subst hb
      obtain ⟨f, hf, rfl⟩ := List.mem_map.1 ha
      have := ok.old f hf; omega
    · intro f hf
      rcases List.mem_append.1 hf with hf | hf
      · have := ok.old f hf; omega
      · simp only [List.mem_singleton] at hf; subst hf; simp
    · intro rep h hh
      rw [show (es ++ [(⟨k, v, val, c⟩ : Ent κ ν)]).eraseIdx es.length = es from by rw [List.eraseIdx_append_of_length_le (Nat.le_refl _)]; simp]
      exact hh
  · subst h2
    have hlt := (List.getElem?_eq_some_iff.1 hj).1
    have hel : es[j] = e := (List.getElem?_eq_some_iff.1 hj).2
    refine ⟨es.set j { e with v := v, val := val }, c, j, { e with v := v, val := val }, ?_, ⟨?_, ?_, ?_, ?_⟩, by simp [hlt], rfl, rfl, ?_⟩
    · simp only [mput, h3, h6, List.map_set]; rfl
    · have hkv : ((es.set j { e with v := v, val := val }).map Ent.kv) = (es.map Ent.kv).set j (e.key, v) := by rw [List.map_set]; rfl
      rw [hkv]
      have hpe2 : ((es.map Ent.kv).set j (e.key, v)).Perm ((e.key, v) :: (es.eraseIdx j).map Ent.kv) := by
        rw [← hkv]; exact (perm_give hlt).map Ent.kv
      exact hpe2.trans (((sdel_kv ok.keys ok.perm.symm hj).symm.cons _).trans (sput_perm o (hS.nodup o) _ _).symm)
    · rw [List.map_set]
      have : (es.map (·.key)).set j e.key = es.map (·.key) := set_self (by rw [List.getElem?_map, hj]; rfl)
      show ((es.map (·.key)).set j e.key).Nodup
      rw [this]; exact ok.keys
    · rw [List.map_set]
      have : (es.map (·.born)).set j e.born = es.map (·.born) := set_self (by rw [List.getElem?_map, hj]; rfl)
      show ((es.map (·.born)).set j e.born).Nodup
      rw [this]; exact ok.born
    · intro f hf
      rcases List.mem_or_eq_of_mem_set hf with h | rfl
      · exact ok.old f h
      · exact ok.old e (List.mem_of_getElem? hj)
    · intro rep h hh
      rw [List.eraseIdx_set_eq]
      exact (HSat.perm (perm_focus (Ent.asn rep) hj) hh).tail

/-- 'm[k] = val': the map, but for what val stands for. -/
theorem C.mapPut {lt : κ → κ → Bool} (i : Nat) (v : ν) (o : Ord3 lt) (hS : Srtd lt S) (hT : ∀ w, (underlying T).run P w = .ok (.map K E) w) (hk : Keyed P K enc) (ex : ev L x = some (.map (some r))) (ey : ev L y = some (enc k)) (ez : ev L z = some val)
    (hA : A[i]? = some (MapAt enc rep r S)) : OpC P (.mapUpdate T x y z) ty L A (fun u B => u = undef ∧ B = A.set i (MapHole enc rep r (sput lt k v S) k val)) := by
  refine OpC.opened hA (fun _ h => h) fun x hx => ?_
  obtain ⟨es', c', j, e, hp, ok', hj, hek, hev, hst⟩ := ents_put o hS k v val hx
  refine (C.mput (P := P) (ty := ty) (A := pt r (mobj enc (x.1.map Ent.m) x.2) :: star (x.1.map (Ent.asn rep)) :: A.eraseIdx i) (i := 0) hT hk ex ey ez rfl).shutTo ?_
  rintro u B ⟨rfl, rfl⟩
  refine ⟨_, ⟨rfl, rfl⟩, fun h s => HSat.rear hA ?_⟩
  rw [hp] at s
  have s2 : HSat h ([pt r (mobj enc (es'.map Ent.m) c'), star (x.1.map (Ent.asn rep))] ++ A.eraseIdx i) := s
  obtain ⟨h1, h2, p1, p2, d, t1, t2⟩ := s2.append
  refine ⟨h1, h2, ⟨(es', c', j, e), ok', hj, hek, hev, HSat.under p1 fun q hq => hq.imp fun q2 => hst rep q2⟩, p2, d, t1, t2⟩
theorem C.mapIns {lt : κ → κ → Bool} (i : Nat) (v : ν) (o : Ord3 lt) (hS : Srtd lt S) (hT : ∀ w, (underlying T).run P w = .ok (.map K E) w) (hk : Keyed P K enc) (ex : ev L x = some (.map (some r))) (ey : ev L y = some (enc k)) (ez : ev L z = some val)
    (hA : A[i]? = some (MapAt enc rep r S)) : OpC P (.insert T x y z) ty L A (fun u B => u = undef ∧ B = A.set i (MapHole enc rep r (sput lt k v S) k val)) := by
  refine OpC.opened hA (fun _ h => h) fun x hx => ?_
  obtain ⟨es', c', j, e, hp, ok', hj, hek, hev, hst⟩ := ents_put o hS k v val hx
  refine (C.mins (P := P) (ty := ty) (A := pt r (mobj enc (x.1.map Ent.m) x.2) :: star (x.1.map (Ent.asn rep)) :: A.eraseIdx i) (i := 0) hT hk ex ey ez rfl).shutTo ?_
  rintro u B ⟨rfl, rfl⟩
  refine ⟨_, ⟨rfl, rfl⟩, fun h s => HSat.rear hA ?_⟩
  rw [hp] at s
  have s2 : HSat h ([pt r (mobj enc (es'.map Ent.m) c'), star (x.1.map (Ent.asn rep))] ++ A.eraseIdx i) := s
  obtain ⟨h1, h2, p1, p2, d, t1, t2⟩ := s2.append
  refine ⟨h1, h2, ⟨(es', c', j, e), ok', hj, hek, hev, HSat.under p1 fun q hq => hq.imp fun q2 => hst rep q2⟩, p2, d, t1, t2⟩

/-- 'delete(m, k)', whether it is there or not. -/
theorem C.mapDel (i : Nat) {ts : TypeId} (hT : ∀ w, (underlying T).run P w = .ok (.map K E) w) (hk : Keyed P K enc) (e : evs L [x, y] = some [.map (some r), enc k]) (hA : A[i]? = some (MapAt enc rep r S)) :
    OpC P (.call { callee := .builtin .delete, args := #[x, y], argTypes := #[T, ts] }) ty L A (fun u B => u = .tuple #[] ∧ B = A.set i (MapAt enc rep r (sdel k S))) := by
  refine OpC.opened hA (fun _ h => h) fun x hx => ?_
  refine (C.mdel (P := P) (ty := ty) (A := pt r (mobj enc (x.1.map Ent.m) x.2) :: star (x.1.map (Ent.asn rep)) :: A.eraseIdx i) (i := 0) hT hk e rfl).shutTo ?_
  rintro u B ⟨rfl, rfl⟩
  refine ⟨_, ⟨rfl, rfl⟩, fun h s => HSat.rear hA ?_⟩
  obtain ⟨es, c⟩ := x
  dsimp only at hx s
  have hkv := hx.kvnodup
  rcases elook k es with ⟨h1, h2, h3, h4⟩ | ⟨j, f, hj, h2, h3, h4, h5, h6⟩
  · rw [h3] at s
    have hS0 : sget k S = none := by rw [hx.get]; exact h2
    rw [sdel_none hS0]
    have s2 : HSat h ([pt r (mobj enc (es.map Ent.m) c), star (es.map (Ent.asn rep))] ++ A.eraseIdx i) := s
    obtain ⟨q1, q2, p1, p2, d, t1, t2⟩ := s2.append
    exact ⟨q1, q2, ⟨(es, c), hx, p1⟩, p2, d, t1, t2⟩
  · subst h2
    rw [h5] at s
    have hlt := (List.getElem?_eq_some_iff.1 hj).1
    have hel : es[j] = f := (List.getElem?_eq_some_iff.1 hj).2
    have s2 : HSat h ([pt r (mobj enc ((es.eraseIdx j).map Ent.m) c), star (es.map (Ent.asn rep))] ++ A.eraseIdx i) := s
    obtain ⟨q1, q2, p1, p2, d, t1, t2⟩ := s2.append
    refine ⟨q1, q2, ⟨(es.eraseIdx j, c), ⟨?_, ?_, ?_, ?_⟩, HSat.under p1 fun q hq => hq.imp fun q2 hh => (HSat.perm (perm_focus (Ent.asn rep) hj) hh).tail⟩, p2, d, t1, t2⟩
    · exact (sdel_kv hx.keys hx.perm.symm hj).symm
    · exact (List.Sublist.map _ (List.eraseIdx_sublist _ _)).nodup hx.keys
    · exact (List.Sublist.map _ (List.eraseIdx_sublist _ _)).nodup hx.born
    · exact fun g hg => hx.old g ((List.eraseIdx_sublist _ _).mem hg)
end ops
end G
end Go.X
