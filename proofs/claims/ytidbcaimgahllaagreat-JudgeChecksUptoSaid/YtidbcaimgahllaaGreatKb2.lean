/-
  What the proof of the last of these texts leans on: part 2 of 7.
-/
import Derived.RangeFuncRecord
import Derived.RangeFuncIn
import Derived.RangeFuncLeaves
import Derived.RangeFuncSeq
import Derived.TacticsIn
import Derived.Test.YtidbcaimgahllaaGreatKb1
set_option linter.unusedSectionVars false
set_option linter.unusedVariables false
set_option linter.unusedSimpArgs false
namespace Go.X
set_option linter.unusedSectionVars false
set_option linter.unusedSimpArgs false
set_option linter.unusedVariables false

section opened
variable {P : Program} {op : Op} {ty : TypeId} {L : Slots} {A D : List Assn}

theorem perm_take {α : Type} {x : α} : ∀ {l : List α} {j : Nat}, l[j]? = some x → l.Perm (x :: l.eraseIdx j)
  | [], _, h => by simp at h
  | y :: l, 0, h => by simp at h; subst h; exact List.Perm.refl _
  | y :: l, j + 1, h => ((perm_take (l := l) (j := j) (by simpa using h)).cons y).trans (List.Perm.swap _ _ _)
theorem perm_give {α : Type} {x : α} {l : List α} {j : Nat} (h : j < l.length) : (l.set j x).Perm (x :: l.eraseIdx j) := by
  have := perm_take (l := l.set j x) (j := j) (x := x) (by simp [h])
  rwa [List.eraseIdx_set_eq] at this

theorem HSat.openAt {h : Hp} {A : List Assn} {X : Assn} {i : Nat} (s : HSat h A) (e : A[i]? = some X) : ∃ h1 h2, X h1 ∧ HSat h2 (A.eraseIdx i) ∧ Dis h1 h2 ∧ Sub h1 h ∧ Sub h2 h := by
  exact s.perm (perm_take e)

theorem perm_erase {A : List Assn} {X Y : Assn} {i : Nat} (e : A[i]? = some X) : (Y :: A.eraseIdx i).Perm (A.set i Y) := (perm_give (List.getElem?_eq_some_iff.1 e).1).symm

theorem OpQ.opened {α : Type} {i : Nat} {B : Assn} {Bs : α → List Assn} {p : α → Prop} {v : Value} (e : D[i]? = some B) (f : ∀ h, B h → ∃ x, p x ∧ HSat h (Bs x)) (g : ∀ x, p x → ∀ h, HSat h (Bs x) → B h)
    (k : ∀ x, p x → OpQ P op ty L (Bs x ++ D.eraseIdx i) v) : OpQ P op ty L D v := by
  refine ⟨fun dst pos aft gd a W0 w F ag s => ?_⟩
  have e' : (D ++ F)[i]? = some B := by rw [List.getElem?_append_left (List.getElem?_eq_some_iff.1 e).1]; exact e
  have he : (D ++ F).eraseIdx i = D.eraseIdx i ++ F := by rw [List.eraseIdx_append_of_lt_length (List.getElem?_eq_some_iff.1 e).1]
  obtain ⟨h1, h2, hb, hd, d, s1, s2⟩ := s.heap.openAt e'
  obtain ⟨x, px, hx⟩ := f h1 hb
  rw [he] at hd
  obtain ⟨w', r, s'⟩ := (k x px).run dst pos aft gd a W0 w F ag ⟨s.os, s.tape, s.out, by rw [List.append_assoc]; exact HSat.of_append hx hd d s1 s2⟩
  refine ⟨w', r, s'.imp fun q t => ?_⟩
  rw [List.append_assoc] at t
  obtain ⟨k1, k2, t1, t2, t3, t4, t5⟩ := t.append
  have : HSat q (B :: (D ++ F).eraseIdx i) := ⟨k1, k2, g x px _ t1, by rw [he]; exact t2, t3, t4, t5⟩
  refine this.perm ((perm_erase (Y := B) e').trans ?_)
  rw [set_self e']

theorem OpC.opened {α : Type} {i : Nat} {B : Assn} {Bs : α → List Assn} {p : α → Prop} {R : Value → List Assn → Prop} (e : A[i]? = some B) (f : ∀ h, B h → ∃ x, p x ∧ HSat h (Bs x))
    (k : ∀ x, p x → OpC P op ty L (Bs x ++ A.eraseIdx i) R) : OpC P op ty L A R := by
  refine ⟨fun dst pos aft gd a W0 w ag s K Q kk => ?_⟩
  obtain ⟨h1, h2, hb, hd, d, s1, s2⟩ := s.heap.openAt e
  obtain ⟨x, px, hx⟩ := f h1 hb
  exact (k x px).wp dst pos aft gd a W0 w ag ⟨s.os, s.tape, s.out, HSat.of_append hx hd d s1 s2⟩ K Q kk

theorem OpC.shutTo {R R' : Value → List Assn → Prop} (k : OpC P op ty L A R) (f : ∀ v B, R v B → ∃ B', R' v B' ∧ ∀ h, HSat h B → HSat h B') : OpC P op ty L A R' := by
  refine ⟨fun dst pos aft gd a W0 w ag s K Q kk => k.wp dst pos aft gd a W0 w ag s K Q fun v B w' r s' => ?_⟩
  obtain ⟨B', r', hb⟩ := f v B r
  exact kk v B' w' r' (s'.imp hb)
end opened

namespace G
variable {κ ν : Type} [DecidableEq κ]

structure Ent (κ ν : Type) where
  key : κ
  v : ν
  val : Value
  born : Nat
def Ent.m (e : Ent κ ν) : MEnt κ := ⟨e.key, e.val, e.born⟩
def Ent.kv (e : Ent κ ν) : κ × ν := (e.key, e.v)

structure Ents (S : List (κ × ν)) (es : List (Ent κ ν)) (c : Nat) : Prop where
  perm : (es.map Ent.kv).Perm S
  keys : (es.map (·.key)).Nodup
  born : (es.map (·.born)).Nodup
  old : ∀ e, e ∈ es → e.born < c

def Ent.asn (rep : κ → ν → Value → Assn) (e : Ent κ ν) : Assn := rep e.key e.v e.val

def MapAt (enc : κ → Value) (rep : κ → ν → Value → Assn) (r : Nat) (S : List (κ × ν)) : Assn := fun h => ∃ x : List (Ent κ ν) × Nat, Ents S x.1 x.2 ∧ HSat h [pt r (mobj enc (x.1.map Ent.m) x.2), star (x.1.map (Ent.asn rep))]

def MapHole (enc : κ → Value) (rep : κ → ν → Value → Assn) (r : Nat) (S : List (κ × ν)) (k : κ) (val : Value) : Assn := fun h => ∃ x : List (Ent κ ν) × Nat × Nat × Ent κ ν, Ents S x.1 x.2.1 ∧ x.1[x.2.2.1]? = some x.2.2.2 ∧ x.2.2.2.key = k ∧ x.2.2.2.val = val ∧
  HSat h [pt r (mobj enc (x.1.map Ent.m) x.2.1), star ((x.1.eraseIdx x.2.2.1).map (Ent.asn rep))]

theorem Ents.kvnodup {S : List (κ × ν)} {es : List (Ent κ ν)} {c : Nat} (h : Ents S es c) : (S.map (·.1)).Nodup := by
  have : ((es.map Ent.kv).map (·.1)).Nodup := by
    have e : (es.map Ent.kv).map (·.1) = es.map (·.key) := by rw [List.map_map]; rfl
    rw [e]; exact h.keys
  exact (h.perm.map _).nodup_iff.1 this
theorem Ents.get {S : List (κ × ν)} {es : List (Ent κ ν)} {c : Nat} (h : Ents S es c) (k : κ) : sget k S = sget k (es.map Ent.kv) := (sget_perm h.perm h.kvnodup).symm
theorem Ents.len {S : List (κ × ν)} {es : List (Ent κ ν)} {c : Nat} (h : Ents S es c) : es.length = S.length := by rw [← h.perm.length_eq, List.length_map]

theorem elook (k : κ) : ∀ es : List (Ent κ ν), (mget k (es.map Ent.m) = none ∧ sget k (es.map Ent.kv) = none ∧ mdel k (es.map Ent.m) = es.map Ent.m ∧ ∀ e, e ∈ es → e.key ≠ k) ∨
    ∃ i e, es[i]? = some e ∧ e.key = k ∧ mget k (es.map Ent.m) = some e.val ∧ sget k (es.map Ent.kv) = some e.v ∧ mdel k (es.map Ent.m) = (es.eraseIdx i).map Ent.m ∧ (∀ v, mset k v (es.map Ent.m) = (es.map Ent.m).set i ⟨k, v, e.born⟩)
  | [] => .inl ⟨rfl, rfl, rfl, fun _ h => by cases h⟩
  | y :: es => by
    by_cases h : k = y.key
    · refine .inr ⟨0, y, rfl, h.symm, ?_, ?_, ?_, ?_⟩ <;> simp [mget, sget, mdel, mset, Ent.m, Ent.kv, h]
    · have e1 : ¬ k = (Ent.m y).key := h
      have e2 : ¬ k = (Ent.kv y).1 := h
      rcases elook k es with ⟨h1, h2, h3, h4⟩ | ⟨i, e, h1, h2, h3, h4, h5, h6⟩
      · left
        refine ⟨?_, ?_, ?_, ?_⟩
        · simp only [List.map_cons, mget, e1, if_false, h1]
        · simp only [List.map_cons, sget, e2, if_false, h2]
        · simp only [List.map_cons, mdel, e1, if_false, h3]
        · intro e he
          rcases List.mem_cons.1 he with rfl | he
          · exact fun q => h q.symm
          · exact h4 e he
      · right
        refine ⟨i + 1, e, by simpa using h1, h2, ?_, ?_, ?_, ?_⟩
        · simp only [List.map_cons, mget, e1, if_false, h3]
        · simp only [List.map_cons, sget, e2, if_false, h4]
        · simp only [List.map_cons, mdel, e1, if_false, h5, List.eraseIdx_cons_succ]
        · intro v; simp only [List.map_cons, mset, e1, if_false, h6 v, List.set_cons_succ]

theorem mget_none {S : List (κ × ν)} {es : List (Ent κ ν)} {c : Nat} (h : Ents S es c) {k : κ} (hk : sget k S = none) : mget k (es.map Ent.m) = none := by
  rw [h.get] at hk
  rcases elook k es with ⟨h1, _⟩ | ⟨i, e, _, _, _, h4, _⟩
  · exact h1
  · rw [h4] at hk; cases hk
theorem at_key {es : List (Ent κ ν)} (h : (es.map (·.key)).Nodup) {i j : Nat} {e f : Ent κ ν} (hi : es[i]? = some e) (hj : es[j]? = some f) (hk : e.key = f.key) : i = j := by
  have h1 := (List.getElem?_eq_some_iff.1 hi).1
  exact (List.getElem?_inj (by rw [List.length_map]; exact h1) h).1 (by rw [List.getElem?_map, List.getElem?_map, hi, hj]; exact congrArg some hk)
theorem mget_at {es : List (Ent κ ν)} (h : (es.map (·.key)).Nodup) {j : Nat} {e : Ent κ ν} (hj : es[j]? = some e) : mget e.key (es.map Ent.m) = some e.val ∧ sget e.key (es.map Ent.kv) = some e.v ∧ mdel e.key (es.map Ent.m) = (es.eraseIdx j).map Ent.m ∧ (∀ v, mset e.key v (es.map Ent.m) = (es.map Ent.m).set j ⟨e.key, v, e.born⟩) := by
  rcases elook e.key es with ⟨_, _, _, h4⟩ | ⟨i, f, h1, h2, h3, h4, h5, h6⟩
  · exact absurd rfl (h4 e (List.mem_of_getElem? hj))
  · have := at_key h h1 hj h2
    subst this
    rw [h1] at hj; cases hj
    exact ⟨h3, h4, h5, h6⟩

theorem sdel_kv {S : List (κ × ν)} {es : List (Ent κ ν)} (hn : (es.map (·.key)).Nodup) (hS : S.Perm (es.map Ent.kv)) {j : Nat} {e : Ent κ ν} (hj : es[j]? = some e) : (sdel e.key S).Perm ((es.eraseIdx j).map Ent.kv) := by
  have hS2 : S.Perm ((e.key, e.v) :: (es.eraseIdx j).map Ent.kv) := hS.trans ((perm_take hj).map Ent.kv)
  unfold sdel
  refine (hS2.filter _).trans ?_
  rw [List.filter_cons]
  simp only [decide_true, Bool.not_true]
  have : ((es.eraseIdx j).map Ent.kv).filter (fun p => !decide (p.1 = e.key)) = (es.eraseIdx j).map Ent.kv := by
    rw [List.filter_eq_self]
    intro p hp
    obtain ⟨f, hf, rfl⟩ := List.mem_map.1 hp
    have : f.key ≠ e.key := by
      intro q
      obtain ⟨i, hi⟩ := List.getElem?_of_mem hf
      rw [List.getElem?_eraseIdx] at hi
      split at hi
      · have := at_key hn hi hj q; omega
      · have := at_key hn hi hj q; omega
    simp [Ent.kv, this]
  simp [this]

section asn
variable {enc : κ → Value} {rep : κ → ν → Value → Assn} {r : Nat} {S : List (κ × ν)} {k : κ} {v : ν} {val : Value}

theorem HSat.one {X : Assn} {h : Hp} (hx : X h) : HSat h [X] := ⟨h, fun _ => none, hx, trivial, fun _ => Or.inr rfl, Sub.refl _, fun _ _ e => nomatch e⟩
theorem HSat.two {X Y : Assn} {h h1 h2 : Hp} (hx : X h1) (hy : Y h2) (d : Dis h1 h2) (s1 : Sub h1 h) (s2 : Sub h2 h) : HSat h [X, Y] := ⟨h1, h2, hx, HSat.one hy, d, s1, s2⟩
theorem MapAt.new : ∀ h, pt r (.map #[] 0) h → MapAt enc rep r ([] : List (κ × ν)) h := fun h hh =>
  ⟨([], 0), ⟨List.Perm.refl _, by simp, by simp, by simp⟩, HSat.two (h2 := fun _ => none) hh trivial (fun _ => Or.inr rfl) (Sub.refl _) (fun _ _ e => nomatch e)⟩

theorem MapAt.focus (hk : sget k S = some v) : ∀ h, MapAt enc rep r S h → ∃ val, HSat h [rep k v val, MapHole enc rep r S k val] := by
  rintro h ⟨⟨es, c⟩, ok, hs⟩
  have hk' := hk
  rw [ok.get] at hk'
  rcases elook k es with ⟨_, h2, _⟩ | ⟨i, e, h1, h2, h3, h4, _⟩
  · rw [h2] at hk'; cases hk'
  · rw [h4] at hk'; cases hk'
    refine ⟨e.val, ?_⟩
    subst h2
    obtain ⟨a1, a2, p1, ⟨b1, b2, q1, _, _, s1, _⟩, d, t1, t2⟩ := hs
    have hp := HSat.perm (perm_focus (Ent.asn rep) h1) q1
    obtain ⟨c1, c2, u1, u2, d2, v1, v2⟩ := hp
    have hdis : Dis a1 c2 := d.mono (Sub.refl _) (v2.trans s1)
    refine HSat.two (h1 := c1) (h2 := join a1 c2) u1 ⟨(es, c, i, e), ok, h1, rfl, rfl, HSat.two p1 u2 hdis (join_left _ _) (join_right hdis)⟩ ?_ ?_ ?_
    · exact (join_dis (d.mono (Sub.refl _) (v1.trans s1)) d2.symm).symm
    · exact v1.trans (s1.trans t2)
    · exact join_sub t1 (v2.trans (s1.trans t2))

theorem MapHole.back {lt : κ → κ → Bool} (o : Ord3 lt) (hS : Srtd lt S) (v' : ν) : ∀ h, HSat h [rep k v' val, MapHole enc rep r S k val] → MapAt enc rep r (sput lt k v' S) h := by
  rintro h ⟨a1, a2, p1, ⟨b1, b2, ⟨⟨es, c, j, e⟩, ok, hj, he, hv, hs⟩, _, _, s1, _⟩, d, t1, t2⟩
  subst he hv
  obtain ⟨c1, c2, q1, ⟨d1, d2, q2, _, _, x1, _⟩, dd, y1, y2⟩ := hs
  dsimp only at q1 q2 hj ok
  have hlt := (List.getElem?_eq_some_iff.1 hj).1
  have hel : es[j] = e := (List.getElem?_eq_some_iff.1 hj).2
  have hset : (es.set j { e with v := v' }).map Ent.m = es.map Ent.m := by
    rw [List.map_set]
    exact set_self (by rw [List.getElem?_map, hj]; rfl)
  have hstar : star ((es.set j { e with v := v' }).map (Ent.asn rep)) (join a1 d1) :=
    HSat.perm (perm_unfocus (Ent.asn rep) (l := es) (k := j) (x := { e with v := v' }) hlt) ⟨a1, d1, p1, q2, d.mono (Sub.refl _) (x1.trans (y2.trans s1)), join_left _ _, join_right (d.mono (Sub.refl _) (x1.trans (y2.trans s1)))⟩
  have hdis2 : Dis c1 (join a1 d1) := (join_dis (d.mono (Sub.refl _) (y1.trans s1)) (dd.mono (Sub.refl _) x1).symm).symm
  refine ⟨(es.set j { e with v := v' }, c), ⟨?_, ?_, ?_, ?_⟩, ?_⟩
  · have hkv : ((es.set j { e with v := v' }).map Ent.kv) = (es.map Ent.kv).set j (e.key, v') := by rw [List.map_set]; rfl
    rw [hkv]
    have hpe2 : ((es.map Ent.kv).set j (e.key, v')).Perm ((e.key, v') :: (es.eraseIdx j).map Ent.kv) := by
      rw [← hkv]; exact (perm_give hlt).map Ent.kv
    exact hpe2.trans (((sdel_kv ok.keys ok.perm.symm hj).symm.cons _).trans (sput_perm o (hS.nodup o) _ _).symm)
  · show ((es.set j { e with v := v' }).map (·.key)).Nodup
    rw [List.map_set]
    have : (es.map (·.key)).set j e.key = es.map (·.key) := set_self (by rw [List.getElem?_map, hj]; rfl)
    rw [this]; exact ok.keys
  · show ((es.set j { e with v := v' }).map (·.born)).Nodup
    rw [List.map_set]
    have : (es.map (·.born)).set j e.born = es.map (·.born) := set_self (by rw [List.getElem?_map, hj]; rfl)
    rw [this]; exact ok.born
  · intro f hf
    rcases List.mem_or_eq_of_mem_set hf with h | rfl
    · exact ok.old f h
    · exact ok.old e (List.mem_of_getElem? hj)
  · rw [hset]
    exact HSat.two q1 hstar hdis2 (y1.trans (s1.trans t2)) (join_sub t1 (x1.trans (y2.trans (s1.trans t2))))

theorem MapHole.sub : ∀ h, MapHole enc rep r S k val h → ∃ x : List (Ent κ ν) × Nat × Nat × Ent κ ν, (Ents S x.1 x.2.1 ∧ x.1[x.2.2.1]? = some x.2.2.2 ∧ x.2.2.2.key = k ∧ x.2.2.2.val = val) ∧ HSat h [pt r (mobj enc (x.1.map Ent.m) x.2.1), star ((x.1.eraseIdx x.2.2.1).map (Ent.asn rep))] := by
  rintro h ⟨x, h1, h2, h3, h4, h5⟩; exact ⟨x, ⟨h1, h2, h3, h4⟩, h5⟩
theorem MapHole.mk' : ∀ x : List (Ent κ ν) × Nat × Nat × Ent κ ν, (Ents S x.1 x.2.1 ∧ x.1[x.2.2.1]? = some x.2.2.2 ∧ x.2.2.2.key = k ∧ x.2.2.2.val = val) → ∀ h, HSat h [pt r (mobj enc (x.1.map Ent.m) x.2.1), star ((x.1.eraseIdx x.2.2.1).map (Ent.asn rep))] → MapHole enc rep r S k val h := by
  rintro x ⟨h1, h2, h3, h4⟩ h h5; exact ⟨x, h1, h2, h3, h4, h5⟩
end asn

section ops
variable {P : Program} {L : Slots} {A D : List Assn} {ty : TypeId} {T K E : TypeId} {x y z : Operand}
variable {enc : κ → Value} {rep : κ → ν → Value → Assn} {r : Nat} {S : List (κ × ν)} {k : κ} {val : Value}

theorem Q.lkNo {i : Nat} {zv : Value} (hT : ∀ w, (underlying T).run P w = .ok (.map K E) w) (hk : Keyed P K enc) (hz : ∀ w, (zeroValue E).run P w = .ok zv w) (ex : ev L x = some (.map (some r))) (ey : ev L y = some (enc k))
    (hA : D[i]? = some (MapAt enc rep r S)) (hn : sget k S = none) : OpQ P (.lookup T x y false) ty L D zv :=
  OpQ.opened hA (fun _ h => h) (fun x hx h s => ⟨x, hx, s⟩) fun x hx => Q.lk (i := 0) hT hk hz ex ey rfl (by rw [mget_none hx hn]; rfl)
theorem Q.lk2No {i : Nat} {zv : Value} (hT : ∀ w, (underlying T).run P w = .ok (.map K E) w) (hk : Keyed P K enc) (hz : ∀ w, (zeroValue E).run P w = .ok zv w) (ex : ev L x = some (.map (some r))) (ey : ev L y = some (enc k))
    (hA : D[i]? = some (MapAt enc rep r S)) (hn : sget k S = none) : OpQ P (.lookup T x y true) ty L D (.tuple #[zv, .bool false]) :=
  OpQ.opened hA (fun _ h => h) (fun x hx h s => ⟨x, hx, s⟩) fun x hx => by
    have := Q.lk2 (P := P) (ty := ty) (D := pt r (mobj enc (x.1.map Ent.m) x.2) :: star (x.1.map (Ent.asn rep)) :: D.eraseIdx i) (i := 0) hT hk hz ex ey rfl
    rw [mget_none hx hn] at this; exact this
theorem Q.lkYes {i : Nat} {zv : Value} (hT : ∀ w, (underlying T).run P w = .ok (.map K E) w) (hk : Keyed P K enc) (hz : ∀ w, (zeroValue E).run P w = .ok zv w) (ex : ev L x = some (.map (some r))) (ey : ev L y = some (enc k))
    (hA : D[i]? = some (MapHole enc rep r S k val)) : OpQ P (.lookup T x y false) ty L D val :=
  OpQ.opened hA MapHole.sub MapHole.mk' fun x hx => Q.lk (i := 0) hT hk hz ex ey rfl (by
    obtain ⟨h1, h2, h3, h4⟩ := hx
    have := (mget_at h1.keys h2).1
    rw [h3, h4] at this; rw [this]; rfl)
theorem Q.lk2Yes {i : Nat} {zv : Value} (hT : ∀ w, (underlying T).run P w = .ok (.map K E) w) (hk : Keyed P K enc) (hz : ∀ w, (zeroValue E).run P w = .ok zv w) (ex : ev L x = some (.map (some r))) (ey : ev L y = some (enc k))
    (hA : D[i]? = some (MapHole enc rep r S k val)) : OpQ P (.lookup T x y true) ty L D (.tuple #[val, .bool true]) :=
  OpQ.opened hA MapHole.sub MapHole.mk' fun x hx => by
    obtain ⟨h1, h2, h3, h4⟩ := hx
    have h5 := (mget_at h1.keys h2).1
    rw [h3, h4] at h5
    have := Q.lk2 (P := P) (ty := ty) (D := pt r (mobj enc (x.1.map Ent.m) x.2.1) :: star ((x.1.eraseIdx x.2.2.1).map (Ent.asn rep)) :: D.eraseIdx i) (i := 0) hT hk hz ex ey rfl
    rw [h5] at this; exact this
theorem Q.lenAt {i : Nat} (hT : ∀ w, (underlying T).run P w = .ok (.map K E) w) (e : evs L [x] = some [.map (some r)]) (hA : D[i]? = some (MapAt enc rep r S)) :
    OpQ P (.call { callee := .builtin .len, args := #[x], argTypes := #[T] }) ty L D (.int .i64 S.length) :=
  OpQ.opened hA (fun _ h => h) (fun x hx h s => ⟨x, hx, s⟩) fun x hx => by
    have := Q.lenM (P := P) (ty := ty) (D := pt r (mobj enc (x.1.map Ent.m) x.2) :: star (x.1.map (Ent.asn rep)) :: D.eraseIdx i) (i := 0) hT e rfl
    rw [List.length_map, hx.len] at this; exact this

theorem HSat.rear {h : Hp} {A : List Assn} {X Y : Assn} {i : Nat} (e : A[i]? = some X) (s : HSat h (Y :: A.eraseIdx i)) : HSat h (A.set i Y) := s.perm (perm_erase e)

theorem ents_put {lt : κ → κ → Bool} (o : Ord3 lt) (hS : Srtd lt S) (k : κ) (v : ν) (val : Value) {es : List (Ent κ ν)} {c : Nat} (ok : Ents S es c) :
    ∃ es' c' j e, mput k val (es.map Ent.m) c = (es'.map Ent.m, c') ∧ Ents (sput lt k v S) es' c' ∧ es'[j]? = some e ∧ e.key = k ∧ e.val = val ∧ ∀ (rep : κ → ν → Value → Assn) h, star (es.map (Ent.asn rep)) h → star ((es'.eraseIdx j).map (Ent.asn rep)) h := by
  rcases elook k es with ⟨h1, h2, h3, h4⟩ | ⟨j, e, hj, h2, h3, h4, h5, h6⟩
  · refine ⟨es ++ [⟨k, v, val, c⟩], c + 1, es.length, ⟨k, v, val, c⟩, ?_, ⟨?_, ?_, ?_, ?_⟩, by simp, rfl, rfl, ?_⟩
    · simp [mput, h1, Ent.m]
    · have hS0 : sget k S = none := by rw [ok.get]; exact h2
      have e1 : ((es ++ [(⟨k, v, val, c⟩ : Ent κ ν)]).map Ent.kv) = es.map Ent.kv ++ [(k, v)] := by simp [Ent.kv]
      rw [e1]
      refine ((List.perm_append_singleton _ _).trans (ok.perm.cons _)).trans ?_
      have := (sput_perm o (hS.nodup o) k v).symm
      rwa [sdel_none hS0] at this
    · rw [List.map_append, List.nodup_append]
      refine ⟨ok.keys, by simp, ?_⟩
      intro a ha b hb
      simp only [List.map_cons, List.map_nil, List.mem_singleton] at hb
      subst hb
      obtain ⟨f, hf, rfl⟩ := List.mem_map.1 ha
      exact h4 f hf
    · rw [List.map_append, List.nodup_append]
      refine ⟨ok.born, by simp, ?_⟩
      intro a ha b hb
      simp only [List.map_cons, List.map_nil, List.mem_singleton] at hb
      subst hb
      obtain ⟨f, hf, rfl⟩ := List.mem_map.1 ha
      have := ok.old f hf; omega
    · intro f hf
      rcases List.mem_append.1 hf with hf | hf
      · have := ok.old f hf; omega
      · simp only [List.mem_singleton] at hf; subst hf; simp
    · intro rep h hh
      rw [show (es ++ [(⟨k, v, val, c⟩ : Ent κ ν)]).eraseIdx es.length = es from by rw [List.eraseIdx_append_of_length_le (Nat.le_refl _)]; simp]
      exact hh
  · subst h2
    have hlt := (List.getElem?_eq_some_iff.1 hj).1
    have hel : es[j] = e := (List.getElem?_eq_some_iff.1 hj).2
    refine ⟨es.set j { e with v := v, val := val }, c, j, { e with v := v, val := val }, ?_, ⟨?_, ?_, ?_, ?_⟩, by simp [hlt], rfl, rfl, ?_⟩
    · simp only [mput, h3, h6, List.map_set]; rfl
    · have hkv : ((es.set j { e with v := v, val := val }).map Ent.kv) = (es.map Ent.kv).set j (e.key, v) := by rw [List.map_set]; rfl
      rw [hkv]
      have hpe2 : ((es.map Ent.kv).set j (e.key, v)).Perm ((e.key, v) :: (es.eraseIdx j).map Ent.kv) := by
        rw [← hkv]; exact (perm_give hlt).map Ent.kv
      exact hpe2.trans (((sdel_kv ok.keys ok.perm.symm hj).symm.cons _).trans (sput_perm o (hS.nodup o) _ _).symm)
    · rw [List.map_set]
      have : (es.map (·.key)).set j e.key = es.map (·.key) := set_self (by rw [List.getElem?_map, hj]; rfl)
      show ((es.map (·.key)).set j e.key).Nodup
      rw [this]; exact ok.keys
    · rw [List.map_set]
      have : (es.map (·.born)).set j e.born = es.map (·.born) := set_self (by rw [List.getElem?_map, hj]; rfl)
      show ((es.map (·.born)).set j e.born).Nodup
      rw [this]; exact ok.born
    · intro f hf
      rcases List.mem_or_eq_of_mem_set hf with h | rfl
      · exact ok.old f h
      · exact ok.old e (List.mem_of_getElem? hj)
    · intro rep h hh
      rw [List.eraseIdx_set_eq]
      exact (HSat.perm (perm_focus (Ent.asn rep) hj) hh).tail

theorem C.mapPut {lt : κ → κ → Bool} (i : Nat) (v : ν) (o : Ord3 lt) (hS : Srtd lt S) (hT : ∀ w, (underlying T).run P w = .ok (.map K E) w) (hk : Keyed P K enc) (ex : ev L x = some (.map (some r))) (ey : ev L y = some (enc k)) (ez : ev L z = some val)
    (hA : A[i]? = some (MapAt enc rep r S)) : OpC P (.mapUpdate T x y z) ty L A (fun u B => u = undef ∧ B = A.set i (MapHole enc rep r (sput lt k v S) k val)) := by
  refine OpC.opened hA (fun _ h => h) fun x hx => ?_
  obtain ⟨es', c', j, e, hp, ok', hj, hek, hev, hst⟩ := ents_put o hS k v val hx
  refine (C.mput (P := P) (ty := ty) (A := pt r (mobj enc (x.1.map Ent.m) x.2) :: star (x.1.map (Ent.asn rep)) :: A.eraseIdx i) (i := 0) hT hk ex ey ez rfl).shutTo ?_
  rintro u B ⟨rfl, rfl⟩
  refine ⟨_, ⟨rfl, rfl⟩, fun h s => HSat.rear hA ?_⟩
  rw [hp] at s
  have s2 : HSat h ([pt r (mobj enc (es'.map Ent.m) c'), star (x.1.map (Ent.asn rep))] ++ A.eraseIdx i) := s
  obtain ⟨h1, h2, p1, p2, d, t1, t2⟩ := s2.append
  refine ⟨h1, h2, ⟨(es', c', j, e), ok', hj, hek, hev, HSat.under p1 fun q hq => hq.imp fun q2 => hst rep q2⟩, p2, d, t1, t2⟩
theorem C.mapIns {lt : κ → κ → Bool} (i : Nat) (v : ν) (o : Ord3 lt) (hS : Srtd lt S) (hT : ∀ w, (underlying T).run P w = .ok (.map K E) w) (hk : Keyed P K enc) (ex : ev L x = some (.map (some r))) (ey : ev L y = some (enc k)) (ez : ev L z = some val)
    (hA : A[i]? = some (MapAt enc rep r S)) : OpC P (.insert T x y z) ty L A (fun u B => u = undef ∧ B = A.set i (MapHole enc rep r (sput lt k v S) k val)) := by
  refine OpC.opened hA (fun _ h => h) fun x hx => ?_
  obtain ⟨es', c', j, e, hp, ok', hj, hek, hev, hst⟩ := ents_put o hS k v val hx
  refine (C.mins (P := P) (ty := ty) (A := pt r (mobj enc (x.1.map Ent.m) x.2) :: star (x.1.map (Ent.asn rep)) :: A.eraseIdx i) (i := 0) hT hk ex ey ez rfl).shutTo ?_
  rintro u B ⟨rfl, rfl⟩
  refine ⟨_, ⟨rfl, rfl⟩, fun h s => HSat.rear hA ?_⟩
  rw [hp] at s
  have s2 : HSat h ([pt r (mobj enc (es'.map Ent.m) c'), star (x.1.map (Ent.asn rep))] ++ A.eraseIdx i) := s
  obtain ⟨h1, h2, p1, p2, d, t1, t2⟩ := s2.append
  refine ⟨h1, h2, ⟨(es', c', j, e), ok', hj, hek, hev, HSat.under p1 fun q hq => hq.imp fun q2 => hst rep q2⟩, p2, d, t1, t2⟩

theorem C.mapDel (i : Nat) {ts : TypeId} (hT : ∀ w, (underlying T).run P w = .ok (.map K E) w) (hk : Keyed P K enc) (e : evs L [x, y] = some [.map (some r), enc k]) (hA : A[i]? = some (MapAt enc rep r S)) :
    OpC P (.call { callee := .builtin .delete, args := #[x, y], argTypes := #[T, ts] }) ty L A (fun u B => u = .tuple #[] ∧ B = A.set i (MapAt enc rep r (sdel k S))) := by
  refine OpC.opened hA (fun _ h => h) fun x hx => ?_
  refine (C.mdel (P := P) (ty := ty) (A := pt r (mobj enc (x.1.map Ent.m) x.2) :: star (x.1.map (Ent.asn rep)) :: A.eraseIdx i) (i := 0) hT hk e rfl).shutTo ?_
  rintro u B ⟨rfl, rfl⟩
  refine ⟨_, ⟨rfl, rfl⟩, fun h s => HSat.rear hA ?_⟩
  obtain ⟨es, c⟩ := x
  dsimp only at hx s
  have hkv := hx.kvnodup
  rcases elook k es with ⟨h1, h2, h3, h4⟩ | ⟨j, f, hj, h2, h3, h4, h5, h6⟩
  · rw [h3] at s
    have hS0 : sget k S = none := by rw [hx.get]; exact h2
    rw [sdel_none hS0]
    have s2 : HSat h ([pt r (mobj enc (es.map Ent.m) c), star (es.map (Ent.asn rep))] ++ A.eraseIdx i) := s
    obtain ⟨q1, q2, p1, p2, d, t1, t2⟩ := s2.append
    exact ⟨q1, q2, ⟨(es, c), hx, p1⟩, p2, d, t1, t2⟩
  · subst h2
    rw [h5] at s
    have hlt := (List.getElem?_eq_some_iff.1 hj).1
    have hel : es[j] = f := (List.getElem?_eq_some_iff.1 hj).2
    have s2 : HSat h ([pt r (mobj enc ((es.eraseIdx j).map Ent.m) c), star (es.map (Ent.asn rep))] ++ A.eraseIdx i) := s
    obtain ⟨q1, q2, p1, p2, d, t1, t2⟩ := s2.append
    refine ⟨q1, q2, ⟨(es.eraseIdx j, c), ⟨?_, ?_, ?_, ?_⟩, HSat.under p1 fun q hq => hq.imp fun q2 hh => (HSat.perm (perm_focus (Ent.asn rep) hj) hh).tail⟩, p2, d, t1, t2⟩
    · exact (sdel_kv hx.keys hx.perm.symm hj).symm
    · exact (List.Sublist.map _ (List.eraseIdx_sublist _ _)).nodup hx.keys
    · exact (List.Sublist.map _ (List.eraseIdx_sublist _ _)).nodup hx.born
    · exact fun g hg => hx.old g ((List.eraseIdx_sublist _ _).mem hg)
end ops
end G
end Go.X
namespace Go.X
set_option linter.unusedSectionVars false
set_option linter.unusedSimpArgs false
set_option linter.unusedVariables false

theorem ReadsN.pt {D : List Assn} (i : Nat) {l : List Value} {e : TypeId} {z : Nat × Nat} {b : Nat} (h : D[i]? = some (X.pt b (.cells l.toArray e z))) : ReadsN D b 0 l :=
  fun j u hj => Reads.pt i h (by rw [Nat.zero_add]; exact hj)
section
variable {P : Program} {fn : Func} {N : Nat} {W0 : World} {L : Slots} {A B D : List Assn} {F : Assn} {R : Value → List Assn → Prop} {s t : Nat} {T : TypeId} {b : Nat} {vs : List Value} {u : Value}

theorem run_loadAgg {w : World} (ha : ∀ w, (isAgg T).run P w = .ok true w) (hs : ∀ w, (sizeOf T).run P w = .ok vs.length w) (hr : ReadsN A b 0 vs) (t : Sat W0 w A) : (loadVar T ⟨b, 0, none⟩).run P w = .ok (.agg vs.toArray) w := by
  have hc := run_loadCells (P := P) t hr
  simp [loadVar, ha, hs, hc]

theorem J.retC (is : List Nat) (hr : fn.results = #[.cell s T]) (hv : find s L = some (.pointer (some ⟨b, 0, none⟩))) (ha : ∀ w, (isAgg T).run P w = .ok true w) (hs : ∀ w, (sizeOf T).run P w = .ok vs.length w) (hrd : ReadsN A b 0 vs)
    (hp : X.pick is A = some (B ++ [F], D)) (hR : R (.agg vs.toArray) B) : J W0 N L A (bodyPost P fn (RetQ W0 R F) .ret) := by
  refine ⟨fun a w f t => ?_⟩
  have hg : (a.tmps[s]?).getD undef = .pointer (some ⟨b, 0, none⟩) := by rw [f.get s _ hv]; rfl
  have hres : (results fn a.tmps).run P w = .ok (.agg vs.toArray) w := by
    simp [results, hr, hg, asAddr, run_loadAgg ha hs hrd t]
  refine bodyPost_ret hres f.defers ⟨_, B, rfl, hR, t.imp fun k q => ?_⟩
  obtain ⟨h1, h2, p1, p2, d, u1, u2⟩ := (q.perm (pick_perm hp)).append
  exact p1.mono u1
theorem J.retC2 (is : List Nat) (hr : fn.results = #[.cell s T, .tmp t]) (hv : find s L = some (.pointer (some ⟨b, 0, none⟩))) (ht : find t L = some u) (ha : ∀ w, (isAgg T).run P w = .ok true w) (hs : ∀ w, (sizeOf T).run P w = .ok vs.length w) (hrd : ReadsN A b 0 vs)
    (hp : X.pick is A = some (B ++ [F], D)) (hR : R (.tuple #[.agg vs.toArray, u]) B) : J W0 N L A (bodyPost P fn (RetQ W0 R F) .ret) := by
  refine ⟨fun a w f q => ?_⟩
  have hg : (a.tmps[s]?).getD undef = .pointer (some ⟨b, 0, none⟩) := by rw [f.get s _ hv]; rfl
  have hg2 : (a.tmps[t]?).getD undef = u := by rw [f.get t _ ht]; rfl
  have hres : (results fn a.tmps).run P w = .ok (.tuple #[.agg vs.toArray, u]) w := by
    simp [results, hr, hg, hg2, asAddr, run_loadAgg ha hs hrd q]
  refine bodyPost_ret hres f.defers ⟨_, B, rfl, hR, q.imp fun k q => ?_⟩
  obtain ⟨h1, h2, p1, p2, d, u1, u2⟩ := (q.perm (pick_perm hp)).append
  exact p1.mono u1
end

section maps
open G
variable {κ ν : Type} [DecidableEq κ] {W0 : World} {N : Nat} {L : Slots} {A D : List Assn} {Gl : Act → World → Prop}
variable {enc : κ → Value} {rep : κ → ν → Value → Assn} {r : Nat} {S : List (κ × ν)} {k : κ} {val : Value} {lt : κ → κ → Bool}

theorem J.mapFocus (i : Nat) {v : ν} (hk : sget k S = some v) (e : X.pick [i] A = some ([MapAt enc rep r S], D)) (h : ∀ val, J W0 N L (rep k v val :: MapHole enc rep r S k val :: D) Gl) : J W0 N L A Gl :=
  J.open1 (Bs := fun val => [rep k v val, MapHole enc rep r S k val]) i e (MapAt.focus hk) h
theorem J.mapBack (i j : Nat) (v' : ν) (o : Ord3 lt) (hS : Srtd lt S) (e : X.pick [i, j] A = some ([rep k v' val, MapHole enc rep r S k val], D)) (h : J W0 N L (MapAt enc rep r (sput lt k v' S) :: D) Gl) : J W0 N L A Gl :=
  J.shut [i, j] _ e (MapHole.back o hS v') h
theorem J.mapSame (i j : Nat) {v : ν} (o : Ord3 lt) (hS : Srtd lt S) (hk : sget k S = some v) (e : X.pick [i, j] A = some ([rep k v val, MapHole enc rep r S k val], D)) (h : J W0 N L (MapAt enc rep r S :: D) Gl) : J W0 N L A Gl := by
  refine J.mapBack (lt := lt) i j v o hS e ?_
  rw [sput_same o hS hk]; exact h
end maps

end Go.X
namespace Go.X.G
set_option linter.unusedSectionVars false
set_option linter.unusedSimpArgs false
set_option linter.unusedVariables false
variable {κ ν : Type} [DecidableEq κ]

def edone (es : List (Ent κ ν)) (seen : List Nat) : List (Ent κ ν) := es.filter fun e => seen.contains e.born
def eleft (es : List (Ent κ ν)) (seen : List Nat) : List (Ent κ ν) := es.filter fun e => !seen.contains e.born

theorem mleft_e (es : List (Ent κ ν)) (seen : List Nat) : mleft (es.map Ent.m) seen = (eleft es seen).map Ent.m := by
  unfold mleft eleft; rw [List.filter_map]; rfl
theorem edone_nil (es : List (Ent κ ν)) : edone es [] = [] := by simp [edone]
theorem edone_all {es : List (Ent κ ν)} {seen : List Nat} (h : eleft es seen = []) : edone es seen = es := by
  unfold edone eleft at *
  rw [List.filter_eq_nil_iff] at h
  rw [List.filter_eq_self]
  intro e he
  simpa using h e he

theorem estep {es : List (Ent κ ν)} {seen : List Nat} {e : Ent κ ν} (hn : (es.map (·.born)).Nodup) (he : e ∈ eleft es seen) : (edone es (seen ++ [e.born])).Perm (e :: edone es seen) ∧ (eleft es (seen ++ [e.born])).length < (eleft es seen).length := by
  induction es with
  | nil => cases he
  | cons x es ih =>
    simp only [List.map_cons, List.nodup_cons] at hn
    by_cases hxy : x.born = e.born
    · have hyx : e = x := by
        unfold eleft at he
        rw [List.mem_filter] at he
        rcases List.mem_cons.1 he.1 with h | h
        · exact h
        · exact absurd (hxy ▸ List.mem_map_of_mem h) hn.1
      subst hyx
      have hns : seen.contains e.born = false := by
        unfold eleft at he; rw [List.mem_filter] at he; simpa using he.2
      have hrest : ∀ z, z ∈ es → (seen ++ [e.born]).contains z.born = seen.contains z.born := by
        intro z hz
        have : z.born ≠ e.born := fun q => hn.1 (q ▸ List.mem_map_of_mem hz)
        simp [this]
      have e1 : edone es (seen ++ [e.born]) = edone es seen := List.filter_congr hrest
      have e2 : eleft es (seen ++ [e.born]) = eleft es seen := List.filter_congr fun z hz => by rw [hrest z hz]
      have h1 : (seen ++ [e.born]).contains e.born = true := by simp
      refine ⟨?_, ?_⟩
      · unfold edone at e1 ⊢; rw [List.filter_cons, List.filter_cons, h1, hns, if_pos rfl, e1]; simp
      · unfold eleft at e2 ⊢; rw [List.filter_cons, List.filter_cons, h1, hns, e2]; simp
    · have he' : e ∈ eleft es seen := by
        unfold eleft at he ⊢
        rw [List.mem_filter] at he ⊢
        rcases List.mem_cons.1 he.1 with h | h
        · exact absurd (by rw [h]) hxy
        · exact ⟨h, he.2⟩
      obtain ⟨i1, i2⟩ := ih hn.2 he'
      have hc : (seen ++ [e.born]).contains x.born = seen.contains x.born := by simp [hxy]
      unfold edone eleft at *
      rw [List.filter_cons, List.filter_cons, List.filter_cons, List.filter_cons, hc]
      cases seen.contains x.born with
      | true => exact ⟨by simp only [if_true]; exact (i1.cons x).trans (List.Perm.swap _ _ _), by simpa using i2⟩
      | false => exact ⟨by simpa using i1, by simpa using i2⟩

section ops
variable {P : Program} {L : Slots} {A D : List Assn} {ty : TypeId} {x : Operand} {enc : κ → Value} {S : List (κ × ν)} {es : List (Ent κ ν)} {c : Nat}

theorem C.nextE {i j b r : Nat} {seen : List Nat} (hx : Ents S es c) (ex : ev L x = some (.pointer (some ⟨b, 0, none⟩))) (hA : A[i]? = some (pt b (miter r c seen))) (hM : A[j]? = some (pt r (mobj enc (es.map Ent.m) c))) :
    OpC P (.next x false) ty L A (fun u B => ∃ (t : Bool) (rest : List Value) (seen' : List Nat), u = .tuple (.bool t :: rest).toArray ∧ B = A.set i (pt b (miter r c seen')) ∧ ((t = false ∧ edone es seen = es ∧ seen' = seen) ∨ (t = true ∧ ∃ e, e ∈ eleft es seen ∧ seen' = seen ++ [e.born]))) := by
  refine (C.next1 (P := P) (ty := ty) ex hA hM ?_).shutTo ?_
  · intro e he
    obtain ⟨f, hf, rfl⟩ := List.mem_map.1 he
    exact hx.old f hf
  · rintro v B ⟨t, rest, seen', h1, h2, h3⟩
    refine ⟨B, ⟨t, rest, seen', h1, h2, ?_⟩, fun _ s => s⟩
    rcases h3 with ⟨a1, a2, a3⟩ | ⟨a1, e, a2, a3⟩
    · refine .inl ⟨a1, edone_all ?_, a3⟩
      rw [mleft_e] at a2
      simpa using a2
    · rw [mleft_e] at a2
      obtain ⟨f, hf, rfl⟩ := List.mem_map.1 a2
      exact .inr ⟨a1, f, hf, a3⟩

theorem Q.entryE {i j b r : Nat} {seen : List Nat} {e : Ent κ ν} (hx : Ents S es c) (he : e ∈ eleft es seen) (ex : ev L x = some (.pointer (some ⟨b, 0, none⟩))) (hA : D[i]? = some (pt b (miter r c (seen ++ [e.born])))) (hM : D[j]? = some (pt r (mobj enc (es.map Ent.m) c))) :
    OpQ P (.entry x) ty L D (.tuple #[enc e.key, e.val]) := by
  have hm : e ∈ es := (List.mem_filter.1 he).1
  have hn : ((es.map Ent.m).map (·.born)).Nodup := by rw [List.map_map]; exact hx.born
  exact Q.entry (e := e.m) ex hA hM (List.mem_map_of_mem hm) hn
end ops
end Go.X.G
namespace Go.X
set_option linter.unusedSectionVars false
set_option linter.unusedSimpArgs false
set_option linter.unusedVariables false

section
variable {P : Program} {W0 : World} {N : Nat} {l : List Oper} {NQ : List Nat} {Q : Exit → Act → World → Prop} {S : List Nat} {L : Slots} {D E A Ain F : List Assn}

theorem RG.permE {E' : List Assn} (p : E.Perm E') (k : RG P W0 N l NQ Q S L D E') : RG P W0 N l NQ Q S L D E :=
  ⟨fun m listed a w inv hm => k.run m listed a w ⟨inv.size, inv.tsz, inv.defs, inv.sat.perm (List.Perm.append_left D p), inv.sub, inv.closed, inv.scl, inv.slots, inv.pend⟩ hm⟩
theorem RG.rot {X : Assn} (k : RG P W0 N l NQ Q S L D (E ++ [X])) : RG P W0 N l NQ Q S L D (X :: E) := RG.permE (List.perm_append_singleton X E).symm k

theorem Pend.frame {o : Oper} {v : Value} (Fs : List Assn) (h : Pend P l o L D v) : Pend P l o L (D ++ Fs) v := by
  rcases h with ⟨h1, h2⟩ | h
  · refine .inl ⟨h1, ⟨fun dst pos aft g a W0 w F ag s => ?_⟩⟩
    rw [List.append_assoc] at s ⊢
    exact h2.run dst pos aft g a W0 w (Fs ++ F) ag s
  · exact .inr h
theorem RG.hold {X : Assn} (k : RG P W0 N l NQ Q S L (D ++ [X]) E) : RG P W0 N l NQ Q S L D (X :: E) :=
  ⟨fun m listed a w inv hm => k.run m listed a w ⟨inv.size, inv.tsz, inv.defs, by rw [List.append_assoc]; exact inv.sat, inv.sub, inv.closed, inv.scl, inv.slots, fun i hi hn => by
    obtain ⟨o, d, v, h1, h2, h3, h4, h5, h6⟩ := inv.pend i hi hn
    exact ⟨o, d, v, h1, h2, h3, h4, h5, h6.frame [X]⟩⟩ hm⟩

theorem RGi.callk {i d : Nat} {ty : TypeId} {pos : String} {aft : Array Edge} {g : Option (Nat × Bool)} {f : FuncId} {argTypes : Array TypeId} {R : Value → List Assn → Prop} {xs : List Operand} {args : List Value}
    (ho : l[i]? = some ⟨some d, .call { callee := .value (.func f), args := xs.toArray, argTypes }, ty, pos, aft, g⟩) (hi : memN i NQ = true) (hN : Nat.blt d N = true) (hg : guardL l.toArray g L = some true)
    (hc : ∀ (args : Array Value) (w : World), (callFunc f args).run P w = .ok (.enter f args) w) (hs : FSpec P f args Ain R) (is : List Nat) (he : evs L xs = some args) (hp : X.pick is (D ++ E) = some (Ain, F))
    (k : ∀ v B, R v B → ∃ E', (B ++ F).Perm (D ++ E') ∧ RG P W0 N l NQ Q (i :: S) ((d, v) :: L) D E') : RGi P W0 N l NQ Q S L D E i :=
  RGi.one ho hi hN hg (OpC.call hc he hs is hp) (by rintro v _ ⟨B, r, rfl⟩; exact k v B r)
theorem getElem?_appendE {j : Nat} {X : Assn} (h : E[j]? = some X) : (D ++ E)[D.length + j]? = some X := by
  rw [List.getElem?_append_right (by omega), Nat.add_sub_cancel_left]; exact h
theorem set_appendE {j : Nat} {X : Assn} : (D ++ E).set (D.length + j) X = D ++ E.set j X := by
  rw [List.set_append, if_neg (by omega), Nat.add_sub_cancel_left]

theorem RG.stAk (i : Nat) {j b : Nat} {T e : TypeId} {x y : Operand} {ty : TypeId} {pos : String} {aft : Array Edge} {g : Option (Nat × Bool)} {vs m : List Value} {E' : List Assn} (hR : RegOK l NQ) (hf : front l S = [i])
    (ho : l[i]? = some ⟨none, .store T x y, ty, pos, aft, g⟩) (hi : memN i NQ = true) (hg : guardL l.toArray g L = some true)
    (hs : ∀ w, (sizeOf T).run P w = .ok vs.length w) (ex : ev L x = some (.pointer (some ⟨b, 0, none⟩))) (ey : ev L y = some (.agg vs.toArray))
    (h : E[j]? = some (pt b (.cells m.toArray e (0, 0)))) (hl : Nat.beq m.length vs.length = true) (hv : vs.all oneC = true) (hB : setA j (pt b (.cells vs.toArray e (0, 0))) E = some E')
    (k : RG P W0 N l NQ Q (i :: S) L D E') : RG P W0 N l NQ Q S L D E := by
  have hl' : m.length = vs.length := (beq_iff _ _).1 hl
  have hop := C.stN (P := P) (L := L) (A := D ++ E) (i := D.length + j) (ty := ty) hs ex ey (fun v hm => by rw [List.all_eq_true] at hv; exact hv v hm) (getElem?_appendE h) (by omega) (by simp)
  rw [splice_eq _ _ _ (by omega), Nat.zero_add, ← hl', List.drop_length, List.take_zero, List.nil_append, List.append_nil, set_appendE, setA_eq hB] at hop
  refine RG.one i hR hf ho hi rfl hg hop ?_
  rintro _ _ ⟨rfl, rfl⟩
  exact ⟨E', List.Perm.refl _, k⟩
end

namespace G
variable {κ : Type} [DecidableEq κ]
def plainRep (_ : κ) (v : Value) (val : Value) : Assn := fun _ => val = v

section
variable {P : Program} {L : Slots} {A D : List Assn} {ty : TypeId} {T K E : TypeId} {x y z : Operand} {enc : κ → Value} {lt : κ → κ → Bool} {r : Nat} {S : List (κ × Value)} {k : κ} {v : Value}

theorem plain_shut (o : Ord3 lt) (hS : Srtd lt S) : ∀ h, MapHole enc plainRep r S k v h → MapAt enc plainRep r (sput lt k v S) h := fun h hh =>
  MapHole.back (rep := plainRep) (v' := v) o hS h (HSat.two (h1 := fun _ => none) (show plainRep k v v (fun _ => none) from rfl) hh (fun _ => Or.inl rfl) (fun _ _ e => nomatch e) (Sub.refl _))

theorem Q.lkPlain {i : Nat} {zv : Value} (o : Ord3 lt) (hS : Srtd lt S) (hT : ∀ w, (underlying T).run P w = .ok (.map K E) w) (hk : Keyed P K enc) (hz : ∀ w, (zeroValue E).run P w = .ok zv w) (ex : ev L x = some (.map (some r))) (ey : ev L y = some (enc k))
    (hA : D[i]? = some (MapAt enc plainRep r S)) (hv : sget k S = some v) : OpQ P (.lookup T x y false) ty L D v := by
  refine OpQ.opened (α := Unit) (Bs := fun _ => [MapHole enc plainRep r S k v]) (p := fun _ => True) hA ?_ ?_ (fun _ _ => Q.lkYes (i := 0) hT hk hz ex ey rfl)
  · intro h hh
    obtain ⟨val, h1, h2, e, ⟨k1, k2, q, _, _, s1, _⟩, d, s, t⟩ := MapAt.focus hv h hh
    have e' : val = v := e
    subst e'
    exact ⟨(), trivial, HSat.mono (HSat.one q) (s1.trans t)⟩
  · rintro _ _ h ⟨k1, k2, q, _, _, s1, _⟩
    have h1 : HSat h [MapHole enc plainRep r S k v] := HSat.mono (HSat.one q) s1
    obtain ⟨j1, j2, a, b, c, e, f⟩ := h1
    have := plain_shut o hS j1 a
    rw [sput_same o hS hv] at this
    obtain ⟨x, p1, p2⟩ := this
    exact ⟨x, p1, p2.mono e⟩
end
end G
end Go.X
namespace Go.X
set_option linter.unusedSectionVars false
set_option linter.unusedSimpArgs false
set_option linter.unusedVariables false

section
variable {P : Program} {L : Slots} {D : List Assn} {ty T T' : TypeId} {x y : Operand} {k : IntKind} {a b : Int}
theorem Q.or (ex : ev L x = some (.int k a)) (ey : ev L y = some (.int k b)) : OpQ P (.binOp .or T x y T') ty L D (.int k (k.wrap (BitVec.ofInt k.bits a ||| BitVec.ofInt k.bits b).toNat)) :=
  Q.bin ex ey fun w => by simp [guard_int, binOp, Op.intBits]
theorem Q.and (ex : ev L x = some (.int k a)) (ey : ev L y = some (.int k b)) : OpQ P (.binOp .and T x y T') ty L D (.int k (k.wrap (BitVec.ofInt k.bits a &&& BitVec.ofInt k.bits b).toNat)) :=
  Q.bin ex ey fun w => by simp [guard_int, binOp, Op.intBits]

end

theorem results_tmp3 {fn : Func} {t u v : Tmp} (h : fn.results = #[.tmp t, .tmp u, .tmp v]) (tmps : Array Value) (P : Program) (w : World) :
    (results fn tmps).run P w = .ok (.tuple #[tmps.getD t undef, tmps.getD u undef, tmps.getD v undef]) w := by
  simp [results, h]
theorem J.ret3 {P : Program} {fn : Func} {N : Nat} {A : List Assn} {R : Value → List Assn → Prop} {W0 : World} {L : Slots} {F : Assn} {v u z : Value} {s t r : Nat} {B : List Assn} (hr : fn.results = #[.tmp s, .tmp t, .tmp r]) (hv : find s L = some v) (hu : find t L = some u) (hz : find r L = some z) (hR : R (.tuple #[v, u, z]) B) (hA : A = B ++ [F]) :
    J W0 N L A (bodyPost P fn (RetQ W0 R F) .ret) := by
  refine ⟨fun a w f x => ?_⟩
  refine bodyPost_ret (results_tmp3 hr _ _ _) f.defers ⟨.tuple #[v, u, z], B, ?_, hR, hA ▸ x⟩
  rw [Array.getD_eq_getD_getElem?, Array.getD_eq_getD_getElem?, Array.getD_eq_getD_getElem?, f.get s v hv, f.get t u hu, f.get r z hz]; rfl

theorem wrap64 {n : Nat} (h : n < 18446744073709551616) : IntKind.u64.wrap (n : Int) = (n : Int) := by
  unfold IntKind.wrap
  simp only [IntKind.bits, IntKind.signed]
  show (n : Int) % 2 ^ 64 = _
  omega
theorem or64 {a b i : Nat} (ha : a < 2 ^ i) (hb : a + 2 ^ i * b < 18446744073709551616) : IntKind.u64.wrap ((BitVec.ofInt IntKind.u64.bits (a : Int) ||| BitVec.ofInt IntKind.u64.bits ((2 ^ i * b : Nat) : Int)).toNat : Int) = ((a + 2 ^ i * b : Nat) : Int) := by
  have e : (BitVec.ofInt IntKind.u64.bits (a : Int) ||| BitVec.ofInt IntKind.u64.bits ((2 ^ i * b : Nat) : Int)).toNat = a + 2 ^ i * b := by
    rw [BitVec.toNat_or]
    have h1 : (BitVec.ofInt IntKind.u64.bits (a : Int)).toNat = a := by
      rw [show BitVec.ofInt IntKind.u64.bits (a : Int) = BitVec.ofNat IntKind.u64.bits a from BitVec.ofInt_natCast .., BitVec.toNat_ofNat]
      exact Nat.mod_eq_of_lt (by show a < 2 ^ 64; omega)
    have h2 : (BitVec.ofInt IntKind.u64.bits ((2 ^ i * b : Nat) : Int)).toNat = 2 ^ i * b := by
      rw [show BitVec.ofInt IntKind.u64.bits ((2 ^ i * b : Nat) : Int) = BitVec.ofNat IntKind.u64.bits (2 ^ i * b) from BitVec.ofInt_natCast .., BitVec.toNat_ofNat]
      exact Nat.mod_eq_of_lt (by show 2 ^ i * b < 2 ^ 64; omega)
    rw [h1, h2, Nat.or_comm, ← Nat.two_pow_add_eq_or_of_lt ha, Nat.add_comm]
  rw [e]; exact wrap64 hb
theorem and127 {n : Nat} (h : n < 256) : IntKind.u8.wrap ((BitVec.ofInt IntKind.u8.bits (n : Int) &&& BitVec.ofInt IntKind.u8.bits 127).toNat : Int) = ((n % 128 : Nat) : Int) := by
  have key : ∀ r : Fin 256, IntKind.u8.wrap ((BitVec.ofInt IntKind.u8.bits ((r.val : Nat) : Int) &&& BitVec.ofInt IntKind.u8.bits 127).toNat : Int) = ((r.val % 128 : Nat) : Int) := by decide +kernel
  exact key ⟨n, h⟩

theorem own.clip {E sz : Nat} {p : Option Addr} {n c : Nat} {xs : List Value} : ∀ h, own E sz (.slice p n c) xs h → own E sz (.slice p n n) xs h := by
  rintro h (⟨e1, e2⟩ | ⟨o, ho, hp⟩)
  · cases e1; exact .inl ⟨rfl, e2⟩
  · have hv := ho.val
    simp only [Value.slice.injEq] at hv
    obtain ⟨rfl, rfl, rfl⟩ := hv
    refine .inr ⟨{ o with cap := o.len }, ⟨rfl, ho.len, Nat.le_refl _, ?_, ho.get, ho.free⟩, hp⟩
    have h1 := ho.fits
    have h2 := Nat.mul_le_mul_right sz ho.cap
    show o.off + o.len * sz ≤ o.l.length
    omega

def numB (v : Nat) : List UInt8 := if v < 128 then [UInt8.ofNat v] else UInt8.ofNat (v % 128 + 128) :: numB (v / 128)
termination_by v
decreasing_by omega
theorem numB_small {v : Nat} (h : v < 128) : numB v = [UInt8.ofNat v] := by rw [numB, if_pos h]
theorem numB_step {v : Nat} (h : ¬ v < 128) : numB v = UInt8.ofNat (v % 128 + 128) :: numB (v / 128) := by rw [numB, if_neg h]

theorem wrap8 (v : Nat) : IntKind.u8.wrap (v : Int) = ((v % 256 : Nat) : Int) := by
  unfold IntKind.wrap
  simp only [IntKind.bits, IntKind.signed]
  show (v : Int) % 2 ^ 8 = _
  omega
theorem or128 (v : Nat) : IntKind.u8.wrap ((BitVec.ofInt IntKind.u8.bits (IntKind.u8.wrap (v : Int)) ||| BitVec.ofInt IntKind.u8.bits 128).toNat : Int) = ((UInt8.ofNat (v % 128 + 128)).toNat : Int) := by
  have e0 : IntKind.u8.wrap (v : Int) = ((v % 256 : Nat) : Int) := wrap8 v
  rw [e0]
  have key : ∀ r : Fin 256, IntKind.u8.wrap ((BitVec.ofInt IntKind.u8.bits ((r.val : Nat) : Int) ||| BitVec.ofInt IntKind.u8.bits 128).toNat : Int) = ((UInt8.ofNat (r.val % 128 + 128)).toNat : Int) := by decide +kernel
  have h := key ⟨v % 256, Nat.mod_lt _ (by decide)⟩
  dsimp only at h
  rw [h, show v % 256 % 128 = v % 128 by omega]
theorem low8 {v : Nat} (h : v < 128) : IntKind.u8.wrap (v : Int) = ((UInt8.ofNat v).toNat : Int) := by
  rw [wrap8]
  simp
theorem numB_le : ∀ (n v : Nat), v < 128 ^ n → 1 ≤ n → (numB v).length ≤ n
  | 0, _, _, h => by omega
  | n + 1, v, hv, _ => by
    by_cases h : v < 128
    · rw [numB_small h]; simp
    · rw [numB_step h, List.length_cons]
      have h1 : v / 128 < 128 ^ n := by
        rw [Nat.div_lt_iff_lt_mul (by decide)]; rwa [Nat.pow_succ] at hv
      have hn : 1 ≤ n := by
        rcases Nat.eq_zero_or_pos n with e | e
        · subst e; simp at h1; omega
        · exact e
      have := numB_le n (v / 128) h1 hn
      omega
theorem numB_len (v : Nat) (h : v ≤ 18446744073709551615) : (numB v).length ≤ 10 := numB_le 10 v (by
  have : (128 : Nat) ^ 10 = 1180591620717411303424 := by decide
  omega) (by decide)
end Go.X
namespace Go.X
set_option linter.unusedSectionVars false
set_option linter.unusedSimpArgs false
set_option linter.unusedVariables false
section
variable {P : Program} {W0 : World} {N : Nat} {l : List Oper} {NQ : List Nat} {Q : Exit → Act → World → Prop} {S : List Nat} {L : Slots} {D E : List Assn} {listed : Array Bool} {a : Act} {w : World}
end

theorem normA_some : ∀ A : List Assn, normA A = some A
  | [] => rfl
  | a :: A => by simp only [normA, normA_some A]
class AtPt (A : List Assn) (b : Nat) (o : outParam Obj) (C : outParam (Obj → List Assn)) : Prop where
  at_ : ∃ i, A[i]? = some (pt b o) ∧ ∀ n, A.set i (pt b n) = C n
instance AtPt.head {b : Nat} {o : Obj} {A : List Assn} : AtPt (pt b o :: A) b o (fun n => pt b n :: A) := ⟨0, rfl, fun _ => rfl⟩
instance AtPt.tail {b : Nat} {o : Obj} {X : Assn} {A : List Assn} {C : Obj → List Assn} [h : AtPt A b o C] : AtPt (X :: A) b o (fun n => X :: C n) := by
  obtain ⟨i, h1, h2⟩ := h.at_
  exact ⟨i + 1, by simpa using h1, fun n => by simp [h2]⟩
instance AtPt.left {b : Nat} {o : Obj} {A E : List Assn} {C : Obj → List Assn} [h : AtPt A b o C] : AtPt (A ++ E) b o (fun n => C n ++ E) := by
  obtain ⟨i, h1, h2⟩ := h.at_
  have hi := (List.getElem?_eq_some_iff.1 h1).1
  exact ⟨i, by rw [List.getElem?_append_left hi]; exact h1, fun n => by rw [List.set_append, if_pos hi, h2]⟩
instance AtPt.right {b : Nat} {o : Obj} {A E : List Assn} {C : Obj → List Assn} [h : AtPt E b o C] : AtPt (A ++ E) b o (fun n => A ++ C n) := by
  obtain ⟨i, h1, h2⟩ := h.at_
  exact ⟨A.length + i, by rw [List.getElem?_append_right (by omega)]; simpa using h1, fun n => by rw [List.set_append, if_neg (by omega)]; simp [h2]⟩
section
variable {P : Program} {W0 : World} {N : Nat} {ops : Array Oper} {Q : Exit → Act → World → Prop} {L : Slots} {A D : List Assn} {rest : List Oper}
variable {ty : TypeId} {pos : String} {aft : Array Edge} {g : Option (Nat × Bool)} {T : TypeId} {x y : Operand} {b off : Nat} {l l' vs m : List Value} {e : TypeId} {z : Nat × Nat} {v : Value} {B : List Assn} {KK : Obj → List Assn}
theorem rdI [h : AtPt D b (.cells l.toArray e z) KK] (hv : l[off]? = some v) : Reads D b off v := by
  obtain ⟨i, h1, _⟩ := h.at_; exact Reads.pt i h1 hv
theorem rnI [h : AtPt D b (.cells l.toArray e z) KK] : ReadsN D b 0 l := by
  obtain ⟨i, h1, _⟩ := h.at_; exact ReadsN.pt i h1
theorem C.stI (hs : ∀ w, (sizeOf T).run P w = .ok 1 w) (ex : ev L x = some (.pointer (some ⟨b, off, none⟩))) (ey : ev L y = some v) (hv : oneC v = true) [h : AtPt A b (.cells l.toArray e z) KK]
    (hl : setV off v l = some l') (hz : (decide (z.1 ≤ off) && decide (off < z.2)) = false) (hB : normA (KK (.cells l'.toArray e z)) = some B) : OpC P (.store T x y) ty L A (fun u D => u = undef ∧ D = B) := by
  obtain ⟨i, h1, h2⟩ := h.at_
  have hl' := setV_eq hl
  refine OpC.shutTo (C.st hs ex ey hv h1 hl'.1 hz) ?_
  rintro u D ⟨rfl, rfl⟩
  refine ⟨_, ⟨rfl, rfl⟩, fun h hh => ?_⟩
  rw [hl'.2, h2, normA_eq hB] at hh; exact hh
theorem C.stAI (hs : ∀ w, (sizeOf T).run P w = .ok vs.length w) (ex : ev L x = some (.pointer (some ⟨b, 0, none⟩))) (ey : ev L y = some (.agg vs.toArray)) [h : AtPt A b (.cells m.toArray e (0, 0)) KK]
    (hl : Nat.beq m.length vs.length = true) (hv : vs.all oneC = true) (hB : normA (KK (.cells vs.toArray e (0, 0))) = some B) : OpC P (.store T x y) ty L A (fun u D => u = undef ∧ D = B) := by
  obtain ⟨i, h1, h2⟩ := h.at_
  refine C.stA hs ex ey h1 hl hv ?_
  have : setA i (pt b (.cells vs.toArray e (0, 0))) A = some B := by
    have key : ∀ (A : List Assn) (i : Nat) (X : Assn), i < A.length → setA i X A = some (A.set i X) := by
      intro A
      induction A with
      | nil => intro i X h; simp at h
      | cons a A ih =>
        intro i X h
        cases i with
        | zero => simp [setA, normA_some]
        | succ i => simp only [setA, ih i X (by simpa using h)]; rfl
    rw [key A i _ (List.getElem?_eq_some_iff.1 h1).1, h2, normA_eq hB]
  exact this
theorem J.stI (hg : guardL ops g L = some true) (hs : ∀ w, (sizeOf T).run P w = .ok 1 w) (ex : ev L x = some (.pointer (some ⟨b, off, none⟩))) (ey : ev L y = some v) (hv : oneC v = true) [h : AtPt A b (.cells l.toArray e z) KK]
    (hl : setV off v l = some l') (hz : (decide (z.1 ≤ off) && decide (off < z.2)) = false) (hB : normA (KK (.cells l'.toArray e z)) = some B)
    (k : J W0 N L B (wpList P ops Q rest)) : J W0 N L A (wpList P ops Q (⟨none, .store T x y, ty, pos, aft, g⟩ :: rest)) :=
  J.c0 hg (C.stI hs ex ey hv hl hz hB) (by rintro _ _ ⟨rfl, rfl⟩; exact k)
theorem J.stAI (hg : guardL ops g L = some true) (hs : ∀ w, (sizeOf T).run P w = .ok vs.length w) (ex : ev L x = some (.pointer (some ⟨b, 0, none⟩))) (ey : ev L y = some (.agg vs.toArray)) [h : AtPt A b (.cells m.toArray e (0, 0)) KK]
    (hl : Nat.beq m.length vs.length = true) (hv : vs.all oneC = true) (hB : normA (KK (.cells vs.toArray e (0, 0))) = some B)
    (k : J W0 N L B (wpList P ops Q rest)) : J W0 N L A (wpList P ops Q (⟨none, .store T x y, ty, pos, aft, g⟩ :: rest)) :=
  J.c0 hg (C.stAI hs ex ey hl hv hB) (by rintro _ _ ⟨rfl, rfl⟩; exact k)
end
section
variable {P : Program} {W0 : World} {N : Nat} {l : List Oper} {NQ : List Nat} {Q : Exit → Act → World → Prop} {S : List Nat} {L : Slots} {D E : List Assn}
variable {ty : TypeId} {pos : String} {aft : Array Edge} {g : Option (Nat × Bool)} {T : TypeId} {x y : Operand} {b off : Nat} {vs m m' : List Value} {e : TypeId} {z : Nat × Nat} {v : Value} {B : List Assn} {KK : Obj → List Assn}
theorem RG.stI (i : Nat) (hR : RegOK l NQ) (hf : front l S = [i]) (ho : l[i]? = some ⟨none, .store T x y, ty, pos, aft, g⟩) (hi : memN i NQ = true) (hg : guardL l.toArray g L = some true) (hb : S.all (fun j => (((masks [] l)[i]?).getD 0).testBit j) = true)
    (hs : ∀ w, (sizeOf T).run P w = .ok 1 w) (ex : ev L x = some (.pointer (some ⟨b, off, none⟩))) (ey : ev L y = some v) (hv : oneC v = true) [h : AtPt (D ++ E) b (.cells m.toArray e z) KK]
    (hl : setV off v m = some m') (hz : (decide (z.1 ≤ off) && decide (off < z.2)) = false) (hB : normA (KK (.cells m'.toArray e z)) = some B) (k : RG P W0 N l NQ Q (i :: S) L B []) : RG P W0 N l NQ Q S L D E :=
  RG.bar i hR hf ho hi rfl hg hb (C.stI hs ex ey hv hl hz hB) (by rintro _ _ ⟨rfl, rfl⟩; exact k)
theorem RG.stAI (i : Nat) (hR : RegOK l NQ) (hf : front l S = [i]) (ho : l[i]? = some ⟨none, .store T x y, ty, pos, aft, g⟩) (hi : memN i NQ = true) (hg : guardL l.toArray g L = some true) (hb : S.all (fun j => (((masks [] l)[i]?).getD 0).testBit j) = true)
    (hs : ∀ w, (sizeOf T).run P w = .ok vs.length w) (ex : ev L x = some (.pointer (some ⟨b, 0, none⟩))) (ey : ev L y = some (.agg vs.toArray)) [h : AtPt (D ++ E) b (.cells m.toArray e (0, 0)) KK]
    (hl : Nat.beq m.length vs.length = true) (hv : vs.all oneC = true) (hB : normA (KK (.cells vs.toArray e (0, 0))) = some B) (k : RG P W0 N l NQ Q (i :: S) L B []) : RG P W0 N l NQ Q S L D E :=
  RG.bar i hR hf ho hi rfl hg hb (C.stAI hs ex ey hl hv hB) (by rintro _ _ ⟨rfl, rfl⟩; exact k)
theorem RG.stAkI (i : Nat) (hR : RegOK l NQ) (hf : front l S = [i]) (ho : l[i]? = some ⟨none, .store T x y, ty, pos, aft, g⟩) (hi : memN i NQ = true) (hg : guardL l.toArray g L = some true)
    (hs : ∀ w, (sizeOf T).run P w = .ok vs.length w) (ex : ev L x = some (.pointer (some ⟨b, 0, none⟩))) (ey : ev L y = some (.agg vs.toArray)) [h : AtPt E b (.cells m.toArray e (0, 0)) KK]
    (hl : Nat.beq m.length vs.length = true) (hv : vs.all oneC = true) (hB : normA (KK (.cells vs.toArray e (0, 0))) = some B) (k : RG P W0 N l NQ Q (i :: S) L D B) : RG P W0 N l NQ Q S L D E := by
  obtain ⟨j, h1, h2⟩ := h.at_
  have key : ∀ (A : List Assn) (i : Nat) (X : Assn), i < A.length → setA i X A = some (A.set i X) := by
    intro A
    induction A with
    | nil => intro i X h; simp at h
    | cons a A ih =>
      intro i X h
      cases i with
      | zero => simp [setA, normA_some]
      | succ i => simp only [setA, ih i X (by simpa using h)]; rfl
  exact RG.stAk i hR hf ho hi hg hs ex ey h1 hl hv (by rw [key E j _ (List.getElem?_eq_some_iff.1 h1).1, h2, normA_eq hB]) k
end

class PickO (A : List Assn) (X : Assn) (F : outParam (List Assn)) : Prop where
  perm : A.Perm (X :: F)
instance PickO.head {X : Assn} {A : List Assn} : PickO (X :: A) X A := ⟨List.Perm.refl _⟩
instance (priority := 900) PickO.tail {X Y : Assn} {A F : List Assn} [h : PickO A X F] : PickO (Y :: A) X (Y :: F) := ⟨(h.perm.cons Y).trans (List.Perm.swap X Y F)⟩
instance PickO.left {X : Assn} {A B F : List Assn} [h : PickO A X F] : PickO (A ++ B) X (F ++ B) := ⟨h.perm.append_right B⟩
instance (priority := 900) PickO.right {X : Assn} {A B F : List Assn} [h : PickO B X F] : PickO (A ++ B) X (A ++ F) := ⟨(h.perm.append_left A).trans List.perm_middle⟩
class PickL (A Xs : List Assn) (F : outParam (List Assn)) : Prop where
  perm : A.Perm (Xs ++ F)
instance PickL.nil {A : List Assn} : PickL A [] A := ⟨List.Perm.refl _⟩
instance PickL.cons {A F G Xs : List Assn} {X : Assn} [h : PickO A X F] [k : PickL F Xs G] : PickL A (X :: Xs) G := ⟨h.perm.trans (k.perm.cons X)⟩
instance PickL.app {A F G Xs Ys : List Assn} [h : PickL A Xs F] [k : PickL F Ys G] : PickL A (Xs ++ Ys) G := ⟨by rw [List.append_assoc]; exact h.perm.trans (k.perm.append_left Xs)⟩

section
variable {P : Program} {L : Slots} {A Ain F : List Assn} {R : Value → List Assn → Prop} {f : FuncId} {ty : TypeId} {argTypes : Array TypeId}
theorem OpC.callP {xs : List Operand} {args : List Value} (hc : ∀ (args : Array Value) (w : World), (callFunc f args).run P w = .ok (.enter f args) w) (he : evs L xs = some args) (hs : FSpec P f args Ain R) (hp : A.Perm (Ain ++ F)) :
    OpC P (.call { callee := .value (.func f), args := xs.toArray, argTypes }) ty L A (fun v B => ∃ B1, R v B1 ∧ B = B1 ++ F) := by
  refine ⟨fun dst pos aft g a W0 w ag s K Q k => ?_⟩
  have hx : xs.map a.eval = args := evs_map (fun x hx => ag x (by simp [Op.operands, Call.operands, hx])) he
  have ha : (xs.toArray).map a.eval = args.toArray := by simp [hx]
  unfold Oper.wp
  have hrun : (execOp a.eval ⟨dst, .call { callee := .value (.func f), args := xs.toArray, argTypes }, ty, pos, aft, g⟩).run P w = .ok (.enter f args.toArray) w := by
    simp only [execOp, resolve, Deferred.ofValue, Act.eval, invoke, Sem.run_bind, Sem.run_pure, Result.andThen_ok, ha]
    simpa using hc args.toArray w
  rw [hrun, Oper.upon_enter]
  have s' : Sat W0 w (Ain ++ [star F]) := by
    refine (s.perm hp).imp fun k t => ?_
    obtain ⟨h1, h2, p, q, d, u, v⟩ := t.append
    exact HSat.of_append p (Bs := [star F]) ⟨h2, fun _ => none, q, trivial, fun _ => Or.inr rfl, Sub.refl _, fun _ _ e => nomatch e⟩ d u v
  refine (hs.call W0 w (star F) s').mono ?_
  rintro e w' ⟨v, B, rfl, r, t⟩
  refine k v (B ++ F) w' ⟨B, r, rfl⟩ (t.imp fun k t => ?_)
  obtain ⟨h1, h2, p, ⟨k1, k2, q, _, _, s1, _⟩, d, u, v⟩ := t.append
  exact HSat.of_append p (HSat.mono q s1) d u v
end
section
variable {P : Program} {W0 : World} {N : Nat} {ops : Array Oper} {Q : Exit → Act → World → Prop} {L : Slots} {A Ain F : List Assn} {rest : List Oper}
variable {ty : TypeId} {pos : String} {aft : Array Edge} {g : Option (Nat × Bool)} {d : Nat} {argTypes : Array TypeId} {f : FuncId} {R : Value → List Assn → Prop}
theorem J.callI {xs : List Operand} {args : List Value} (hc : ∀ (args : Array Value) (w : World), (callFunc f args).run P w = .ok (.enter f args) w) (hs : FSpec P f args Ain R)
    (hg : guardL ops g L = some true) (hd : Nat.blt d N = true) (he : evs L xs = some args) [hp : PickL A Ain F]
    (k : ∀ v B, R v B → J W0 N ((d, v) :: L) (B ++ F) (wpList P ops Q rest)) :
    J W0 N L A (wpList P ops Q (⟨some d, .call { callee := .value (.func f), args := xs.toArray, argTypes }, ty, pos, aft, g⟩ :: rest)) :=
  J.c hg hd (OpC.callP hc he hs hp.perm) (by rintro v _ ⟨B, r, rfl⟩; exact k v B r)
end
section
variable {P : Program} {W0 : World} {N : Nat} {l : List Oper} {NQ : List Nat} {Q : Exit → Act → World → Prop} {S : List Nat} {L : Slots} {D E Ain F : List Assn}
variable {d : Nat} {ty : TypeId} {pos : String} {aft : Array Edge} {g : Option (Nat × Bool)} {f : FuncId} {argTypes : Array TypeId} {R : Value → List Assn → Prop} {xs : List Operand} {args : List Value}
theorem RG.callI (i : Nat) (hR : RegOK l NQ) (hf : front l S = [i])
    (ho : l[i]? = some ⟨some d, .call { callee := .value (.func f), args := xs.toArray, argTypes }, ty, pos, aft, g⟩) (hi : memN i NQ = true) (hN : Nat.blt d N = true) (hg : guardL l.toArray g L = some true) (hb : S.all (fun j => (((masks [] l)[i]?).getD 0).testBit j) = true)
    (hc : ∀ (args : Array Value) (w : World), (callFunc f args).run P w = .ok (.enter f args) w) (hs : FSpec P f args Ain R) (he : evs L xs = some args) [hp : PickL (D ++ E) Ain F]
    (k : ∀ v B, R v B → RG P W0 N l NQ Q (i :: S) ((d, v) :: L) (B ++ F) []) : RG P W0 N l NQ Q S L D E :=
  RG.bar i hR hf ho hi hN hg hb (OpC.callP hc he hs hp.perm) (by rintro v _ ⟨B, r, rfl⟩; exact k v B r)
theorem RG.callkI (i : Nat) (hR : RegOK l NQ) (hf : front l S = [i])
    (ho : l[i]? = some ⟨some d, .call { callee := .value (.func f), args := xs.toArray, argTypes }, ty, pos, aft, g⟩) (hi : memN i NQ = true) (hN : Nat.blt d N = true) (hg : guardL l.toArray g L = some true)
    (hc : ∀ (args : Array Value) (w : World), (callFunc f args).run P w = .ok (.enter f args) w) (hs : FSpec P f args Ain R) (he : evs L xs = some args) [hp : PickL E Ain F]
    (k : ∀ v B, R v B → RG P W0 N l NQ Q (i :: S) ((d, v) :: L) D (B ++ F)) : RG P W0 N l NQ Q S L D E :=
  RG.one i hR hf ho hi hN hg (OpC.callP hc he hs (F := D ++ F) ((hp.perm.append_left D).trans (by rw [← List.append_assoc, ← List.append_assoc]; exact List.perm_append_comm.append_right F)))
    (by rintro v _ ⟨B, r, rfl⟩; exact ⟨B ++ F, (by rw [← List.append_assoc, ← List.append_assoc]; exact List.perm_append_comm.append_right F), k v B r⟩)
end
section
variable {W0 : World} {N : Nat} {L : Slots} {A B C F : List Assn} {G : Act → World → Prop}
theorem HSat.keepI {h : Hp} [k : PickL A B F] (s : HSat h A) : HSat h B := by
  obtain ⟨h1, _, a, _, _, x, _⟩ := (s.perm k.perm).append
  exact a.mono x
theorem J.pickI (B : List Assn) [h : PickL A B F] (k : J W0 N L (B ++ F) G) : J W0 N L A G := k.perm h.perm
theorem J.keepI (B : List Assn) [h : PickL A B F] (k : J W0 N L B G) : J W0 N L A G := k.imp fun _ s => HSat.keepI (A := A) (F := F) s
theorem J.convI (U Y : Assn) [h : PickO A U F] (f : ∀ h, U h → Y h) (k : J W0 N L (Y :: F) G) : J W0 N L A G := (k.imp fun _ s => HSat.imp s f).perm h.perm
theorem J.shutI (C : List Assn) (Y : Assn) [h : PickL A C F] (f : ∀ h, HSat h C → Y h) (k : J W0 N L (Y :: F) G) : J W0 N L A G :=
  (k.imp fun _ s => HSat.imp (HSat.pack s) f).perm h.perm
end
section
variable {ι : Type} {W0 : World} {N : Nat} {I : ι → Prop} {m : ι → Nat} {Ls : ι → Slots} {As : ι → List Assn} {x : ι} {Q : Exit → Act → World → Prop} {L : Slots} {A F : List Assn}
theorem J.againI (y : ι) (hi : I y) (hm : m y < m x) (hL : Knows L (Ls y)) [h : PickL A (As y) F] : J W0 N L A (LoopQ W0 N I m Ls As x Q .normal) := J.keepI (As y) (F := F) (J.again y hi hm hL rfl)
theorem J.meetI (i : ι) (hi : I i) (hL : Knows L (Ls i)) [h : PickL A (As i) F] : J W0 N L A (CutQ W0 N I Ls As Q .normal) := J.keepI (As i) (F := F) (J.meet i hi hL rfl)
end
section
variable {P : Program} {fn : Func} {N : Nat} {A B D : List Assn} {R : Value → List Assn → Prop} {W0 : World} {L : Slots} {F : Assn} {v u : Value} {s t : Nat}
theorem J.ret1I (B : List Assn) (hr : fn.results = #[.tmp s]) (hv : find s L = some v) (hR : R v B) [h : PickL A (B ++ [F]) D] : J W0 N L A (bodyPost P fn (RetQ W0 R F) .ret) := J.keepI (B ++ [F]) (F := D) (J.ret1 hr hv hR rfl)
theorem J.ret2I (B : List Assn) (hr : fn.results = #[.tmp s, .tmp t]) (hv : find s L = some v) (hu : find t L = some u) (hR : R (.tuple #[v, u]) B) [h : PickL A (B ++ [F]) D] : J W0 N L A (bodyPost P fn (RetQ W0 R F) .ret) := J.keepI (B ++ [F]) (F := D) (J.ret2 hr hv hu hR rfl)
theorem J.ret0I (B : List Assn) (hr : fn.results = #[]) (hR : R (.tuple #[]) B) [h : PickL A (B ++ [F]) D] : J W0 N L A (bodyPost P fn (RetQ W0 R F) .ret) := J.keepI (B ++ [F]) (F := D) (J.ret0 hr hR rfl)
theorem J.end0I (B : List Assn) (hr : fn.results = #[]) (hR : R (.tuple #[]) B) [h : PickL A (B ++ [F]) D] : J W0 N L A (bodyPost P fn (RetQ W0 R F) .normal) := J.keepI (B ++ [F]) (F := D) (J.end0 hr hR rfl)
end

section
variable {P : Program} {W0 : World} {N : Nat} {l : List Oper} {NQ : List Nat} {Q : Exit → Act → World → Prop} {S : List Nat} {L : Slots} {D E A : List Assn}
theorem C.s2bL {E0 : TypeId} {T T' : TypeId} {x : Operand} {t : ByteArray} {ty : TypeId} (h1 : ∀ w, (underlying T).run P w = .ok .string w) (h2 : ∀ w, (underlying T').run P w = .ok (.slice E0) w) (h3 : ∀ w, (underlying E0).run P w = .ok (.int .u8) w)
    (ex : ev L x = some (.string t)) : OpC P (.convert T T' x) ty L A (fun v B => ∃ b c, v = .slice (some ⟨b, 0, none⟩) t.data.toList.length c ∧ B = own E0 1 (.slice (some ⟨b, 0, none⟩) t.data.toList.length c) (bytesV t.data.toList) :: A) := by
  have e : t.data.toList.length = t.size := by simp
  rw [e]; exact C.s2b h1 h2 h3 ex
end
section
variable {P : Program} {L : Slots} {D : List Assn} {ty T T' : TypeId} {x : Operand} {k : IntKind}
def u64N (z : Int) : Nat := (IntKind.u64.wrap z).toNat
theorem u64N_eq (z : Int) : ((u64N z : Nat) : Int) = IntKind.u64.wrap z := by
  have : 0 ≤ IntKind.u64.wrap z := by
    show 0 ≤ z % 18446744073709551616
    exact Int.emod_nonneg _ (by decide)
  unfold u64N; omega
theorem u64N_le (z : Int) : u64N z ≤ 18446744073709551615 := by
  have : IntKind.u64.wrap z < 18446744073709551616 := by
    show z % 18446744073709551616 < _
    exact Int.emod_lt_of_pos _ (by decide)
  have := u64N_eq z; omega
end
section maps
variable {κ ν : Type} [DecidableEq κ] {W0 : World} {N : Nat} {L : Slots} {A F : List Assn} {Gl : Act → World → Prop}
variable {enc : κ → Value} {rep : κ → ν → Value → Assn} {r : Nat} {S : List (κ × ν)} {k : κ} {val : Value} {lt : κ → κ → Bool}
end maps
section
variable {P : Program} {W0 : World} {N : Nat} {l : List Oper} {NQ : List Nat} {Q : Exit → Act → World → Prop} {S : List Nat} {L : Slots} {D E Ain F A : List Assn}
theorem SlR.inI {sz : Nat} {v : Value} {xs : List Value} {X : Assn} (h : SlR [X] sz v xs) [k : PickO D X F] : SlR D sz v xs := by
  obtain ⟨i, hi⟩ := List.getElem?_of_mem (k.perm.mem_iff.2 List.mem_cons_self)
  exact h.within hi
theorem J.slrI {G : Act → World → Prop} {E0 sz : Nat} {p : Option Addr} {n c : Nat} {xs : List Value} [h : PickO A (own E0 sz (.slice p n c) xs) F] (k : SlR [own E0 sz (.slice p n c) xs] sz (.slice p n c) xs → J W0 N L A G) : J W0 N L A G :=
  ⟨fun a w x y => by
    obtain ⟨h1, _, a1, _, _, _, _⟩ := y.heap.perm h.perm
    exact (k (own.slr (i := 0) rfl ⟨h1, ⟨h1, fun _ => none, a1, trivial, fun _ => Or.inr rfl, Sub.refl _, fun _ _ e => nomatch e⟩⟩)).run a w x y⟩
variable {d : Nat} {ty : TypeId} {pos : String} {aft : Array Edge} {g : Option (Nat × Bool)} {f : FuncId} {argTypes : Array TypeId} {R : Value → List Assn → Prop} {xs : List Operand} {args : List Value}
end
theorem len_app {α : Type} (a b : List α) : (a ++ b).length = a.length + b.length := List.length_append
class Says (b : Bool) (v : Bool) (p : outParam Prop) : Prop where
  says : b = v → p
instance (priority := 10) {b v : Bool} : Says b v (b = v) := ⟨id⟩
instance {p : Prop} [Decidable p] : Says (decide p) true p := ⟨of_decide_eq_true⟩
instance {p : Prop} [Decidable p] : Says (decide p) false (¬ p) := ⟨of_decide_eq_false⟩
instance {p : Prop} [Decidable p] : Says (!decide p) true (¬ p) := ⟨X.tt_not⟩
instance {p : Prop} [Decidable p] : Says (!decide p) false p := ⟨X.ff_not⟩
theorem nm {b v : Bool} {p : Prop} [h : Says b v p] (e : b = v) : p := h.says e
end Go.X
namespace Go.X
theorem J.kases {W0 : World} {N : Nat} {G : Act → World → Prop} {L : Slots} {A : List Assn} (s : Nat) {b : Bool} {p q : Prop} (e : find s L = some (.bool b)) [h1 : Says b true p] [h2 : Says b false q] (ht : p → J W0 N ((s, .bool true) :: L) A G) (hf : q → J W0 N ((s, .bool false) :: L) A G) : J W0 N L A G := J.cases s e (fun h => ht (h1.says h)) fun h => hf (h2.says h)
section
variable {P : Program} {W0 : World} {N : Nat} {Q : Exit → Act → World → Prop} {L : Slots} {D A B : List Assn} {ty T e : TypeId} {pos : String} {aft : Array Edge} {g : Option (Nat × Bool)} {v : Value} {x y : Operand} {ops : Array Oper} {rest : List Oper} {b off : Nat} {z : Nat × Nat} {KK : Obj → List Assn}
theorem Q.ldI {l : List Value} (ha : ∀ w, (isAgg T).run P w = .ok false w) (ex : ev L x = some (.pointer (some ⟨b, off, none⟩))) [h : AtPt D b (.cells l.toArray e z) KK] (hv : l[off]? = some v := by exact rfl) : OpQ P (.load T x) ty L D v := Q.ld ha ex (rdI hv)
theorem J.stJ {l l' : List Value} (hg : guardL ops g L = some true) (hs : ∀ w, (sizeOf T).run P w = .ok 1 w) (ex : ev L x = some (.pointer (some ⟨b, off, none⟩))) (ey : ev L y = some v) (hv : oneC v = true) [h : AtPt A b (.cells l.toArray e z) KK]
    (k : J W0 N L B (wpList P ops Q rest)) (hl : setV off v l = some l' := by exact rfl) (hz : (decide (z.1 ≤ off) && decide (off < z.2)) = false := by exact rfl) (hB : normA (KK (.cells l'.toArray e z)) = some B := by exact rfl) : J W0 N L A (wpList P ops Q (⟨none, .store T x y, ty, pos, aft, g⟩ :: rest)) :=
  J.stI hg hs ex ey hv hl hz hB k
theorem J.stAJ {m vs : List Value} (hg : guardL ops g L = some true) (hs : ∀ w, (sizeOf T).run P w = .ok vs.length w) (ex : ev L x = some (.pointer (some ⟨b, 0, none⟩))) (ey : ev L y = some (.agg vs.toArray)) [h : AtPt A b (.cells m.toArray e (0, 0)) KK]
    (k : J W0 N L B (wpList P ops Q rest)) (hl : Nat.beq m.length vs.length = true := by exact rfl) (hv : vs.all oneC = true := by exact rfl) (hB : normA (KK (.cells vs.toArray e (0, 0))) = some B := by exact rfl) : J W0 N L A (wpList P ops Q (⟨none, .store T x y, ty, pos, aft, g⟩ :: rest)) :=
  J.stAI hg hs ex ey hl hv hB k
end
end Go.X
namespace Go.X
set_option linter.unusedSectionVars false
set_option linter.unusedSimpArgs false
set_option linter.unusedVariables false

def fen (r : Option Nat) : Fence := { Fence.wide with round := r }
theorem callsIn_fen {r : Option Nat} {n : Nat} {P : Program} {f : FuncId} {args : Array Value} {w : World} {R : Ending → World → Prop} (h : Calls P f args w R) : CallsIn (fen r) n P f args w R :=
  ⟨trivial, fun cs _ => let ⟨e, w', fr, q, s, x⟩ := h cs; ⟨e, w', fr, q, comesIn_wide.2 s, x⟩⟩
theorem callsIn_fen_out {r : Option Nat} {n : Nat} {P : Program} {f : FuncId} {args : Array Value} {w : World} {R : Ending → World → Prop} (h : CallsIn (fen r) n P f args w R) : Calls P f args w R :=
  fun cs => let ⟨e, w', fr, q, s, x⟩ := h.2 cs (room_wide _); ⟨e, w', fr, q, comesIn_wide.1 s, x⟩
theorem rowsIn_fen {r : Option Nat} {n : Nat} {P : Program} {row : String} {args : Array Value} {w : World} {R : Value → World → Prop} (h : Rows P row args w R) : RowsIn (fen r) n P row args w R :=
  fun c cs _ => let ⟨v, w', q, s⟩ := h c cs; ⟨v, w', q, stepsIn_wide.2 s⟩
theorem roundIn_fen {r r' : Option Nat} {n m : Nat} {P : Program} {l : Nat} {f : FuncId} {tmps : Array Value} {assign body : Code} {w : World} {R : Ending → World → Prop}
    (h : RoundIn (fen r) n P l f tmps assign body w R) : RoundIn (fen r') m P l f tmps assign body w R :=
  ⟨trivial, fun c cs _ => h.2 c cs (room_wide _)⟩

theorem oper_in {r : Option Nat} {n : Nat} {P : Program} {o : Oper} {a : Act} {w : World} {K : Act → World → Prop} {Q : Exit → Act → World → Prop} (hd : ∀ c, o.op ≠ .defer c) (h : Oper.wp P o a w K Q) : Oper.wpIn (fen r) n P o a w K Q := by
  refine ⟨fun _ _ => trivial, ?_⟩
  rw [Oper.semAt_eq _ _ _ hd]
  unfold Oper.wp at h
  revert h
  cases (execOp a.eval o).run P w with
  | ok x w' =>
    cases x with
    | value v => exact id
    | skip => exact id
    | defer d => exact id
    | enter f args => exact fun h => ⟨fun h => (by cases h), callsIn_fen h⟩
    | row row args => exact fun h => ⟨fun h => (by cases h), rowsIn_fen h⟩
    | _ => exact fun h => h.elim
  | halt x w' =>
    cases x with
    | panic v => exact id
    | _ => exact fun h => h.elim

def LI (r : Option Nat) (P : Program) (ops : Array Oper) (Q : Exit → Act → World → Prop) (ds : List Deferred) (l : List Oper) : Act → World → Prop :=
  fun a w => wpListIn (fen r) 0 P ops Q l { a with defers := ds } w
def CI (r : Option Nat) (P : Program) (c : Code) (Q : Exit → Act → World → Prop) (ds : List Deferred) : Act → World → Prop :=
  fun a w => c.wpIn (fen r) 0 P Q { a with defers := ds } w
def EI (Q : Exit → Act → World → Prop) (ds : List Deferred) (e : Exit) : Act → World → Prop := fun a w => Q e { a with defers := ds } w

def YSpec (P : Program) (l : Nat) (args : List Value) (A : List Assn) (R : Value → List Assn → Prop) : Prop :=
  ∀ (W0 w : World) (F : Assn), Sat W0 w (A ++ [F]) → YieldAt (fen none) 0 P l args.toArray w (RetQ W0 R F)

section lists
variable {P : Program} {W0 : World} {N : Nat} {ops : Array Oper} {Q : Exit → Act → World → Prop} {L : Slots} {A Ain F : List Assn} {rest : List Oper} {r : Option Nat} {ds : List Deferred}
variable {op : Op} {ty : TypeId} {pos : String} {aft : Array Edge} {g : Option (Nat × Bool)} {d : Nat} {v : Value} {argTypes : Array TypeId}

theorem guardL_in {o : Oper} {a : Act} {b : Bool} (f : Fr N a L) (e : guardL ops o.guard L = some b) : Region.wanted o (yielded ops ({ a with defers := ds } : Act).tmps) = b := guardL_wanted (a := a) f e
theorem agree_in {a : Act} (f : Fr N a L) (op : Op) : Agree { a with defers := ds } L op := fun x _ u e => (f.eval (x := x) e : a.eval x = u)

theorem JI.c {R : Value → List Assn → Prop} (hg : guardL ops g L = some true) (hd : Nat.blt d N = true) (hop : ∀ c, op ≠ .defer c) (h : OpC P op ty L A R) (k : ∀ v B, R v B → J W0 N ((d, v) :: L) B (LI r P ops Q ds rest)) :
    J W0 N L A (LI r P ops Q ds (⟨some d, op, ty, pos, aft, g⟩ :: rest)) := by
  refine ⟨fun a w f s => ?_⟩
  unfold LI wpListIn
  rw [if_pos (guardL_in (o := ⟨some d, op, ty, pos, aft, g⟩) f hg)]
  refine oper_in hop (h.wp _ _ _ _ { a with defers := ds } W0 w (agree_in f _) s _ _ ?_)
  intro u B w' q s'
  exact (k u B q).run _ _ (f.put u hd) s'
theorem JI.c0 {R : Value → List Assn → Prop} (hg : guardL ops g L = some true) (hop : ∀ c, op ≠ .defer c) (h : OpC P op ty L A R) (k : ∀ v B, R v B → J W0 N L B (LI r P ops Q ds rest)) :
    J W0 N L A (LI r P ops Q ds (⟨none, op, ty, pos, aft, g⟩ :: rest)) := by
  refine ⟨fun a w f s => ?_⟩
  unfold LI wpListIn
  rw [if_pos (guardL_in (o := ⟨none, op, ty, pos, aft, g⟩) f hg)]
  refine oper_in hop (h.wp _ _ _ _ { a with defers := ds } W0 w (agree_in f _) s _ _ ?_)
  intro u B w' q s'
  exact (k u B q).run _ _ f s'
theorem JI.q (hg : guardL ops g L = some true) (hd : Nat.blt d N = true) (hop : ∀ c, op ≠ .defer c) (h : OpQ P op ty L A v) (k : J W0 N ((d, v) :: L) A (LI r P ops Q ds rest)) :
    J W0 N L A (LI r P ops Q ds (⟨some d, op, ty, pos, aft, g⟩ :: rest)) :=
  JI.c hg hd hop h.toC (by rintro u B ⟨rfl, rfl⟩; exact k)
theorem JI.nil (k : J W0 N L A (EI Q ds .normal)) : J W0 N L A (LI r P ops Q ds []) := ⟨fun a w f s => k.run a w f s⟩

theorem JI.yield {t l : Nat} {R : Value → List Assn → Prop} {xs : List Operand} {args : List Value} (hs : YSpec P l args Ain R) (is : List Nat) (hg : guardL ops g L = some true) (hd : Nat.blt d N = true)
    (hv : find t L = some (.func (.yield l) #[] #[])) (he : evs L xs = some args) (hp : X.pick is A = some (Ain, F)) (k : ∀ v B, R v B → J W0 N ((d, v) :: L) (B ++ F) (LI r P ops Q ds rest)) :
    J W0 N L A (LI r P ops Q ds (⟨some d, .call { callee := .value (.tmp t), args := xs.toArray, argTypes }, ty, pos, aft, g⟩ :: rest)) := by
  refine ⟨fun a w f s => ?_⟩
  unfold LI wpListIn
  rw [if_pos (guardL_in (o := ⟨some d, .call { callee := .value (.tmp t), args := xs.toArray, argTypes }, ty, pos, aft, g⟩) f hg)]
  refine ⟨fun _ _ => trivial, ?_⟩
  rw [Oper.semAt_eq _ _ _ (fun c e => by cases e)]
  have ag := agree_in (ds := ds) f (.call { callee := .value (.tmp t), args := xs.toArray, argTypes })
  have hx : xs.map ({ a with defers := ds } : Act).eval = args := evs_map (fun x hx => ag x (by simp [Op.operands, Call.operands, hx])) he
  have ha : (xs.toArray).map ({ a with defers := ds } : Act).eval = args.toArray := by simp [hx]
  have hf : ({ a with defers := ds } : Act).eval (.tmp t) = .func (.yield l) #[] #[] := ag _ (by simp [Op.operands, Call.operands]) _ hv
  have s' : Sat W0 w (Ain ++ [star F]) := by
    refine (s.perm (pick_perm hp)).imp fun k t => ?_
    obtain ⟨h1, h2, p, q, d, u, v⟩ := t.append
    exact HSat.of_append p (Bs := [star F]) ⟨h2, fun _ => none, q, trivial, fun _ => Or.inr rfl, Sub.refl _, fun _ _ e => nomatch e⟩ d u v
  obtain ⟨fn, tmps, assign, body, hy, hR⟩ := hs W0 w (star F) s'
  have hrun : (execOp ({ a with defers := ds } : Act).eval ⟨some d, .call { callee := .value (.tmp t), args := xs.toArray, argTypes }, ty, pos, aft, g⟩).run P w = .ok (.round l fn tmps assign body) w := by
    simp only [execOp, resolve, hf, Deferred.ofValue, invoke, Sem.run_bind, Sem.run_pure, Result.andThen_ok, ha]
    simpa using hy
  rw [hrun, Oper.uponIn_round]
  refine ⟨fun h => (by cases h), (roundIn_fen hR).mono ?_⟩
  rintro e w' ⟨v, B, rfl, q, t'⟩
  refine (k v B q).run _ _ (f.put v hd) (t'.imp fun k t => ?_)
  obtain ⟨h1, h2, p, ⟨k1, k2, q, _, _, s1, _⟩, d, u, v⟩ := t.append
  exact HSat.of_append p (HSat.mono q s1) d u v
end lists

section control
variable {P : Program} {W0 : World} {N : Nat} {Q : Exit → Act → World → Prop} {L : Slots} {A : List Assn} {x y : Code} {r : Option Nat} {ds : List Deferred}
theorem JI.region {id : Nat} {l : List Oper} (h : J W0 N L A (LI r P l.toArray Q ds l)) : J W0 N L A (CI r P (.region id l.toArray false) Q ds) := ⟨fun a w f s => wpIn_region_lit (h.run a w f s)⟩
theorem JI.block {id : Nat} (h : J W0 N L A (CI r P x (Exit.inBlock id Q) ds)) : J W0 N L A (CI r P (.block id x) Q ds) := ⟨fun a w f s => wpIn_block (h.run a w f s)⟩
theorem JI.blk_n {id : Nat} (h : J W0 N L A (EI Q ds .normal)) : J W0 N L A (EI (Exit.inBlock id Q) ds .normal) := ⟨fun a w f s => h.run a w f s⟩
theorem JI.seq (h : J W0 N L A (CI r P x (Exit.then (y.wpIn (fen r) 0 P Q) Q) ds)) : J W0 N L A (CI r P (.seq x y) Q ds) := ⟨fun a w f s => wpIn_seq (h.run a w f s)⟩
theorem JI.then_n (h : J W0 N L A (CI r P y Q ds)) : J W0 N L A (EI (Exit.then (y.wpIn (fen r) 0 P Q) Q) ds .normal) := ⟨fun a w f s => h.run a w f s⟩
theorem JI.ret (h : J W0 N L A (EI Q ds .ret)) : J W0 N L A (CI r P .ret Q ds) := ⟨fun a w f s => wpIn_ret (h.run a w f s)⟩
theorem J.regionY {id : Nat} {l : List Oper} (h : J W0 N L A (LI none P l.toArray Q [] l)) : J W0 N L A ((Code.region id l.toArray false).wp P Q) :=
  ⟨fun a w f s => (wpIn_wide (n := 0)).1 (wpIn_region_lit (by
    have := h.run a w f s
    have e : ({ a with defers := [] } : Act) = a := by rw [← f.defers]
    unfold LI at this
    rw [e] at this; exact this))⟩
theorem JI.out {e : Exit} (h : J W0 N L A (Q e)) : J W0 N L A (EI Q [] e) :=
  ⟨fun a w f s => by
    have := h.run a w f s
    have e : ({ a with defers := [] } : Act) = a := by rw [← f.defers]
    unfold EI; rw [e]; exact this⟩
end control

def lrec (fn : FuncId) (T : Array Value) (ps : List Tmp) (assign body : Code) (D : Nat) (st : LoopState) (pe : Option Code) : Obj :=
  .loop { state := st, pending := pe, fn, tmps := T, params := ps.toArray, assign, body, defers := D }

structure FrT (N : Nat) (T : Array Value) (L : Slots) : Prop where
  size : T.size = N
  get : ∀ s v, find s L = some v → T[s]? = some v

def zipS : List Tmp → List Value → Slots
  | p :: ps, v :: vs => zipS ps vs ++ [(p, v)]
  | _, _ => []
theorem FrT.puts_ : ∀ {ps : List Tmp} {vs : List Value} {N : Nat} {T : Array Value} {L : Slots}, FrT N T L → (∀ p, p ∈ ps → p < N) → FrT N ((ps.zip vs).foldl (fun t (q : Nat × Value) => t.setIfInBounds q.1 q.2) T) (zipS ps vs ++ L)
  | [], vs, N, T, L, h, _ => by simpa [zipS] using h
  | p :: ps, [], N, T, L, h, _ => by simpa [zipS] using h
  | p :: ps, v :: vs, N, T, L, h, hp => by
    have h1 : FrT N (T.setIfInBounds p v) ((p, v) :: L) := by
      refine ⟨by simp [h.size], fun s u e => ?_⟩
      simp only [find] at e
      rw [Array.getElem?_setIfInBounds]
      cases hb : Nat.beq s p with
      | true =>
        rw [hb] at e; simp at e
        rw [beq_iff] at hb; subst hb; subst e
        have := hp s (by simp)
        simp [h.size, this]
      | false =>
        rw [hb] at e; simp at e
        have hne : p ≠ s := by rintro rfl; rw [Nat.beq_refl] at hb; cases hb
        rw [if_neg hne]; exact h.get s u e
    have := FrT.puts_ (ps := ps) (vs := vs) h1 (fun q hq => hp q (by simp [hq]))
    simpa [zipS, List.append_assoc] using this
theorem FrT.puts {ps : List Tmp} {vs : List Value} {N : Nat} {T : Array Value} {L : Slots} (h : FrT N T L) (hp : ∀ p, p ∈ ps → p < N) : FrT N ((ps.toArray.zip vs.toArray).foldl (fun t (q : Nat × Value) => t.setIfInBounds q.1 q.2) T) (zipS ps vs ++ L) := by
  have := FrT.puts_ (vs := vs) h hp
  rw [← Array.foldl_toList]
  simpa using this

def BodyQ (W0 : World) (A : List Assn) : Exit → Act → World → Prop
  | .normal, _, w => Sat W0 w A
  | _, _, _ => False
def AsgQ (W0 : World) (N : Nat) (L : Slots) (A : List Assn) : Exit → Act → World → Prop
  | .normal, a, w => Fr N a L ∧ Sat W0 w A
  | _, _, _ => False
section ends
variable {W0 : World} {N : Nat} {L M : Slots} {A B : List Assn}
theorem JI.bodyEnd (e : A = B) : J W0 N L A (EI (BodyQ W0 B) [] .normal) := ⟨fun _ _ _ s => e ▸ s⟩
theorem JI.asgEnd (hL : Knows L M) (e : A = B) : J W0 N L A (EI (AsgQ W0 N M B) [] .normal) :=
  ⟨fun a _ f s => ⟨by have := f.weaken hL; exact ⟨this.size, this.get, rfl⟩, e ▸ s⟩⟩
end ends

theorem putObj_sat {W0 w : World} {l : Nat} {o p : Obj} {A : List Assn} (s : Sat W0 w (pt l o :: A)) : Sat W0 (w.putObj l p) (pt l p :: A) := by
  have h0 : hp w l = some o := by obtain ⟨k, hk, hs⟩ := s.heap.at_ (i := 0) rfl; exact hs l o hk
  refine ⟨s.os, s.tape, s.out, ?_⟩
  have e : hp (w.putObj l p) = upd (hp w) l p := hp_set w l p o h0
  rw [e]
  have := HSat.update (i := 0) (b := l) (o := p) (A := pt l o) (B := pt l p) s.heap rfl fun k hk => ⟨⟨o, hk⟩, by simp [pt, upd]⟩
  simpa using this

def ItSpec {α : Type} (P : Program) (gf : FuncId) (lb : List Value) (enc : α → List Value) (Ait : List Assn) (S : List α → Prop) (ok : List α → α → Prop) : Prop :=
  ∀ (l : Nat) (Inv : List α → Assn), (∀ pre x, ok pre x → YSpec P l (enc x) [Inv pre] (fun v B => v = .bool true ∧ B = [Inv (pre ++ [x])])) →
    FSpec P gf (.func (.yield l) #[] #[] :: lb) (Inv [] :: Ait) (fun _ B => ∃ xs, S xs ∧ B = Inv xs :: Ait)

section stmt
variable {P : Program} {W0 : World} {N : Nat} {Q : Exit → Act → World → Prop} {L : Slots} {A Ait C : List Assn}

theorem JI.rangeFunc {α : Type} {gt : Tmp} {ps : List Tmp} {assign body : Code} (gf : FuncId) (lb : List Value) (enc : α → List Value) (S : List α → Prop) (ok : List α → α → Prop) (Ib : List α → List Assn) (L1 : α → Slots)
    (hg : find gt L = some (.func (.func gf) #[] lb.toArray)) (eg : ∀ (args : Array Value) (w : World), (callFunc gf args).run P w = .ok (.enter gf args) w) (hit : ItSpec P gf lb enc Ait S ok)
    (hps : ∀ p, p ∈ ps → p < N) (hen : ∀ x, (enc x).length = ps.length) (is : List Nat) (hp : X.pick is A = some (Ib [] ++ Ait, C))
    (hassign : ∀ (l : Nat) (W0 : World) (F : Assn) pre x, ok pre x → J W0 N (zipS ps (enc x) ++ L) (Ib pre ++ [F]) (CI (some l) P assign (AsgQ W0 N (L1 x) (Ib pre ++ [F])) []))
    (hbody : ∀ (l : Nat) (W0 : World) (F : Assn) pre x, ok pre x → J W0 N (L1 x) (Ib pre ++ [F]) (CI (some l) P body (BodyQ W0 (Ib (pre ++ [x]) ++ [F])) []))
    (k : ∀ D xs, S xs → J W0 N L (pt D (.deferred (some [])) :: (Ib xs ++ Ait ++ C)) (EI Q [{ target := .collected D, args := #[] }] .normal)) :
    J W0 N L A (CI none P (.rangeFunc (.tmp gt) ps.toArray assign body) Q []) := by
  refine ⟨fun a w f s => ?_⟩
  unfold CI
  have ea : ({ a with defers := [] } : Act) = a := by rw [← f.defers]
  rw [ea]
  refine wpIn_rangeFunc ?_
  intro fn _
  obtain ⟨rec, hrec⟩ : ∃ rec : LoopState → Option Code → Obj, rec = lrec fn a.tmps ps assign body w.heap.size := ⟨_, rfl⟩
  have s0 := s.perm (pick_perm hp)
  have s1 : Sat W0 ((w.alloc (.deferred (some []))).alloc (rec .ready none)) (pt (w.heap.size + 1) (rec .ready none) :: pt w.heap.size (.deferred (some [])) :: (Ib [] ++ Ait ++ C)) := by
    have h1 := s0.new (.deferred (some []))
    have h2 := h1.new (rec .ready none)
    rw [show ({ w with heap := w.heap.push (.deferred (some [])) } : World).heap.size = w.heap.size + 1 from by simp] at h2
    exact h2
  obtain ⟨W1, hW1⟩ : ∃ W1, (w.alloc (.deferred (some []))).alloc (rec .ready none) = W1 := ⟨_, rfl⟩
  rw [hW1] at s1
  refine ⟨w.heap.size + 1, [{ target := .collected w.heap.size, args := #[] }], W1, { target := .fn (.func gf) lb.toArray, args := #[.func (.yield (w.heap.size + 1)) #[] #[]] }, W1, gf,
    #[.func (.yield (w.heap.size + 1)) #[] #[]] ++ lb.toArray, W1, ?_, ?_, fun _ _ => trivial, ?_, fun h => (by cases h), ?_⟩
  · rw [← hW1, hrec]; exact run_enterLoop_outer _ _ _ _ _
  · have : a.eval (.tmp gt) = .func (.func gf) #[] lb.toArray := f.eval (x := .tmp gt) hg
    simp only [resolve, this]
    simp [go_sem]
  · simp [invoke, go_sem, eg]
  · have hInv : ∀ pre x, ok pre x → YSpec P (w.heap.size + 1) (enc x) [star (pt (w.heap.size + 1) (rec .ready none) :: pt w.heap.size (.deferred (some [])) :: Ib pre)]
        (fun v B => v = .bool true ∧ B = [star (pt (w.heap.size + 1) (rec .ready none) :: pt w.heap.size (.deferred (some [])) :: Ib (pre ++ [x]))]) := by
      intro pre x hok W0' w' F' s
      have t : Sat W0' w' ((pt (w.heap.size + 1) (rec .ready none) :: pt w.heap.size (.deferred (some [])) :: Ib pre) ++ [F']) :=
        s.imp fun h hh => HSat.unpack (As := pt (w.heap.size + 1) (rec .ready none) :: pt w.heap.size (.deferred (some [])) :: Ib pre) (Bs := [F']) hh
      have hl := t.at_ (i := 0) rfl
      have hl' : w'.heap[w.heap.size + 1]? = some (lrec fn a.tmps ps assign body w.heap.size .ready none) := by rw [← hrec]; exact hl
      refine ⟨fn, _, assign, body, run_yield hl' (by simp [hen]), roundIn_of_wpIn trivial ?_⟩
      have fr0 : Fr N ⟨(ps.toArray.zip (enc x).toArray).foldl (fun t (q : Nat × Value) => t.setIfInBounds q.1 q.2) a.tmps, []⟩ (zipS ps (enc x) ++ L) := by
        have := FrT.puts (vs := enc x) (⟨f.size, f.get⟩ : FrT N a.tmps L) hps
        exact ⟨this.size, this.get, rfl⟩
      have t1 : ∀ (st : Obj) (X : List Assn) {w2 : World}, Sat W0' w2 ((pt (w.heap.size + 1) st :: pt w.heap.size (.deferred (some [])) :: X) ++ [F']) → Sat W0' w2 (X ++ [star [pt (w.heap.size + 1) st, pt w.heap.size (.deferred (some [])), F']]) := by
        intro st X w2 h
        have h2 : Sat W0' w2 ([pt (w.heap.size + 1) st, pt w.heap.size (.deferred (some [])), F'] ++ X) := h.perm (by
          simp only [List.cons_append, List.nil_append]
          exact ((List.perm_append_singleton F' X).cons _).cons _)
        exact (h2.imp fun h hh => HSat.pack hh).perm (List.perm_append_singleton _ X).symm
      have t2 : ∀ (st : Obj) (X : List Assn) {w2 : World}, Sat W0' w2 (X ++ [star [pt (w.heap.size + 1) st, pt w.heap.size (.deferred (some [])), F']]) → Sat W0' w2 ((pt (w.heap.size + 1) st :: pt w.heap.size (.deferred (some [])) :: X) ++ [F']) := by
        intro st X w2 h
        have h1 := (h.perm (List.perm_append_singleton _ X)).imp fun h hh => HSat.unpack hh
        exact h1.perm (by
          simp only [List.cons_append, List.nil_append]
          exact ((List.perm_append_singleton F' X).symm.cons _).cons _)
      refine wpIn_mono ((hassign (w.heap.size + 1) W0' _ pre x hok).run _ w' fr0 (t1 _ _ t)) ?_
      intro e a1 w1 hq
      cases e with
      | normal =>
        obtain ⟨fr1, s1⟩ := hq
        have s1' := t2 _ _ s1
        have hl1 := s1'.at_ (i := 0) rfl
        rw [hrec] at hl1
        refine ⟨_, run_beginRound hl1 rfl, ?_⟩
        have s2 := putObj_sat (p := lrec fn a.tmps ps assign body w.heap.size .busy none) s1'
        have ea1 : ({ a1 with defers := [] } : Act) = a1 := by rw [← fr1.defers]
        have hb := (hbody (w.heap.size + 1) W0' _ pre x hok).run a1 _ fr1 (t1 _ _ s2)
        unfold CI at hb
        rw [ea1] at hb
        refine wpIn_mono hb ?_
        intro e a3 w3 hq3
        cases e with
        | normal =>
          have s3 := t2 _ _ hq3
          have hl3 := s3.at_ (i := 0) rfl
          refine ⟨_, _, run_endRound none hl3, ?_⟩
          have s4 := putObj_sat (p := rec .ready none) s3
          rw [hrec] at s4 ⊢
          exact ⟨_, _, rfl, ⟨rfl, rfl⟩, s4.imp fun h hh => HSat.pack (As := pt (w.heap.size + 1) (lrec fn a.tmps ps assign body w.heap.size .ready none) :: pt w.heap.size (.deferred (some [])) :: Ib (pre ++ [x])) (Bs := [F']) hh⟩
        | _ => exact hq3.elim
      | _ => exact hq.elim
    have s2 : Sat W0 W1 ((star (pt (w.heap.size + 1) (rec .ready none) :: pt w.heap.size (.deferred (some [])) :: Ib []) :: Ait) ++ [star C]) := by
      have e1 : pt (w.heap.size + 1) (rec .ready none) :: pt w.heap.size (.deferred (some [])) :: (Ib [] ++ Ait ++ C) = (pt (w.heap.size + 1) (rec .ready none) :: pt w.heap.size (.deferred (some [])) :: Ib []) ++ (Ait ++ C) := by simp
      rw [e1] at s1
      have h1 := s1.imp fun h hh => HSat.pack hh
      have h2 : Sat W0 W1 (C ++ (star (pt (w.heap.size + 1) (rec .ready none) :: pt w.heap.size (.deferred (some [])) :: Ib []) :: Ait)) := h1.perm (by
        rw [← List.cons_append]; exact List.perm_append_comm)
      exact (h2.imp fun h hh => HSat.pack hh).perm (List.perm_append_singleton _ _).symm
    have hc := (hit (w.heap.size + 1) (fun pre => star (pt (w.heap.size + 1) (rec .ready none) :: pt w.heap.size (.deferred (some [])) :: Ib pre)) hInv).call W0 W1 (star C) s2
    rw [show (Value.func (.yield (w.heap.size + 1)) #[] #[] :: lb).toArray = #[Value.func (.yield (w.heap.size + 1)) #[] #[]] ++ lb.toArray from by simp] at hc
    refine callsIn_fen (hc.mono ?_)
    rintro e w' ⟨v, B, rfl, ⟨xs, hS, rfl⟩, t⟩
    have t1 := (t.perm (List.perm_append_singleton (star C) _)).imp fun h hh => HSat.unpack hh
    have t2 : Sat W0 w' (star (pt (w.heap.size + 1) (rec .ready none) :: pt w.heap.size (.deferred (some [])) :: Ib xs) :: (Ait ++ C)) := t1.perm (by
      rw [← List.cons_append]; exact List.perm_append_comm)
    have t3 := t2.imp fun h hh => HSat.unpack hh
    have hl := t3.at_ (i := 0) rfl
    rw [hrec] at hl
    refine ⟨none, _, run_endLoop hl (by simp), ?_⟩
    have t4 := putObj_sat (p := lrec fn a.tmps ps assign body w.heap.size .exhausted none) t3
    have hk := (k w.heap.size xs hS).run a _ f (t4.imp fun h hh => by
      have := HSat.tail hh
      simpa using this)
    unfold EI at hk
    have ed : ([{ target := .collected w.heap.size, args := #[] }] ++ a.defers : List Deferred) = [{ target := .collected w.heap.size, args := #[] }] := by rw [f.defers]; rfl
    rw [ed]
    exact hk
end stmt

section funcs
variable {P : Program} {f : FuncId} {fn : Func} {c : Code} {N : Nat} {args : List Value} {A B D : List Assn} {R : Value → List Assn → Prop} {W0 : World} {L : Slots} {F : Assn} {v : Value}
theorem FSpec.ofM (hf : P.funcs[f]? = some fn) (hb : fn.body = some c) (hn : fn.ntmps = N) (hl : Nat.ble args.length N = true)
    (h : ∀ (W0 : World) (F : Assn), J W0 N (argSlots 0 args) (A ++ [F]) (CI none P c (bodyPostM (fen none) 0 P fn (RetQ W0 R F)) [])) : FSpec P f args A R := by
  refine ⟨fun W0 w F s => callsIn_fen_out (r := none) (callsIn_of_wp_marks hf hb trivial ((h W0 F).run ⟨args.toArray ++ Array.replicate (fn.ntmps - args.toArray.size) undef, []⟩ w ⟨?_, ?_, rfl⟩ s) rfl)⟩
  · have : args.length ≤ N := Nat.le_of_ble_eq_true hl
    simp [hn]; omega
  · intro t v e
    obtain ⟨_, h2⟩ := find_argSlots _ _ _ _ e
    simp only [Nat.sub_zero] at h2
    rw [Array.getElem?_append_left]
    · simpa using h2
    · rcases Nat.lt_or_ge t args.length with q | q
      · simpa using q
      · rw [List.getElem?_eq_none q] at h2; cases h2

theorem JI.ret1 {s D0 : Nat} (hr : fn.results = #[.tmp s]) (hv : find s L = some v) (hR : R v B) (hA : A = pt D0 (.deferred (some [])) :: (B ++ [F])) :
    J W0 N L A (EI (bodyPostM (fen none) 0 P fn (RetQ W0 R F)) [{ target := .collected D0, args := #[] }] .ret) := by
  subst hA
  refine ⟨fun a w f t => ?_⟩
  have hd := t.at_ (i := 0) rfl
  refine ⟨by simp, .inl ⟨D0, _, rfl, run_takeDeferred hd, v, ?_, v, B, rfl, hR, ?_⟩⟩
  · rw [results_tmp hr]
    rw [Array.getD_eq_getD_getElem?, f.get s v hv]; rfl
  · exact (putObj_sat (p := .deferred none) t).imp fun h hh => HSat.tail hh
end funcs
section loops
variable {α β γ δ : Type} {P : Program} {W0 : World} {N : Nat} {Q : Exit → Act → World → Prop} {L : Slots} {A : List Assn} {c : Code}
theorem J.loop2 (I : α → β → Prop) (m : α → β → Nat) (Ls : α → β → Slots) (As : α → β → List Assn) (x0 : α) (y0 : β) (h0 : I x0 y0) (hL : Knows L (Ls x0 y0)) (hA : A = As x0 y0)
    (round : ∀ x y, I x y → J W0 N (Ls x y) (As x y) (c.wp P (LoopQ W0 N (fun z : α × β => I z.1 z.2) (fun z => m z.1 z.2) (fun z => Ls z.1 z.2) (fun z => As z.1 z.2) (x, y) Q))) : J W0 N L A ((Code.loop c).wp P Q) :=
  J.loop (fun z : α × β => I z.1 z.2) (fun z => m z.1 z.2) (fun z => Ls z.1 z.2) (fun z => As z.1 z.2) (x0, y0) h0 hL hA fun x h => round x.1 x.2 h
theorem J.loop3 (I : α → β → γ → Prop) (m : α → β → γ → Nat) (Ls : α → β → γ → Slots) (As : α → β → γ → List Assn) (x0 : α) (y0 : β) (z0 : γ) (h0 : I x0 y0 z0) (hL : Knows L (Ls x0 y0 z0)) (hA : A = As x0 y0 z0)
    (round : ∀ x y u, I x y u → J W0 N (Ls x y u) (As x y u) (c.wp P (LoopQ W0 N (fun z : α × β × γ => I z.1 z.2.1 z.2.2) (fun z => m z.1 z.2.1 z.2.2) (fun z => Ls z.1 z.2.1 z.2.2) (fun z => As z.1 z.2.1 z.2.2) (x, y, u) Q))) : J W0 N L A ((Code.loop c).wp P Q) :=
  J.loop (fun z : α × β × γ => I z.1 z.2.1 z.2.2) (fun z => m z.1 z.2.1 z.2.2) (fun z => Ls z.1 z.2.1 z.2.2) (fun z => As z.1 z.2.1 z.2.2) (x0, y0, z0) h0 hL hA fun x h => round x.1 x.2.1 x.2.2 h
theorem J.loop4 (I : α → β → γ → δ → Prop) (m : α → β → γ → δ → Nat) (Ls : α → β → γ → δ → Slots) (As : α → β → γ → δ → List Assn) (x0 : α) (y0 : β) (z0 : γ) (w0 : δ) (h0 : I x0 y0 z0 w0) (hL : Knows L (Ls x0 y0 z0 w0)) (hA : A = As x0 y0 z0 w0)
    (round : ∀ x y u v, I x y u v → J W0 N (Ls x y u v) (As x y u v) (c.wp P (LoopQ W0 N (fun z : α × β × γ × δ => I z.1 z.2.1 z.2.2.1 z.2.2.2) (fun z => m z.1 z.2.1 z.2.2.1 z.2.2.2) (fun z => Ls z.1 z.2.1 z.2.2.1 z.2.2.2) (fun z => As z.1 z.2.1 z.2.2.1 z.2.2.2) (x, y, u, v) Q))) : J W0 N L A ((Code.loop c).wp P Q) :=
  J.loop (fun z : α × β × γ × δ => I z.1 z.2.1 z.2.2.1 z.2.2.2) (fun z => m z.1 z.2.1 z.2.2.1 z.2.2.2) (fun z => Ls z.1 z.2.1 z.2.2.1 z.2.2.2) (fun z => As z.1 z.2.1 z.2.2.1 z.2.2.2) (x0, y0, z0, w0) h0 hL hA fun x h => round x.1 x.2.1 x.2.2.1 x.2.2.2 h
end loops
end Go.X
namespace Go.Proofs.YtidbcaimgahllaaGreat
open Go.Proofs.Tryz
open Go.X

theorem clip_spec (p : Option Addr) (c : Nat) (bs : List UInt8) (hn : bs.length ≤ 9223372036854775807) : FSpec Tryz.prog 80 [.slice p bs.length c] [own 5 1 (.slice p bs.length c) (bytesV bs)] (fun v B => v = .slice p bs.length bs.length ∧ B = [own 5 1 (.slice p bs.length bs.length) (bytesV bs)]) := by
  refine FSpec.of func80 rfl ntmps80 rfl fun W0 F => ?_
  refine J.seq <| J.region <| J.p rfl (Q.asg rfl) <| J.nil <| J.then_n <| J.seq ?_
  refine J.tells 0 rfl own.len fun hln => ?_
  obtain ⟨_, hcap⟩ := hln
  refine J.region <| J.m rfl <| J.m rfl <| J.p rfl (Q.lenSl runUnderlying42 rfl) <| J.m rfl <| J.p rfl (Q.lenSl runUnderlying42 rfl) <| J.p rfl (Q.slHM runUnderlying42 sizeOf5 rfl rfl rfl (by omega) (by omega) (by omega)) <| J.p rfl (Q.asg rfl) <| J.nil <| J.then_n <| J.cret ?_
  refine J.conv (Y := own 5 1 (.slice p bs.length bs.length) (bytesV bs)) 0 rfl own.clip ?_
  refine J.ret1 (B := [own 5 1 (.slice p bs.length bs.length) (bytesV bs)]) rfl rfl ⟨rfl, rfl⟩ rfl

theorem number_spec (p : Option Addr) (c : Nat) (bs : List UInt8) (v : Nat) (hn : bs.length ≤ 70368744100000) (hv : v ≤ 18446744073709551615) : FSpec Tryz.prog 65 [.slice p bs.length c, .int .u64 v] [own 5 1 (.slice p bs.length c) (bytesV bs)]
    (fun u B => ∃ p' c', u = .slice p' (bs ++ numB v).length c' ∧ B = [own 5 1 (.slice p' (bs ++ numB v).length c') (bytesV (bs ++ numB v))]) := by
  refine FSpec.of func65 rfl ntmps65 rfl fun W0 F => ?_
  refine J.seq <| J.region <| J.p rfl (Q.asg rfl) <| J.nil <| J.then_n <| J.seq <| J.region <| J.m rfl ?_
  refine J.call call80 (clip_spec p c bs (by omega)) [0] rfl rfl rfl rfl ?_
  rintro _ _ ⟨rfl, rfl⟩
  refine J.norm rfl <| J.p rfl (Q.asg rfl) <| J.nil <| J.then_n <| J.seq <| J.block ?_
  refine J.loop (fun z : List UInt8 × Nat × Option Addr × Nat => z.1 ++ numB z.2.1 = bs ++ numB v ∧ z.2.1 ≤ 18446744073709551615 ∧ z.1.length ≤ bs.length + (numB v).length) (fun z => z.2.1) (fun z => [(0, .slice z.2.2.1 z.1.length z.2.2.2), (1, .int .u64 z.2.1)]) (fun z => [own 5 1 (.slice z.2.2.1 z.1.length z.2.2.2) (bytesV z.1), F]) (bs, v, p, bs.length) ⟨rfl, hv, by show bs.length ≤ _; omega⟩ ⟨rfl, rfl, trivial⟩ rfl fun z hz => ?_
  obtain ⟨acc, w, q, d⟩ := z
  obtain ⟨hz1, hz2, hz3⟩ := hz
  dsimp only at hz1 hz2 hz3
  refine J.seq <| J.seq <| J.region <| J.m rfl <| J.p rfl (Q.geq rfl rfl) <| J.nil <| J.then_n ?_
  refine J.kases 8 rfl (fun hc8 => ?_) (fun hc8 => ?_)
  ·
   refine J.cond_t rfl <| J.cskip <| J.then_n <| J.block <| J.seq ?_
   have hw : ¬ w < 128 := by have h := hc8; dsimp only at h; omega
   have hst := numB_step (v := w) hw
   refine J.region <| J.m rfl <| J.m rfl <| J.p rfl (Q.conv runUnderlying40 runUnderlying5 rfl) <| J.p rfl (Q.or rfl rfl) ?_
   refine J.slot 12 (byteV (UInt8.ofNat (w % 128 + 128))) rfl (by show Value.int .u8 _ = _; rw [or128 w]; rfl) ?_
   refine J.c rfl rfl (C.bslG (l := [_]) runUnderlying42 sizeOf5 zeroValue5 (by decide) rfl rfl rfl rfl rfl) ?_
   rintro _ _ ⟨b13, rfl, rfl⟩
   refine J.norm rfl ?_
   refine J.conv (Y := own 5 1 (.slice (some ⟨b13, 0, none⟩) 1 1) (bytesV [UInt8.ofNat (w % 128 + 128)])) 0 rfl (own_of_block rfl) ?_
   refine J.slr1 0 rfl fun hs13 => ?_
   refine J.c rfl rfl (C.app (i := 1) runUnderlying42 runUnderlying42 typeInfo5 sizeOf5 zeroValue5 rfl rfl rfl (hs13.within (i := 0) rfl) (bytesV_one _) (by rw [show Tryz.t5.bytes = 1 from rfl]; show (acc.length + 1) * 1 ≤ _; have := numB_len v hv; omega) (by decide)) ?_
   rintro _ _ ⟨p14, c14, rfl, rfl⟩
   refine J.norm rfl <| J.p rfl (Q.asg rfl) <| J.nil <| J.then_n <| J.region <| J.m rfl <| J.p rfl (Q.shr rfl rfl (by omega)) ?_
   refine J.slot 16 (.int .u64 ((w / 128 : Nat) : Int)) rfl (by show Value.int .u64 _ = _; congr 1; show (w : Int).fdiv (2 ^ 7) = _; rw [Int.fdiv_eq_ediv_of_nonneg _ (by decide)]; omega) ?_
   refine J.p rfl (Q.asg rfl) <| J.nil <| J.blk_n ?_
   refine J.keep [1, 2] rfl ?_
   have hbl : (acc ++ [UInt8.ofNat (w % 128 + 128)]).length = acc.length + 1 := by simp
   refine J.again (acc ++ [UInt8.ofNat (w % 128 + 128)], w / 128, p14, c14) ⟨?_, by show w / 128 ≤ _; omega, ?_⟩ (by show w / 128 < w; omega) ⟨(by show _ = some (Value.slice p14 _ c14); rw [hbl]; rfl), rfl, trivial⟩ ?_
   · show (acc ++ [UInt8.ofNat (w % 128 + 128)]) ++ numB (w / 128) = bs ++ numB v
     rw [← hz1, hst, List.append_assoc]; rfl
   · have h1 := congrArg List.length hz1
     rw [hst] at h1
     simp only [List.length_append, List.length_cons] at h1
     show (acc ++ [UInt8.ofNat (w % 128 + 128)]).length ≤ _
     rw [hbl]; omega
   · show _ = [own 5 1 (.slice p14 (acc ++ [UInt8.ofNat (w % 128 + 128)]).length c14) (bytesV (acc ++ [UInt8.ofNat (w % 128 + 128)])), _]
     rw [hbl, ← bytesV_append]
  refine J.cond_f rfl <| J.exit <| J.then_x <| J.lp_x <| J.blk_x <| J.then_n <| J.seq ?_
  have hlt : w < 128 := by have h := hc8; dsimp only at h; omega
  rw [numB_small hlt] at hz1
  refine J.region <| J.m rfl <| J.m rfl <| J.p rfl (Q.conv runUnderlying40 runUnderlying5 rfl) ?_
  refine J.slot 19 (byteV (UInt8.ofNat w)) rfl (by show Value.int .u8 _ = _; rw [low8 hlt]; rfl) ?_
  refine J.c rfl rfl (C.bslG (l := [_]) runUnderlying42 sizeOf5 zeroValue5 (by decide) rfl rfl rfl rfl rfl) ?_
  rintro _ _ ⟨b20, rfl, rfl⟩
  refine J.norm rfl ?_
  refine J.conv (Y := own 5 1 (.slice (some ⟨b20, 0, none⟩) 1 1) (bytesV [UInt8.ofNat w])) 0 rfl (own_of_block rfl) ?_
  refine J.slr1 0 rfl fun hs20 => ?_
  refine J.c rfl rfl (C.app (i := 1) runUnderlying42 runUnderlying42 typeInfo5 sizeOf5 zeroValue5 rfl rfl rfl (hs20.within (i := 0) rfl) (bytesV_one _) (by rw [show Tryz.t5.bytes = 1 from rfl]; show (acc.length + 1) * 1 ≤ _; have := numB_len v hv; omega) (by decide)) ?_
  rintro _ _ ⟨p21, c21, rfl, rfl⟩
  refine J.norm rfl <| J.p rfl (Q.asg rfl) <| J.nil <| J.then_n <| J.cret ?_
  rw [← hz1]
  have hbl : (acc ++ [UInt8.ofNat w]).length = acc.length + 1 := by simp
  refine J.keep [1, 2] rfl ?_
  refine J.ret1 (B := [own 5 1 (.slice p21 (acc ++ [UInt8.ofNat w]).length c21) (bytesV (acc ++ [UInt8.ofNat w]))]) rfl rfl ⟨p21, c21, by rw [hbl], rfl⟩ ?_
  show _ = [own 5 1 (.slice p21 (acc ++ [UInt8.ofNat w]).length c21) (bytesV (acc ++ [UInt8.ofNat w])), F]
  rw [hbl, ← bytesV_append]

def encB (bs : List UInt8) : List UInt8 := numB bs.length ++ bs

section
variable (G : Assn) (q : Option Addr) (e : Nat) (bs : List UInt8) (hs : SlR [G] 1 (.slice q bs.length e) (bytesV bs)) (hn : bs.length ≤ 70368744100000) (b : Nat)
include hs hn
theorem size_spec : FSpec Tryz.prog 81 [.slice (some ⟨b, 0, none⟩) 1 1] [pt b (.cells [.slice q bs.length e].toArray 42 (0, 0)), G] (fun v B => v = .int .i64 bs.length ∧ B = [pt b (.cells [.slice q bs.length e].toArray 42 (0, 0)), G]) := by
  refine FSpec.of func81 rfl ntmps81 rfl fun W0 F => ?_
  refine J.seq <| J.region <| J.p rfl (Q.asg rfl) <| J.nil <| J.then_n <| J.seq <| J.region <| J.p rfl (Q.asg rfl) <| J.nil <| J.then_n <| J.seq <| J.seq <| J.region <| J.m rfl <| J.p rfl (Q.lenSl runUnderlying175 rfl) <| J.m rfl <| J.nil <| J.then_n <| J.block ?_
  refine J.loop2 (fun (i : Nat) (z : Int) => i ≤ 1 ∧ z = (if i = 0 then 0 else bs.length : Nat)) (fun i _ => 1 - i) (fun i z => [(3, .int .i64 z), (6, .slice (some ⟨b, 0, none⟩) 1 1), (7, .int .i64 1), (8, .int .i64 i)]) (fun _ _ => [pt b (.cells [.slice q bs.length e].toArray 42 (0, 0)), G, F]) 0 0 ⟨Nat.zero_le _, rfl⟩ ⟨rfl, rfl, rfl, rfl, trivial⟩ rfl fun i z hz => ?_
  obtain ⟨hi, hz⟩ := hz
  refine J.seq <| J.region <| J.p rfl (Q.lss rfl rfl) <| J.nil <| J.then_n <| J.seq ?_
  refine J.kases 9 rfl (fun hc9 => ?_) (fun hc9 => ?_)
  ·
   refine J.cond_t rfl <| J.cskip <| J.then_n <| J.seq <| J.block <| J.seq ?_
   obtain rfl : i = 0 := by omega
   rw [if_pos rfl] at hz
   refine J.region <| J.p rfl (Q.ia runUnderlying175 sizeOf42 rfl rfl (by omega) (by omega)) ?_
   refine J.p rfl (Q.ldI isAgg42 rfl) ?_
   refine J.p rfl (Q.asg rfl) <| J.nil <| J.then_n <| J.region <| J.m rfl <| J.m rfl <| J.p rfl (Q.lenSl runUnderlying42 rfl) <| J.p rfl (Q.add64 rfl rfl (by omega)) <| J.p rfl (Q.asg rfl) <| J.nil <| J.blk_n <| J.then_n <| J.region <| J.p rfl (Q.add64 rfl rfl (by omega)) <| J.m rfl <| J.nil ?_
   refine J.again (1, _) ⟨Nat.le_refl _, by show _ = ((if (1 : Nat) = 0 then 0 else bs.length : Nat) : Int); rw [if_neg (by decide), hz]; simp⟩ (by show 1 - 1 < 1 - 0; omega) ⟨rfl, rfl, rfl, rfl, trivial⟩ rfl
  refine J.cond_f rfl <| J.exit <| J.then_x <| J.lp_x <| J.blk_x <| J.then_n <| J.seq <| J.region <| J.m rfl <| J.p rfl (Q.asg rfl) <| J.nil <| J.then_n <| J.cret ?_
  obtain rfl : i = 1 := by omega
  rw [if_neg (by decide)] at hz
  subst hz
  refine J.ret1 (B := [_, _]) rfl rfl ⟨rfl, rfl⟩ rfl

theorem bytes_spec (p : Option Addr) (c : Nat) (acc : List UInt8) (ha : acc.length ≤ 70368744100000) : FSpec Tryz.prog 66 [.slice p acc.length c, .slice (some ⟨b, 0, none⟩) 1 1] [own 5 1 (.slice p acc.length c) (bytesV acc), pt b (.cells [.slice q bs.length e].toArray 42 (0, 0)), G]
    (fun u B => ∃ p' c', u = .slice p' (acc ++ encB bs).length c' ∧ B = [own 5 1 (.slice p' (acc ++ encB bs).length c') (bytesV (acc ++ encB bs)), G]) := by
  refine FSpec.of func66 rfl ntmps66 rfl fun W0 F => ?_
  refine J.seq <| J.region <| J.p rfl (Q.asg rfl) <| J.nil <| J.then_n <| J.seq <| J.region <| J.m rfl <| J.m rfl ?_
  refine J.call call81 (size_spec G q e bs hs hn b) [1, 2] rfl rfl rfl rfl ?_
  rintro _ _ ⟨rfl, rfl⟩
  refine J.norm rfl <| J.p rfl (Q.conv runUnderlying3 runUnderlying40 rfl) ?_
  refine J.slot 10 (.int .u64 (bs.length : Int)) rfl (by congr 1; exact wrap64 (by omega)) ?_
  refine J.call call65 (number_spec p c acc bs.length (by omega) (by omega)) [2] rfl rfl rfl rfl ?_
  rintro _ _ ⟨p1, c1, rfl, rfl⟩
  refine J.norm rfl ?_
  have hnl := numB_len bs.length (by omega)
  refine J.p rfl (Q.asg rfl) <| J.nil <| J.then_n <| J.seq <| J.seq <| J.region <| J.m rfl <| J.p rfl (Q.lenSl runUnderlying175 rfl) <| J.m rfl <| J.nil <| J.then_n <| J.block ?_
  refine J.loop3 (fun (i : Nat) (p' : Option Addr) (c' : Nat) => i ≤ 1) (fun i _ _ => 1 - i) (fun i p' c' => [(0, .slice p' (acc ++ numB bs.length ++ (if i = 0 then [] else bs)).length c'), (12, .slice (some ⟨b, 0, none⟩) 1 1), (13, .int .i64 1), (14, .int .i64 i)]) (fun i p' c' => [own 5 1 (.slice p' (acc ++ numB bs.length ++ (if i = 0 then [] else bs)).length c') (bytesV (acc ++ numB bs.length ++ (if i = 0 then [] else bs))), pt b (.cells [.slice q bs.length e].toArray 42 (0, 0)), G, F]) 0 p1 c1 (Nat.zero_le _) ⟨by rw [if_pos rfl, List.append_nil]; rfl, rfl, rfl, rfl, trivial⟩ (by rw [if_pos rfl, List.append_nil]) fun i p' c' hi => ?_
  refine J.seq <| J.region <| J.p rfl (Q.lss rfl rfl) <| J.nil <| J.then_n <| J.seq ?_
  refine J.kases 15 rfl (fun hc15 => ?_) (fun hc15 => ?_)
  ·
   refine J.cond_t rfl <| J.cskip <| J.then_n <| J.seq <| J.block <| J.seq ?_
   obtain rfl : i = 0 := by omega
   rw [if_pos rfl, List.append_nil]
   refine J.region <| J.p rfl (Q.ia runUnderlying175 sizeOf42 rfl rfl (by omega) (by omega)) ?_
   refine J.p rfl (Q.ldI isAgg42 rfl) ?_
   refine J.p rfl (Q.asg rfl) <| J.nil <| J.then_n <| J.region <| J.m rfl <| J.m rfl ?_
   refine J.c rfl rfl (C.app (i := 0) runUnderlying42 runUnderlying42 typeInfo5 sizeOf5 zeroValue5 rfl rfl rfl (hs.within (i := 2) rfl) (bytesV_one _) (by rw [show Tryz.t5.bytes = 1 from rfl, List.length_append]; omega) (by decide)) ?_
   rintro _ _ ⟨p2, c2, rfl, rfl⟩
   refine J.norm rfl <| J.p rfl (Q.asg rfl) <| J.nil <| J.blk_n <| J.then_n <| J.region <| J.p rfl (Q.add64 rfl rfl (by omega)) <| J.m rfl <| J.nil ?_
   refine J.again (1, p2, c2) (Nat.le_refl _) (by show 1 - 1 < 1 - 0; omega) ⟨(by show _ = some (Value.slice p2 (acc ++ numB bs.length ++ (if (1 : Nat) = 0 then [] else bs)).length c2); rw [if_neg (by decide), X.len_app (acc ++ numB bs.length)]; rfl), rfl, rfl, rfl, trivial⟩ ?_
   show _ = [own 5 1 (.slice p2 (acc ++ numB bs.length ++ (if (1 : Nat) = 0 then [] else bs)).length c2) (bytesV (acc ++ numB bs.length ++ (if (1 : Nat) = 0 then [] else bs))), _, _, _]
   rw [if_neg (by decide), X.len_app (acc ++ numB bs.length), ← bytesV_append (acc ++ numB bs.length) bs]
  refine J.cond_f rfl <| J.exit <| J.then_x <| J.lp_x <| J.blk_x <| J.then_n <| J.seq ?_
  obtain rfl : i = 1 := by omega
  rw [if_neg (by decide), List.append_assoc]
  refine J.region <| J.m rfl <| J.p rfl (Q.asg rfl) <| J.nil <| J.then_n <| J.cret ?_
  refine J.keep [0, 2, 3] rfl ?_
  refine J.ret1 (B := [own 5 1 (.slice p' (acc ++ encB bs).length c') (bytesV (acc ++ encB bs)), G]) rfl rfl ⟨p', c', rfl, rfl⟩ rfl
end

def nameCh (c : UInt8) : Bool := (decide (97 ≤ c.toNat) && decide (c.toNat ≤ 122)) || (decide (48 ≤ c.toNat) && decide (c.toNat ≤ 57)) || decide (c.toNat = 45) || decide (c.toNat = 46)
def nameOK (s : List UInt8) : Bool := decide (1 ≤ s.length) && decide (s.length ≤ 64) && s.all nameCh

theorem nameCh_iff (c : UInt8) : nameCh c = true ↔ ((97 ≤ (c.toNat : Int) ∧ (c.toNat : Int) ≤ 122) ∨ (48 ≤ (c.toNat : Int) ∧ (c.toNat : Int) ≤ 57) ∨ (c.toNat : Int) = 45 ∨ (c.toNat : Int) = 46) := by
  simp only [nameCh, Bool.or_eq_true, Bool.and_eq_true, decide_eq_true_eq]; omega
theorem nameCh_not (c : UInt8) : nameCh c = false ↔ ¬ ((97 ≤ (c.toNat : Int) ∧ (c.toNat : Int) ≤ 122) ∨ (48 ≤ (c.toNat : Int) ∧ (c.toNat : Int) ≤ 57) ∨ (c.toNat : Int) = 45 ∨ (c.toNat : Int) = 46) := by
  rw [← nameCh_iff]; simp
theorem all_take_succ {l : List UInt8} {k : Nat} {c : UInt8} (h : (l.take k).all nameCh = true) (hc : l[k]? = some c) (hk : nameCh c = true) : (l.take (k + 1)).all nameCh = true := by
  obtain ⟨h1, h2⟩ := List.getElem?_eq_some_iff.1 hc
  rw [List.take_succ_eq_append_getElem h1, List.all_append, h, h2]; simp [hk]
theorem nameOK_short {l : List UInt8} (h : l.length < 1) : nameOK l = false := by
  have : ¬ 1 ≤ l.length := by omega
  simp only [nameOK, this, decide_false, Bool.false_and]
theorem nameOK_long {l : List UInt8} (h : 64 < l.length) : nameOK l = false := by
  have : ¬ l.length ≤ 64 := by omega
  simp only [nameOK, this, decide_false, Bool.false_and, Bool.and_false]
theorem nameOK_bad {l : List UInt8} {k : Nat} {c : UInt8} (hc : l[k]? = some c) (hk : nameCh c = false) : nameOK l = false := by
  have : l.all nameCh = false := by
    cases h : l.all nameCh with
    | false => rfl
    | true => rw [List.all_eq_true] at h; have := h c (List.mem_of_getElem? hc); rw [hk] at this; cases this
  simp [nameOK, this]
theorem nameOK_good {l : List UInt8} (h1 : 1 ≤ l.length) (h2 : l.length ≤ 64) (h3 : l.all nameCh = true) : nameOK l = true := by
  simp only [nameOK, h1, h2, h3, decide_true, Bool.and_self]

def longB (n : Nat) (a b : Int) : Bool := decide (a ≤ n) && decide ((n : Int) ≤ b)

theorem long_spec (s : ByteArray) (a b : Int) : FSpec Tryz.prog 71 [.string s, .int .i64 a, .int .i64 b] [] (fun v B => v = .bool (longB s.size a b) ∧ B = []) := by
  refine FSpec.of func71 rfl ntmps71 rfl fun W0 F => ?_
  refine J.seq <| J.region <| J.p rfl (Q.asg rfl) <| J.nil <| J.then_n <| J.seq <| J.region <| J.m rfl <| J.p rfl (Q.lenS runUnderlying9 rfl) <| J.m rfl <| J.p rfl (Q.geq rfl rfl) <| J.m rfl ?_
  refine J.kases 11 rfl (fun hb11 => ?_) (fun hb11 => ?_)
  ·
   refine J.m rfl <| J.p rfl (Q.lenS runUnderlying9 rfl) <| J.m rfl <| J.p rfl (Q.leq rfl rfl) <| J.p rfl (Q.pick_t rfl rfl) <| J.p rfl (Q.asg rfl) <| J.nil <| J.then_n <| J.cret ?_
   refine J.ret1 (B := []) rfl rfl ⟨?_, rfl⟩ rfl
   simp [longB, *]
  refine J.k rfl <| J.k rfl <| J.k rfl <| J.k rfl <| J.p rfl (Q.pick_f rfl rfl) <| J.p rfl (Q.asg rfl) <| J.nil <| J.then_n <| J.cret ?_
  refine J.ret1 (B := []) rfl rfl ⟨?_, rfl⟩ rfl
  simp [longB, *]

theorem named_spec (s : ByteArray) (hs : s.size ≤ 9223372036854775807) : FSpec Tryz.prog 70 [.string s] [] (fun v B => v = .bool (nameOK s.data.toList) ∧ B = []) := by
  have hlen : s.data.toList.length = s.size := by simp
  refine FSpec.of func70 rfl ntmps70 rfl fun W0 F => ?_
  refine J.seq <| J.region <| J.p rfl (Q.asg rfl) <| J.nil <| J.then_n <| J.seq <| J.seq <| J.region <| J.m rfl <| J.p rfl (Q.lenS runUnderlying9 rfl) <| J.m rfl <| J.nil <| J.then_n <| J.block ?_
  refine J.loop (fun k : Nat => k ≤ s.size ∧ (s.data.toList.take k).all nameCh = true) (fun k => s.size - k) (fun k => [(0, .string s), (6, .int .i64 s.size), (7, .int .i64 k)]) (fun _ => [F]) 0 ⟨by omega, rfl⟩ ⟨rfl, rfl, rfl, trivial⟩ rfl fun k hk => ?_
  obtain ⟨hk, hall⟩ := hk
  refine J.seq <| J.region <| J.p rfl (Q.lss rfl rfl) <| J.nil <| J.then_n <| J.seq ?_
  refine J.kases 8 rfl (fun hc8 => ?_) (fun hc8 => ?_)
  ·
   have hlt : k < s.size := by omega
   refine J.cond_t rfl <| J.cskip <| J.then_n <| J.seq <| J.block <| J.seq <| J.region <| J.m rfl <| J.p rfl (Q.asg rfl) <| J.nil <| J.then_n <| J.seq <| J.region <| J.m rfl <| J.m rfl ?_
   obtain ⟨c, hc⟩ : ∃ c, s.data.toList[((k : Int)).toNat]? = some c := ⟨_, List.getElem?_eq_getElem (by simp only [Int.toNat_natCast]; omega)⟩
   refine J.p rfl (Q.idxs runUnderlying9 rfl rfl (by omega) hc) <| J.p rfl (Q.asg rfl) <| J.nil <| J.then_n <| J.seq <| J.region <| J.m rfl <| J.p rfl (Q.geq rfl rfl) <| J.m rfl ?_
   refine J.kases 15 rfl (fun hb15 => ?_) (fun hb15 => ?_)
   ·
    refine J.m rfl <| J.p rfl (Q.leq rfl rfl) <| J.p rfl (Q.pick_t rfl rfl) <| J.m rfl ?_
    refine J.kases 19 rfl (fun hb19 => ?_) (fun hb19 => ?_)
    ·
     refine J.k rfl <| J.k rfl <| J.k rfl <| J.k rfl <| J.k rfl <| J.k rfl <| J.p rfl (Q.pick_t rfl rfl) <| J.m rfl <| J.k rfl <| J.k rfl <| J.p rfl (Q.pick_t rfl rfl) <| J.m rfl <| J.k rfl <| J.k rfl <| J.p rfl (Q.pick_t rfl rfl) <| J.p rfl (Q.not rfl) <| J.nil <| J.then_n <| J.cond_f rfl <| J.cskip ?_
     refine J.blk_n <| J.then_n <| J.region <| J.p rfl (Q.add64 rfl rfl (by omega)) <| J.m rfl <| J.nil ?_
     have hck : nameCh c = true := by rw [nameCh_iff]; omega
     refine J.again (k + 1) ⟨by omega, all_take_succ hall (by simpa using hc) hck⟩ (by omega) ⟨rfl, rfl, rfl, trivial⟩ rfl
    refine J.m rfl <| J.p rfl (Q.geq rfl rfl) <| J.m rfl ?_
    refine J.kases 22 rfl (fun hb22 => ?_) (fun hb22 => ?_)
    ·
     refine J.m rfl <| J.p rfl (Q.leq rfl rfl) <| J.p rfl (Q.pick_t rfl rfl) <| J.p rfl (Q.pick_f rfl rfl) <| J.m rfl ?_
     refine J.kases 27 rfl (fun hb27 => ?_) (fun hb27 => ?_)
     ·
      refine J.k rfl <| J.k rfl <| J.p rfl (Q.pick_t rfl rfl) <| J.m rfl <| J.k rfl <| J.k rfl <| J.p rfl (Q.pick_t rfl rfl) <| J.p rfl (Q.not rfl) <| J.nil <| J.then_n <| J.cond_f rfl <| J.cskip <| J.blk_n <| J.then_n <| J.region <| J.p rfl (Q.add64 rfl rfl (by omega)) <| J.m rfl <| J.nil ?_
      have hck : nameCh c = true := by rw [nameCh_iff]; omega
      refine J.again (k + 1) ⟨by omega, all_take_succ hall (by simpa using hc) hck⟩ (by omega) ⟨rfl, rfl, rfl, trivial⟩ rfl
     refine J.m rfl <| J.p rfl (Q.eql rfl rfl) <| J.p rfl (Q.pick_f rfl rfl) <| J.m rfl ?_
     refine J.kases 31 rfl (fun hb31 => ?_) (fun hb31 => ?_)
     ·
      refine J.k rfl <| J.k rfl <| J.p rfl (Q.pick_t rfl rfl) <| J.p rfl (Q.not rfl) <| J.nil <| J.then_n <| J.cond_f rfl <| J.cskip <| J.blk_n <| J.then_n <| J.region <| J.p rfl (Q.add64 rfl rfl (by omega)) <| J.m rfl <| J.nil ?_
      have hck : nameCh c = true := by rw [nameCh_iff]; omega
      refine J.again (k + 1) ⟨by omega, all_take_succ hall (by simpa using hc) hck⟩ (by omega) ⟨rfl, rfl, rfl, trivial⟩ rfl
     refine J.m rfl <| J.p rfl (Q.eql rfl rfl) <| J.p rfl (Q.pick_f rfl rfl) <| J.p rfl (Q.not rfl) <| J.nil <| J.then_n ?_
     refine J.kases 35 rfl (fun hc35 => ?_) (fun hc35 => ?_)
     ·
      refine J.cond_t rfl <| J.seq <| J.region <| J.p rfl (Q.asg rfl) <| J.nil <| J.then_n <| J.cret <| J.blk_r <| J.then_r <| J.lp_r <| J.blk_r <| J.then_r ?_
      first
        | (have hck : nameCh c = false := by rw [nameCh_not]; omega
           refine J.ret1 (B := []) rfl rfl ⟨?_, rfl⟩ rfl
           rw [nameOK_bad (by simpa using hc) hck])
        | (refine J.ret1 (B := []) rfl rfl ⟨?_, rfl⟩ rfl
           have h3 : s.data.toList.all nameCh = true := by rw [← hall, hge, List.take_of_length_le (by omega)]
           simp only [nameOK, longB, h3, hlen, Bool.and_true]
           congr 2 <;> exact decide_eq_decide.2 (by omega))
     refine J.cond_f rfl <| J.cskip <| J.blk_n <| J.then_n <| J.region <| J.p rfl (Q.add64 rfl rfl (by omega)) <| J.m rfl <| J.nil ?_
     have hck : nameCh c = true := by rw [nameCh_iff]; omega
     refine J.again (k + 1) ⟨by omega, all_take_succ hall (by simpa using hc) hck⟩ (by omega) ⟨rfl, rfl, rfl, trivial⟩ rfl
    refine J.k rfl <| J.k rfl <| J.p rfl (Q.pick_f rfl rfl) <| J.p rfl (Q.pick_f rfl rfl) <| J.m rfl <| J.m rfl <| J.p rfl (Q.eql rfl rfl) <| J.p rfl (Q.pick_f rfl rfl) <| J.m rfl ?_
    refine J.kases 31 rfl (fun hb31 => ?_) (fun hb31 => ?_)
    ·
     refine J.k rfl <| J.k rfl <| J.p rfl (Q.pick_t rfl rfl) <| J.p rfl (Q.not rfl) <| J.nil <| J.then_n <| J.cond_f rfl <| J.cskip <| J.blk_n <| J.then_n <| J.region <| J.p rfl (Q.add64 rfl rfl (by omega)) <| J.m rfl <| J.nil ?_
     have hck : nameCh c = true := by rw [nameCh_iff]; omega
     refine J.again (k + 1) ⟨by omega, all_take_succ hall (by simpa using hc) hck⟩ (by omega) ⟨rfl, rfl, rfl, trivial⟩ rfl
    refine J.m rfl <| J.p rfl (Q.eql rfl rfl) <| J.p rfl (Q.pick_f rfl rfl) <| J.p rfl (Q.not rfl) <| J.nil <| J.then_n ?_
    refine J.kases 35 rfl (fun hc35 => ?_) (fun hc35 => ?_)
    ·
     refine J.cond_t rfl <| J.seq <| J.region <| J.p rfl (Q.asg rfl) <| J.nil <| J.then_n <| J.cret <| J.blk_r <| J.then_r <| J.lp_r <| J.blk_r <| J.then_r ?_
     first
       | (have hck : nameCh c = false := by rw [nameCh_not]; omega
          refine J.ret1 (B := []) rfl rfl ⟨?_, rfl⟩ rfl
          rw [nameOK_bad (by simpa using hc) hck])
       | (refine J.ret1 (B := []) rfl rfl ⟨?_, rfl⟩ rfl
          have h3 : s.data.toList.all nameCh = true := by rw [← hall, hge, List.take_of_length_le (by omega)]
          simp only [nameOK, longB, h3, hlen, Bool.and_true]
          congr 2 <;> exact decide_eq_decide.2 (by omega))
    refine J.cond_f rfl <| J.cskip <| J.blk_n <| J.then_n <| J.region <| J.p rfl (Q.add64 rfl rfl (by omega)) <| J.m rfl <| J.nil ?_
    have hck : nameCh c = true := by rw [nameCh_iff]; omega
    refine J.again (k + 1) ⟨by omega, all_take_succ hall (by simpa using hc) hck⟩ (by omega) ⟨rfl, rfl, rfl, trivial⟩ rfl
   refine J.k rfl <| J.k rfl <| J.p rfl (Q.pick_f rfl rfl) <| J.m rfl <| J.m rfl <| J.p rfl (Q.geq rfl rfl) <| J.m rfl ?_
   refine J.kases 22 rfl (fun hb22 => ?_) (fun hb22 => ?_)
   ·
    refine J.m rfl <| J.p rfl (Q.leq rfl rfl) <| J.p rfl (Q.pick_t rfl rfl) <| J.p rfl (Q.pick_f rfl rfl) <| J.m rfl ?_
    refine J.kases 27 rfl (fun hb27 => ?_) (fun hb27 => ?_)
    ·
     refine J.k rfl <| J.k rfl <| J.p rfl (Q.pick_t rfl rfl) <| J.m rfl <| J.k rfl <| J.k rfl <| J.p rfl (Q.pick_t rfl rfl) <| J.p rfl (Q.not rfl) <| J.nil <| J.then_n <| J.cond_f rfl <| J.cskip <| J.blk_n <| J.then_n <| J.region <| J.p rfl (Q.add64 rfl rfl (by omega)) <| J.m rfl <| J.nil ?_
     have hck : nameCh c = true := by rw [nameCh_iff]; omega
     refine J.again (k + 1) ⟨by omega, all_take_succ hall (by simpa using hc) hck⟩ (by omega) ⟨rfl, rfl, rfl, trivial⟩ rfl
    refine J.m rfl <| J.p rfl (Q.eql rfl rfl) <| J.p rfl (Q.pick_f rfl rfl) <| J.m rfl ?_
    refine J.kases 31 rfl (fun hb31 => ?_) (fun hb31 => ?_)
    ·
     refine J.k rfl <| J.k rfl <| J.p rfl (Q.pick_t rfl rfl) <| J.p rfl (Q.not rfl) <| J.nil <| J.then_n <| J.cond_f rfl <| J.cskip <| J.blk_n <| J.then_n <| J.region <| J.p rfl (Q.add64 rfl rfl (by omega)) <| J.m rfl <| J.nil ?_
     have hck : nameCh c = true := by rw [nameCh_iff]; omega
     refine J.again (k + 1) ⟨by omega, all_take_succ hall (by simpa using hc) hck⟩ (by omega) ⟨rfl, rfl, rfl, trivial⟩ rfl
    refine J.m rfl <| J.p rfl (Q.eql rfl rfl) <| J.p rfl (Q.pick_f rfl rfl) <| J.p rfl (Q.not rfl) <| J.nil <| J.then_n ?_
    refine J.kases 35 rfl (fun hc35 => ?_) (fun hc35 => ?_)
    ·
     refine J.cond_t rfl <| J.seq <| J.region <| J.p rfl (Q.asg rfl) <| J.nil <| J.then_n <| J.cret <| J.blk_r <| J.then_r <| J.lp_r <| J.blk_r <| J.then_r ?_
     first
       | (have hck : nameCh c = false := by rw [nameCh_not]; omega
          refine J.ret1 (B := []) rfl rfl ⟨?_, rfl⟩ rfl
          rw [nameOK_bad (by simpa using hc) hck])
       | (refine J.ret1 (B := []) rfl rfl ⟨?_, rfl⟩ rfl
          have h3 : s.data.toList.all nameCh = true := by rw [← hall, hge, List.take_of_length_le (by omega)]
          simp only [nameOK, longB, h3, hlen, Bool.and_true]
          congr 2 <;> exact decide_eq_decide.2 (by omega))
    refine J.cond_f rfl <| J.cskip <| J.blk_n <| J.then_n <| J.region <| J.p rfl (Q.add64 rfl rfl (by omega)) <| J.m rfl <| J.nil ?_
    have hck : nameCh c = true := by rw [nameCh_iff]; omega
    refine J.again (k + 1) ⟨by omega, all_take_succ hall (by simpa using hc) hck⟩ (by omega) ⟨rfl, rfl, rfl, trivial⟩ rfl
   refine J.k rfl <| J.k rfl <| J.p rfl (Q.pick_f rfl rfl) <| J.p rfl (Q.pick_f rfl rfl) <| J.m rfl <| J.m rfl <| J.p rfl (Q.eql rfl rfl) <| J.p rfl (Q.pick_f rfl rfl) <| J.m rfl ?_
   refine J.kases 31 rfl (fun hb31 => ?_) (fun hb31 => ?_)
   ·
    refine J.k rfl <| J.k rfl <| J.p rfl (Q.pick_t rfl rfl) <| J.p rfl (Q.not rfl) <| J.nil <| J.then_n <| J.cond_f rfl <| J.cskip <| J.blk_n <| J.then_n <| J.region <| J.p rfl (Q.add64 rfl rfl (by omega)) <| J.m rfl <| J.nil ?_
    have hck : nameCh c = true := by rw [nameCh_iff]; omega
    refine J.again (k + 1) ⟨by omega, all_take_succ hall (by simpa using hc) hck⟩ (by omega) ⟨rfl, rfl, rfl, trivial⟩ rfl
   refine J.m rfl <| J.p rfl (Q.eql rfl rfl) <| J.p rfl (Q.pick_f rfl rfl) <| J.p rfl (Q.not rfl) <| J.nil <| J.then_n ?_
   refine J.kases 35 rfl (fun hc35 => ?_) (fun hc35 => ?_)
   ·
    refine J.cond_t rfl <| J.seq <| J.region <| J.p rfl (Q.asg rfl) <| J.nil <| J.then_n <| J.cret <| J.blk_r <| J.then_r <| J.lp_r <| J.blk_r <| J.then_r ?_
    first
      | (have hck : nameCh c = false := by rw [nameCh_not]; omega
         refine J.ret1 (B := []) rfl rfl ⟨?_, rfl⟩ rfl
         rw [nameOK_bad (by simpa using hc) hck])
      | (refine J.ret1 (B := []) rfl rfl ⟨?_, rfl⟩ rfl
         have h3 : s.data.toList.all nameCh = true := by rw [← hall, hge, List.take_of_length_le (by omega)]
         simp only [nameOK, longB, h3, hlen, Bool.and_true]
         congr 2 <;> exact decide_eq_decide.2 (by omega))
   refine J.cond_f rfl <| J.cskip <| J.blk_n <| J.then_n <| J.region <| J.p rfl (Q.add64 rfl rfl (by omega)) <| J.m rfl <| J.nil ?_
   have hck : nameCh c = true := by rw [nameCh_iff]; omega
   refine J.again (k + 1) ⟨by omega, all_take_succ hall (by simpa using hc) hck⟩ (by omega) ⟨rfl, rfl, rfl, trivial⟩ rfl
  have hge : k = s.size := by omega
  refine J.cond_f rfl <| J.exit <| J.then_x <| J.lp_x <| J.blk_x <| J.then_n <| J.seq <| J.region <| J.m rfl ?_
  refine J.call call71 (long_spec s 1 64) [] rfl rfl rfl rfl ?_
  rintro _ _ ⟨rfl, rfl⟩
  refine J.norm rfl <| J.p rfl (Q.asg rfl) <| J.nil <| J.then_n <| J.cret ?_
  first
    | (have hck : nameCh c = false := by rw [nameCh_not]; omega
       refine J.ret1 (B := []) rfl rfl ⟨?_, rfl⟩ rfl
       rw [nameOK_bad (by simpa using hc) hck])
    | (refine J.ret1 (B := []) rfl rfl ⟨?_, rfl⟩ rfl
       have h3 : s.data.toList.all nameCh = true := by rw [← hall, hge, List.take_of_length_le (by omega)]
       simp only [nameOK, longB, h3, hlen, Bool.and_true]
       congr 2 <;> exact decide_eq_decide.2 (by omega))

theorem rname_spec (s : ByteArray) (hs : s.size ≤ 9223372036854775807) : FSpec Tryz.prog 27 [.string s] [] (fun v B => v = .bool (nameOK s.data.toList) ∧ B = []) := by
  have hlen : s.data.toList.length = s.size := by simp
  refine FSpec.of func27 rfl ntmps27 rfl fun W0 F => ?_
  refine J.seq <| J.region <| J.p rfl (Q.asg rfl) <| J.nil <| J.then_n <| J.seq <| J.seq <| J.region <| J.m rfl <| J.p rfl (Q.lenS runUnderlying9 rfl) <| J.p rfl (Q.lss rfl rfl) <| J.m rfl ?_
  refine J.kases 8 rfl (fun hb8 => ?_) (fun hb8 => ?_)
  ·
   refine J.k rfl <| J.k rfl <| J.k rfl <| J.p rfl (Q.pick_t rfl rfl) <| J.nil <| J.then_n <| J.cond_t rfl <| J.seq <| J.region <| J.p rfl (Q.asg rfl) <| J.nil <| J.then_n <| J.cret <| J.then_r ?_
   refine J.ret1 (B := []) rfl rfl ⟨?_, rfl⟩ rfl
   rw [nameOK_short (l := s.data.toList) (by omega)]
  refine J.m rfl <| J.p rfl (Q.lenS runUnderlying9 rfl) <| J.p rfl (Q.gtr rfl rfl) <| J.p rfl (Q.pick_f rfl rfl) <| J.nil <| J.then_n ?_
  refine J.kases 12 rfl (fun hc12 => ?_) (fun hc12 => ?_)
  ·
   refine J.cond_t rfl <| J.seq <| J.region <| J.p rfl (Q.asg rfl) <| J.nil <| J.then_n <| J.cret <| J.then_r ?_
   refine J.ret1 (B := []) rfl rfl ⟨?_, rfl⟩ rfl
   rw [nameOK_long (l := s.data.toList) (by omega)]
  refine J.cond_f rfl <| J.cskip <| J.then_n <| J.seq <| J.seq <| J.region <| J.p rfl (Q.asg rfl) <| J.nil <| J.then_n <| J.block ?_
  refine J.loop (fun k : Nat => k ≤ s.size ∧ (s.data.toList.take k).all nameCh = true) (fun k => s.size - k) (fun k => [(0, .string s), (3, .int .i64 k)]) (fun _ => [F]) 0 ⟨by omega, rfl⟩ ⟨rfl, rfl, trivial⟩ rfl fun k hk => ?_
  obtain ⟨hk, hall⟩ := hk
  refine J.seq <| J.seq <| J.region <| J.m rfl <| J.m rfl <| J.p rfl (Q.lenS runUnderlying9 rfl) <| J.p rfl (Q.lss rfl rfl) <| J.nil <| J.then_n ?_
  refine J.kases 16 rfl (fun hc16 => ?_) (fun hc16 => ?_)
  ·
   have hlt : k < s.size := by omega
   refine J.cond_t rfl <| J.cskip <| J.then_n <| J.seq <| J.block <| J.seq <| J.region <| J.m rfl <| J.m rfl ?_
   obtain ⟨c, hc⟩ : ∃ c, s.data.toList[((k : Int)).toNat]? = some c := ⟨_, List.getElem?_eq_getElem (by simp only [Int.toNat_natCast]; omega)⟩
   refine J.p rfl (Q.idxs runUnderlying9 rfl rfl (by omega) hc) <| J.p rfl (Q.asg rfl) <| J.nil <| J.then_n <| J.seq <| J.region <| J.m rfl <| J.p rfl (Q.geq rfl rfl) <| J.m rfl ?_
   refine J.kases 24 rfl (fun hb24 => ?_) (fun hb24 => ?_)
   ·
    refine J.m rfl <| J.p rfl (Q.leq rfl rfl) <| J.p rfl (Q.pick_t rfl rfl) <| J.m rfl ?_
    refine J.kases 28 rfl (fun hb28 => ?_) (fun hb28 => ?_)
    ·
     refine J.k rfl <| J.k rfl <| J.k rfl <| J.k rfl <| J.k rfl <| J.k rfl <| J.p rfl (Q.pick_t rfl rfl) <| J.m rfl <| J.k rfl <| J.k rfl <| J.p rfl (Q.pick_t rfl rfl) <| J.m rfl <| J.k rfl <| J.k rfl <| J.p rfl (Q.pick_t rfl rfl) <| J.p rfl (Q.not rfl) <| J.nil <| J.then_n <| J.cond_f rfl <| J.cskip ?_
     refine J.blk_n <| J.then_n <| J.region <| J.m rfl <| J.p rfl (Q.add64 rfl rfl (by omega)) <| J.p rfl (Q.asg rfl) <| J.nil ?_
     have hck : nameCh c = true := by rw [nameCh_iff]; omega
     refine J.again (k + 1) ⟨by omega, all_take_succ hall (by simpa using hc) hck⟩ (by omega) ⟨rfl, rfl, trivial⟩ rfl
    refine J.m rfl <| J.p rfl (Q.geq rfl rfl) <| J.m rfl ?_
    refine J.kases 31 rfl (fun hb31 => ?_) (fun hb31 => ?_)
    ·
     refine J.m rfl <| J.p rfl (Q.leq rfl rfl) <| J.p rfl (Q.pick_t rfl rfl) <| J.p rfl (Q.pick_f rfl rfl) <| J.m rfl ?_
     refine J.kases 36 rfl (fun hb36 => ?_) (fun hb36 => ?_)
     ·
      refine J.k rfl <| J.k rfl <| J.p rfl (Q.pick_t rfl rfl) <| J.m rfl <| J.k rfl <| J.k rfl <| J.p rfl (Q.pick_t rfl rfl) <| J.p rfl (Q.not rfl) <| J.nil <| J.then_n <| J.cond_f rfl <| J.cskip <| J.blk_n <| J.then_n <| J.region <| J.m rfl <| J.p rfl (Q.add64 rfl rfl (by omega)) <| J.p rfl (Q.asg rfl) <| J.nil ?_
      have hck : nameCh c = true := by rw [nameCh_iff]; omega
      refine J.again (k + 1) ⟨by omega, all_take_succ hall (by simpa using hc) hck⟩ (by omega) ⟨rfl, rfl, trivial⟩ rfl
     refine J.m rfl <| J.p rfl (Q.eql rfl rfl) <| J.p rfl (Q.pick_f rfl rfl) <| J.m rfl ?_
     refine J.kases 40 rfl (fun hb40 => ?_) (fun hb40 => ?_)
     ·
      refine J.k rfl <| J.k rfl <| J.p rfl (Q.pick_t rfl rfl) <| J.p rfl (Q.not rfl) <| J.nil <| J.then_n <| J.cond_f rfl <| J.cskip <| J.blk_n <| J.then_n <| J.region <| J.m rfl <| J.p rfl (Q.add64 rfl rfl (by omega)) <| J.p rfl (Q.asg rfl) <| J.nil ?_
      have hck : nameCh c = true := by rw [nameCh_iff]; omega
      refine J.again (k + 1) ⟨by omega, all_take_succ hall (by simpa using hc) hck⟩ (by omega) ⟨rfl, rfl, trivial⟩ rfl
     refine J.m rfl <| J.p rfl (Q.eql rfl rfl) <| J.p rfl (Q.pick_f rfl rfl) <| J.p rfl (Q.not rfl) <| J.nil <| J.then_n ?_
     refine J.kases 44 rfl (fun hc44 => ?_) (fun hc44 => ?_)
     ·
      refine J.cond_t rfl <| J.seq <| J.region <| J.p rfl (Q.asg rfl) <| J.nil <| J.then_n <| J.cret <| J.blk_r <| J.then_r <| J.lp_r <| J.blk_r <| J.then_r ?_
      first
        | (have hck : nameCh c = false := by rw [nameCh_not]; omega
           refine J.ret1 (B := []) rfl rfl ⟨?_, rfl⟩ rfl
           rw [nameOK_bad (by simpa using hc) hck])
        | (refine J.ret1 (B := []) rfl rfl ⟨?_, rfl⟩ rfl
           rw [nameOK_good (by omega) (by omega) (by rw [← hall, hge, List.take_of_length_le (by omega)])])
     refine J.cond_f rfl <| J.cskip <| J.blk_n <| J.then_n <| J.region <| J.m rfl <| J.p rfl (Q.add64 rfl rfl (by omega)) <| J.p rfl (Q.asg rfl) <| J.nil ?_
     have hck : nameCh c = true := by rw [nameCh_iff]; omega
     refine J.again (k + 1) ⟨by omega, all_take_succ hall (by simpa using hc) hck⟩ (by omega) ⟨rfl, rfl, trivial⟩ rfl
    refine J.k rfl <| J.k rfl <| J.p rfl (Q.pick_f rfl rfl) <| J.p rfl (Q.pick_f rfl rfl) <| J.m rfl <| J.m rfl <| J.p rfl (Q.eql rfl rfl) <| J.p rfl (Q.pick_f rfl rfl) <| J.m rfl ?_
    refine J.kases 40 rfl (fun hb40 => ?_) (fun hb40 => ?_)
    ·
     refine J.k rfl <| J.k rfl <| J.p rfl (Q.pick_t rfl rfl) <| J.p rfl (Q.not rfl) <| J.nil <| J.then_n <| J.cond_f rfl <| J.cskip <| J.blk_n <| J.then_n <| J.region <| J.m rfl <| J.p rfl (Q.add64 rfl rfl (by omega)) <| J.p rfl (Q.asg rfl) <| J.nil ?_
     have hck : nameCh c = true := by rw [nameCh_iff]; omega
     refine J.again (k + 1) ⟨by omega, all_take_succ hall (by simpa using hc) hck⟩ (by omega) ⟨rfl, rfl, trivial⟩ rfl
    refine J.m rfl <| J.p rfl (Q.eql rfl rfl) <| J.p rfl (Q.pick_f rfl rfl) <| J.p rfl (Q.not rfl) <| J.nil <| J.then_n ?_
    refine J.kases 44 rfl (fun hc44 => ?_) (fun hc44 => ?_)
    ·
     refine J.cond_t rfl <| J.seq <| J.region <| J.p rfl (Q.asg rfl) <| J.nil <| J.then_n <| J.cret <| J.blk_r <| J.then_r <| J.lp_r <| J.blk_r <| J.then_r ?_
     first
       | (have hck : nameCh c = false := by rw [nameCh_not]; omega
          refine J.ret1 (B := []) rfl rfl ⟨?_, rfl⟩ rfl
          rw [nameOK_bad (by simpa using hc) hck])
       | (refine J.ret1 (B := []) rfl rfl ⟨?_, rfl⟩ rfl
          rw [nameOK_good (by omega) (by omega) (by rw [← hall, hge, List.take_of_length_le (by omega)])])
    refine J.cond_f rfl <| J.cskip <| J.blk_n <| J.then_n <| J.region <| J.m rfl <| J.p rfl (Q.add64 rfl rfl (by omega)) <| J.p rfl (Q.asg rfl) <| J.nil ?_
    have hck : nameCh c = true := by rw [nameCh_iff]; omega
    refine J.again (k + 1) ⟨by omega, all_take_succ hall (by simpa using hc) hck⟩ (by omega) ⟨rfl, rfl, trivial⟩ rfl
   refine J.k rfl <| J.k rfl <| J.p rfl (Q.pick_f rfl rfl) <| J.m rfl <| J.m rfl <| J.p rfl (Q.geq rfl rfl) <| J.m rfl ?_
   refine J.kases 31 rfl (fun hb31 => ?_) (fun hb31 => ?_)
   ·
    refine J.m rfl <| J.p rfl (Q.leq rfl rfl) <| J.p rfl (Q.pick_t rfl rfl) <| J.p rfl (Q.pick_f rfl rfl) <| J.m rfl ?_
    refine J.kases 36 rfl (fun hb36 => ?_) (fun hb36 => ?_)
    ·
     refine J.k rfl <| J.k rfl <| J.p rfl (Q.pick_t rfl rfl) <| J.m rfl <| J.k rfl <| J.k rfl <| J.p rfl (Q.pick_t rfl rfl) <| J.p rfl (Q.not rfl) <| J.nil <| J.then_n <| J.cond_f rfl <| J.cskip <| J.blk_n <| J.then_n <| J.region <| J.m rfl <| J.p rfl (Q.add64 rfl rfl (by omega)) <| J.p rfl (Q.asg rfl) <| J.nil ?_
     have hck : nameCh c = true := by rw [nameCh_iff]; omega
     refine J.again (k + 1) ⟨by omega, all_take_succ hall (by simpa using hc) hck⟩ (by omega) ⟨rfl, rfl, trivial⟩ rfl
    refine J.m rfl <| J.p rfl (Q.eql rfl rfl) <| J.p rfl (Q.pick_f rfl rfl) <| J.m rfl ?_
    refine J.kases 40 rfl (fun hb40 => ?_) (fun hb40 => ?_)
    ·
     refine J.k rfl <| J.k rfl <| J.p rfl (Q.pick_t rfl rfl) <| J.p rfl (Q.not rfl) <| J.nil <| J.then_n <| J.cond_f rfl <| J.cskip <| J.blk_n <| J.then_n <| J.region <| J.m rfl <| J.p rfl (Q.add64 rfl rfl (by omega)) <| J.p rfl (Q.asg rfl) <| J.nil ?_
     have hck : nameCh c = true := by rw [nameCh_iff]; omega
     refine J.again (k + 1) ⟨by omega, all_take_succ hall (by simpa using hc) hck⟩ (by omega) ⟨rfl, rfl, trivial⟩ rfl
    refine J.m rfl <| J.p rfl (Q.eql rfl rfl) <| J.p rfl (Q.pick_f rfl rfl) <| J.p rfl (Q.not rfl) <| J.nil <| J.then_n ?_
    refine J.kases 44 rfl (fun hc44 => ?_) (fun hc44 => ?_)
    ·
     refine J.cond_t rfl <| J.seq <| J.region <| J.p rfl (Q.asg rfl) <| J.nil <| J.then_n <| J.cret <| J.blk_r <| J.then_r <| J.lp_r <| J.blk_r <| J.then_r ?_
     first
       | (have hck : nameCh c = false := by rw [nameCh_not]; omega
          refine J.ret1 (B := []) rfl rfl ⟨?_, rfl⟩ rfl
          rw [nameOK_bad (by simpa using hc) hck])
       | (refine J.ret1 (B := []) rfl rfl ⟨?_, rfl⟩ rfl
          rw [nameOK_good (by omega) (by omega) (by rw [← hall, hge, List.take_of_length_le (by omega)])])
    refine J.cond_f rfl <| J.cskip <| J.blk_n <| J.then_n <| J.region <| J.m rfl <| J.p rfl (Q.add64 rfl rfl (by omega)) <| J.p rfl (Q.asg rfl) <| J.nil ?_
    have hck : nameCh c = true := by rw [nameCh_iff]; omega
    refine J.again (k + 1) ⟨by omega, all_take_succ hall (by simpa using hc) hck⟩ (by omega) ⟨rfl, rfl, trivial⟩ rfl
   refine J.k rfl <| J.k rfl <| J.p rfl (Q.pick_f rfl rfl) <| J.p rfl (Q.pick_f rfl rfl) <| J.m rfl <| J.m rfl <| J.p rfl (Q.eql rfl rfl) <| J.p rfl (Q.pick_f rfl rfl) <| J.m rfl ?_
   refine J.kases 40 rfl (fun hb40 => ?_) (fun hb40 => ?_)
   ·
    refine J.k rfl <| J.k rfl <| J.p rfl (Q.pick_t rfl rfl) <| J.p rfl (Q.not rfl) <| J.nil <| J.then_n <| J.cond_f rfl <| J.cskip <| J.blk_n <| J.then_n <| J.region <| J.m rfl <| J.p rfl (Q.add64 rfl rfl (by omega)) <| J.p rfl (Q.asg rfl) <| J.nil ?_
    have hck : nameCh c = true := by rw [nameCh_iff]; omega
    refine J.again (k + 1) ⟨by omega, all_take_succ hall (by simpa using hc) hck⟩ (by omega) ⟨rfl, rfl, trivial⟩ rfl
   refine J.m rfl <| J.p rfl (Q.eql rfl rfl) <| J.p rfl (Q.pick_f rfl rfl) <| J.p rfl (Q.not rfl) <| J.nil <| J.then_n ?_
   refine J.kases 44 rfl (fun hc44 => ?_) (fun hc44 => ?_)
   ·
    refine J.cond_t rfl <| J.seq <| J.region <| J.p rfl (Q.asg rfl) <| J.nil <| J.then_n <| J.cret <| J.blk_r <| J.then_r <| J.lp_r <| J.blk_r <| J.then_r ?_
    first
      | (have hck : nameCh c = false := by rw [nameCh_not]; omega
         refine J.ret1 (B := []) rfl rfl ⟨?_, rfl⟩ rfl
         rw [nameOK_bad (by simpa using hc) hck])
      | (refine J.ret1 (B := []) rfl rfl ⟨?_, rfl⟩ rfl
         rw [nameOK_good (by omega) (by omega) (by rw [← hall, hge, List.take_of_length_le (by omega)])])
   refine J.cond_f rfl <| J.cskip <| J.blk_n <| J.then_n <| J.region <| J.m rfl <| J.p rfl (Q.add64 rfl rfl (by omega)) <| J.p rfl (Q.asg rfl) <| J.nil ?_
   have hck : nameCh c = true := by rw [nameCh_iff]; omega
   refine J.again (k + 1) ⟨by omega, all_take_succ hall (by simpa using hc) hck⟩ (by omega) ⟨rfl, rfl, trivial⟩ rfl
  have hge : k = s.size := by omega
  refine J.cond_f rfl <| J.exit <| J.then_x <| J.lp_x <| J.blk_x <| J.then_n <| J.seq <| J.region <| J.p rfl (Q.asg rfl) <| J.nil <| J.then_n <| J.cret ?_
  first
    | (have hck : nameCh c = false := by rw [nameCh_not]; omega
       refine J.ret1 (B := []) rfl rfl ⟨?_, rfl⟩ rfl
       rw [nameOK_bad (by simpa using hc) hck])
    | (refine J.ret1 (B := []) rfl rfl ⟨?_, rfl⟩ rfl
       rw [nameOK_good (by omega) (by omega) (by rw [← hall, hge, List.take_of_length_le (by omega)])])

theorem key_spec (s : ByteArray) : FSpec Tryz.prog 28 [.string s] [] (fun v B => v = .bool (longB s.size 1 1024) ∧ B = []) := by
  refine FSpec.of func28 rfl ntmps28 rfl fun W0 F => ?_
  refine J.seq <| J.region <| J.p rfl (Q.asg rfl) <| J.nil <| J.then_n <| J.seq <| J.region <| J.m rfl <| J.p rfl (Q.lenS runUnderlying9 rfl) <| J.p rfl (Q.geq rfl rfl) <| J.m rfl ?_
  refine J.kases 6 rfl (fun hb6 => ?_) (fun hb6 => ?_)
  ·
   refine J.m rfl <| J.p rfl (Q.lenS runUnderlying9 rfl) <| J.p rfl (Q.leq rfl rfl) <| J.p rfl (Q.pick_t rfl rfl) <| J.p rfl (Q.asg rfl) <| J.nil <| J.then_n <| J.cret ?_
   refine J.ret1 (B := []) rfl rfl ⟨?_, rfl⟩ rfl
   simp [longB, *]
  refine J.k rfl <| J.k rfl <| J.k rfl <| J.p rfl (Q.pick_f rfl rfl) <| J.p rfl (Q.asg rfl) <| J.nil <| J.then_n <| J.cret ?_
  refine J.ret1 (B := []) rfl rfl ⟨?_, rfl⟩ rfl
  simp [longB, *]

def rise1 (l : List Int) (i : Nat) : Bool := decide (1 ≤ l.getD i 0) && decide (l.getD i 0 ≤ 10000) && (decide (i = 0) || decide (l.getD (i - 1) 0 < l.getD i 0))
def rises (l : List Int) (k : Nat) : Bool := (List.range k).all (rise1 l)
def partsOK (l : List Int) : Bool := decide (1 ≤ l.length) && decide (l.length ≤ 10000) && rises l l.length
theorem rises_succ {l : List Int} {k : Nat} : rises l (k + 1) = (rises l k && rise1 l k) := by simp [rises, List.range_succ]
theorem rises_bad {l : List Int} {k : Nat} (h : rise1 l k = false) : ∀ n, k < n → rises l n = false := by
  intro n hn
  cases e : rises l n with
  | false => rfl
  | true =>
    unfold rises at e
    rw [List.all_eq_true] at e
    have := e k (List.mem_range.2 hn); rw [h] at this; cases this

theorem getD_of {l : List Int} {k : Nat} {v : Int} (h : l[k]? = some v) : l.getD k 0 = v := by rw [List.getD_eq_getElem?_getD, h]; rfl

theorem rising_spec (G : Assn) (p : Option Addr) (n c : Nat) (l : List Int) (hl : SlR [G] 1 (.slice p n c) (l.map (Value.int .i64))) (hn : n ≤ 9223372036854775807) : FSpec Tryz.prog 72 [.slice p n c] [G] (fun v B => v = .bool (partsOK l) ∧ B = [G]) := by
  have hlen : l.length = n := by have := hl.len; simpa using this
  refine FSpec.of func72 rfl ntmps72 rfl fun W0 F => ?_
  refine J.seq <| J.region <| J.p rfl (Q.asg rfl) <| J.nil <| J.then_n <| J.seq <| J.seq <| J.region <| J.m rfl <| J.p rfl (Q.lenSl runUnderlying50 rfl) <| J.p rfl (Q.lss rfl rfl) <| J.m rfl ?_
  refine J.kases 8 rfl (fun hb8 => ?_) (fun hb8 => ?_)
  ·
   refine J.k rfl <| J.k rfl <| J.k rfl <| J.p rfl (Q.pick_t rfl rfl) <| J.nil <| J.then_n <| J.cond_t rfl <| J.seq <| J.region <| J.p rfl (Q.asg rfl) <| J.nil <| J.then_n <| J.cret <| J.then_r ?_
   refine J.ret1 (B := [G]) rfl rfl ⟨?_, rfl⟩ rfl
   have : ¬ 1 ≤ l.length := by omega
   simp [partsOK, this]
  refine J.m rfl <| J.p rfl (Q.lenSl runUnderlying50 rfl) <| J.p rfl (Q.gtr rfl rfl) <| J.p rfl (Q.pick_f rfl rfl) <| J.nil <| J.then_n ?_
  refine J.kases 12 rfl (fun hc12 => ?_) (fun hc12 => ?_)
  ·
   refine J.cond_t rfl <| J.seq <| J.region <| J.p rfl (Q.asg rfl) <| J.nil <| J.then_n <| J.cret <| J.then_r ?_
   refine J.ret1 (B := [G]) rfl rfl ⟨?_, rfl⟩ rfl
   have : ¬ l.length ≤ 10000 := by omega
   simp [partsOK, this]
  refine J.cond_f rfl <| J.cskip <| J.then_n <| J.seq <| J.seq <| J.region <| J.m rfl <| J.p rfl (Q.lenSl runUnderlying50 rfl) <| J.m rfl <| J.nil <| J.then_n <| J.block ?_
  refine J.loop (fun k : Nat => k ≤ n ∧ rises l k = true) (fun k => n - k) (fun k => [(0, .slice p n c), (13, .slice p n c), (14, .int .i64 n), (15, .int .i64 k)]) (fun _ => [G, F]) 0 ⟨by omega, rfl⟩ ⟨rfl, rfl, rfl, rfl, trivial⟩ rfl fun k hk => ?_
  obtain ⟨hk, hall⟩ := hk
  refine J.seq <| J.region <| J.p rfl (Q.lss rfl rfl) <| J.nil <| J.then_n <| J.seq ?_
  refine J.kases 16 rfl (fun hc16 => ?_) (fun hc16 => ?_)
  ·
   refine J.cond_t rfl <| J.cskip <| J.then_n <| J.seq <| J.block <| J.seq ?_
   have hlt : k < n := by omega
   obtain ⟨b, off, rfl, hrd⟩ := hl.some_ (by omega)
   obtain ⟨v, hv⟩ : ∃ v, l[k]? = some v := ⟨_, List.getElem?_eq_getElem (by omega)⟩
   have hvd := getD_of hv
   refine J.region <| J.m rfl <| J.p rfl (Q.ia runUnderlying50 sizeOf3 rfl rfl (by omega) (by omega)) ?_
   refine J.p rfl (Q.ld isAgg3 rfl (((hrd k (.int .i64 v) (by simp [hv])).within (i := 0) rfl).cast (by simp))) ?_
   refine J.p rfl (Q.asg rfl) <| J.p rfl (Q.asg rfl) <| J.nil <| J.then_n <| J.seq <| J.region <| J.m rfl <| J.p rfl (Q.lss rfl rfl) <| J.m rfl ?_
   refine J.kases 22 rfl (fun hb22 => ?_) (fun hb22 => ?_)
   ·
    refine J.k rfl <| J.k rfl <| J.p rfl (Q.pick_t rfl rfl) <| J.m rfl <| J.k rfl <| J.k rfl <| J.k rfl <| J.k rfl <| J.k rfl <| J.k rfl <| J.k rfl <| J.k rfl <| J.k rfl <| J.k rfl <| J.k rfl <| J.p rfl (Q.pick_t rfl rfl) <| J.nil <| J.then_n <| J.cond_t rfl <| J.seq <| J.region <| J.p rfl (Q.asg rfl) ?_
    refine J.nil <| J.then_n <| J.cret <| J.blk_r <| J.then_r <| J.lp_r <| J.blk_r <| J.then_r ?_
    first
      | (have hr1 : rise1 l k = false := by
           unfold rise1
           rw [hvd]
           first | rw [hud] | skip
           simp only [Bool.and_eq_false_iff, Bool.or_eq_false_iff, decide_eq_false_iff_not]; omega
         refine J.ret1 (B := [G]) rfl rfl ⟨?_, rfl⟩ rfl
         simp [partsOK, rises_bad hr1 l.length (by omega)])
      | (refine J.ret1 (B := [G]) rfl rfl ⟨?_, rfl⟩ rfl
         have hkn : k = n := by omega
         rw [hkn, ← hlen] at hall
         simp only [partsOK, hall, Bool.and_true]
         simp; omega)
   refine J.m rfl <| J.p rfl (Q.gtr rfl rfl) <| J.p rfl (Q.pick_f rfl rfl) <| J.m rfl ?_
   refine J.kases 26 rfl (fun hb26 => ?_) (fun hb26 => ?_)
   ·
    refine J.k rfl <| J.k rfl <| J.k rfl <| J.k rfl <| J.k rfl <| J.k rfl <| J.k rfl <| J.k rfl <| J.k rfl <| J.k rfl <| J.k rfl <| J.p rfl (Q.pick_t rfl rfl) <| J.nil <| J.then_n <| J.cond_t rfl <| J.seq <| J.region <| J.p rfl (Q.asg rfl) <| J.nil <| J.then_n <| J.cret <| J.blk_r <| J.then_r <| J.lp_r <| J.blk_r <| J.then_r ?_
    first
      | (have hr1 : rise1 l k = false := by
           unfold rise1
           rw [hvd]
           first | rw [hud] | skip
           simp only [Bool.and_eq_false_iff, Bool.or_eq_false_iff, decide_eq_false_iff_not]; omega
         refine J.ret1 (B := [G]) rfl rfl ⟨?_, rfl⟩ rfl
         simp [partsOK, rises_bad hr1 l.length (by omega)])
      | (refine J.ret1 (B := [G]) rfl rfl ⟨?_, rfl⟩ rfl
         have hkn : k = n := by omega
         rw [hkn, ← hlen] at hall
         simp only [partsOK, hall, Bool.and_true]
         simp; omega)
   refine J.m rfl <| J.p rfl (Q.gtr rfl rfl) <| J.m rfl ?_
   refine J.kases 29 rfl (fun hb29 => ?_) (fun hb29 => ?_)
   ·
    refine J.m rfl <| J.m rfl <| J.m rfl <| J.p rfl (Q.sub64 rfl rfl (by omega)) ?_
    obtain ⟨u, hu⟩ : ∃ u, l[k - 1]? = some u := ⟨_, List.getElem?_eq_getElem (by omega)⟩
    have hud := getD_of hu
    refine J.p rfl (Q.ia runUnderlying50 sizeOf3 rfl rfl (by omega) (by omega)) ?_
    refine J.p rfl (Q.ld isAgg3 rfl (((hrd (k - 1) (.int .i64 u) (by simp [hu])).within (i := 0) rfl).cast (by simp))) ?_
    refine J.p rfl (Q.leq rfl rfl) <| J.p rfl (Q.pick_t rfl rfl) <| J.p rfl (Q.pick_f rfl rfl) <| J.nil <| J.then_n ?_
    refine J.kases 38 rfl (fun hc38 => ?_) (fun hc38 => ?_)
    ·
     refine J.cond_t rfl <| J.seq <| J.region <| J.p rfl (Q.asg rfl) <| J.nil <| J.then_n <| J.cret <| J.blk_r <| J.then_r <| J.lp_r <| J.blk_r <| J.then_r ?_
     first
       | (have hr1 : rise1 l k = false := by
            unfold rise1
            rw [hvd]
            first | rw [hud] | skip
            simp only [Bool.and_eq_false_iff, Bool.or_eq_false_iff, decide_eq_false_iff_not]; omega
          refine J.ret1 (B := [G]) rfl rfl ⟨?_, rfl⟩ rfl
          simp [partsOK, rises_bad hr1 l.length (by omega)])
       | (refine J.ret1 (B := [G]) rfl rfl ⟨?_, rfl⟩ rfl
          have hkn : k = n := by omega
          rw [hkn, ← hlen] at hall
          simp only [partsOK, hall, Bool.and_true]
          simp; omega)
    refine J.cond_f rfl <| J.cskip <| J.blk_n <| J.then_n <| J.region <| J.p rfl (Q.add64 rfl rfl (by omega)) <| J.m rfl <| J.nil ?_
    have hr1 : rise1 l k = true := by
      unfold rise1
      rw [hvd]
      first | rw [hud] | skip
      simp only [Bool.and_eq_true, Bool.or_eq_true, decide_eq_true_eq]; omega
    refine J.again (k + 1) ⟨by omega, by rw [rises_succ, hall, hr1]; rfl⟩ (by omega) ⟨rfl, rfl, rfl, rfl, trivial⟩ rfl
   refine J.k rfl <| J.k rfl <| J.k rfl <| J.k rfl <| J.k rfl <| J.k rfl <| J.k rfl <| J.p rfl (Q.pick_f rfl rfl) <| J.p rfl (Q.pick_f rfl rfl) <| J.nil <| J.then_n <| J.cond_f rfl <| J.cskip <| J.blk_n <| J.then_n <| J.region <| J.p rfl (Q.add64 rfl rfl (by omega)) <| J.m rfl <| J.nil ?_
   have hr1 : rise1 l k = true := by
     unfold rise1
     rw [hvd]
     first | rw [hud] | skip
     simp only [Bool.and_eq_true, Bool.or_eq_true, decide_eq_true_eq]; omega
   refine J.again (k + 1) ⟨by omega, by rw [rises_succ, hall, hr1]; rfl⟩ (by omega) ⟨rfl, rfl, rfl, rfl, trivial⟩ rfl
  refine J.cond_f rfl <| J.exit <| J.then_x <| J.lp_x <| J.blk_x <| J.then_n <| J.seq <| J.region <| J.p rfl (Q.asg rfl) <| J.nil <| J.then_n <| J.cret ?_
  first
    | (have hr1 : rise1 l k = false := by
         unfold rise1
         rw [hvd]
         first | rw [hud] | skip
         simp only [Bool.and_eq_false_iff, Bool.or_eq_false_iff, decide_eq_false_iff_not]; omega
       refine J.ret1 (B := [G]) rfl rfl ⟨?_, rfl⟩ rfl
       simp [partsOK, rises_bad hr1 l.length (by omega)])
    | (refine J.ret1 (B := [G]) rfl rfl ⟨?_, rfl⟩ rfl
       have hkn : k = n := by omega
       rw [hkn, ← hlen] at hall
       simp only [partsOK, hall, Bool.and_true]
       simp; omega)

theorem parts_spec (G : Assn) (p : Option Addr) (n c : Nat) (l : List Int) (hl : SlR [G] 1 (.slice p n c) (l.map (Value.int .i64))) (hn : n ≤ 9223372036854775807) : FSpec Tryz.prog 29 [.slice p n c] [G] (fun v B => v = .bool (partsOK l) ∧ B = [G]) := by
  have hlen : l.length = n := by have := hl.len; simpa using this
  refine FSpec.of func29 rfl ntmps29 rfl fun W0 F => ?_
  refine J.seq <| J.region <| J.p rfl (Q.asg rfl) <| J.nil <| J.then_n <| J.seq <| J.seq <| J.region <| J.m rfl <| J.p rfl (Q.lenSl runUnderlying50 rfl) <| J.p rfl (Q.lss rfl rfl) <| J.m rfl ?_
  refine J.kases 7 rfl (fun hb7 => ?_) (fun hb7 => ?_)
  ·
   refine J.k rfl <| J.k rfl <| J.k rfl <| J.p rfl (Q.pick_t rfl rfl) <| J.nil <| J.then_n <| J.cond_t rfl <| J.seq <| J.region <| J.p rfl (Q.asg rfl) <| J.nil <| J.then_n <| J.cret <| J.then_r ?_
   refine J.ret1 (B := [G]) rfl rfl ⟨?_, rfl⟩ rfl
   have : ¬ 1 ≤ l.length := by omega
   simp [partsOK, this]
  refine J.m rfl <| J.p rfl (Q.lenSl runUnderlying50 rfl) <| J.p rfl (Q.gtr rfl rfl) <| J.p rfl (Q.pick_f rfl rfl) <| J.nil <| J.then_n ?_
  refine J.kases 11 rfl (fun hc11 => ?_) (fun hc11 => ?_)
  ·
   refine J.cond_t rfl <| J.seq <| J.region <| J.p rfl (Q.asg rfl) <| J.nil <| J.then_n <| J.cret <| J.then_r ?_
   refine J.ret1 (B := [G]) rfl rfl ⟨?_, rfl⟩ rfl
   have : ¬ l.length ≤ 10000 := by omega
   simp [partsOK, this]
  refine J.cond_f rfl <| J.cskip <| J.then_n <| J.seq <| J.seq <| J.region <| J.p rfl (Q.asg rfl) <| J.nil <| J.then_n <| J.block ?_
  refine J.loop (fun k : Nat => k ≤ n ∧ rises l k = true) (fun k => n - k) (fun k => [(0, .slice p n c), (3, .int .i64 k)]) (fun _ => [G, F]) 0 ⟨by omega, rfl⟩ ⟨rfl, rfl, trivial⟩ rfl fun k hk => ?_
  obtain ⟨hk, hall⟩ := hk
  refine J.seq <| J.seq <| J.region <| J.m rfl <| J.m rfl <| J.p rfl (Q.lenSl runUnderlying50 rfl) <| J.p rfl (Q.lss rfl rfl) <| J.nil <| J.then_n ?_
  refine J.kases 15 rfl (fun hc15 => ?_) (fun hc15 => ?_)
  ·
   refine J.cond_t rfl <| J.cskip <| J.then_n <| J.seq <| J.block <| J.seq ?_
   have hlt : k < n := by omega
   obtain ⟨b, off, rfl, hrd⟩ := hl.some_ (by omega)
   obtain ⟨v, hv⟩ : ∃ v, l[k]? = some v := ⟨_, List.getElem?_eq_getElem (by omega)⟩
   have hvd := getD_of hv
   refine J.draw [] Tryz.mixed (by kernel_rfl) fun hR => ?_
   refine RG.p 0 hR rfl (Q.mv rfl) <| RG.p 1 hR rfl (Q.mv rfl) <| RG.p 2 hR rfl (Q.ia runUnderlying50 sizeOf3 rfl rfl (by omega) (by omega)) ?_
   refine RG.p 3 hR rfl (Q.ld isAgg3 rfl (((hrd k (.int .i64 v) (by simp [hv])).within (i := 0) rfl).cast (by simp))) ?_
   refine RG.p 4 hR rfl (Q.lss rfl rfl) <| RG.p 5 hR rfl (Q.mv rfl) ?_
   refine RG.cases 23 rfl (fun hb23 => ?_) (fun hb23 => ?_)
   ·
    replace hb23 := X.nm hb23
    refine RG.k 6 hR rfl <| RG.k 7 hR rfl <| RG.k 8 hR rfl <| RG.k 9 hR rfl <| RG.k 10 hR rfl <| RG.p 11 hR rfl (Q.pick_t rfl rfl) <| RG.p 12 hR rfl (Q.mv rfl) <| RG.k 13 hR rfl <| RG.k 14 hR rfl <| RG.k 15 hR rfl ?_
    refine RG.k 16 hR rfl <| RG.k 17 hR rfl <| RG.k 18 hR rfl <| RG.k 19 hR rfl <| RG.k 20 hR rfl <| RG.k 21 hR rfl <| RG.k 22 hR rfl <| RG.k 23 hR rfl <| RG.k 24 hR rfl <| RG.k 25 hR rfl ?_
    refine RG.k 26 hR rfl <| RG.p 27 hR rfl (Q.pick_t rfl rfl) ?_
    refine RG.fin hR rfl ?_
    refine J.norm rfl <| J.then_n <| J.cond_t rfl <| J.seq <| J.region <| J.p rfl (Q.asg rfl) <| J.nil <| J.then_n <| J.cret <| J.blk_r <| J.then_r <| J.lp_r <| J.blk_r <| J.then_r ?_
    first
      | (have hr1 : rise1 l k = false := by
           unfold rise1
           rw [hvd]
           first | rw [hud] | skip
           simp only [Bool.and_eq_false_iff, Bool.or_eq_false_iff, decide_eq_false_iff_not]; omega
         refine J.ret1 (B := [G]) rfl rfl ⟨?_, rfl⟩ rfl
         simp [partsOK, rises_bad hr1 l.length (by omega)])
      | (refine J.ret1 (B := [G]) rfl rfl ⟨?_, rfl⟩ rfl
         have hkn : k = n := by omega
         rw [hkn, ← hlen] at hall
         simp only [partsOK, hall, Bool.and_true]
         simp; omega)
   replace hb23 := X.nm hb23
   refine RG.p 6 hR rfl (Q.mv rfl) <| RG.p 7 hR rfl (Q.mv rfl) <| RG.p 8 hR rfl (Q.ia runUnderlying50 sizeOf3 rfl rfl (by omega) (by omega)) ?_
   refine RG.p 9 hR rfl (Q.ld isAgg3 rfl (((hrd k (.int .i64 v) (by simp [hv])).within (i := 0) rfl).cast (by simp))) ?_
   refine RG.p 10 hR rfl (Q.gtr rfl rfl) <| RG.p 11 hR rfl (Q.pick_f rfl rfl) <| RG.p 12 hR rfl (Q.mv rfl) ?_
   refine RG.cases 30 rfl (fun hb30 => ?_) (fun hb30 => ?_)
   ·
    replace hb30 := X.nm hb30
    refine RG.k 13 hR rfl <| RG.k 14 hR rfl <| RG.k 15 hR rfl <| RG.k 16 hR rfl <| RG.k 17 hR rfl <| RG.k 18 hR rfl <| RG.k 19 hR rfl <| RG.k 20 hR rfl <| RG.k 21 hR rfl <| RG.k 22 hR rfl ?_
    refine RG.k 23 hR rfl <| RG.k 24 hR rfl <| RG.k 25 hR rfl <| RG.k 26 hR rfl <| RG.p 27 hR rfl (Q.pick_t rfl rfl) ?_
    refine RG.fin hR rfl ?_
    refine J.norm rfl <| J.then_n <| J.cond_t rfl <| J.seq <| J.region <| J.p rfl (Q.asg rfl) <| J.nil <| J.then_n <| J.cret <| J.blk_r <| J.then_r <| J.lp_r <| J.blk_r <| J.then_r ?_
    first
      | (have hr1 : rise1 l k = false := by
           unfold rise1
           rw [hvd]
           first | rw [hud] | skip
           simp only [Bool.and_eq_false_iff, Bool.or_eq_false_iff, decide_eq_false_iff_not]; omega
         refine J.ret1 (B := [G]) rfl rfl ⟨?_, rfl⟩ rfl
         simp [partsOK, rises_bad hr1 l.length (by omega)])
      | (refine J.ret1 (B := [G]) rfl rfl ⟨?_, rfl⟩ rfl
         have hkn : k = n := by omega
         rw [hkn, ← hlen] at hall
         simp only [partsOK, hall, Bool.and_true]
         simp; omega)
   replace hb30 := X.nm hb30
   refine RG.p 13 hR rfl (Q.mv rfl) <| RG.p 14 hR rfl (Q.gtr rfl rfl) <| RG.p 15 hR rfl (Q.mv rfl) ?_
   refine RG.cases 33 rfl (fun hb33 => ?_) (fun hb33 => ?_)
   ·
    replace hb33 := X.nm hb33
    refine RG.p 16 hR rfl (Q.mv rfl) <| RG.p 17 hR rfl (Q.mv rfl) <| RG.p 18 hR rfl (Q.sub64 rfl rfl (by omega)) ?_
    obtain ⟨u, hu⟩ : ∃ u, l[k - 1]? = some u := ⟨_, List.getElem?_eq_getElem (by omega)⟩
    have hud := getD_of hu
    refine RG.p 19 hR rfl (Q.ia runUnderlying50 sizeOf3 rfl rfl (by omega) (by omega)) ?_
    refine RG.p 20 hR rfl (Q.ld isAgg3 rfl (((hrd (k - 1) (.int .i64 u) (by simp [hu])).within (i := 0) rfl).cast (by simp))) ?_
    refine RG.p 21 hR rfl (Q.mv rfl) <| RG.p 22 hR rfl (Q.mv rfl) <| RG.p 23 hR rfl (Q.ia runUnderlying50 sizeOf3 rfl rfl (by omega) (by omega)) ?_
    refine RG.p 24 hR rfl (Q.ld isAgg3 rfl (((hrd k (.int .i64 v) (by simp [hv])).within (i := 0) rfl).cast (by simp))) ?_
    refine RG.p 25 hR rfl (Q.geq rfl rfl) <| RG.p 26 hR rfl (Q.pick_t rfl rfl) <| RG.p 27 hR rfl (Q.pick_f rfl rfl) ?_
    refine RG.fin hR rfl ?_
    refine J.norm rfl <| J.then_n ?_
    refine J.kases 45 rfl (fun hc45 => ?_) (fun hc45 => ?_)
    ·
     refine J.cond_t rfl <| J.seq <| J.region <| J.p rfl (Q.asg rfl) <| J.nil <| J.then_n <| J.cret <| J.blk_r <| J.then_r <| J.lp_r <| J.blk_r <| J.then_r ?_
     first
       | (have hr1 : rise1 l k = false := by
            unfold rise1
            rw [hvd]
            first | rw [hud] | skip
            simp only [Bool.and_eq_false_iff, Bool.or_eq_false_iff, decide_eq_false_iff_not]; omega
          refine J.ret1 (B := [G]) rfl rfl ⟨?_, rfl⟩ rfl
          simp [partsOK, rises_bad hr1 l.length (by omega)])
       | (refine J.ret1 (B := [G]) rfl rfl ⟨?_, rfl⟩ rfl
          have hkn : k = n := by omega
          rw [hkn, ← hlen] at hall
          simp only [partsOK, hall, Bool.and_true]
          simp; omega)
    refine J.cond_f rfl <| J.cskip <| J.blk_n <| J.then_n <| J.region <| J.m rfl <| J.p rfl (Q.add64 rfl rfl (by omega)) <| J.p rfl (Q.asg rfl) <| J.nil ?_
    have hr1 : rise1 l k = true := by
      unfold rise1
      rw [hvd]
      first | rw [hud] | skip
      simp only [Bool.and_eq_true, Bool.or_eq_true, decide_eq_true_eq]; omega
    refine J.again (k + 1) ⟨by omega, by rw [rises_succ, hall, hr1]; rfl⟩ (by omega) ⟨rfl, rfl, trivial⟩ rfl
   replace hb33 := X.nm hb33
   refine RG.k 16 hR rfl <| RG.k 17 hR rfl <| RG.k 18 hR rfl <| RG.k 19 hR rfl <| RG.k 20 hR rfl <| RG.k 21 hR rfl <| RG.k 22 hR rfl <| RG.k 23 hR rfl <| RG.k 24 hR rfl <| RG.k 25 hR rfl ?_
   refine RG.p 26 hR rfl (Q.pick_f rfl rfl) <| RG.p 27 hR rfl (Q.pick_f rfl rfl) ?_
   refine RG.fin hR rfl ?_
   refine J.norm rfl <| J.then_n <| J.cond_f rfl <| J.cskip <| J.blk_n <| J.then_n <| J.region <| J.m rfl <| J.p rfl (Q.add64 rfl rfl (by omega)) <| J.p rfl (Q.asg rfl) <| J.nil ?_
   have hr1 : rise1 l k = true := by
     unfold rise1
     rw [hvd]
     first | rw [hud] | skip
     simp only [Bool.and_eq_true, Bool.or_eq_true, decide_eq_true_eq]; omega
   refine J.again (k + 1) ⟨by omega, by rw [rises_succ, hall, hr1]; rfl⟩ (by omega) ⟨rfl, rfl, trivial⟩ rfl
  refine J.cond_f rfl <| J.exit <| J.then_x <| J.lp_x <| J.blk_x <| J.then_n <| J.seq <| J.region <| J.p rfl (Q.asg rfl) <| J.nil <| J.then_n <| J.cret ?_
  first
    | (have hr1 : rise1 l k = false := by
         unfold rise1
         rw [hvd]
         first | rw [hud] | skip
         simp only [Bool.and_eq_false_iff, Bool.or_eq_false_iff, decide_eq_false_iff_not]; omega
       refine J.ret1 (B := [G]) rfl rfl ⟨?_, rfl⟩ rfl
       simp [partsOK, rises_bad hr1 l.length (by omega)])
    | (refine J.ret1 (B := [G]) rfl rfl ⟨?_, rfl⟩ rfl
       have hkn : k = n := by omega
       rw [hkn, ← hlen] at hall
       simp only [partsOK, hall, Bool.and_true]
       simp; omega)

theorem reads_spec (n : Int) : FSpec Tryz.prog 74 [.int .i64 n] [] (fun v B => v = .bool (decide (n = 4) || decide (n = 6)) ∧ B = []) := by
  refine FSpec.of func74 rfl ntmps74 rfl fun W0 F => ?_
  refine J.seq <| J.region <| J.p rfl (Q.asg rfl) <| J.nil <| J.then_n <| J.seq <| J.region <| J.m rfl <| J.p rfl (Q.eql rfl rfl) <| J.m rfl ?_
  refine J.kases 5 rfl (fun hb5 => ?_) (fun hb5 => ?_)
  ·
   refine J.k rfl <| J.k rfl <| J.p rfl (Q.pick_t rfl rfl) <| J.p rfl (Q.asg rfl) <| J.nil <| J.then_n <| J.cret ?_
   refine J.ret1 (B := []) rfl rfl ⟨?_, rfl⟩ rfl
   simp [*]
  refine J.m rfl <| J.p rfl (Q.eql rfl rfl) <| J.p rfl (Q.pick_f rfl rfl) <| J.p rfl (Q.asg rfl) <| J.nil <| J.then_n <| J.cret ?_
  refine J.ret1 (B := []) rfl rfl ⟨?_, rfl⟩ rfl
  simp [*]

theorem rreads_spec (n : Int) : FSpec Tryz.prog 32 [.int .i64 n] [] (fun v B => v = .bool (decide (n = 4) || decide (n = 6)) ∧ B = []) := by
  refine FSpec.of func32 rfl ntmps32 rfl fun W0 F => ?_
  refine J.seq <| J.region <| J.p rfl (Q.asg rfl) <| J.nil <| J.then_n <| J.seq <| J.region <| J.m rfl <| J.p rfl (Q.eql rfl rfl) <| J.m rfl ?_
  refine J.kases 5 rfl (fun hb5 => ?_) (fun hb5 => ?_)
  ·
   refine J.k rfl <| J.k rfl <| J.p rfl (Q.pick_t rfl rfl) <| J.p rfl (Q.asg rfl) <| J.nil <| J.then_n <| J.cret ?_
   refine J.ret1 (B := []) rfl rfl ⟨?_, rfl⟩ rfl
   simp [*]
  refine J.m rfl <| J.p rfl (Q.eql rfl rfl) <| J.p rfl (Q.pick_f rfl rfl) <| J.p rfl (Q.asg rfl) <| J.nil <| J.then_n <| J.cret ?_
  refine J.ret1 (B := []) rfl rfl ⟨?_, rfl⟩ rfl
  simp [*]

structure OM where
  id : Nat
  kind : Int
  bucket : ByteArray
  key : ByteArray
  after : ByteArray
  n : Int
  upload : Nat
  parts : List Int
  data : List UInt8

structure OW where
  o : OM
  pp : Option Addr
  pc : Nat
  dp : Option Addr
  dc : Nat

abbrev OW.cells (x : OW) : List Value := [.int .u64 x.o.id, .int .i64 x.o.kind, .string x.o.bucket, .string x.o.key, .string x.o.after, .int .i64 x.o.n, .int .u64 x.o.upload, .slice x.pp x.o.parts.length x.pc, .slice x.dp x.o.data.length x.dc]
theorem OW.cells_length (x : OW) : x.cells.length = 9 := rfl

structure OW.ok (G : Assn) (x : OW) : Prop where
  parts : SlR [G] 1 (.slice x.pp x.o.parts.length x.pc) (x.o.parts.map (Value.int .i64))
  data : SlR [G] 1 (.slice x.dp x.o.data.length x.dc) (bytesV x.o.data)
  small : x.o.bucket.size ≤ 9223372036854775807 ∧ x.o.key.size ≤ 9223372036854775807 ∧ x.o.after.size ≤ 9223372036854775807 ∧ x.o.parts.length ≤ 9223372036854775807 ∧ x.o.data.length ≤ 9223372036854775807

structure HM where
  bucket : Bool
  key : Bool
  list : Bool
  upload : Bool
  n : Bool
  parts : Bool
  data : Bool
def HM.cells (f : HM) : List Value := [.bool f.bucket, .bool f.key, .bool f.list, .bool f.upload, .bool f.n, .bool f.parts, .bool f.data]

def fieldsM (k : Int) : HM × Bool :=
  if k = 1 ∨ k = 2 then (⟨true, false, false, false, false, false, false⟩, true)
  else if k = 3 then (⟨true, true, false, false, false, false, true⟩, true)
  else if k = 4 ∨ k = 5 ∨ k = 7 then (⟨true, true, false, false, false, false, false⟩, true)
  else if k = 6 then (⟨true, false, true, false, false, false, false⟩, true)
  else if k = 8 then (⟨false, false, false, true, true, false, true⟩, true)
  else if k = 9 then (⟨false, false, false, true, false, true, false⟩, true)
  else if k = 10 then (⟨false, false, false, true, false, false, false⟩, true)
  else (⟨false, false, false, false, false, false, false⟩, false)

theorem fields_spec (k : Int) : FSpec Tryz.prog 69 [.int .i64 k] [] (fun v B => v = .tuple #[.agg (fieldsM k).1.cells.toArray, .bool (fieldsM k).2] ∧ B = []) := by
  refine FSpec.of func69 rfl ntmps69 rfl fun W0 F => ?_
  refine J.seq <| J.region ?_
  refine J.c rfl rfl (C.alloc (l := [_, _, _, _, _, _, _]) zeroValue159 rfl) ?_
  rintro _ _ ⟨b2, rfl, rfl⟩
  refine J.norm rfl <| J.p rfl (Q.asg rfl) <| J.nil <| J.then_n <| J.seq <| J.seq <| J.region <| J.m rfl <| J.nil <| J.then_n <| J.block <| J.seq <| J.seq <| J.region <| J.p rfl (Q.eql rfl rfl) <| J.p rfl (Q.asg rfl) <| J.nil <| J.then_n ?_
  refine J.kases 5 rfl (fun hc5 => ?_) (fun hc5 => ?_)
  ·
   refine J.cond_t rfl <| J.cskip <| J.then_n <| J.cond_t rfl <| J.seq <| J.region <| J.p rfl (Q.bld (l := [_, _, _, _, _, _, _]) runUnderlying159 zeroValue159 places159 rfl rfl) ?_
   refine J.stAJ (vs := [_, _, _, _, _, _, _]) rfl sizeOf159 rfl rfl ?_
   refine J.p rfl (Q.asg rfl) <| J.nil <| J.then_n <| J.cret <| J.blk_r <| J.then_r ?_
   refine J.retC2 [1] (vs := [_, _, _, _, _, _, _]) rfl rfl rfl isAgg159 sizeOf159 (ReadsN.pt 0 rfl) rfl (B := []) ⟨?_, rfl⟩
   simp [fieldsM, HM.cells, *] <;> (repeat' apply And.intro) <;> rfl
  refine J.cond_f rfl <| J.region <| J.p rfl (Q.eql rfl rfl) <| J.p rfl (Q.asg rfl) <| J.nil <| J.then_n ?_
  refine J.kases 5 rfl (fun hc5 => ?_) (fun hc5 => ?_)
  ·
   refine J.cond_t rfl <| J.seq <| J.region <| J.p rfl (Q.bld (l := [_, _, _, _, _, _, _]) runUnderlying159 zeroValue159 places159 rfl rfl) ?_
   refine J.stAJ (vs := [_, _, _, _, _, _, _]) rfl sizeOf159 rfl rfl ?_
   refine J.p rfl (Q.asg rfl) <| J.nil <| J.then_n <| J.cret <| J.blk_r <| J.then_r ?_
   refine J.retC2 [1] (vs := [_, _, _, _, _, _, _]) rfl rfl rfl isAgg159 sizeOf159 (ReadsN.pt 0 rfl) rfl (B := []) ⟨?_, rfl⟩
   simp [fieldsM, HM.cells, *] <;> (repeat' apply And.intro) <;> rfl
  refine J.cond_f rfl <| J.seq <| J.region <| J.p rfl (Q.eql rfl rfl) <| J.p rfl (Q.asg rfl) <| J.nil <| J.then_n ?_
  refine J.kases 9 rfl (fun hc9 => ?_) (fun hc9 => ?_)
  ·
   refine J.cond_t rfl <| J.seq <| J.region <| J.p rfl (Q.bld (l := [_, _, _, _, _, _, _]) runUnderlying159 zeroValue159 places159 rfl rfl) ?_
   refine J.stAJ (vs := [_, _, _, _, _, _, _]) rfl sizeOf159 rfl rfl ?_
   refine J.p rfl (Q.asg rfl) <| J.nil <| J.then_n <| J.cret <| J.blk_r <| J.then_r ?_
   refine J.retC2 [1] (vs := [_, _, _, _, _, _, _]) rfl rfl rfl isAgg159 sizeOf159 (ReadsN.pt 0 rfl) rfl (B := []) ⟨?_, rfl⟩
   simp [fieldsM, HM.cells, *] <;> (repeat' apply And.intro) <;> rfl
  refine J.cond_f rfl <| J.seq <| J.seq <| J.region <| J.p rfl (Q.eql rfl rfl) <| J.p rfl (Q.asg rfl) <| J.nil <| J.then_n ?_
  refine J.kases 12 rfl (fun hc12 => ?_) (fun hc12 => ?_)
  ·
   refine J.cond_t rfl <| J.cskip <| J.then_n <| J.cond_t rfl <| J.seq <| J.region <| J.p rfl (Q.bld (l := [_, _, _, _, _, _, _]) runUnderlying159 zeroValue159 places159 rfl rfl) ?_
   refine J.stAJ (vs := [_, _, _, _, _, _, _]) rfl sizeOf159 rfl rfl ?_
   refine J.p rfl (Q.asg rfl) <| J.nil <| J.then_n <| J.cret <| J.blk_r <| J.then_r ?_
   refine J.retC2 [1] (vs := [_, _, _, _, _, _, _]) rfl rfl rfl isAgg159 sizeOf159 (ReadsN.pt 0 rfl) rfl (B := []) ⟨?_, rfl⟩
   simp [fieldsM, HM.cells, *] <;> (repeat' apply And.intro) <;> rfl
  refine J.cond_f rfl <| J.seq <| J.region <| J.p rfl (Q.eql rfl rfl) <| J.p rfl (Q.asg rfl) <| J.nil <| J.then_n ?_
  refine J.kases 12 rfl (fun hc12 => ?_) (fun hc12 => ?_)
  ·
   refine J.cond_t rfl <| J.cskip <| J.then_n <| J.cond_t rfl <| J.seq <| J.region <| J.p rfl (Q.bld (l := [_, _, _, _, _, _, _]) runUnderlying159 zeroValue159 places159 rfl rfl) ?_
   refine J.stAJ (vs := [_, _, _, _, _, _, _]) rfl sizeOf159 rfl rfl ?_
   refine J.p rfl (Q.asg rfl) <| J.nil <| J.then_n <| J.cret <| J.blk_r <| J.then_r ?_
   refine J.retC2 [1] (vs := [_, _, _, _, _, _, _]) rfl rfl rfl isAgg159 sizeOf159 (ReadsN.pt 0 rfl) rfl (B := []) ⟨?_, rfl⟩
   simp [fieldsM, HM.cells, *] <;> (repeat' apply And.intro) <;> rfl
  refine J.cond_f rfl <| J.region <| J.p rfl (Q.eql rfl rfl) <| J.p rfl (Q.asg rfl) <| J.nil <| J.then_n ?_
  refine J.kases 12 rfl (fun hc12 => ?_) (fun hc12 => ?_)
  ·
   refine J.cond_t rfl <| J.seq <| J.region <| J.p rfl (Q.bld (l := [_, _, _, _, _, _, _]) runUnderlying159 zeroValue159 places159 rfl rfl) ?_
   refine J.stAJ (vs := [_, _, _, _, _, _, _]) rfl sizeOf159 rfl rfl ?_
   refine J.p rfl (Q.asg rfl) <| J.nil <| J.then_n <| J.cret <| J.blk_r <| J.then_r ?_
   refine J.retC2 [1] (vs := [_, _, _, _, _, _, _]) rfl rfl rfl isAgg159 sizeOf159 (ReadsN.pt 0 rfl) rfl (B := []) ⟨?_, rfl⟩
   simp [fieldsM, HM.cells, *] <;> (repeat' apply And.intro) <;> rfl
  refine J.cond_f rfl <| J.seq <| J.region <| J.p rfl (Q.eql rfl rfl) <| J.p rfl (Q.asg rfl) <| J.nil <| J.then_n ?_
  refine J.kases 17 rfl (fun hc17 => ?_) (fun hc17 => ?_)
  ·
   refine J.cond_t rfl <| J.seq <| J.region <| J.p rfl (Q.bld (l := [_, _, _, _, _, _, _]) runUnderlying159 zeroValue159 places159 rfl rfl) ?_
   refine J.stAJ (vs := [_, _, _, _, _, _, _]) rfl sizeOf159 rfl rfl ?_
   refine J.p rfl (Q.asg rfl) <| J.nil <| J.then_n <| J.cret <| J.blk_r <| J.then_r ?_
   refine J.retC2 [1] (vs := [_, _, _, _, _, _, _]) rfl rfl rfl isAgg159 sizeOf159 (ReadsN.pt 0 rfl) rfl (B := []) ⟨?_, rfl⟩
   simp [fieldsM, HM.cells, *] <;> (repeat' apply And.intro) <;> rfl
  refine J.cond_f rfl <| J.seq <| J.region <| J.p rfl (Q.eql rfl rfl) <| J.p rfl (Q.asg rfl) <| J.nil <| J.then_n ?_
  refine J.kases 20 rfl (fun hc20 => ?_) (fun hc20 => ?_)
  ·
   refine J.cond_t rfl <| J.seq <| J.region <| J.p rfl (Q.bld (l := [_, _, _, _, _, _, _]) runUnderlying159 zeroValue159 places159 rfl rfl) ?_
   refine J.stAJ (vs := [_, _, _, _, _, _, _]) rfl sizeOf159 rfl rfl ?_
   refine J.p rfl (Q.asg rfl) <| J.nil <| J.then_n <| J.cret <| J.blk_r <| J.then_r ?_
   refine J.retC2 [1] (vs := [_, _, _, _, _, _, _]) rfl rfl rfl isAgg159 sizeOf159 (ReadsN.pt 0 rfl) rfl (B := []) ⟨?_, rfl⟩
   simp [fieldsM, HM.cells, *] <;> (repeat' apply And.intro) <;> rfl
  refine J.cond_f rfl <| J.seq <| J.region <| J.p rfl (Q.eql rfl rfl) <| J.p rfl (Q.asg rfl) <| J.nil <| J.then_n ?_
  refine J.kases 23 rfl (fun hc23 => ?_) (fun hc23 => ?_)
  ·
   refine J.cond_t rfl <| J.seq <| J.region <| J.p rfl (Q.bld (l := [_, _, _, _, _, _, _]) runUnderlying159 zeroValue159 places159 rfl rfl) ?_
   refine J.stAJ (vs := [_, _, _, _, _, _, _]) rfl sizeOf159 rfl rfl ?_
   refine J.p rfl (Q.asg rfl) <| J.nil <| J.then_n <| J.cret <| J.blk_r <| J.then_r ?_
   refine J.retC2 [1] (vs := [_, _, _, _, _, _, _]) rfl rfl rfl isAgg159 sizeOf159 (ReadsN.pt 0 rfl) rfl (B := []) ⟨?_, rfl⟩
   simp [fieldsM, HM.cells, *] <;> (repeat' apply And.intro) <;> rfl
  refine J.cond_f rfl <| J.seq <| J.region <| J.p rfl (Q.eql rfl rfl) <| J.p rfl (Q.asg rfl) <| J.nil <| J.then_n ?_
  refine J.kases 26 rfl (fun hc26 => ?_) (fun hc26 => ?_)
  ·
   refine J.cond_t rfl <| J.seq <| J.region <| J.p rfl (Q.bld (l := [_, _, _, _, _, _, _]) runUnderlying159 zeroValue159 places159 rfl rfl) ?_
   refine J.stAJ (vs := [_, _, _, _, _, _, _]) rfl sizeOf159 rfl rfl ?_
   refine J.p rfl (Q.asg rfl) <| J.nil <| J.then_n <| J.cret <| J.blk_r <| J.then_r ?_
   refine J.retC2 [1] (vs := [_, _, _, _, _, _, _]) rfl rfl rfl isAgg159 sizeOf159 (ReadsN.pt 0 rfl) rfl (B := []) ⟨?_, rfl⟩
   simp [fieldsM, HM.cells, *] <;> (repeat' apply And.intro) <;> rfl
  refine J.cond_f rfl <| J.cskip <| J.blk_n <| J.then_n <| J.seq <| J.region <| J.p rfl (Q.bld (l := [_, _, _, _, _, _, _]) runUnderlying159 zeroValue159 places159 rfl rfl) ?_
  refine J.stAJ (vs := [_, _, _, _, _, _, _]) rfl sizeOf159 rfl rfl ?_
  refine J.p rfl (Q.asg rfl) <| J.nil <| J.then_n <| J.cret ?_
  refine J.retC2 [1] (vs := [_, _, _, _, _, _, _]) rfl rfl rfl isAgg159 sizeOf159 (ReadsN.pt 0 rfl) rfl (B := []) ⟨?_, rfl⟩
  simp [fieldsM, HM.cells, *] <;> (repeat' apply And.intro) <;> rfl

def emp (s : ByteArray) : Bool := decide (s.data.toList = [])
def OM.r0 (o : OM) (f : HM) (is : Bool) : Bool := is && (f.bucket && nameOK o.bucket.data.toList || !f.bucket && emp o.bucket)
def OM.r1 (o : OM) (f : HM) (r : Bool) : Bool := r && (if f.key then longB o.key.size 1 1024 else if f.list then longB o.key.size 0 1024 else emp o.key)
def OM.r2 (o : OM) (f : HM) (r : Bool) : Bool := r && (if f.list then longB o.after.size 0 1024 && decide (1 ≤ o.n) && decide (o.n ≤ 1000) else if f.n then emp o.after && decide (1 ≤ o.n) && decide (o.n ≤ 10000) else emp o.after && decide (o.n = 0))
def OM.r3 (o : OM) (f : HM) (r : Bool) : Bool := r && (f.upload || decide (o.upload = 0)) && (f.parts && partsOK o.parts || !f.parts && decide (o.parts.length = 0))
def OM.r4 (o : OM) (f : HM) (r : Bool) : Bool := r && !(f.data && decide (16777216 < o.data.length)) && !(!f.data && decide (0 < o.data.length))
def OM.chkB (o : OM) : Bool := o.r4 (fieldsM o.kind).1 (o.r3 (fieldsM o.kind).1 (o.r2 (fieldsM o.kind).1 (o.r1 (fieldsM o.kind).1 (o.r0 (fieldsM o.kind).1 (fieldsM o.kind).2))))

theorem check_spec (G : Assn) (x : OW) (hx : x.ok G) : FSpec Tryz.prog 46 [.agg x.cells.toArray] [G] (fun v B => v = .int .i64 (if x.o.chkB then 0 else 1) ∧ B = [G]) := by
  have hsm := hx.small
  refine FSpec.of func46 rfl ntmps46 rfl fun W0 F => ?_
  refine J.seq <| J.region ?_
  refine J.c rfl rfl (C.box (l := [_, _, _, _, _, _, _, _, _]) rfl rfl) ?_
  rintro _ _ ⟨b1, rfl, rfl⟩
  refine J.norm rfl <| J.p rfl (Q.asg rfl) <| J.nil <| J.then_n <| J.seq <| J.region <| J.p rfl (Q.fa (n := 1) runUnderlying52 rfl rfl sizeOf3 rfl) ?_
  refine J.p rfl (Q.ldI isAgg3 rfl) ?_
  refine J.call call69 (fields_spec x.o.kind) [] rfl rfl rfl rfl ?_
  rintro _ _ ⟨rfl, rfl⟩
  refine J.norm rfl ?_
  obtain ⟨f, hf⟩ : ∃ f, f = (fieldsM x.o.kind).1 := ⟨_, rfl⟩
  obtain ⟨is, his⟩ : ∃ is, is = (fieldsM x.o.kind).2 := ⟨_, rfl⟩
  rw [← hf, ← his]
  refine J.m rfl <| J.p rfl (Q.ext rfl rfl) <| J.p rfl (Q.ext rfl rfl) ?_
  refine J.c rfl rfl (C.alloc (l := [_, _, _, _, _, _, _]) zeroValue159 rfl) ?_
  rintro _ _ ⟨b3, rfl, rfl⟩
  refine J.norm rfl ?_
  refine J.stAJ (vs := [_, _, _, _, _, _, _]) rfl sizeOf159 rfl rfl ?_
  refine J.p rfl (Q.asg rfl) <| J.nil <| J.then_n ?_
  refine J.cut (fun r : Bool => r = x.o.r0 f is) (fun r => [(1, .pointer (some ⟨b1, 0, none⟩)), (3, .pointer (some ⟨b3, 0, none⟩)), (5, .bool r)]) (fun _ => [pt b3 (.cells f.cells.toArray 159 (0, 0)), pt b1 (.cells x.cells.toArray 52 (0, 0)), G, F]) ?_ fun r hr0 => ?_
  ·
   refine J.region <| J.m rfl <| J.m rfl ?_
   refine J.kases 13 rfl (fun hb13 => ?_) (fun hb13 => ?_)
   ·
    refine J.p rfl (Q.fa (n := 0) runUnderlying159 rfl rfl sizeOf4 rfl) ?_
    refine J.p rfl (Q.ldI isAgg4 rfl) ?_
    refine J.m rfl ?_
    refine J.kases 16 rfl (fun hb16 => ?_) (fun hb16 => ?_)
    ·
     refine J.p rfl (Q.fa (n := 2) runUnderlying52 rfl rfl sizeOf9 rfl) ?_
     refine J.p rfl (Q.ldI isAgg9 rfl) ?_
     refine J.call call70 (named_spec x.o.bucket (by omega)) [] rfl rfl rfl rfl ?_
     rintro _ _ ⟨rfl, rfl⟩
     refine J.norm rfl <| J.p rfl (Q.pick_t rfl rfl) <| J.m rfl ?_
     refine J.kases 21 rfl (fun hb21 => ?_) (fun hb21 => ?_)
     ·
      refine J.k rfl <| J.k rfl <| J.k rfl <| J.k rfl <| J.k rfl <| J.k rfl <| J.k rfl <| J.k rfl <| J.p rfl (Q.pick_t rfl rfl) <| J.p rfl (Q.pick_t rfl rfl) <| J.p rfl (Q.asg rfl) <| J.nil ?_
      refine J.meet _ ?_ ⟨rfl, rfl, rfl, trivial⟩ rfl
      clear hf his
      simp_all [OM.r0, emp, longB] <;> omega
     refine J.p rfl (Q.fa (n := 0) runUnderlying159 rfl rfl sizeOf4 rfl) ?_
     refine J.p rfl (Q.ldI isAgg4 rfl) ?_
     refine J.p rfl (Q.not rfl) <| J.m rfl ?_
     refine J.kases 25 rfl (fun hb25 => ?_) (fun hb25 => ?_)
     ·
      refine J.p rfl (Q.fa (n := 2) runUnderlying52 rfl rfl sizeOf9 rfl) ?_
      refine J.p rfl (Q.ldI isAgg9 rfl) ?_
      refine J.p rfl (Q.eqls rfl rfl) <| J.p rfl (Q.pick_t rfl rfl) <| J.p rfl (Q.pick_f rfl rfl) <| J.p rfl (Q.pick_t rfl rfl) <| J.p rfl (Q.asg rfl) <| J.nil ?_
      refine J.meet _ ?_ ⟨rfl, rfl, rfl, trivial⟩ rfl
      clear hf his
      simp_all [OM.r0, emp, longB] <;> omega
     refine J.k rfl <| J.k rfl <| J.k rfl <| J.p rfl (Q.pick_f rfl rfl) <| J.p rfl (Q.pick_f rfl rfl) <| J.p rfl (Q.pick_t rfl rfl) <| J.p rfl (Q.asg rfl) <| J.nil ?_
     refine J.meet _ ?_ ⟨rfl, rfl, rfl, trivial⟩ rfl
     clear hf his
     simp_all [OM.r0, emp, longB] <;> omega
    refine J.k rfl <| J.k rfl <| J.k rfl <| J.p rfl (Q.pick_f rfl rfl) <| J.m rfl <| J.p rfl (Q.fa (n := 0) runUnderlying159 rfl rfl sizeOf4 rfl) ?_
    refine J.p rfl (Q.ldI isAgg4 rfl) ?_
    refine J.p rfl (Q.not rfl) <| J.m rfl ?_
    refine J.kases 25 rfl (fun hb25 => ?_) (fun hb25 => ?_)
    ·
     refine J.p rfl (Q.fa (n := 2) runUnderlying52 rfl rfl sizeOf9 rfl) ?_
     refine J.p rfl (Q.ldI isAgg9 rfl) ?_
     refine J.p rfl (Q.eqls rfl rfl) <| J.p rfl (Q.pick_t rfl rfl) <| J.p rfl (Q.pick_f rfl rfl) <| J.p rfl (Q.pick_t rfl rfl) <| J.p rfl (Q.asg rfl) <| J.nil ?_
     refine J.meet _ ?_ ⟨rfl, rfl, rfl, trivial⟩ rfl
     clear hf his
     simp_all [OM.r0, emp, longB] <;> omega
    refine J.k rfl <| J.k rfl <| J.k rfl <| J.p rfl (Q.pick_f rfl rfl) <| J.p rfl (Q.pick_f rfl rfl) <| J.p rfl (Q.pick_t rfl rfl) <| J.p rfl (Q.asg rfl) <| J.nil ?_
    refine J.meet _ ?_ ⟨rfl, rfl, rfl, trivial⟩ rfl
    clear hf his
    simp_all [OM.r0, emp, longB] <;> omega
   refine J.k rfl <| J.k rfl <| J.k rfl <| J.k rfl <| J.k rfl <| J.k rfl <| J.k rfl <| J.k rfl <| J.k rfl <| J.k rfl <| J.k rfl <| J.k rfl <| J.k rfl <| J.k rfl <| J.k rfl <| J.k rfl <| J.k rfl <| J.p rfl (Q.pick_f rfl rfl) <| J.p rfl (Q.asg rfl) <| J.nil ?_
   refine J.meet _ ?_ ⟨rfl, rfl, rfl, trivial⟩ rfl
   clear hf his
   simp_all [OM.r0, emp, longB] <;> omega
  refine J.cut (fun q : Bool => q = x.o.r1 f r) (fun r => [(1, .pointer (some ⟨b1, 0, none⟩)), (3, .pointer (some ⟨b3, 0, none⟩)), (5, .bool r)]) (fun _ => [pt b3 (.cells f.cells.toArray 159 (0, 0)), pt b1 (.cells x.cells.toArray 52 (0, 0)), G, F]) ?_ fun q hr1 => ?_
  ·
   refine J.block <| J.seq <| J.region <| J.p rfl (Q.fa (n := 1) runUnderlying159 rfl rfl sizeOf4 rfl) ?_
   refine J.p rfl (Q.ldI isAgg4 rfl) ?_
   refine J.p rfl (Q.asg rfl) <| J.nil <| J.then_n ?_
   refine J.kases 38 rfl (fun hc38 => ?_) (fun hc38 => ?_)
   ·
    refine J.cond_t rfl <| J.region <| J.m rfl <| J.m rfl ?_
    refine J.kases 42 rfl (fun hb42 => ?_) (fun hb42 => ?_)
    ·
     refine J.p rfl (Q.fa (n := 3) runUnderlying52 rfl rfl sizeOf9 rfl) ?_
     refine J.p rfl (Q.ldI isAgg9 rfl) ?_
     refine J.call call71 (long_spec x.o.key 1 1024) [] rfl rfl rfl rfl ?_
     rintro _ _ ⟨rfl, rfl⟩
     refine J.norm rfl <| J.p rfl (Q.pick_t rfl rfl) <| J.p rfl (Q.asg rfl) <| J.nil <| J.blk_n ?_
     refine J.meet _ ?_ ⟨rfl, rfl, rfl, trivial⟩ rfl
     clear hf his hr0
     simp_all [OM.r1, emp, longB] <;> omega
    refine J.k rfl <| J.k rfl <| J.k rfl <| J.p rfl (Q.pick_f rfl rfl) <| J.p rfl (Q.asg rfl) <| J.nil <| J.blk_n ?_
    refine J.meet _ ?_ ⟨rfl, rfl, rfl, trivial⟩ rfl
    clear hf his hr0
    simp_all [OM.r1, emp, longB] <;> omega
   refine J.cond_f rfl <| J.seq <| J.region <| J.p rfl (Q.fa (n := 2) runUnderlying159 rfl rfl sizeOf4 rfl) ?_
   refine J.p rfl (Q.ldI isAgg4 rfl) ?_
   refine J.p rfl (Q.asg rfl) <| J.nil <| J.then_n ?_
   refine J.kases 47 rfl (fun hc47 => ?_) (fun hc47 => ?_)
   ·
    refine J.cond_t rfl <| J.region <| J.m rfl <| J.m rfl ?_
    refine J.kases 51 rfl (fun hb51 => ?_) (fun hb51 => ?_)
    ·
     refine J.p rfl (Q.fa (n := 3) runUnderlying52 rfl rfl sizeOf9 rfl) ?_
     refine J.p rfl (Q.ldI isAgg9 rfl) ?_
     refine J.call call71 (long_spec x.o.key 0 1024) [] rfl rfl rfl rfl ?_
     rintro _ _ ⟨rfl, rfl⟩
     refine J.norm rfl <| J.p rfl (Q.pick_t rfl rfl) <| J.p rfl (Q.asg rfl) <| J.nil <| J.blk_n ?_
     refine J.meet _ ?_ ⟨rfl, rfl, rfl, trivial⟩ rfl
     clear hf his hr0
     simp_all [OM.r1, emp, longB] <;> omega
    refine J.k rfl <| J.k rfl <| J.k rfl <| J.p rfl (Q.pick_f rfl rfl) <| J.p rfl (Q.asg rfl) <| J.nil <| J.blk_n ?_
    refine J.meet _ ?_ ⟨rfl, rfl, rfl, trivial⟩ rfl
    clear hf his hr0
    simp_all [OM.r1, emp, longB] <;> omega
   refine J.cond_f rfl <| J.region <| J.m rfl <| J.m rfl ?_
   refine J.kases 33 rfl (fun hb33 => ?_) (fun hb33 => ?_)
   ·
    refine J.p rfl (Q.fa (n := 3) runUnderlying52 rfl rfl sizeOf9 rfl) ?_
    refine J.p rfl (Q.ldI isAgg9 rfl) ?_
    refine J.p rfl (Q.eqls rfl rfl) <| J.p rfl (Q.pick_t rfl rfl) <| J.p rfl (Q.asg rfl) <| J.nil <| J.blk_n ?_
    refine J.meet _ ?_ ⟨rfl, rfl, rfl, trivial⟩ rfl
    clear hf his hr0
    simp_all [OM.r1, emp, longB] <;> omega
   refine J.k rfl <| J.k rfl <| J.k rfl <| J.p rfl (Q.pick_f rfl rfl) <| J.p rfl (Q.asg rfl) <| J.nil <| J.blk_n ?_
   refine J.meet _ ?_ ⟨rfl, rfl, rfl, trivial⟩ rfl
   clear hf his hr0
   simp_all [OM.r1, emp, longB] <;> omega
  refine J.cut (fun p : Bool => p = x.o.r2 f q) (fun r => [(1, .pointer (some ⟨b1, 0, none⟩)), (3, .pointer (some ⟨b3, 0, none⟩)), (5, .bool r)]) (fun _ => [pt b3 (.cells f.cells.toArray 159 (0, 0)), pt b1 (.cells x.cells.toArray 52 (0, 0)), G, F]) ?_ fun p hr2 => ?_
  ·
   refine J.block <| J.seq <| J.region <| J.p rfl (Q.fa (n := 2) runUnderlying159 rfl rfl sizeOf4 rfl) ?_
   refine J.p rfl (Q.ldI isAgg4 rfl) ?_
   refine J.p rfl (Q.asg rfl) <| J.nil <| J.then_n ?_
   refine J.kases 67 rfl (fun hc67 => ?_) (fun hc67 => ?_)
   ·
    refine J.cond_t rfl <| J.region <| J.m rfl <| J.m rfl ?_
    refine J.kases 71 rfl (fun hb71 => ?_) (fun hb71 => ?_)
    ·
     refine J.p rfl (Q.fa (n := 4) runUnderlying52 rfl rfl sizeOf9 rfl) ?_
     refine J.p rfl (Q.ldI isAgg9 rfl) ?_
     refine J.call call71 (long_spec x.o.after 0 1024) [] rfl rfl rfl rfl ?_
     rintro _ _ ⟨rfl, rfl⟩
     refine J.norm rfl <| J.p rfl (Q.pick_t rfl rfl) <| J.m rfl ?_
     refine J.kases 76 rfl (fun hb76 => ?_) (fun hb76 => ?_)
     ·
      refine J.p rfl (Q.fa (n := 5) runUnderlying52 rfl rfl sizeOf3 rfl) ?_
      refine J.p rfl (Q.ldI isAgg3 rfl) ?_
      refine J.p rfl (Q.geq rfl rfl) <| J.p rfl (Q.pick_t rfl rfl) <| J.m rfl ?_
      refine J.kases 81 rfl (fun hb81 => ?_) (fun hb81 => ?_)
      ·
       refine J.p rfl (Q.fa (n := 5) runUnderlying52 rfl rfl sizeOf3 rfl) ?_
       refine J.p rfl (Q.ldI isAgg3 rfl) ?_
       refine J.p rfl (Q.leq rfl rfl) <| J.p rfl (Q.pick_t rfl rfl) <| J.p rfl (Q.asg rfl) <| J.nil <| J.blk_n ?_
       refine J.meet _ ?_ ⟨rfl, rfl, rfl, trivial⟩ rfl
       clear hf his hr0 hr1
       simp_all [OM.r2, emp, longB] <;> omega
      refine J.k rfl <| J.k rfl <| J.k rfl <| J.p rfl (Q.pick_f rfl rfl) <| J.p rfl (Q.asg rfl) <| J.nil <| J.blk_n ?_
      refine J.meet _ ?_ ⟨rfl, rfl, rfl, trivial⟩ rfl
      clear hf his hr0 hr1
      simp_all [OM.r2, emp, longB] <;> omega
     refine J.k rfl <| J.k rfl <| J.k rfl <| J.p rfl (Q.pick_f rfl rfl) <| J.m rfl <| J.k rfl <| J.k rfl <| J.k rfl <| J.p rfl (Q.pick_f rfl rfl) <| J.p rfl (Q.asg rfl) <| J.nil <| J.blk_n ?_
     refine J.meet _ ?_ ⟨rfl, rfl, rfl, trivial⟩ rfl
     clear hf his hr0 hr1
     simp_all [OM.r2, emp, longB] <;> omega
    refine J.k rfl <| J.k rfl <| J.k rfl <| J.p rfl (Q.pick_f rfl rfl) <| J.m rfl <| J.k rfl <| J.k rfl <| J.k rfl <| J.p rfl (Q.pick_f rfl rfl) <| J.m rfl <| J.k rfl <| J.k rfl <| J.k rfl <| J.p rfl (Q.pick_f rfl rfl) <| J.p rfl (Q.asg rfl) <| J.nil <| J.blk_n ?_
    refine J.meet _ ?_ ⟨rfl, rfl, rfl, trivial⟩ rfl
    clear hf his hr0 hr1
    simp_all [OM.r2, emp, longB] <;> omega
   refine J.cond_f rfl <| J.seq <| J.region <| J.p rfl (Q.fa (n := 4) runUnderlying159 rfl rfl sizeOf4 rfl) ?_
   refine J.p rfl (Q.ldI isAgg4 rfl) ?_
   refine J.p rfl (Q.asg rfl) <| J.nil <| J.then_n ?_
   refine J.kases 86 rfl (fun hc86 => ?_) (fun hc86 => ?_)
   ·
    refine J.cond_t rfl <| J.region <| J.m rfl <| J.m rfl ?_
    refine J.kases 90 rfl (fun hb90 => ?_) (fun hb90 => ?_)
    ·
     refine J.p rfl (Q.fa (n := 4) runUnderlying52 rfl rfl sizeOf9 rfl) ?_
     refine J.p rfl (Q.ldI isAgg9 rfl) ?_
     refine J.p rfl (Q.eqls rfl rfl) <| J.p rfl (Q.pick_t rfl rfl) <| J.m rfl ?_
     refine J.kases 95 rfl (fun hb95 => ?_) (fun hb95 => ?_)
     ·
      refine J.p rfl (Q.fa (n := 5) runUnderlying52 rfl rfl sizeOf3 rfl) ?_
      refine J.p rfl (Q.ldI isAgg3 rfl) ?_
      refine J.p rfl (Q.geq rfl rfl) <| J.p rfl (Q.pick_t rfl rfl) <| J.m rfl ?_
      refine J.kases 100 rfl (fun hb100 => ?_) (fun hb100 => ?_)
      ·
       refine J.p rfl (Q.fa (n := 5) runUnderlying52 rfl rfl sizeOf3 rfl) ?_
       refine J.p rfl (Q.ldI isAgg3 rfl) ?_
       refine J.p rfl (Q.leq rfl rfl) <| J.p rfl (Q.pick_t rfl rfl) <| J.p rfl (Q.asg rfl) <| J.nil <| J.blk_n ?_
       refine J.meet _ ?_ ⟨rfl, rfl, rfl, trivial⟩ rfl
       clear hf his hr0 hr1
       simp_all [OM.r2, emp, longB] <;> omega
      refine J.k rfl <| J.k rfl <| J.k rfl <| J.p rfl (Q.pick_f rfl rfl) <| J.p rfl (Q.asg rfl) <| J.nil <| J.blk_n ?_
      refine J.meet _ ?_ ⟨rfl, rfl, rfl, trivial⟩ rfl
      clear hf his hr0 hr1
      simp_all [OM.r2, emp, longB] <;> omega
     refine J.k rfl <| J.k rfl <| J.k rfl <| J.p rfl (Q.pick_f rfl rfl) <| J.m rfl <| J.k rfl <| J.k rfl <| J.k rfl <| J.p rfl (Q.pick_f rfl rfl) <| J.p rfl (Q.asg rfl) <| J.nil <| J.blk_n ?_
     refine J.meet _ ?_ ⟨rfl, rfl, rfl, trivial⟩ rfl
     clear hf his hr0 hr1
     simp_all [OM.r2, emp, longB] <;> omega
    refine J.k rfl <| J.k rfl <| J.k rfl <| J.p rfl (Q.pick_f rfl rfl) <| J.m rfl <| J.k rfl <| J.k rfl <| J.k rfl <| J.p rfl (Q.pick_f rfl rfl) <| J.m rfl <| J.k rfl <| J.k rfl <| J.k rfl <| J.p rfl (Q.pick_f rfl rfl) <| J.p rfl (Q.asg rfl) <| J.nil <| J.blk_n ?_
    refine J.meet _ ?_ ⟨rfl, rfl, rfl, trivial⟩ rfl
    clear hf his hr0 hr1
    simp_all [OM.r2, emp, longB] <;> omega
   refine J.cond_f rfl <| J.region <| J.m rfl <| J.m rfl ?_
   refine J.kases 57 rfl (fun hb57 => ?_) (fun hb57 => ?_)
   ·
    refine J.p rfl (Q.fa (n := 4) runUnderlying52 rfl rfl sizeOf9 rfl) ?_
    refine J.p rfl (Q.ldI isAgg9 rfl) ?_
    refine J.p rfl (Q.eqls rfl rfl) <| J.p rfl (Q.pick_t rfl rfl) <| J.m rfl ?_
    refine J.kases 62 rfl (fun hb62 => ?_) (fun hb62 => ?_)
    ·
     refine J.p rfl (Q.fa (n := 5) runUnderlying52 rfl rfl sizeOf3 rfl) ?_
     refine J.p rfl (Q.ldI isAgg3 rfl) ?_
     refine J.p rfl (Q.eql rfl rfl) <| J.p rfl (Q.pick_t rfl rfl) <| J.p rfl (Q.asg rfl) <| J.nil <| J.blk_n ?_
     refine J.meet _ ?_ ⟨rfl, rfl, rfl, trivial⟩ rfl
     clear hf his hr0 hr1
     simp_all [OM.r2, emp, longB] <;> omega
    refine J.k rfl <| J.k rfl <| J.k rfl <| J.p rfl (Q.pick_f rfl rfl) <| J.p rfl (Q.asg rfl) <| J.nil <| J.blk_n ?_
    refine J.meet _ ?_ ⟨rfl, rfl, rfl, trivial⟩ rfl
    clear hf his hr0 hr1
    simp_all [OM.r2, emp, longB] <;> omega
   refine J.k rfl <| J.k rfl <| J.k rfl <| J.p rfl (Q.pick_f rfl rfl) <| J.m rfl <| J.k rfl <| J.k rfl <| J.k rfl <| J.p rfl (Q.pick_f rfl rfl) <| J.p rfl (Q.asg rfl) <| J.nil <| J.blk_n ?_
   refine J.meet _ ?_ ⟨rfl, rfl, rfl, trivial⟩ rfl
   clear hf his hr0 hr1
   simp_all [OM.r2, emp, longB] <;> omega
  refine J.cut (fun s : Bool => s = x.o.r3 f p) (fun r => [(1, .pointer (some ⟨b1, 0, none⟩)), (3, .pointer (some ⟨b3, 0, none⟩)), (5, .bool r)]) (fun _ => [pt b3 (.cells f.cells.toArray 159 (0, 0)), pt b1 (.cells x.cells.toArray 52 (0, 0)), G, F]) ?_ fun s hr3 => ?_
  ·
   refine J.region <| J.m rfl <| J.m rfl ?_
   refine J.kases 106 rfl (fun hb106 => ?_) (fun hb106 => ?_)
   ·
    refine J.p rfl (Q.fa (n := 3) runUnderlying159 rfl rfl sizeOf4 rfl) ?_
    refine J.p rfl (Q.ldI isAgg4 rfl) ?_
    refine J.m rfl ?_
    refine J.kases 109 rfl (fun hb109 => ?_) (fun hb109 => ?_)
    ·
     refine J.k rfl <| J.k rfl <| J.k rfl <| J.p rfl (Q.pick_t rfl rfl) <| J.p rfl (Q.pick_t rfl rfl) <| J.m rfl <| J.p rfl (Q.fa (n := 5) runUnderlying159 rfl rfl sizeOf4 rfl) ?_
     refine J.p rfl (Q.ldI isAgg4 rfl) ?_
     refine J.m rfl ?_
     refine J.kases 118 rfl (fun hb118 => ?_) (fun hb118 => ?_)
     ·
      refine J.p rfl (Q.fa (n := 7) runUnderlying52 rfl rfl sizeOf50 rfl) ?_
      refine J.p rfl (Q.ldI isAgg50 rfl) ?_
      refine J.call call72 (rising_spec G x.pp x.o.parts.length x.pc x.o.parts hx.parts (by omega)) [2] rfl rfl rfl rfl ?_
      rintro _ _ ⟨rfl, rfl⟩
      refine J.norm rfl <| J.p rfl (Q.pick_t rfl rfl) <| J.m rfl ?_
      refine J.kases 123 rfl (fun hb123 => ?_) (fun hb123 => ?_)
      ·
       refine J.k rfl <| J.k rfl <| J.k rfl <| J.k rfl <| J.k rfl <| J.k rfl <| J.k rfl <| J.k rfl <| J.k rfl <| J.p rfl (Q.pick_t rfl rfl) <| J.p rfl (Q.pick_t rfl rfl) <| J.p rfl (Q.asg rfl) <| J.nil ?_
       first
         | refine J.meet _ ?_ ⟨rfl, rfl, rfl, trivial⟩ rfl
         | (refine J.keep [1, 2, 0, 3] rfl ?_
            refine J.meet _ ?_ ⟨rfl, rfl, rfl, trivial⟩ rfl)
       clear hf his hr0 hr1 hr2
       simp_all [OM.r3, emp, longB] <;> omega
      refine J.p rfl (Q.fa (n := 5) runUnderlying159 rfl rfl sizeOf4 rfl) ?_
      refine J.p rfl (Q.ldI isAgg4 rfl) ?_
      refine J.p rfl (Q.not rfl) <| J.m rfl ?_
      refine J.kases 127 rfl (fun hb127 => ?_) (fun hb127 => ?_)
      ·
       refine J.p rfl (Q.fa (n := 7) runUnderlying52 rfl rfl sizeOf50 rfl) ?_
       refine J.p rfl (Q.ldI isAgg50 rfl) ?_
       refine J.p rfl (Q.lenSl runUnderlying50 rfl) <| J.p rfl (Q.eql rfl rfl) <| J.p rfl (Q.pick_t rfl rfl) <| J.p rfl (Q.pick_f rfl rfl) <| J.p rfl (Q.pick_t rfl rfl) <| J.p rfl (Q.asg rfl) <| J.nil ?_
       first
         | refine J.meet _ ?_ ⟨rfl, rfl, rfl, trivial⟩ rfl
         | (refine J.keep [1, 2, 0, 3] rfl ?_
            refine J.meet _ ?_ ⟨rfl, rfl, rfl, trivial⟩ rfl)
       clear hf his hr0 hr1 hr2
       simp_all [OM.r3, emp, longB] <;> omega
      refine J.k rfl <| J.k rfl <| J.k rfl <| J.k rfl <| J.p rfl (Q.pick_f rfl rfl) <| J.p rfl (Q.pick_f rfl rfl) <| J.p rfl (Q.pick_t rfl rfl) <| J.p rfl (Q.asg rfl) <| J.nil ?_
      first
        | refine J.meet _ ?_ ⟨rfl, rfl, rfl, trivial⟩ rfl
        | (refine J.keep [1, 2, 0, 3] rfl ?_
           refine J.meet _ ?_ ⟨rfl, rfl, rfl, trivial⟩ rfl)
      clear hf his hr0 hr1 hr2
      simp_all [OM.r3, emp, longB] <;> omega
     refine J.k rfl <| J.k rfl <| J.k rfl <| J.p rfl (Q.pick_f rfl rfl) <| J.m rfl <| J.p rfl (Q.fa (n := 5) runUnderlying159 rfl rfl sizeOf4 rfl) ?_
     refine J.p rfl (Q.ldI isAgg4 rfl) ?_
     refine J.p rfl (Q.not rfl) <| J.m rfl ?_
     refine J.kases 127 rfl (fun hb127 => ?_) (fun hb127 => ?_)
     ·
      refine J.p rfl (Q.fa (n := 7) runUnderlying52 rfl rfl sizeOf50 rfl) ?_
      refine J.p rfl (Q.ldI isAgg50 rfl) ?_
      refine J.p rfl (Q.lenSl runUnderlying50 rfl) <| J.p rfl (Q.eql rfl rfl) <| J.p rfl (Q.pick_t rfl rfl) <| J.p rfl (Q.pick_f rfl rfl) <| J.p rfl (Q.pick_t rfl rfl) <| J.p rfl (Q.asg rfl) <| J.nil ?_
      first
        | refine J.meet _ ?_ ⟨rfl, rfl, rfl, trivial⟩ rfl
        | (refine J.keep [1, 2, 0, 3] rfl ?_
           refine J.meet _ ?_ ⟨rfl, rfl, rfl, trivial⟩ rfl)
      clear hf his hr0 hr1 hr2
      simp_all [OM.r3, emp, longB] <;> omega
     refine J.k rfl <| J.k rfl <| J.k rfl <| J.k rfl <| J.p rfl (Q.pick_f rfl rfl) <| J.p rfl (Q.pick_f rfl rfl) <| J.p rfl (Q.pick_t rfl rfl) <| J.p rfl (Q.asg rfl) <| J.nil ?_
     first
       | refine J.meet _ ?_ ⟨rfl, rfl, rfl, trivial⟩ rfl
       | (refine J.keep [1, 2, 0, 3] rfl ?_
          refine J.meet _ ?_ ⟨rfl, rfl, rfl, trivial⟩ rfl)
     clear hf his hr0 hr1 hr2
     simp_all [OM.r3, emp, longB] <;> omega
    refine J.p rfl (Q.fa (n := 6) runUnderlying52 rfl rfl sizeOf40 rfl) ?_
    refine J.p rfl (Q.ldI isAgg40 rfl) ?_
    refine J.p rfl (Q.eql rfl rfl) <| J.p rfl (Q.pick_f rfl rfl) <| J.p rfl (Q.pick_t rfl rfl) <| J.m rfl ?_
    refine J.kases 115 rfl (fun hb115 => ?_) (fun hb115 => ?_)
    ·
     refine J.p rfl (Q.fa (n := 5) runUnderlying159 rfl rfl sizeOf4 rfl) ?_
     refine J.p rfl (Q.ldI isAgg4 rfl) ?_
     refine J.m rfl ?_
     refine J.kases 118 rfl (fun hb118 => ?_) (fun hb118 => ?_)
     ·
      refine J.p rfl (Q.fa (n := 7) runUnderlying52 rfl rfl sizeOf50 rfl) ?_
      refine J.p rfl (Q.ldI isAgg50 rfl) ?_
      refine J.call call72 (rising_spec G x.pp x.o.parts.length x.pc x.o.parts hx.parts (by omega)) [2] rfl rfl rfl rfl ?_
      rintro _ _ ⟨rfl, rfl⟩
      refine J.norm rfl <| J.p rfl (Q.pick_t rfl rfl) <| J.m rfl ?_
      refine J.kases 123 rfl (fun hb123 => ?_) (fun hb123 => ?_)
      ·
       refine J.k rfl <| J.k rfl <| J.k rfl <| J.k rfl <| J.k rfl <| J.k rfl <| J.k rfl <| J.k rfl <| J.k rfl <| J.p rfl (Q.pick_t rfl rfl) <| J.p rfl (Q.pick_t rfl rfl) <| J.p rfl (Q.asg rfl) <| J.nil ?_
       first
         | refine J.meet _ ?_ ⟨rfl, rfl, rfl, trivial⟩ rfl
         | (refine J.keep [1, 2, 0, 3] rfl ?_
            refine J.meet _ ?_ ⟨rfl, rfl, rfl, trivial⟩ rfl)
       clear hf his hr0 hr1 hr2
       simp_all [OM.r3, emp, longB] <;> omega
      refine J.p rfl (Q.fa (n := 5) runUnderlying159 rfl rfl sizeOf4 rfl) ?_
      refine J.p rfl (Q.ldI isAgg4 rfl) ?_
      refine J.p rfl (Q.not rfl) <| J.m rfl ?_
      refine J.kases 127 rfl (fun hb127 => ?_) (fun hb127 => ?_)
      ·
       refine J.p rfl (Q.fa (n := 7) runUnderlying52 rfl rfl sizeOf50 rfl) ?_
       refine J.p rfl (Q.ldI isAgg50 rfl) ?_
       refine J.p rfl (Q.lenSl runUnderlying50 rfl) <| J.p rfl (Q.eql rfl rfl) <| J.p rfl (Q.pick_t rfl rfl) <| J.p rfl (Q.pick_f rfl rfl) <| J.p rfl (Q.pick_t rfl rfl) <| J.p rfl (Q.asg rfl) <| J.nil ?_
       first
         | refine J.meet _ ?_ ⟨rfl, rfl, rfl, trivial⟩ rfl
         | (refine J.keep [1, 2, 0, 3] rfl ?_
            refine J.meet _ ?_ ⟨rfl, rfl, rfl, trivial⟩ rfl)
       clear hf his hr0 hr1 hr2
       simp_all [OM.r3, emp, longB] <;> omega
      refine J.k rfl <| J.k rfl <| J.k rfl <| J.k rfl <| J.p rfl (Q.pick_f rfl rfl) <| J.p rfl (Q.pick_f rfl rfl) <| J.p rfl (Q.pick_t rfl rfl) <| J.p rfl (Q.asg rfl) <| J.nil ?_
      first
        | refine J.meet _ ?_ ⟨rfl, rfl, rfl, trivial⟩ rfl
        | (refine J.keep [1, 2, 0, 3] rfl ?_
           refine J.meet _ ?_ ⟨rfl, rfl, rfl, trivial⟩ rfl)
      clear hf his hr0 hr1 hr2
      simp_all [OM.r3, emp, longB] <;> omega
     refine J.k rfl <| J.k rfl <| J.k rfl <| J.p rfl (Q.pick_f rfl rfl) <| J.m rfl <| J.p rfl (Q.fa (n := 5) runUnderlying159 rfl rfl sizeOf4 rfl) ?_
     refine J.p rfl (Q.ldI isAgg4 rfl) ?_
     refine J.p rfl (Q.not rfl) <| J.m rfl ?_
     refine J.kases 127 rfl (fun hb127 => ?_) (fun hb127 => ?_)
     ·
      refine J.p rfl (Q.fa (n := 7) runUnderlying52 rfl rfl sizeOf50 rfl) ?_
      refine J.p rfl (Q.ldI isAgg50 rfl) ?_
      refine J.p rfl (Q.lenSl runUnderlying50 rfl) <| J.p rfl (Q.eql rfl rfl) <| J.p rfl (Q.pick_t rfl rfl) <| J.p rfl (Q.pick_f rfl rfl) <| J.p rfl (Q.pick_t rfl rfl) <| J.p rfl (Q.asg rfl) <| J.nil ?_
      first
        | refine J.meet _ ?_ ⟨rfl, rfl, rfl, trivial⟩ rfl
        | (refine J.keep [1, 2, 0, 3] rfl ?_
           refine J.meet _ ?_ ⟨rfl, rfl, rfl, trivial⟩ rfl)
      clear hf his hr0 hr1 hr2
      simp_all [OM.r3, emp, longB] <;> omega
     refine J.k rfl <| J.k rfl <| J.k rfl <| J.k rfl <| J.p rfl (Q.pick_f rfl rfl) <| J.p rfl (Q.pick_f rfl rfl) <| J.p rfl (Q.pick_t rfl rfl) <| J.p rfl (Q.asg rfl) <| J.nil ?_
     first
       | refine J.meet _ ?_ ⟨rfl, rfl, rfl, trivial⟩ rfl
       | (refine J.keep [1, 2, 0, 3] rfl ?_
          refine J.meet _ ?_ ⟨rfl, rfl, rfl, trivial⟩ rfl)
     clear hf his hr0 hr1 hr2
     simp_all [OM.r3, emp, longB] <;> omega
    refine J.k rfl <| J.k rfl <| J.k rfl <| J.k rfl <| J.k rfl <| J.k rfl <| J.k rfl <| J.k rfl <| J.k rfl <| J.k rfl <| J.k rfl <| J.k rfl <| J.k rfl <| J.k rfl <| J.k rfl <| J.k rfl <| J.k rfl <| J.k rfl <| J.p rfl (Q.pick_f rfl rfl) <| J.p rfl (Q.asg rfl) <| J.nil ?_
    first
      | refine J.meet _ ?_ ⟨rfl, rfl, rfl, trivial⟩ rfl
      | (refine J.keep [1, 2, 0, 3] rfl ?_
         refine J.meet _ ?_ ⟨rfl, rfl, rfl, trivial⟩ rfl)
    clear hf his hr0 hr1 hr2
    simp_all [OM.r3, emp, longB] <;> omega
   refine J.k rfl <| J.k rfl <| J.k rfl <| J.k rfl <| J.k rfl <| J.k rfl <| J.k rfl <| J.p rfl (Q.pick_f rfl rfl) <| J.m rfl <| J.k rfl <| J.k rfl <| J.k rfl <| J.k rfl <| J.k rfl <| J.k rfl <| J.k rfl <| J.k rfl <| J.k rfl <| J.k rfl <| J.k rfl <| J.k rfl <| J.k rfl ?_
   refine J.k rfl <| J.k rfl <| J.k rfl <| J.k rfl <| J.k rfl <| J.p rfl (Q.pick_f rfl rfl) <| J.p rfl (Q.asg rfl) <| J.nil ?_
   first
     | refine J.meet _ ?_ ⟨rfl, rfl, rfl, trivial⟩ rfl
     | (refine J.keep [1, 2, 0, 3] rfl ?_
        refine J.meet _ ?_ ⟨rfl, rfl, rfl, trivial⟩ rfl)
   clear hf his hr0 hr1 hr2
   simp_all [OM.r3, emp, longB] <;> omega
  refine J.seq <| J.seq <| J.region <| J.m rfl <| J.p rfl (Q.not rfl) <| J.m rfl ?_
  refine J.kases 137 rfl (fun hb137 => ?_) (fun hb137 => ?_)
  ·
   refine J.k rfl <| J.k rfl <| J.k rfl <| J.k rfl <| J.k rfl <| J.k rfl <| J.k rfl <| J.k rfl <| J.p rfl (Q.pick_t rfl rfl) <| J.m rfl <| J.k rfl <| J.k rfl <| J.k rfl <| J.k rfl <| J.k rfl <| J.k rfl <| J.k rfl <| J.k rfl <| J.k rfl <| J.p rfl (Q.pick_t rfl rfl) <| J.nil ?_
   refine J.then_n <| J.cond_t rfl <| J.seq <| J.region <| J.p rfl (Q.asg rfl) <| J.nil <| J.then_n <| J.cret <| J.then_r ?_
   refine J.keep [2, 3] rfl ?_
   refine J.ret1 (B := [G]) rfl rfl ⟨?_, rfl⟩ rfl
   have hck : x.o.chkB = x.o.r4 f s := by unfold OM.chkB; rw [← hf, ← his, ← hr0, ← hr1, ← hr2, ← hr3]
   rw [hck]
   clear hf his hr0 hr1 hr2 hr3 hck
   simp_all [OM.r4, emp, longB] <;> omega
  refine J.p rfl (Q.fa (n := 6) runUnderlying159 rfl rfl sizeOf4 rfl) ?_
  refine J.p rfl (Q.ldI isAgg4 rfl) ?_
  refine J.m rfl ?_
  refine J.kases 140 rfl (fun hb140 => ?_) (fun hb140 => ?_)
  ·
   refine J.p rfl (Q.fa (n := 8) runUnderlying52 rfl rfl sizeOf42 rfl) ?_
   refine J.p rfl (Q.ldI isAgg42 rfl) ?_
   refine J.p rfl (Q.lenSl runUnderlying42 rfl) <| J.p rfl (Q.gtr rfl rfl) <| J.p rfl (Q.pick_t rfl rfl) <| J.p rfl (Q.pick_f rfl rfl) <| J.m rfl ?_
   refine J.kases 147 rfl (fun hb147 => ?_) (fun hb147 => ?_)
   ·
    refine J.k rfl <| J.k rfl <| J.k rfl <| J.k rfl <| J.k rfl <| J.k rfl <| J.k rfl <| J.k rfl <| J.k rfl <| J.p rfl (Q.pick_t rfl rfl) <| J.nil <| J.then_n <| J.cond_t rfl <| J.seq <| J.region <| J.p rfl (Q.asg rfl) <| J.nil <| J.then_n <| J.cret <| J.then_r ?_
    refine J.keep [2, 3] rfl ?_
    refine J.ret1 (B := [G]) rfl rfl ⟨?_, rfl⟩ rfl
    have hck : x.o.chkB = x.o.r4 f s := by unfold OM.chkB; rw [← hf, ← his, ← hr0, ← hr1, ← hr2, ← hr3]
    rw [hck]
    clear hf his hr0 hr1 hr2 hr3 hck
    simp_all [OM.r4, emp, longB] <;> omega
   refine J.p rfl (Q.fa (n := 6) runUnderlying159 rfl rfl sizeOf4 rfl) ?_
   refine J.p rfl (Q.ldI isAgg4 rfl) ?_
   refine J.p rfl (Q.not rfl) <| J.m rfl ?_
   refine J.kases 151 rfl (fun hb151 => ?_) (fun hb151 => ?_)
   ·
    refine J.p rfl (Q.fa (n := 8) runUnderlying52 rfl rfl sizeOf42 rfl) ?_
    refine J.p rfl (Q.ldI isAgg42 rfl) ?_
    refine J.p rfl (Q.lenSl runUnderlying42 rfl) <| J.p rfl (Q.gtr rfl rfl) <| J.p rfl (Q.pick_t rfl rfl) <| J.p rfl (Q.pick_f rfl rfl) <| J.nil <| J.then_n ?_
    refine J.kases 157 rfl (fun hc157 => ?_) (fun hc157 => ?_)
    ·
     refine J.cond_t rfl <| J.seq <| J.region <| J.p rfl (Q.asg rfl) <| J.nil <| J.then_n <| J.cret <| J.then_r ?_
     refine J.keep [2, 3] rfl ?_
     refine J.ret1 (B := [G]) rfl rfl ⟨?_, rfl⟩ rfl
     have hck : x.o.chkB = x.o.r4 f s := by unfold OM.chkB; rw [← hf, ← his, ← hr0, ← hr1, ← hr2, ← hr3]
     rw [hck]
     clear hf his hr0 hr1 hr2 hr3 hck
     simp_all [OM.r4, emp, longB] <;> omega
    refine J.cond_f rfl <| J.cskip <| J.then_n <| J.seq <| J.region <| J.p rfl (Q.asg rfl) <| J.nil <| J.then_n <| J.cret ?_
    refine J.keep [2, 3] rfl ?_
    refine J.ret1 (B := [G]) rfl rfl ⟨?_, rfl⟩ rfl
    have hck : x.o.chkB = x.o.r4 f s := by unfold OM.chkB; rw [← hf, ← his, ← hr0, ← hr1, ← hr2, ← hr3]
    rw [hck]
    clear hf his hr0 hr1 hr2 hr3 hck
    simp_all [OM.r4, emp, longB] <;> omega
   refine J.k rfl <| J.k rfl <| J.k rfl <| J.k rfl <| J.p rfl (Q.pick_f rfl rfl) <| J.p rfl (Q.pick_f rfl rfl) <| J.nil <| J.then_n <| J.cond_f rfl <| J.cskip <| J.then_n <| J.seq <| J.region <| J.p rfl (Q.asg rfl) <| J.nil <| J.then_n <| J.cret ?_
   refine J.keep [2, 3] rfl ?_
   refine J.ret1 (B := [G]) rfl rfl ⟨?_, rfl⟩ rfl
   have hck : x.o.chkB = x.o.r4 f s := by unfold OM.chkB; rw [← hf, ← his, ← hr0, ← hr1, ← hr2, ← hr3]
   rw [hck]
   clear hf his hr0 hr1 hr2 hr3 hck
   simp_all [OM.r4, emp, longB] <;> omega
  refine J.k rfl <| J.k rfl <| J.k rfl <| J.k rfl <| J.p rfl (Q.pick_f rfl rfl) <| J.p rfl (Q.pick_f rfl rfl) <| J.m rfl <| J.p rfl (Q.fa (n := 6) runUnderlying159 rfl rfl sizeOf4 rfl) ?_
  refine J.p rfl (Q.ldI isAgg4 rfl) ?_
  refine J.p rfl (Q.not rfl) <| J.m rfl ?_
  refine J.kases 151 rfl (fun hb151 => ?_) (fun hb151 => ?_)
  ·
   refine J.p rfl (Q.fa (n := 8) runUnderlying52 rfl rfl sizeOf42 rfl) ?_
   refine J.p rfl (Q.ldI isAgg42 rfl) ?_
   refine J.p rfl (Q.lenSl runUnderlying42 rfl) <| J.p rfl (Q.gtr rfl rfl) <| J.p rfl (Q.pick_t rfl rfl) <| J.p rfl (Q.pick_f rfl rfl) <| J.nil <| J.then_n ?_
   refine J.kases 157 rfl (fun hc157 => ?_) (fun hc157 => ?_)
   ·
    refine J.cond_t rfl <| J.seq <| J.region <| J.p rfl (Q.asg rfl) <| J.nil <| J.then_n <| J.cret <| J.then_r ?_
    refine J.keep [2, 3] rfl ?_
    refine J.ret1 (B := [G]) rfl rfl ⟨?_, rfl⟩ rfl
    have hck : x.o.chkB = x.o.r4 f s := by unfold OM.chkB; rw [← hf, ← his, ← hr0, ← hr1, ← hr2, ← hr3]
    rw [hck]
    clear hf his hr0 hr1 hr2 hr3 hck
    simp_all [OM.r4, emp, longB] <;> omega
   refine J.cond_f rfl <| J.cskip <| J.then_n <| J.seq <| J.region <| J.p rfl (Q.asg rfl) <| J.nil <| J.then_n <| J.cret ?_
   refine J.keep [2, 3] rfl ?_
   refine J.ret1 (B := [G]) rfl rfl ⟨?_, rfl⟩ rfl
   have hck : x.o.chkB = x.o.r4 f s := by unfold OM.chkB; rw [← hf, ← his, ← hr0, ← hr1, ← hr2, ← hr3]
   rw [hck]
   clear hf his hr0 hr1 hr2 hr3 hck
   simp_all [OM.r4, emp, longB] <;> omega
  refine J.k rfl <| J.k rfl <| J.k rfl <| J.k rfl <| J.p rfl (Q.pick_f rfl rfl) <| J.p rfl (Q.pick_f rfl rfl) <| J.nil <| J.then_n <| J.cond_f rfl <| J.cskip <| J.then_n <| J.seq <| J.region <| J.p rfl (Q.asg rfl) <| J.nil <| J.then_n <| J.cret ?_
  refine J.keep [2, 3] rfl ?_
  refine J.ret1 (B := [G]) rfl rfl ⟨?_, rfl⟩ rfl
  have hck : x.o.chkB = x.o.r4 f s := by unfold OM.chkB; rw [← hf, ← his, ← hr0, ← hr1, ← hr2, ← hr3]
  rw [hck]
  clear hf his hr0 hr1 hr2 hr3 hck
  simp_all [OM.r4, emp, longB] <;> omega

def OM.chkR (o : OM) : Bool :=
  if o.kind = 1 ∨ o.kind = 2 then nameOK o.bucket.data.toList && emp o.key && emp o.after && decide (o.n = 0) && decide (o.upload = 0) && decide (o.parts.length = 0) && decide (o.data.length = 0)
  else if o.kind = 3 then nameOK o.bucket.data.toList && longB o.key.size 1 1024 && emp o.after && decide (o.n = 0) && decide (o.upload = 0) && decide (o.parts.length = 0) && decide (o.data.length ≤ 16777216)
  else if o.kind = 4 ∨ o.kind = 5 ∨ o.kind = 7 then nameOK o.bucket.data.toList && longB o.key.size 1 1024 && emp o.after && decide (o.n = 0) && decide (o.upload = 0) && decide (o.parts.length = 0) && decide (o.data.length = 0)
  else if o.kind = 6 then nameOK o.bucket.data.toList && decide (o.key.size ≤ 1024) && decide (o.after.size ≤ 1024) && decide (1 ≤ o.n) && decide (o.n ≤ 1000) && decide (o.upload = 0) && decide (o.parts.length = 0) && decide (o.data.length = 0)
  else if o.kind = 8 then emp o.bucket && emp o.key && emp o.after && decide (1 ≤ o.n) && decide (o.n ≤ 10000) && decide (o.parts.length = 0) && decide (o.data.length ≤ 16777216)
  else if o.kind = 9 then emp o.bucket && emp o.key && emp o.after && decide (o.n = 0) && partsOK o.parts && decide (o.data.length = 0)
  else if o.kind = 10 then emp o.bucket && emp o.key && emp o.after && decide (o.n = 0) && decide (o.parts.length = 0) && decide (o.data.length = 0)
  else false

theorem rcheck_spec (G : Assn) (x : OW) (hx : x.ok G) : FSpec Tryz.prog 12 [.agg x.cells.toArray] [G] (fun v B => v = .int .i64 (if x.o.chkR then 0 else 1) ∧ B = [G]) := by
  have hsm := hx.small
  refine FSpec.of func12 rfl ntmps12 rfl fun W0 F => ?_
  refine J.seq <| J.region ?_
  refine J.c rfl rfl (C.box (l := [_, _, _, _, _, _, _, _, _]) rfl rfl) ?_
  rintro _ _ ⟨b1, rfl, rfl⟩
  refine J.norm rfl <| J.p rfl (Q.asg rfl) <| J.nil <| J.then_n <| J.seq <| J.region <| J.p rfl (Q.fa (n := 2) runUnderlying52 rfl rfl sizeOf9 rfl) ?_
  refine J.p rfl (Q.ldI isAgg9 rfl) ?_
  refine J.p rfl (Q.neqs rfl rfl) <| J.p rfl (Q.asg rfl) <| J.nil <| J.then_n <| J.seq <| J.region <| J.p rfl (Q.fa (n := 3) runUnderlying52 rfl rfl sizeOf9 rfl) ?_
  refine J.p rfl (Q.ldI isAgg9 rfl) ?_
  refine J.p rfl (Q.neqs rfl rfl) <| J.p rfl (Q.asg rfl) <| J.nil <| J.then_n <| J.seq <| J.region <| J.p rfl (Q.fa (n := 4) runUnderlying52 rfl rfl sizeOf9 rfl) ?_
  refine J.p rfl (Q.ldI isAgg9 rfl) ?_
  refine J.p rfl (Q.neqs rfl rfl) <| J.p rfl (Q.asg rfl) <| J.nil <| J.then_n <| J.seq <| J.region <| J.p rfl (Q.fa (n := 5) runUnderlying52 rfl rfl sizeOf3 rfl) ?_
  refine J.p rfl (Q.ldI isAgg3 rfl) ?_
  refine J.p rfl (Q.neq rfl rfl) <| J.p rfl (Q.asg rfl) <| J.nil <| J.then_n <| J.seq <| J.region <| J.p rfl (Q.fa (n := 6) runUnderlying52 rfl rfl sizeOf40 rfl) ?_
  refine J.p rfl (Q.ldI isAgg40 rfl) ?_
  refine J.p rfl (Q.neq rfl rfl) <| J.p rfl (Q.asg rfl) <| J.nil <| J.then_n <| J.seq <| J.region <| J.p rfl (Q.fa (n := 7) runUnderlying52 rfl rfl sizeOf50 rfl) ?_
  refine J.p rfl (Q.ldI isAgg50 rfl) ?_
  refine J.p rfl (Q.lenSl runUnderlying50 rfl) <| J.p rfl (Q.gtr rfl rfl) <| J.p rfl (Q.asg rfl) <| J.nil <| J.then_n <| J.seq <| J.region <| J.p rfl (Q.fa (n := 8) runUnderlying52 rfl rfl sizeOf42 rfl) ?_
  refine J.p rfl (Q.ldI isAgg42 rfl) ?_
  refine J.p rfl (Q.lenSl runUnderlying42 rfl) <| J.p rfl (Q.gtr rfl rfl) <| J.p rfl (Q.asg rfl) <| J.nil <| J.then_n <| J.seq <| J.region <| J.p rfl (Q.asg rfl) <| J.nil <| J.then_n ?_
  refine J.cut (fun r : Bool => r = x.o.chkR) (fun r => [(1, .pointer (some ⟨b1, 0, none⟩)), (10, .bool r)]) (fun _ => [pt b1 (.cells x.cells.toArray 52 (0, 0)), G, F]) ?_ fun r hr0 => ?_
  ·
   refine J.seq <| J.region <| J.p rfl (Q.fa (n := 1) runUnderlying52 rfl rfl sizeOf3 rfl) ?_
   refine J.p rfl (Q.ldI isAgg3 rfl) ?_
   refine J.nil <| J.then_n <| J.block <| J.seq <| J.seq <| J.region <| J.p rfl (Q.eql rfl rfl) <| J.p rfl (Q.asg rfl) <| J.nil <| J.then_n ?_
   refine J.kases 36 rfl (fun hc36 => ?_) (fun hc36 => ?_)
   ·
    refine J.cond_t rfl <| J.cskip <| J.then_n <| J.cond_t rfl <| J.region <| J.p rfl (Q.fa (n := 2) runUnderlying52 rfl rfl sizeOf9 rfl) ?_
    refine J.p rfl (Q.ldI isAgg9 rfl) ?_
    refine J.call call27 (rname_spec x.o.bucket (by omega)) [] rfl rfl rfl rfl ?_
    rintro _ _ ⟨rfl, rfl⟩
    refine J.norm rfl <| J.m rfl ?_
    refine J.kases 42 rfl (fun hb42 => ?_) (fun hb42 => ?_)
    ·
     refine J.m rfl <| J.p rfl (Q.not rfl) <| J.p rfl (Q.pick_t rfl rfl) <| J.m rfl ?_
     refine J.kases 46 rfl (fun hb46 => ?_) (fun hb46 => ?_)
     ·
      refine J.m rfl <| J.p rfl (Q.not rfl) <| J.p rfl (Q.pick_t rfl rfl) <| J.m rfl ?_
      refine J.kases 50 rfl (fun hb50 => ?_) (fun hb50 => ?_)
      ·
       refine J.m rfl <| J.p rfl (Q.not rfl) <| J.p rfl (Q.pick_t rfl rfl) <| J.m rfl ?_
       refine J.kases 54 rfl (fun hb54 => ?_) (fun hb54 => ?_)
       ·
        refine J.m rfl <| J.p rfl (Q.not rfl) <| J.p rfl (Q.pick_t rfl rfl) <| J.m rfl ?_
        refine J.kases 58 rfl (fun hb58 => ?_) (fun hb58 => ?_)
        ·
         refine J.m rfl <| J.p rfl (Q.not rfl) <| J.p rfl (Q.pick_t rfl rfl) <| J.m rfl ?_
         refine J.kases 62 rfl (fun hb62 => ?_) (fun hb62 => ?_)
         ·
          refine J.m rfl <| J.p rfl (Q.not rfl) <| J.p rfl (Q.pick_t rfl rfl) <| J.p rfl (Q.asg rfl) <| J.nil <| J.blk_n ?_
          first
            | refine J.meet _ ?_ ⟨rfl, rfl, trivial⟩ rfl
            | (refine J.keep [1, 0, 2] rfl ?_
               refine J.meet _ ?_ ⟨rfl, rfl, trivial⟩ rfl)
          simp_all [-List.length_eq_zero_iff, OM.chkR, emp, longB] <;> first | omega | (rw [Bool.eq_iff_iff]; simp [-List.length_eq_zero_iff] <;> omega)
         refine J.k rfl <| J.k rfl <| J.p rfl (Q.pick_f rfl rfl) <| J.p rfl (Q.asg rfl) <| J.nil <| J.blk_n ?_
         first
           | refine J.meet _ ?_ ⟨rfl, rfl, trivial⟩ rfl
           | (refine J.keep [1, 0, 2] rfl ?_
              refine J.meet _ ?_ ⟨rfl, rfl, trivial⟩ rfl)
         simp_all [-List.length_eq_zero_iff, OM.chkR, emp, longB] <;> first | omega | (rw [Bool.eq_iff_iff]; simp [-List.length_eq_zero_iff] <;> omega)
        refine J.k rfl <| J.k rfl <| J.p rfl (Q.pick_f rfl rfl) <| J.m rfl <| J.k rfl <| J.k rfl <| J.p rfl (Q.pick_f rfl rfl) <| J.p rfl (Q.asg rfl) <| J.nil <| J.blk_n ?_
        first
          | refine J.meet _ ?_ ⟨rfl, rfl, trivial⟩ rfl
          | (refine J.keep [1, 0, 2] rfl ?_
             refine J.meet _ ?_ ⟨rfl, rfl, trivial⟩ rfl)
        simp_all [-List.length_eq_zero_iff, OM.chkR, emp, longB] <;> first | omega | (rw [Bool.eq_iff_iff]; simp [-List.length_eq_zero_iff] <;> omega)
       refine J.k rfl <| J.k rfl <| J.p rfl (Q.pick_f rfl rfl) <| J.m rfl <| J.k rfl <| J.k rfl <| J.p rfl (Q.pick_f rfl rfl) <| J.m rfl <| J.k rfl <| J.k rfl <| J.p rfl (Q.pick_f rfl rfl) <| J.p rfl (Q.asg rfl) <| J.nil <| J.blk_n ?_
       first
         | refine J.meet _ ?_ ⟨rfl, rfl, trivial⟩ rfl
         | (refine J.keep [1, 0, 2] rfl ?_
            refine J.meet _ ?_ ⟨rfl, rfl, trivial⟩ rfl)
       simp_all [-List.length_eq_zero_iff, OM.chkR, emp, longB] <;> first | omega | (rw [Bool.eq_iff_iff]; simp [-List.length_eq_zero_iff] <;> omega)
      refine J.k rfl <| J.k rfl <| J.p rfl (Q.pick_f rfl rfl) <| J.m rfl <| J.k rfl <| J.k rfl <| J.p rfl (Q.pick_f rfl rfl) <| J.m rfl <| J.k rfl <| J.k rfl <| J.p rfl (Q.pick_f rfl rfl) <| J.m rfl <| J.k rfl <| J.k rfl <| J.p rfl (Q.pick_f rfl rfl) <| J.p rfl (Q.asg rfl) <| J.nil <| J.blk_n ?_
      first
        | refine J.meet _ ?_ ⟨rfl, rfl, trivial⟩ rfl
        | (refine J.keep [1, 0, 2] rfl ?_
           refine J.meet _ ?_ ⟨rfl, rfl, trivial⟩ rfl)
      simp_all [-List.length_eq_zero_iff, OM.chkR, emp, longB] <;> first | omega | (rw [Bool.eq_iff_iff]; simp [-List.length_eq_zero_iff] <;> omega)
     refine J.k rfl <| J.k rfl <| J.p rfl (Q.pick_f rfl rfl) <| J.m rfl <| J.k rfl <| J.k rfl <| J.p rfl (Q.pick_f rfl rfl) <| J.m rfl <| J.k rfl <| J.k rfl <| J.p rfl (Q.pick_f rfl rfl) <| J.m rfl <| J.k rfl <| J.k rfl <| J.p rfl (Q.pick_f rfl rfl) <| J.m rfl <| J.k rfl <| J.k rfl ?_
     refine J.p rfl (Q.pick_f rfl rfl) <| J.p rfl (Q.asg rfl) <| J.nil <| J.blk_n ?_
     first
       | refine J.meet _ ?_ ⟨rfl, rfl, trivial⟩ rfl
       | (refine J.keep [1, 0, 2] rfl ?_
          refine J.meet _ ?_ ⟨rfl, rfl, trivial⟩ rfl)
     simp_all [-List.length_eq_zero_iff, OM.chkR, emp, longB] <;> first | omega | (rw [Bool.eq_iff_iff]; simp [-List.length_eq_zero_iff] <;> omega)
    refine J.k rfl <| J.k rfl <| J.p rfl (Q.pick_f rfl rfl) <| J.m rfl <| J.k rfl <| J.k rfl <| J.p rfl (Q.pick_f rfl rfl) <| J.m rfl <| J.k rfl <| J.k rfl <| J.p rfl (Q.pick_f rfl rfl) <| J.m rfl <| J.k rfl <| J.k rfl <| J.p rfl (Q.pick_f rfl rfl) <| J.m rfl <| J.k rfl <| J.k rfl ?_
    refine J.p rfl (Q.pick_f rfl rfl) <| J.m rfl <| J.k rfl <| J.k rfl <| J.p rfl (Q.pick_f rfl rfl) <| J.p rfl (Q.asg rfl) <| J.nil <| J.blk_n ?_
    first
      | refine J.meet _ ?_ ⟨rfl, rfl, trivial⟩ rfl
      | (refine J.keep [1, 0, 2] rfl ?_
         refine J.meet _ ?_ ⟨rfl, rfl, trivial⟩ rfl)
    simp_all [-List.length_eq_zero_iff, OM.chkR, emp, longB] <;> first | omega | (rw [Bool.eq_iff_iff]; simp [-List.length_eq_zero_iff] <;> omega)
   refine J.cond_f rfl <| J.region <| J.p rfl (Q.eql rfl rfl) <| J.p rfl (Q.asg rfl) <| J.nil <| J.then_n ?_
   refine J.kases 36 rfl (fun hc36 => ?_) (fun hc36 => ?_)
   ·
    refine J.cond_t rfl <| J.region <| J.p rfl (Q.fa (n := 2) runUnderlying52 rfl rfl sizeOf9 rfl) ?_
    refine J.p rfl (Q.ldI isAgg9 rfl) ?_
    refine J.call call27 (rname_spec x.o.bucket (by omega)) [] rfl rfl rfl rfl ?_
    rintro _ _ ⟨rfl, rfl⟩
    refine J.norm rfl <| J.m rfl ?_
    refine J.kases 42 rfl (fun hb42 => ?_) (fun hb42 => ?_)
    ·
     refine J.m rfl <| J.p rfl (Q.not rfl) <| J.p rfl (Q.pick_t rfl rfl) <| J.m rfl ?_
     refine J.kases 46 rfl (fun hb46 => ?_) (fun hb46 => ?_)
     ·
      refine J.m rfl <| J.p rfl (Q.not rfl) <| J.p rfl (Q.pick_t rfl rfl) <| J.m rfl ?_
      refine J.kases 50 rfl (fun hb50 => ?_) (fun hb50 => ?_)
      ·
       refine J.m rfl <| J.p rfl (Q.not rfl) <| J.p rfl (Q.pick_t rfl rfl) <| J.m rfl ?_
       refine J.kases 54 rfl (fun hb54 => ?_) (fun hb54 => ?_)
       ·
        refine J.m rfl <| J.p rfl (Q.not rfl) <| J.p rfl (Q.pick_t rfl rfl) <| J.m rfl ?_
        refine J.kases 58 rfl (fun hb58 => ?_) (fun hb58 => ?_)
        ·
         refine J.m rfl <| J.p rfl (Q.not rfl) <| J.p rfl (Q.pick_t rfl rfl) <| J.m rfl ?_
         refine J.kases 62 rfl (fun hb62 => ?_) (fun hb62 => ?_)
         ·
          refine J.m rfl <| J.p rfl (Q.not rfl) <| J.p rfl (Q.pick_t rfl rfl) <| J.p rfl (Q.asg rfl) <| J.nil <| J.blk_n ?_
          first
            | refine J.meet _ ?_ ⟨rfl, rfl, trivial⟩ rfl
            | (refine J.keep [1, 0, 2] rfl ?_
               refine J.meet _ ?_ ⟨rfl, rfl, trivial⟩ rfl)
          simp_all [-List.length_eq_zero_iff, OM.chkR, emp, longB] <;> first | omega | (rw [Bool.eq_iff_iff]; simp [-List.length_eq_zero_iff] <;> omega)
         refine J.k rfl <| J.k rfl <| J.p rfl (Q.pick_f rfl rfl) <| J.p rfl (Q.asg rfl) <| J.nil <| J.blk_n ?_
         first
           | refine J.meet _ ?_ ⟨rfl, rfl, trivial⟩ rfl
           | (refine J.keep [1, 0, 2] rfl ?_
              refine J.meet _ ?_ ⟨rfl, rfl, trivial⟩ rfl)
         simp_all [-List.length_eq_zero_iff, OM.chkR, emp, longB] <;> first | omega | (rw [Bool.eq_iff_iff]; simp [-List.length_eq_zero_iff] <;> omega)
        refine J.k rfl <| J.k rfl <| J.p rfl (Q.pick_f rfl rfl) <| J.m rfl <| J.k rfl <| J.k rfl <| J.p rfl (Q.pick_f rfl rfl) <| J.p rfl (Q.asg rfl) <| J.nil <| J.blk_n ?_
        first
          | refine J.meet _ ?_ ⟨rfl, rfl, trivial⟩ rfl
          | (refine J.keep [1, 0, 2] rfl ?_
             refine J.meet _ ?_ ⟨rfl, rfl, trivial⟩ rfl)
        simp_all [-List.length_eq_zero_iff, OM.chkR, emp, longB] <;> first | omega | (rw [Bool.eq_iff_iff]; simp [-List.length_eq_zero_iff] <;> omega)
       refine J.k rfl <| J.k rfl <| J.p rfl (Q.pick_f rfl rfl) <| J.m rfl <| J.k rfl <| J.k rfl <| J.p rfl (Q.pick_f rfl rfl) <| J.m rfl <| J.k rfl <| J.k rfl <| J.p rfl (Q.pick_f rfl rfl) <| J.p rfl (Q.asg rfl) <| J.nil <| J.blk_n ?_
       first
         | refine J.meet _ ?_ ⟨rfl, rfl, trivial⟩ rfl
         | (refine J.keep [1, 0, 2] rfl ?_
            refine J.meet _ ?_ ⟨rfl, rfl, trivial⟩ rfl)
       simp_all [-List.length_eq_zero_iff, OM.chkR, emp, longB] <;> first | omega | (rw [Bool.eq_iff_iff]; simp [-List.length_eq_zero_iff] <;> omega)
      refine J.k rfl <| J.k rfl <| J.p rfl (Q.pick_f rfl rfl) <| J.m rfl <| J.k rfl <| J.k rfl <| J.p rfl (Q.pick_f rfl rfl) <| J.m rfl <| J.k rfl <| J.k rfl <| J.p rfl (Q.pick_f rfl rfl) <| J.m rfl <| J.k rfl <| J.k rfl <| J.p rfl (Q.pick_f rfl rfl) <| J.p rfl (Q.asg rfl) <| J.nil <| J.blk_n ?_
      first
        | refine J.meet _ ?_ ⟨rfl, rfl, trivial⟩ rfl
        | (refine J.keep [1, 0, 2] rfl ?_
           refine J.meet _ ?_ ⟨rfl, rfl, trivial⟩ rfl)
      simp_all [-List.length_eq_zero_iff, OM.chkR, emp, longB] <;> first | omega | (rw [Bool.eq_iff_iff]; simp [-List.length_eq_zero_iff] <;> omega)
     refine J.k rfl <| J.k rfl <| J.p rfl (Q.pick_f rfl rfl) <| J.m rfl <| J.k rfl <| J.k rfl <| J.p rfl (Q.pick_f rfl rfl) <| J.m rfl <| J.k rfl <| J.k rfl <| J.p rfl (Q.pick_f rfl rfl) <| J.m rfl <| J.k rfl <| J.k rfl <| J.p rfl (Q.pick_f rfl rfl) <| J.m rfl <| J.k rfl <| J.k rfl ?_
     refine J.p rfl (Q.pick_f rfl rfl) <| J.p rfl (Q.asg rfl) <| J.nil <| J.blk_n ?_
     first
       | refine J.meet _ ?_ ⟨rfl, rfl, trivial⟩ rfl
       | (refine J.keep [1, 0, 2] rfl ?_
          refine J.meet _ ?_ ⟨rfl, rfl, trivial⟩ rfl)
     simp_all [-List.length_eq_zero_iff, OM.chkR, emp, longB] <;> first | omega | (rw [Bool.eq_iff_iff]; simp [-List.length_eq_zero_iff] <;> omega)
    refine J.k rfl <| J.k rfl <| J.p rfl (Q.pick_f rfl rfl) <| J.m rfl <| J.k rfl <| J.k rfl <| J.p rfl (Q.pick_f rfl rfl) <| J.m rfl <| J.k rfl <| J.k rfl <| J.p rfl (Q.pick_f rfl rfl) <| J.m rfl <| J.k rfl <| J.k rfl <| J.p rfl (Q.pick_f rfl rfl) <| J.m rfl <| J.k rfl <| J.k rfl ?_
    refine J.p rfl (Q.pick_f rfl rfl) <| J.m rfl <| J.k rfl <| J.k rfl <| J.p rfl (Q.pick_f rfl rfl) <| J.p rfl (Q.asg rfl) <| J.nil <| J.blk_n ?_
    first
      | refine J.meet _ ?_ ⟨rfl, rfl, trivial⟩ rfl
      | (refine J.keep [1, 0, 2] rfl ?_
         refine J.meet _ ?_ ⟨rfl, rfl, trivial⟩ rfl)
    simp_all [-List.length_eq_zero_iff, OM.chkR, emp, longB] <;> first | omega | (rw [Bool.eq_iff_iff]; simp [-List.length_eq_zero_iff] <;> omega)
   refine J.cond_f rfl <| J.seq <| J.region <| J.p rfl (Q.eql rfl rfl) <| J.p rfl (Q.asg rfl) <| J.nil <| J.then_n ?_
   refine J.kases 66 rfl (fun hc66 => ?_) (fun hc66 => ?_)
   ·
    refine J.cond_t rfl <| J.region <| J.p rfl (Q.fa (n := 2) runUnderlying52 rfl rfl sizeOf9 rfl) ?_
    refine J.p rfl (Q.ldI isAgg9 rfl) ?_
    refine J.call call27 (rname_spec x.o.bucket (by omega)) [] rfl rfl rfl rfl ?_
    rintro _ _ ⟨rfl, rfl⟩
    refine J.norm rfl <| J.m rfl ?_
    refine J.kases 71 rfl (fun hb71 => ?_) (fun hb71 => ?_)
    ·
     refine J.p rfl (Q.fa (n := 3) runUnderlying52 rfl rfl sizeOf9 rfl) ?_
     refine J.p rfl (Q.ldI isAgg9 rfl) ?_
     refine J.call call28 (key_spec x.o.key) [] rfl rfl rfl rfl ?_
     rintro _ _ ⟨rfl, rfl⟩
     refine J.norm rfl <| J.p rfl (Q.pick_t rfl rfl) <| J.m rfl ?_
     refine J.kases 76 rfl (fun hb76 => ?_) (fun hb76 => ?_)
     ·
      refine J.m rfl <| J.p rfl (Q.not rfl) <| J.p rfl (Q.pick_t rfl rfl) <| J.m rfl ?_
      refine J.kases 80 rfl (fun hb80 => ?_) (fun hb80 => ?_)
      ·
       refine J.m rfl <| J.p rfl (Q.not rfl) <| J.p rfl (Q.pick_t rfl rfl) <| J.m rfl ?_
       refine J.kases 84 rfl (fun hb84 => ?_) (fun hb84 => ?_)
       ·
        refine J.m rfl <| J.p rfl (Q.not rfl) <| J.p rfl (Q.pick_t rfl rfl) <| J.m rfl ?_
        refine J.kases 88 rfl (fun hb88 => ?_) (fun hb88 => ?_)
        ·
         refine J.m rfl <| J.p rfl (Q.not rfl) <| J.p rfl (Q.pick_t rfl rfl) <| J.m rfl ?_
         refine J.kases 92 rfl (fun hb92 => ?_) (fun hb92 => ?_)
         ·
          refine J.p rfl (Q.fa (n := 8) runUnderlying52 rfl rfl sizeOf42 rfl) ?_
          refine J.p rfl (Q.ldI isAgg42 rfl) ?_
          refine J.p rfl (Q.lenSl runUnderlying42 rfl) <| J.p rfl (Q.leq rfl rfl) <| J.p rfl (Q.pick_t rfl rfl) <| J.p rfl (Q.asg rfl) <| J.nil <| J.blk_n ?_
          first
            | refine J.meet _ ?_ ⟨rfl, rfl, trivial⟩ rfl
            | (refine J.keep [1, 0, 2] rfl ?_
               refine J.meet _ ?_ ⟨rfl, rfl, trivial⟩ rfl)
          simp_all [-List.length_eq_zero_iff, OM.chkR, emp, longB] <;> first | omega | (rw [Bool.eq_iff_iff]; simp [-List.length_eq_zero_iff] <;> omega)
         refine J.k rfl <| J.k rfl <| J.k rfl <| J.k rfl <| J.p rfl (Q.pick_f rfl rfl) <| J.p rfl (Q.asg rfl) <| J.nil <| J.blk_n ?_
         first
           | refine J.meet _ ?_ ⟨rfl, rfl, trivial⟩ rfl
           | (refine J.keep [1, 0, 2] rfl ?_
              refine J.meet _ ?_ ⟨rfl, rfl, trivial⟩ rfl)
         simp_all [-List.length_eq_zero_iff, OM.chkR, emp, longB] <;> first | omega | (rw [Bool.eq_iff_iff]; simp [-List.length_eq_zero_iff] <;> omega)
        refine J.k rfl <| J.k rfl <| J.p rfl (Q.pick_f rfl rfl) <| J.m rfl <| J.k rfl <| J.k rfl <| J.k rfl <| J.k rfl <| J.p rfl (Q.pick_f rfl rfl) <| J.p rfl (Q.asg rfl) <| J.nil <| J.blk_n ?_
        first
          | refine J.meet _ ?_ ⟨rfl, rfl, trivial⟩ rfl
          | (refine J.keep [1, 0, 2] rfl ?_
             refine J.meet _ ?_ ⟨rfl, rfl, trivial⟩ rfl)
        simp_all [-List.length_eq_zero_iff, OM.chkR, emp, longB] <;> first | omega | (rw [Bool.eq_iff_iff]; simp [-List.length_eq_zero_iff] <;> omega)
       refine J.k rfl <| J.k rfl <| J.p rfl (Q.pick_f rfl rfl) <| J.m rfl <| J.k rfl <| J.k rfl <| J.p rfl (Q.pick_f rfl rfl) <| J.m rfl <| J.k rfl <| J.k rfl <| J.k rfl <| J.k rfl <| J.p rfl (Q.pick_f rfl rfl) <| J.p rfl (Q.asg rfl) <| J.nil <| J.blk_n ?_
       first
         | refine J.meet _ ?_ ⟨rfl, rfl, trivial⟩ rfl
         | (refine J.keep [1, 0, 2] rfl ?_
            refine J.meet _ ?_ ⟨rfl, rfl, trivial⟩ rfl)
       simp_all [-List.length_eq_zero_iff, OM.chkR, emp, longB] <;> first | omega | (rw [Bool.eq_iff_iff]; simp [-List.length_eq_zero_iff] <;> omega)
      refine J.k rfl <| J.k rfl <| J.p rfl (Q.pick_f rfl rfl) <| J.m rfl <| J.k rfl <| J.k rfl <| J.p rfl (Q.pick_f rfl rfl) <| J.m rfl <| J.k rfl <| J.k rfl <| J.p rfl (Q.pick_f rfl rfl) <| J.m rfl <| J.k rfl <| J.k rfl <| J.k rfl <| J.k rfl <| J.p rfl (Q.pick_f rfl rfl) <| J.p rfl (Q.asg rfl) ?_
      refine J.nil <| J.blk_n ?_
      first
        | refine J.meet _ ?_ ⟨rfl, rfl, trivial⟩ rfl
        | (refine J.keep [1, 0, 2] rfl ?_
           refine J.meet _ ?_ ⟨rfl, rfl, trivial⟩ rfl)
      simp_all [-List.length_eq_zero_iff, OM.chkR, emp, longB] <;> first | omega | (rw [Bool.eq_iff_iff]; simp [-List.length_eq_zero_iff] <;> omega)
     refine J.k rfl <| J.k rfl <| J.p rfl (Q.pick_f rfl rfl) <| J.m rfl <| J.k rfl <| J.k rfl <| J.p rfl (Q.pick_f rfl rfl) <| J.m rfl <| J.k rfl <| J.k rfl <| J.p rfl (Q.pick_f rfl rfl) <| J.m rfl <| J.k rfl <| J.k rfl <| J.p rfl (Q.pick_f rfl rfl) <| J.m rfl <| J.k rfl <| J.k rfl ?_
     refine J.k rfl <| J.k rfl <| J.p rfl (Q.pick_f rfl rfl) <| J.p rfl (Q.asg rfl) <| J.nil <| J.blk_n ?_
     first
       | refine J.meet _ ?_ ⟨rfl, rfl, trivial⟩ rfl
       | (refine J.keep [1, 0, 2] rfl ?_
          refine J.meet _ ?_ ⟨rfl, rfl, trivial⟩ rfl)
     simp_all [-List.length_eq_zero_iff, OM.chkR, emp, longB] <;> first | omega | (rw [Bool.eq_iff_iff]; simp [-List.length_eq_zero_iff] <;> omega)
    refine J.k rfl <| J.k rfl <| J.k rfl <| J.p rfl (Q.pick_f rfl rfl) <| J.m rfl <| J.k rfl <| J.k rfl <| J.p rfl (Q.pick_f rfl rfl) <| J.m rfl <| J.k rfl <| J.k rfl <| J.p rfl (Q.pick_f rfl rfl) <| J.m rfl <| J.k rfl <| J.k rfl <| J.p rfl (Q.pick_f rfl rfl) <| J.m rfl <| J.k rfl ?_
    refine J.k rfl <| J.p rfl (Q.pick_f rfl rfl) <| J.m rfl <| J.k rfl <| J.k rfl <| J.k rfl <| J.k rfl <| J.p rfl (Q.pick_f rfl rfl) <| J.p rfl (Q.asg rfl) <| J.nil <| J.blk_n ?_
    first
      | refine J.meet _ ?_ ⟨rfl, rfl, trivial⟩ rfl
      | (refine J.keep [1, 0, 2] rfl ?_
         refine J.meet _ ?_ ⟨rfl, rfl, trivial⟩ rfl)
    simp_all [-List.length_eq_zero_iff, OM.chkR, emp, longB] <;> first | omega | (rw [Bool.eq_iff_iff]; simp [-List.length_eq_zero_iff] <;> omega)
   refine J.cond_f rfl <| J.seq <| J.seq <| J.region <| J.p rfl (Q.eql rfl rfl) <| J.p rfl (Q.asg rfl) <| J.nil <| J.then_n ?_
   refine J.kases 98 rfl (fun hc98 => ?_) (fun hc98 => ?_)
   ·
    refine J.cond_t rfl <| J.cskip <| J.then_n <| J.cond_t rfl <| J.region <| J.p rfl (Q.fa (n := 2) runUnderlying52 rfl rfl sizeOf9 rfl) ?_
    refine J.p rfl (Q.ldI isAgg9 rfl) ?_
    refine J.call call27 (rname_spec x.o.bucket (by omega)) [] rfl rfl rfl rfl ?_
    rintro _ _ ⟨rfl, rfl⟩
    refine J.norm rfl <| J.m rfl ?_
    refine J.kases 105 rfl (fun hb105 => ?_) (fun hb105 => ?_)
    ·
     refine J.p rfl (Q.fa (n := 3) runUnderlying52 rfl rfl sizeOf9 rfl) ?_
     refine J.p rfl (Q.ldI isAgg9 rfl) ?_
     refine J.call call28 (key_spec x.o.key) [] rfl rfl rfl rfl ?_
     rintro _ _ ⟨rfl, rfl⟩
     refine J.norm rfl <| J.p rfl (Q.pick_t rfl rfl) <| J.m rfl ?_
     refine J.kases 110 rfl (fun hb110 => ?_) (fun hb110 => ?_)
     ·
      refine J.m rfl <| J.p rfl (Q.not rfl) <| J.p rfl (Q.pick_t rfl rfl) <| J.m rfl ?_
      refine J.kases 114 rfl (fun hb114 => ?_) (fun hb114 => ?_)
      ·
       refine J.m rfl <| J.p rfl (Q.not rfl) <| J.p rfl (Q.pick_t rfl rfl) <| J.m rfl ?_
       refine J.kases 118 rfl (fun hb118 => ?_) (fun hb118 => ?_)
       ·
        refine J.m rfl <| J.p rfl (Q.not rfl) <| J.p rfl (Q.pick_t rfl rfl) <| J.m rfl ?_
        refine J.kases 122 rfl (fun hb122 => ?_) (fun hb122 => ?_)
        ·
         refine J.m rfl <| J.p rfl (Q.not rfl) <| J.p rfl (Q.pick_t rfl rfl) <| J.m rfl ?_
         refine J.kases 126 rfl (fun hb126 => ?_) (fun hb126 => ?_)
         ·
          refine J.m rfl <| J.p rfl (Q.not rfl) <| J.p rfl (Q.pick_t rfl rfl) <| J.p rfl (Q.asg rfl) <| J.nil <| J.blk_n ?_
          first
            | refine J.meet _ ?_ ⟨rfl, rfl, trivial⟩ rfl
            | (refine J.keep [1, 0, 2] rfl ?_
               refine J.meet _ ?_ ⟨rfl, rfl, trivial⟩ rfl)
          simp_all [-List.length_eq_zero_iff, OM.chkR, emp, longB] <;> first | omega | (rw [Bool.eq_iff_iff]; simp [-List.length_eq_zero_iff] <;> omega)
         refine J.k rfl <| J.k rfl <| J.p rfl (Q.pick_f rfl rfl) <| J.p rfl (Q.asg rfl) <| J.nil <| J.blk_n ?_
         first
           | refine J.meet _ ?_ ⟨rfl, rfl, trivial⟩ rfl
           | (refine J.keep [1, 0, 2] rfl ?_
              refine J.meet _ ?_ ⟨rfl, rfl, trivial⟩ rfl)
         simp_all [-List.length_eq_zero_iff, OM.chkR, emp, longB] <;> first | omega | (rw [Bool.eq_iff_iff]; simp [-List.length_eq_zero_iff] <;> omega)
        refine J.k rfl <| J.k rfl <| J.p rfl (Q.pick_f rfl rfl) <| J.m rfl <| J.k rfl <| J.k rfl <| J.p rfl (Q.pick_f rfl rfl) <| J.p rfl (Q.asg rfl) <| J.nil <| J.blk_n ?_
        first
          | refine J.meet _ ?_ ⟨rfl, rfl, trivial⟩ rfl
          | (refine J.keep [1, 0, 2] rfl ?_
             refine J.meet _ ?_ ⟨rfl, rfl, trivial⟩ rfl)
        simp_all [-List.length_eq_zero_iff, OM.chkR, emp, longB] <;> first | omega | (rw [Bool.eq_iff_iff]; simp [-List.length_eq_zero_iff] <;> omega)
       refine J.k rfl <| J.k rfl <| J.p rfl (Q.pick_f rfl rfl) <| J.m rfl <| J.k rfl <| J.k rfl <| J.p rfl (Q.pick_f rfl rfl) <| J.m rfl <| J.k rfl <| J.k rfl <| J.p rfl (Q.pick_f rfl rfl) <| J.p rfl (Q.asg rfl) <| J.nil <| J.blk_n ?_
       first
         | refine J.meet _ ?_ ⟨rfl, rfl, trivial⟩ rfl
         | (refine J.keep [1, 0, 2] rfl ?_
            refine J.meet _ ?_ ⟨rfl, rfl, trivial⟩ rfl)
       simp_all [-List.length_eq_zero_iff, OM.chkR, emp, longB] <;> first | omega | (rw [Bool.eq_iff_iff]; simp [-List.length_eq_zero_iff] <;> omega)
      refine J.k rfl <| J.k rfl <| J.p rfl (Q.pick_f rfl rfl) <| J.m rfl <| J.k rfl <| J.k rfl <| J.p rfl (Q.pick_f rfl rfl) <| J.m rfl <| J.k rfl <| J.k rfl <| J.p rfl (Q.pick_f rfl rfl) <| J.m rfl <| J.k rfl <| J.k rfl <| J.p rfl (Q.pick_f rfl rfl) <| J.p rfl (Q.asg rfl) <| J.nil <| J.blk_n ?_
      first
        | refine J.meet _ ?_ ⟨rfl, rfl, trivial⟩ rfl
        | (refine J.keep [1, 0, 2] rfl ?_
           refine J.meet _ ?_ ⟨rfl, rfl, trivial⟩ rfl)
      simp_all [-List.length_eq_zero_iff, OM.chkR, emp, longB] <;> first | omega | (rw [Bool.eq_iff_iff]; simp [-List.length_eq_zero_iff] <;> omega)
     refine J.k rfl <| J.k rfl <| J.p rfl (Q.pick_f rfl rfl) <| J.m rfl <| J.k rfl <| J.k rfl <| J.p rfl (Q.pick_f rfl rfl) <| J.m rfl <| J.k rfl <| J.k rfl <| J.p rfl (Q.pick_f rfl rfl) <| J.m rfl <| J.k rfl <| J.k rfl <| J.p rfl (Q.pick_f rfl rfl) <| J.m rfl <| J.k rfl <| J.k rfl ?_
     refine J.p rfl (Q.pick_f rfl rfl) <| J.p rfl (Q.asg rfl) <| J.nil <| J.blk_n ?_
     first
       | refine J.meet _ ?_ ⟨rfl, rfl, trivial⟩ rfl
       | (refine J.keep [1, 0, 2] rfl ?_
          refine J.meet _ ?_ ⟨rfl, rfl, trivial⟩ rfl)
     simp_all [-List.length_eq_zero_iff, OM.chkR, emp, longB] <;> first | omega | (rw [Bool.eq_iff_iff]; simp [-List.length_eq_zero_iff] <;> omega)
    refine J.k rfl <| J.k rfl <| J.k rfl <| J.p rfl (Q.pick_f rfl rfl) <| J.m rfl <| J.k rfl <| J.k rfl <| J.p rfl (Q.pick_f rfl rfl) <| J.m rfl <| J.k rfl <| J.k rfl <| J.p rfl (Q.pick_f rfl rfl) <| J.m rfl <| J.k rfl <| J.k rfl <| J.p rfl (Q.pick_f rfl rfl) <| J.m rfl <| J.k rfl ?_
    refine J.k rfl <| J.p rfl (Q.pick_f rfl rfl) <| J.m rfl <| J.k rfl <| J.k rfl <| J.p rfl (Q.pick_f rfl rfl) <| J.p rfl (Q.asg rfl) <| J.nil <| J.blk_n ?_
    first
      | refine J.meet _ ?_ ⟨rfl, rfl, trivial⟩ rfl
      | (refine J.keep [1, 0, 2] rfl ?_
         refine J.meet _ ?_ ⟨rfl, rfl, trivial⟩ rfl)
    simp_all [-List.length_eq_zero_iff, OM.chkR, emp, longB] <;> first | omega | (rw [Bool.eq_iff_iff]; simp [-List.length_eq_zero_iff] <;> omega)
   refine J.cond_f rfl <| J.seq <| J.region <| J.p rfl (Q.eql rfl rfl) <| J.p rfl (Q.asg rfl) <| J.nil <| J.then_n ?_
   refine J.kases 98 rfl (fun hc98 => ?_) (fun hc98 => ?_)
   ·
    refine J.cond_t rfl <| J.cskip <| J.then_n <| J.cond_t rfl <| J.region <| J.p rfl (Q.fa (n := 2) runUnderlying52 rfl rfl sizeOf9 rfl) ?_
    refine J.p rfl (Q.ldI isAgg9 rfl) ?_
    refine J.call call27 (rname_spec x.o.bucket (by omega)) [] rfl rfl rfl rfl ?_
    rintro _ _ ⟨rfl, rfl⟩
    refine J.norm rfl <| J.m rfl ?_
    refine J.kases 105 rfl (fun hb105 => ?_) (fun hb105 => ?_)
    ·
     refine J.p rfl (Q.fa (n := 3) runUnderlying52 rfl rfl sizeOf9 rfl) ?_
     refine J.p rfl (Q.ldI isAgg9 rfl) ?_
     refine J.call call28 (key_spec x.o.key) [] rfl rfl rfl rfl ?_
     rintro _ _ ⟨rfl, rfl⟩
     refine J.norm rfl <| J.p rfl (Q.pick_t rfl rfl) <| J.m rfl ?_
     refine J.kases 110 rfl (fun hb110 => ?_) (fun hb110 => ?_)
     ·
      refine J.m rfl <| J.p rfl (Q.not rfl) <| J.p rfl (Q.pick_t rfl rfl) <| J.m rfl ?_
      refine J.kases 114 rfl (fun hb114 => ?_) (fun hb114 => ?_)
      ·
       refine J.m rfl <| J.p rfl (Q.not rfl) <| J.p rfl (Q.pick_t rfl rfl) <| J.m rfl ?_
       refine J.kases 118 rfl (fun hb118 => ?_) (fun hb118 => ?_)
       ·
        refine J.m rfl <| J.p rfl (Q.not rfl) <| J.p rfl (Q.pick_t rfl rfl) <| J.m rfl ?_
        refine J.kases 122 rfl (fun hb122 => ?_) (fun hb122 => ?_)
        ·
         refine J.m rfl <| J.p rfl (Q.not rfl) <| J.p rfl (Q.pick_t rfl rfl) <| J.m rfl ?_
         refine J.kases 126 rfl (fun hb126 => ?_) (fun hb126 => ?_)
         ·
          refine J.m rfl <| J.p rfl (Q.not rfl) <| J.p rfl (Q.pick_t rfl rfl) <| J.p rfl (Q.asg rfl) <| J.nil <| J.blk_n ?_
          first
            | refine J.meet _ ?_ ⟨rfl, rfl, trivial⟩ rfl
            | (refine J.keep [1, 0, 2] rfl ?_
               refine J.meet _ ?_ ⟨rfl, rfl, trivial⟩ rfl)
          simp_all [-List.length_eq_zero_iff, OM.chkR, emp, longB] <;> first | omega | (rw [Bool.eq_iff_iff]; simp [-List.length_eq_zero_iff] <;> omega)
         refine J.k rfl <| J.k rfl <| J.p rfl (Q.pick_f rfl rfl) <| J.p rfl (Q.asg rfl) <| J.nil <| J.blk_n ?_
         first
           | refine J.meet _ ?_ ⟨rfl, rfl, trivial⟩ rfl
           | (refine J.keep [1, 0, 2] rfl ?_
              refine J.meet _ ?_ ⟨rfl, rfl, trivial⟩ rfl)
         simp_all [-List.length_eq_zero_iff, OM.chkR, emp, longB] <;> first | omega | (rw [Bool.eq_iff_iff]; simp [-List.length_eq_zero_iff] <;> omega)
        refine J.k rfl <| J.k rfl <| J.p rfl (Q.pick_f rfl rfl) <| J.m rfl <| J.k rfl <| J.k rfl <| J.p rfl (Q.pick_f rfl rfl) <| J.p rfl (Q.asg rfl) <| J.nil <| J.blk_n ?_
        first
          | refine J.meet _ ?_ ⟨rfl, rfl, trivial⟩ rfl
          | (refine J.keep [1, 0, 2] rfl ?_
             refine J.meet _ ?_ ⟨rfl, rfl, trivial⟩ rfl)
        simp_all [-List.length_eq_zero_iff, OM.chkR, emp, longB] <;> first | omega | (rw [Bool.eq_iff_iff]; simp [-List.length_eq_zero_iff] <;> omega)
       refine J.k rfl <| J.k rfl <| J.p rfl (Q.pick_f rfl rfl) <| J.m rfl <| J.k rfl <| J.k rfl <| J.p rfl (Q.pick_f rfl rfl) <| J.m rfl <| J.k rfl <| J.k rfl <| J.p rfl (Q.pick_f rfl rfl) <| J.p rfl (Q.asg rfl) <| J.nil <| J.blk_n ?_
       first
         | refine J.meet _ ?_ ⟨rfl, rfl, trivial⟩ rfl
         | (refine J.keep [1, 0, 2] rfl ?_
            refine J.meet _ ?_ ⟨rfl, rfl, trivial⟩ rfl)
       simp_all [-List.length_eq_zero_iff, OM.chkR, emp, longB] <;> first | omega | (rw [Bool.eq_iff_iff]; simp [-List.length_eq_zero_iff] <;> omega)
      refine J.k rfl <| J.k rfl <| J.p rfl (Q.pick_f rfl rfl) <| J.m rfl <| J.k rfl <| J.k rfl <| J.p rfl (Q.pick_f rfl rfl) <| J.m rfl <| J.k rfl <| J.k rfl <| J.p rfl (Q.pick_f rfl rfl) <| J.m rfl <| J.k rfl <| J.k rfl <| J.p rfl (Q.pick_f rfl rfl) <| J.p rfl (Q.asg rfl) <| J.nil <| J.blk_n ?_
      first
        | refine J.meet _ ?_ ⟨rfl, rfl, trivial⟩ rfl
        | (refine J.keep [1, 0, 2] rfl ?_
           refine J.meet _ ?_ ⟨rfl, rfl, trivial⟩ rfl)
      simp_all [-List.length_eq_zero_iff, OM.chkR, emp, longB] <;> first | omega | (rw [Bool.eq_iff_iff]; simp [-List.length_eq_zero_iff] <;> omega)
     refine J.k rfl <| J.k rfl <| J.p rfl (Q.pick_f rfl rfl) <| J.m rfl <| J.k rfl <| J.k rfl <| J.p rfl (Q.pick_f rfl rfl) <| J.m rfl <| J.k rfl <| J.k rfl <| J.p rfl (Q.pick_f rfl rfl) <| J.m rfl <| J.k rfl <| J.k rfl <| J.p rfl (Q.pick_f rfl rfl) <| J.m rfl <| J.k rfl <| J.k rfl ?_
     refine J.p rfl (Q.pick_f rfl rfl) <| J.p rfl (Q.asg rfl) <| J.nil <| J.blk_n ?_
     first
       | refine J.meet _ ?_ ⟨rfl, rfl, trivial⟩ rfl
       | (refine J.keep [1, 0, 2] rfl ?_
          refine J.meet _ ?_ ⟨rfl, rfl, trivial⟩ rfl)
     simp_all [-List.length_eq_zero_iff, OM.chkR, emp, longB] <;> first | omega | (rw [Bool.eq_iff_iff]; simp [-List.length_eq_zero_iff] <;> omega)
    refine J.k rfl <| J.k rfl <| J.k rfl <| J.p rfl (Q.pick_f rfl rfl) <| J.m rfl <| J.k rfl <| J.k rfl <| J.p rfl (Q.pick_f rfl rfl) <| J.m rfl <| J.k rfl <| J.k rfl <| J.p rfl (Q.pick_f rfl rfl) <| J.m rfl <| J.k rfl <| J.k rfl <| J.p rfl (Q.pick_f rfl rfl) <| J.m rfl <| J.k rfl ?_
    refine J.k rfl <| J.p rfl (Q.pick_f rfl rfl) <| J.m rfl <| J.k rfl <| J.k rfl <| J.p rfl (Q.pick_f rfl rfl) <| J.p rfl (Q.asg rfl) <| J.nil <| J.blk_n ?_
    first
      | refine J.meet _ ?_ ⟨rfl, rfl, trivial⟩ rfl
      | (refine J.keep [1, 0, 2] rfl ?_
         refine J.meet _ ?_ ⟨rfl, rfl, trivial⟩ rfl)
    simp_all [-List.length_eq_zero_iff, OM.chkR, emp, longB] <;> first | omega | (rw [Bool.eq_iff_iff]; simp [-List.length_eq_zero_iff] <;> omega)
   refine J.cond_f rfl <| J.region <| J.p rfl (Q.eql rfl rfl) <| J.p rfl (Q.asg rfl) <| J.nil <| J.then_n ?_
   refine J.kases 98 rfl (fun hc98 => ?_) (fun hc98 => ?_)
   ·
    refine J.cond_t rfl <| J.region <| J.p rfl (Q.fa (n := 2) runUnderlying52 rfl rfl sizeOf9 rfl) ?_
    refine J.p rfl (Q.ldI isAgg9 rfl) ?_
    refine J.call call27 (rname_spec x.o.bucket (by omega)) [] rfl rfl rfl rfl ?_
    rintro _ _ ⟨rfl, rfl⟩
    refine J.norm rfl <| J.m rfl ?_
    refine J.kases 105 rfl (fun hb105 => ?_) (fun hb105 => ?_)
    ·
     refine J.p rfl (Q.fa (n := 3) runUnderlying52 rfl rfl sizeOf9 rfl) ?_
     refine J.p rfl (Q.ldI isAgg9 rfl) ?_
     refine J.call call28 (key_spec x.o.key) [] rfl rfl rfl rfl ?_
     rintro _ _ ⟨rfl, rfl⟩
     refine J.norm rfl <| J.p rfl (Q.pick_t rfl rfl) <| J.m rfl ?_
     refine J.kases 110 rfl (fun hb110 => ?_) (fun hb110 => ?_)
     ·
      refine J.m rfl <| J.p rfl (Q.not rfl) <| J.p rfl (Q.pick_t rfl rfl) <| J.m rfl ?_
      refine J.kases 114 rfl (fun hb114 => ?_) (fun hb114 => ?_)
      ·
       refine J.m rfl <| J.p rfl (Q.not rfl) <| J.p rfl (Q.pick_t rfl rfl) <| J.m rfl ?_
       refine J.kases 118 rfl (fun hb118 => ?_) (fun hb118 => ?_)
       ·
        refine J.m rfl <| J.p rfl (Q.not rfl) <| J.p rfl (Q.pick_t rfl rfl) <| J.m rfl ?_
        refine J.kases 122 rfl (fun hb122 => ?_) (fun hb122 => ?_)
        ·
         refine J.m rfl <| J.p rfl (Q.not rfl) <| J.p rfl (Q.pick_t rfl rfl) <| J.m rfl ?_
         refine J.kases 126 rfl (fun hb126 => ?_) (fun hb126 => ?_)
         ·
          refine J.m rfl <| J.p rfl (Q.not rfl) <| J.p rfl (Q.pick_t rfl rfl) <| J.p rfl (Q.asg rfl) <| J.nil <| J.blk_n ?_
          first
            | refine J.meet _ ?_ ⟨rfl, rfl, trivial⟩ rfl
            | (refine J.keep [1, 0, 2] rfl ?_
               refine J.meet _ ?_ ⟨rfl, rfl, trivial⟩ rfl)
          simp_all [-List.length_eq_zero_iff, OM.chkR, emp, longB] <;> first | omega | (rw [Bool.eq_iff_iff]; simp [-List.length_eq_zero_iff] <;> omega)
         refine J.k rfl <| J.k rfl <| J.p rfl (Q.pick_f rfl rfl) <| J.p rfl (Q.asg rfl) <| J.nil <| J.blk_n ?_
         first
           | refine J.meet _ ?_ ⟨rfl, rfl, trivial⟩ rfl
           | (refine J.keep [1, 0, 2] rfl ?_
              refine J.meet _ ?_ ⟨rfl, rfl, trivial⟩ rfl)
         simp_all [-List.length_eq_zero_iff, OM.chkR, emp, longB] <;> first | omega | (rw [Bool.eq_iff_iff]; simp [-List.length_eq_zero_iff] <;> omega)
        refine J.k rfl <| J.k rfl <| J.p rfl (Q.pick_f rfl rfl) <| J.m rfl <| J.k rfl <| J.k rfl <| J.p rfl (Q.pick_f rfl rfl) <| J.p rfl (Q.asg rfl) <| J.nil <| J.blk_n ?_
        first
          | refine J.meet _ ?_ ⟨rfl, rfl, trivial⟩ rfl
          | (refine J.keep [1, 0, 2] rfl ?_
             refine J.meet _ ?_ ⟨rfl, rfl, trivial⟩ rfl)
        simp_all [-List.length_eq_zero_iff, OM.chkR, emp, longB] <;> first | omega | (rw [Bool.eq_iff_iff]; simp [-List.length_eq_zero_iff] <;> omega)
       refine J.k rfl <| J.k rfl <| J.p rfl (Q.pick_f rfl rfl) <| J.m rfl <| J.k rfl <| J.k rfl <| J.p rfl (Q.pick_f rfl rfl) <| J.m rfl <| J.k rfl <| J.k rfl <| J.p rfl (Q.pick_f rfl rfl) <| J.p rfl (Q.asg rfl) <| J.nil <| J.blk_n ?_
       first
         | refine J.meet _ ?_ ⟨rfl, rfl, trivial⟩ rfl
         | (refine J.keep [1, 0, 2] rfl ?_
            refine J.meet _ ?_ ⟨rfl, rfl, trivial⟩ rfl)
       simp_all [-List.length_eq_zero_iff, OM.chkR, emp, longB] <;> first | omega | (rw [Bool.eq_iff_iff]; simp [-List.length_eq_zero_iff] <;> omega)
      refine J.k rfl <| J.k rfl <| J.p rfl (Q.pick_f rfl rfl) <| J.m rfl <| J.k rfl <| J.k rfl <| J.p rfl (Q.pick_f rfl rfl) <| J.m rfl <| J.k rfl <| J.k rfl <| J.p rfl (Q.pick_f rfl rfl) <| J.m rfl <| J.k rfl <| J.k rfl <| J.p rfl (Q.pick_f rfl rfl) <| J.p rfl (Q.asg rfl) <| J.nil <| J.blk_n ?_
      first
        | refine J.meet _ ?_ ⟨rfl, rfl, trivial⟩ rfl
        | (refine J.keep [1, 0, 2] rfl ?_
           refine J.meet _ ?_ ⟨rfl, rfl, trivial⟩ rfl)
      simp_all [-List.length_eq_zero_iff, OM.chkR, emp, longB] <;> first | omega | (rw [Bool.eq_iff_iff]; simp [-List.length_eq_zero_iff] <;> omega)
     refine J.k rfl <| J.k rfl <| J.p rfl (Q.pick_f rfl rfl) <| J.m rfl <| J.k rfl <| J.k rfl <| J.p rfl (Q.pick_f rfl rfl) <| J.m rfl <| J.k rfl <| J.k rfl <| J.p rfl (Q.pick_f rfl rfl) <| J.m rfl <| J.k rfl <| J.k rfl <| J.p rfl (Q.pick_f rfl rfl) <| J.m rfl <| J.k rfl <| J.k rfl ?_
     refine J.p rfl (Q.pick_f rfl rfl) <| J.p rfl (Q.asg rfl) <| J.nil <| J.blk_n ?_
     first
       | refine J.meet _ ?_ ⟨rfl, rfl, trivial⟩ rfl
       | (refine J.keep [1, 0, 2] rfl ?_
          refine J.meet _ ?_ ⟨rfl, rfl, trivial⟩ rfl)
     simp_all [-List.length_eq_zero_iff, OM.chkR, emp, longB] <;> first | omega | (rw [Bool.eq_iff_iff]; simp [-List.length_eq_zero_iff] <;> omega)
    refine J.k rfl <| J.k rfl <| J.k rfl <| J.p rfl (Q.pick_f rfl rfl) <| J.m rfl <| J.k rfl <| J.k rfl <| J.p rfl (Q.pick_f rfl rfl) <| J.m rfl <| J.k rfl <| J.k rfl <| J.p rfl (Q.pick_f rfl rfl) <| J.m rfl <| J.k rfl <| J.k rfl <| J.p rfl (Q.pick_f rfl rfl) <| J.m rfl <| J.k rfl ?_
    refine J.k rfl <| J.p rfl (Q.pick_f rfl rfl) <| J.m rfl <| J.k rfl <| J.k rfl <| J.p rfl (Q.pick_f rfl rfl) <| J.p rfl (Q.asg rfl) <| J.nil <| J.blk_n ?_
    first
      | refine J.meet _ ?_ ⟨rfl, rfl, trivial⟩ rfl
      | (refine J.keep [1, 0, 2] rfl ?_
         refine J.meet _ ?_ ⟨rfl, rfl, trivial⟩ rfl)
    simp_all [-List.length_eq_zero_iff, OM.chkR, emp, longB] <;> first | omega | (rw [Bool.eq_iff_iff]; simp [-List.length_eq_zero_iff] <;> omega)
   refine J.cond_f rfl <| J.seq <| J.region <| J.p rfl (Q.eql rfl rfl) <| J.p rfl (Q.asg rfl) <| J.nil <| J.then_n ?_
   refine J.kases 130 rfl (fun hc130 => ?_) (fun hc130 => ?_)
   ·
    refine J.cond_t rfl <| J.region <| J.p rfl (Q.fa (n := 2) runUnderlying52 rfl rfl sizeOf9 rfl) ?_
    refine J.p rfl (Q.ldI isAgg9 rfl) ?_
    refine J.call call27 (rname_spec x.o.bucket (by omega)) [] rfl rfl rfl rfl ?_
    rintro _ _ ⟨rfl, rfl⟩
    refine J.norm rfl <| J.m rfl ?_
    refine J.kases 135 rfl (fun hb135 => ?_) (fun hb135 => ?_)
    ·
     refine J.p rfl (Q.fa (n := 3) runUnderlying52 rfl rfl sizeOf9 rfl) ?_
     refine J.p rfl (Q.ldI isAgg9 rfl) ?_
     refine J.p rfl (Q.lenS runUnderlying9 rfl) <| J.p rfl (Q.leq rfl rfl) <| J.p rfl (Q.pick_t rfl rfl) <| J.m rfl ?_
     refine J.kases 141 rfl (fun hb141 => ?_) (fun hb141 => ?_)
     ·
      refine J.p rfl (Q.fa (n := 4) runUnderlying52 rfl rfl sizeOf9 rfl) ?_
      refine J.p rfl (Q.ldI isAgg9 rfl) ?_
      refine J.p rfl (Q.lenS runUnderlying9 rfl) <| J.p rfl (Q.leq rfl rfl) <| J.p rfl (Q.pick_t rfl rfl) <| J.m rfl ?_
      refine J.kases 147 rfl (fun hb147 => ?_) (fun hb147 => ?_)
      ·
       refine J.p rfl (Q.fa (n := 5) runUnderlying52 rfl rfl sizeOf3 rfl) ?_
       refine J.p rfl (Q.ldI isAgg3 rfl) ?_
       refine J.p rfl (Q.geq rfl rfl) <| J.p rfl (Q.pick_t rfl rfl) <| J.m rfl ?_
       refine J.kases 152 rfl (fun hb152 => ?_) (fun hb152 => ?_)
       ·
        refine J.p rfl (Q.fa (n := 5) runUnderlying52 rfl rfl sizeOf3 rfl) ?_
        refine J.p rfl (Q.ldI isAgg3 rfl) ?_
        refine J.p rfl (Q.leq rfl rfl) <| J.p rfl (Q.pick_t rfl rfl) <| J.m rfl ?_
        refine J.kases 157 rfl (fun hb157 => ?_) (fun hb157 => ?_)
        ·
         refine J.m rfl <| J.p rfl (Q.not rfl) <| J.p rfl (Q.pick_t rfl rfl) <| J.m rfl ?_
         refine J.kases 161 rfl (fun hb161 => ?_) (fun hb161 => ?_)
         ·
          refine J.m rfl <| J.p rfl (Q.not rfl) <| J.p rfl (Q.pick_t rfl rfl) <| J.m rfl ?_
          refine J.kases 165 rfl (fun hb165 => ?_) (fun hb165 => ?_)
          ·
           refine J.m rfl <| J.p rfl (Q.not rfl) <| J.p rfl (Q.pick_t rfl rfl) <| J.p rfl (Q.asg rfl) <| J.nil <| J.blk_n ?_
           first
             | refine J.meet _ ?_ ⟨rfl, rfl, trivial⟩ rfl
             | (refine J.keep [1, 0, 2] rfl ?_
                refine J.meet _ ?_ ⟨rfl, rfl, trivial⟩ rfl)
           simp_all [-List.length_eq_zero_iff, OM.chkR, emp, longB] <;> first | omega | (rw [Bool.eq_iff_iff]; simp [-List.length_eq_zero_iff] <;> omega)
          refine J.k rfl <| J.k rfl <| J.p rfl (Q.pick_f rfl rfl) <| J.p rfl (Q.asg rfl) <| J.nil <| J.blk_n ?_
          first
            | refine J.meet _ ?_ ⟨rfl, rfl, trivial⟩ rfl
            | (refine J.keep [1, 0, 2] rfl ?_
               refine J.meet _ ?_ ⟨rfl, rfl, trivial⟩ rfl)
          simp_all [-List.length_eq_zero_iff, OM.chkR, emp, longB] <;> first | omega | (rw [Bool.eq_iff_iff]; simp [-List.length_eq_zero_iff] <;> omega)
         refine J.k rfl <| J.k rfl <| J.p rfl (Q.pick_f rfl rfl) <| J.m rfl <| J.k rfl <| J.k rfl <| J.p rfl (Q.pick_f rfl rfl) <| J.p rfl (Q.asg rfl) <| J.nil <| J.blk_n ?_
         first
           | refine J.meet _ ?_ ⟨rfl, rfl, trivial⟩ rfl
           | (refine J.keep [1, 0, 2] rfl ?_
              refine J.meet _ ?_ ⟨rfl, rfl, trivial⟩ rfl)
         simp_all [-List.length_eq_zero_iff, OM.chkR, emp, longB] <;> first | omega | (rw [Bool.eq_iff_iff]; simp [-List.length_eq_zero_iff] <;> omega)
        refine J.k rfl <| J.k rfl <| J.p rfl (Q.pick_f rfl rfl) <| J.m rfl <| J.k rfl <| J.k rfl <| J.p rfl (Q.pick_f rfl rfl) <| J.m rfl <| J.k rfl <| J.k rfl <| J.p rfl (Q.pick_f rfl rfl) <| J.p rfl (Q.asg rfl) <| J.nil <| J.blk_n ?_
        first
          | refine J.meet _ ?_ ⟨rfl, rfl, trivial⟩ rfl
          | (refine J.keep [1, 0, 2] rfl ?_
             refine J.meet _ ?_ ⟨rfl, rfl, trivial⟩ rfl)
        simp_all [-List.length_eq_zero_iff, OM.chkR, emp, longB] <;> first | omega | (rw [Bool.eq_iff_iff]; simp [-List.length_eq_zero_iff] <;> omega)
       refine J.k rfl <| J.k rfl <| J.k rfl <| J.p rfl (Q.pick_f rfl rfl) <| J.m rfl <| J.k rfl <| J.k rfl <| J.p rfl (Q.pick_f rfl rfl) <| J.m rfl <| J.k rfl <| J.k rfl <| J.p rfl (Q.pick_f rfl rfl) <| J.m rfl <| J.k rfl <| J.k rfl <| J.p rfl (Q.pick_f rfl rfl) <| J.p rfl (Q.asg rfl) <| J.nil ?_
       refine J.blk_n ?_
       first
         | refine J.meet _ ?_ ⟨rfl, rfl, trivial⟩ rfl
         | (refine J.keep [1, 0, 2] rfl ?_
            refine J.meet _ ?_ ⟨rfl, rfl, trivial⟩ rfl)
       simp_all [-List.length_eq_zero_iff, OM.chkR, emp, longB] <;> first | omega | (rw [Bool.eq_iff_iff]; simp [-List.length_eq_zero_iff] <;> omega)
      refine J.k rfl <| J.k rfl <| J.k rfl <| J.p rfl (Q.pick_f rfl rfl) <| J.m rfl <| J.k rfl <| J.k rfl <| J.k rfl <| J.p rfl (Q.pick_f rfl rfl) <| J.m rfl <| J.k rfl <| J.k rfl <| J.p rfl (Q.pick_f rfl rfl) <| J.m rfl <| J.k rfl <| J.k rfl <| J.p rfl (Q.pick_f rfl rfl) <| J.m rfl ?_
      refine J.k rfl <| J.k rfl <| J.p rfl (Q.pick_f rfl rfl) <| J.p rfl (Q.asg rfl) <| J.nil <| J.blk_n ?_
      first
        | refine J.meet _ ?_ ⟨rfl, rfl, trivial⟩ rfl
        | (refine J.keep [1, 0, 2] rfl ?_
           refine J.meet _ ?_ ⟨rfl, rfl, trivial⟩ rfl)
      simp_all [-List.length_eq_zero_iff, OM.chkR, emp, longB] <;> first | omega | (rw [Bool.eq_iff_iff]; simp [-List.length_eq_zero_iff] <;> omega)
     refine J.k rfl <| J.k rfl <| J.k rfl <| J.k rfl <| J.p rfl (Q.pick_f rfl rfl) <| J.m rfl <| J.k rfl <| J.k rfl <| J.k rfl <| J.p rfl (Q.pick_f rfl rfl) <| J.m rfl <| J.k rfl <| J.k rfl <| J.k rfl <| J.p rfl (Q.pick_f rfl rfl) <| J.m rfl <| J.k rfl <| J.k rfl <| J.p rfl (Q.pick_f rfl rfl) ?_
     refine J.m rfl <| J.k rfl <| J.k rfl <| J.p rfl (Q.pick_f rfl rfl) <| J.m rfl <| J.k rfl <| J.k rfl <| J.p rfl (Q.pick_f rfl rfl) <| J.p rfl (Q.asg rfl) <| J.nil <| J.blk_n ?_
     first
       | refine J.meet _ ?_ ⟨rfl, rfl, trivial⟩ rfl
       | (refine J.keep [1, 0, 2] rfl ?_
          refine J.meet _ ?_ ⟨rfl, rfl, trivial⟩ rfl)
     simp_all [-List.length_eq_zero_iff, OM.chkR, emp, longB] <;> first | omega | (rw [Bool.eq_iff_iff]; simp [-List.length_eq_zero_iff] <;> omega)
    refine J.k rfl <| J.k rfl <| J.k rfl <| J.k rfl <| J.p rfl (Q.pick_f rfl rfl) <| J.m rfl <| J.k rfl <| J.k rfl <| J.k rfl <| J.k rfl <| J.p rfl (Q.pick_f rfl rfl) <| J.m rfl <| J.k rfl <| J.k rfl <| J.k rfl <| J.p rfl (Q.pick_f rfl rfl) <| J.m rfl <| J.k rfl <| J.k rfl ?_
    refine J.k rfl <| J.p rfl (Q.pick_f rfl rfl) <| J.m rfl <| J.k rfl <| J.k rfl <| J.p rfl (Q.pick_f rfl rfl) <| J.m rfl <| J.k rfl <| J.k rfl <| J.p rfl (Q.pick_f rfl rfl) <| J.m rfl <| J.k rfl <| J.k rfl <| J.p rfl (Q.pick_f rfl rfl) <| J.p rfl (Q.asg rfl) <| J.nil <| J.blk_n ?_
    first
      | refine J.meet _ ?_ ⟨rfl, rfl, trivial⟩ rfl
      | (refine J.keep [1, 0, 2] rfl ?_
         refine J.meet _ ?_ ⟨rfl, rfl, trivial⟩ rfl)
    simp_all [-List.length_eq_zero_iff, OM.chkR, emp, longB] <;> first | omega | (rw [Bool.eq_iff_iff]; simp [-List.length_eq_zero_iff] <;> omega)
   refine J.cond_f rfl <| J.seq <| J.region <| J.p rfl (Q.eql rfl rfl) <| J.p rfl (Q.asg rfl) <| J.nil <| J.then_n ?_
   refine J.kases 169 rfl (fun hc169 => ?_) (fun hc169 => ?_)
   ·
    refine J.cond_t rfl <| J.region <| J.m rfl <| J.p rfl (Q.not rfl) <| J.m rfl ?_
    refine J.kases 173 rfl (fun hb173 => ?_) (fun hb173 => ?_)
    ·
     refine J.m rfl <| J.p rfl (Q.not rfl) <| J.p rfl (Q.pick_t rfl rfl) <| J.m rfl ?_
     refine J.kases 177 rfl (fun hb177 => ?_) (fun hb177 => ?_)
     ·
      refine J.m rfl <| J.p rfl (Q.not rfl) <| J.p rfl (Q.pick_t rfl rfl) <| J.m rfl ?_
      refine J.kases 181 rfl (fun hb181 => ?_) (fun hb181 => ?_)
      ·
       refine J.p rfl (Q.fa (n := 5) runUnderlying52 rfl rfl sizeOf3 rfl) ?_
       refine J.p rfl (Q.ldI isAgg3 rfl) ?_
       refine J.p rfl (Q.geq rfl rfl) <| J.p rfl (Q.pick_t rfl rfl) <| J.m rfl ?_
       refine J.kases 186 rfl (fun hb186 => ?_) (fun hb186 => ?_)
       ·
        refine J.p rfl (Q.fa (n := 5) runUnderlying52 rfl rfl sizeOf3 rfl) ?_
        refine J.p rfl (Q.ldI isAgg3 rfl) ?_
        refine J.p rfl (Q.leq rfl rfl) <| J.p rfl (Q.pick_t rfl rfl) <| J.m rfl ?_
        refine J.kases 191 rfl (fun hb191 => ?_) (fun hb191 => ?_)
        ·
         refine J.m rfl <| J.p rfl (Q.not rfl) <| J.p rfl (Q.pick_t rfl rfl) <| J.m rfl ?_
         refine J.kases 195 rfl (fun hb195 => ?_) (fun hb195 => ?_)
         ·
          refine J.p rfl (Q.fa (n := 8) runUnderlying52 rfl rfl sizeOf42 rfl) ?_
          refine J.p rfl (Q.ldI isAgg42 rfl) ?_
          refine J.p rfl (Q.lenSl runUnderlying42 rfl) <| J.p rfl (Q.leq rfl rfl) <| J.p rfl (Q.pick_t rfl rfl) <| J.p rfl (Q.asg rfl) <| J.nil <| J.blk_n ?_
          first
            | refine J.meet _ ?_ ⟨rfl, rfl, trivial⟩ rfl
            | (refine J.keep [1, 0, 2] rfl ?_
               refine J.meet _ ?_ ⟨rfl, rfl, trivial⟩ rfl)
          simp_all [-List.length_eq_zero_iff, OM.chkR, emp, longB] <;> first | omega | (rw [Bool.eq_iff_iff]; simp [-List.length_eq_zero_iff] <;> omega)
         refine J.k rfl <| J.k rfl <| J.k rfl <| J.k rfl <| J.p rfl (Q.pick_f rfl rfl) <| J.p rfl (Q.asg rfl) <| J.nil <| J.blk_n ?_
         first
           | refine J.meet _ ?_ ⟨rfl, rfl, trivial⟩ rfl
           | (refine J.keep [1, 0, 2] rfl ?_
              refine J.meet _ ?_ ⟨rfl, rfl, trivial⟩ rfl)
         simp_all [-List.length_eq_zero_iff, OM.chkR, emp, longB] <;> first | omega | (rw [Bool.eq_iff_iff]; simp [-List.length_eq_zero_iff] <;> omega)
        refine J.k rfl <| J.k rfl <| J.p rfl (Q.pick_f rfl rfl) <| J.m rfl <| J.k rfl <| J.k rfl <| J.k rfl <| J.k rfl <| J.p rfl (Q.pick_f rfl rfl) <| J.p rfl (Q.asg rfl) <| J.nil <| J.blk_n ?_
        first
          | refine J.meet _ ?_ ⟨rfl, rfl, trivial⟩ rfl
          | (refine J.keep [1, 0, 2] rfl ?_
             refine J.meet _ ?_ ⟨rfl, rfl, trivial⟩ rfl)
        simp_all [-List.length_eq_zero_iff, OM.chkR, emp, longB] <;> first | omega | (rw [Bool.eq_iff_iff]; simp [-List.length_eq_zero_iff] <;> omega)
       refine J.k rfl <| J.k rfl <| J.k rfl <| J.p rfl (Q.pick_f rfl rfl) <| J.m rfl <| J.k rfl <| J.k rfl <| J.p rfl (Q.pick_f rfl rfl) <| J.m rfl <| J.k rfl <| J.k rfl <| J.k rfl <| J.k rfl <| J.p rfl (Q.pick_f rfl rfl) <| J.p rfl (Q.asg rfl) <| J.nil <| J.blk_n ?_
       first
         | refine J.meet _ ?_ ⟨rfl, rfl, trivial⟩ rfl
         | (refine J.keep [1, 0, 2] rfl ?_
            refine J.meet _ ?_ ⟨rfl, rfl, trivial⟩ rfl)
       simp_all [-List.length_eq_zero_iff, OM.chkR, emp, longB] <;> first | omega | (rw [Bool.eq_iff_iff]; simp [-List.length_eq_zero_iff] <;> omega)
      refine J.k rfl <| J.k rfl <| J.k rfl <| J.p rfl (Q.pick_f rfl rfl) <| J.m rfl <| J.k rfl <| J.k rfl <| J.k rfl <| J.p rfl (Q.pick_f rfl rfl) <| J.m rfl <| J.k rfl <| J.k rfl <| J.p rfl (Q.pick_f rfl rfl) <| J.m rfl <| J.k rfl <| J.k rfl <| J.k rfl <| J.k rfl <| J.p rfl (Q.pick_f rfl rfl) ?_
      refine J.p rfl (Q.asg rfl) <| J.nil <| J.blk_n ?_
      first
        | refine J.meet _ ?_ ⟨rfl, rfl, trivial⟩ rfl
        | (refine J.keep [1, 0, 2] rfl ?_
           refine J.meet _ ?_ ⟨rfl, rfl, trivial⟩ rfl)
      simp_all [-List.length_eq_zero_iff, OM.chkR, emp, longB] <;> first | omega | (rw [Bool.eq_iff_iff]; simp [-List.length_eq_zero_iff] <;> omega)
     refine J.k rfl <| J.k rfl <| J.p rfl (Q.pick_f rfl rfl) <| J.m rfl <| J.k rfl <| J.k rfl <| J.k rfl <| J.p rfl (Q.pick_f rfl rfl) <| J.m rfl <| J.k rfl <| J.k rfl <| J.k rfl <| J.p rfl (Q.pick_f rfl rfl) <| J.m rfl <| J.k rfl <| J.k rfl <| J.p rfl (Q.pick_f rfl rfl) <| J.m rfl ?_
     refine J.k rfl <| J.k rfl <| J.k rfl <| J.k rfl <| J.p rfl (Q.pick_f rfl rfl) <| J.p rfl (Q.asg rfl) <| J.nil <| J.blk_n ?_
     first
       | refine J.meet _ ?_ ⟨rfl, rfl, trivial⟩ rfl
       | (refine J.keep [1, 0, 2] rfl ?_
          refine J.meet _ ?_ ⟨rfl, rfl, trivial⟩ rfl)
     simp_all [-List.length_eq_zero_iff, OM.chkR, emp, longB] <;> first | omega | (rw [Bool.eq_iff_iff]; simp [-List.length_eq_zero_iff] <;> omega)
    refine J.k rfl <| J.k rfl <| J.p rfl (Q.pick_f rfl rfl) <| J.m rfl <| J.k rfl <| J.k rfl <| J.p rfl (Q.pick_f rfl rfl) <| J.m rfl <| J.k rfl <| J.k rfl <| J.k rfl <| J.p rfl (Q.pick_f rfl rfl) <| J.m rfl <| J.k rfl <| J.k rfl <| J.k rfl <| J.p rfl (Q.pick_f rfl rfl) <| J.m rfl ?_
    refine J.k rfl <| J.k rfl <| J.p rfl (Q.pick_f rfl rfl) <| J.m rfl <| J.k rfl <| J.k rfl <| J.k rfl <| J.k rfl <| J.p rfl (Q.pick_f rfl rfl) <| J.p rfl (Q.asg rfl) <| J.nil <| J.blk_n ?_
    first
      | refine J.meet _ ?_ ⟨rfl, rfl, trivial⟩ rfl
      | (refine J.keep [1, 0, 2] rfl ?_
         refine J.meet _ ?_ ⟨rfl, rfl, trivial⟩ rfl)
    simp_all [-List.length_eq_zero_iff, OM.chkR, emp, longB] <;> first | omega | (rw [Bool.eq_iff_iff]; simp [-List.length_eq_zero_iff] <;> omega)
   refine J.cond_f rfl <| J.seq <| J.region <| J.p rfl (Q.eql rfl rfl) <| J.p rfl (Q.asg rfl) <| J.nil <| J.then_n ?_
   refine J.kases 201 rfl (fun hc201 => ?_) (fun hc201 => ?_)
   ·
    refine J.cond_t rfl <| J.region <| J.m rfl <| J.p rfl (Q.not rfl) <| J.m rfl ?_
    refine J.kases 205 rfl (fun hb205 => ?_) (fun hb205 => ?_)
    ·
     refine J.m rfl <| J.p rfl (Q.not rfl) <| J.p rfl (Q.pick_t rfl rfl) <| J.m rfl ?_
     refine J.kases 209 rfl (fun hb209 => ?_) (fun hb209 => ?_)
     ·
      refine J.m rfl <| J.p rfl (Q.not rfl) <| J.p rfl (Q.pick_t rfl rfl) <| J.m rfl ?_
      refine J.kases 213 rfl (fun hb213 => ?_) (fun hb213 => ?_)
      ·
       refine J.m rfl <| J.p rfl (Q.not rfl) <| J.p rfl (Q.pick_t rfl rfl) <| J.m rfl ?_
       refine J.kases 217 rfl (fun hb217 => ?_) (fun hb217 => ?_)
       ·
        refine J.p rfl (Q.fa (n := 7) runUnderlying52 rfl rfl sizeOf50 rfl) ?_
        refine J.p rfl (Q.ldI isAgg50 rfl) ?_
        refine J.call call29 (parts_spec G x.pp x.o.parts.length x.pc x.o.parts hx.parts (by omega)) [1] rfl rfl rfl rfl ?_
        rintro _ _ ⟨rfl, rfl⟩
        refine J.norm rfl <| J.p rfl (Q.pick_t rfl rfl) <| J.m rfl ?_
        refine J.kases 222 rfl (fun hb222 => ?_) (fun hb222 => ?_)
        ·
         refine J.m rfl <| J.p rfl (Q.not rfl) <| J.p rfl (Q.pick_t rfl rfl) <| J.p rfl (Q.asg rfl) <| J.nil <| J.blk_n ?_
         first
           | refine J.meet _ ?_ ⟨rfl, rfl, trivial⟩ rfl
           | (refine J.keep [1, 0, 2] rfl ?_
              refine J.meet _ ?_ ⟨rfl, rfl, trivial⟩ rfl)
         simp_all [-List.length_eq_zero_iff, OM.chkR, emp, longB] <;> first | omega | (rw [Bool.eq_iff_iff]; simp [-List.length_eq_zero_iff] <;> omega)
        refine J.k rfl <| J.k rfl <| J.p rfl (Q.pick_f rfl rfl) <| J.p rfl (Q.asg rfl) <| J.nil <| J.blk_n ?_
        first
          | refine J.meet _ ?_ ⟨rfl, rfl, trivial⟩ rfl
          | (refine J.keep [1, 0, 2] rfl ?_
             refine J.meet _ ?_ ⟨rfl, rfl, trivial⟩ rfl)
        simp_all [-List.length_eq_zero_iff, OM.chkR, emp, longB] <;> first | omega | (rw [Bool.eq_iff_iff]; simp [-List.length_eq_zero_iff] <;> omega)
       refine J.k rfl <| J.k rfl <| J.k rfl <| J.p rfl (Q.pick_f rfl rfl) <| J.m rfl <| J.k rfl <| J.k rfl <| J.p rfl (Q.pick_f rfl rfl) <| J.p rfl (Q.asg rfl) <| J.nil <| J.blk_n ?_
       first
         | refine J.meet _ ?_ ⟨rfl, rfl, trivial⟩ rfl
         | (refine J.keep [1, 0, 2] rfl ?_
            refine J.meet _ ?_ ⟨rfl, rfl, trivial⟩ rfl)
       simp_all [-List.length_eq_zero_iff, OM.chkR, emp, longB] <;> first | omega | (rw [Bool.eq_iff_iff]; simp [-List.length_eq_zero_iff] <;> omega)
      refine J.k rfl <| J.k rfl <| J.p rfl (Q.pick_f rfl rfl) <| J.m rfl <| J.k rfl <| J.k rfl <| J.k rfl <| J.p rfl (Q.pick_f rfl rfl) <| J.m rfl <| J.k rfl <| J.k rfl <| J.p rfl (Q.pick_f rfl rfl) <| J.p rfl (Q.asg rfl) <| J.nil <| J.blk_n ?_
      first
        | refine J.meet _ ?_ ⟨rfl, rfl, trivial⟩ rfl
        | (refine J.keep [1, 0, 2] rfl ?_
           refine J.meet _ ?_ ⟨rfl, rfl, trivial⟩ rfl)
      simp_all [-List.length_eq_zero_iff, OM.chkR, emp, longB] <;> first | omega | (rw [Bool.eq_iff_iff]; simp [-List.length_eq_zero_iff] <;> omega)
     refine J.k rfl <| J.k rfl <| J.p rfl (Q.pick_f rfl rfl) <| J.m rfl <| J.k rfl <| J.k rfl <| J.p rfl (Q.pick_f rfl rfl) <| J.m rfl <| J.k rfl <| J.k rfl <| J.k rfl <| J.p rfl (Q.pick_f rfl rfl) <| J.m rfl <| J.k rfl <| J.k rfl <| J.p rfl (Q.pick_f rfl rfl) <| J.p rfl (Q.asg rfl) <| J.nil ?_
     refine J.blk_n ?_
     first
       | refine J.meet _ ?_ ⟨rfl, rfl, trivial⟩ rfl
       | (refine J.keep [1, 0, 2] rfl ?_
          refine J.meet _ ?_ ⟨rfl, rfl, trivial⟩ rfl)
     simp_all [-List.length_eq_zero_iff, OM.chkR, emp, longB] <;> first | omega | (rw [Bool.eq_iff_iff]; simp [-List.length_eq_zero_iff] <;> omega)
    refine J.k rfl <| J.k rfl <| J.p rfl (Q.pick_f rfl rfl) <| J.m rfl <| J.k rfl <| J.k rfl <| J.p rfl (Q.pick_f rfl rfl) <| J.m rfl <| J.k rfl <| J.k rfl <| J.p rfl (Q.pick_f rfl rfl) <| J.m rfl <| J.k rfl <| J.k rfl <| J.k rfl <| J.p rfl (Q.pick_f rfl rfl) <| J.m rfl <| J.k rfl ?_
    refine J.k rfl <| J.p rfl (Q.pick_f rfl rfl) <| J.p rfl (Q.asg rfl) <| J.nil <| J.blk_n ?_
    first
      | refine J.meet _ ?_ ⟨rfl, rfl, trivial⟩ rfl
      | (refine J.keep [1, 0, 2] rfl ?_
         refine J.meet _ ?_ ⟨rfl, rfl, trivial⟩ rfl)
    simp_all [-List.length_eq_zero_iff, OM.chkR, emp, longB] <;> first | omega | (rw [Bool.eq_iff_iff]; simp [-List.length_eq_zero_iff] <;> omega)
   refine J.cond_f rfl <| J.seq <| J.region <| J.p rfl (Q.eql rfl rfl) <| J.p rfl (Q.asg rfl) <| J.nil <| J.then_n ?_
   refine J.kases 226 rfl (fun hc226 => ?_) (fun hc226 => ?_)
   ·
    refine J.cond_t rfl <| J.region <| J.m rfl <| J.p rfl (Q.not rfl) <| J.m rfl ?_
    refine J.kases 230 rfl (fun hb230 => ?_) (fun hb230 => ?_)
    ·
     refine J.m rfl <| J.p rfl (Q.not rfl) <| J.p rfl (Q.pick_t rfl rfl) <| J.m rfl ?_
     refine J.kases 234 rfl (fun hb234 => ?_) (fun hb234 => ?_)
     ·
      refine J.m rfl <| J.p rfl (Q.not rfl) <| J.p rfl (Q.pick_t rfl rfl) <| J.m rfl ?_
      refine J.kases 238 rfl (fun hb238 => ?_) (fun hb238 => ?_)
      ·
       refine J.m rfl <| J.p rfl (Q.not rfl) <| J.p rfl (Q.pick_t rfl rfl) <| J.m rfl ?_
       refine J.kases 242 rfl (fun hb242 => ?_) (fun hb242 => ?_)
       ·
        refine J.m rfl <| J.p rfl (Q.not rfl) <| J.p rfl (Q.pick_t rfl rfl) <| J.m rfl ?_
        refine J.kases 246 rfl (fun hb246 => ?_) (fun hb246 => ?_)
        ·
         refine J.m rfl <| J.p rfl (Q.not rfl) <| J.p rfl (Q.pick_t rfl rfl) <| J.p rfl (Q.asg rfl) <| J.nil <| J.blk_n ?_
         first
           | refine J.meet _ ?_ ⟨rfl, rfl, trivial⟩ rfl
           | (refine J.keep [1, 0, 2] rfl ?_
              refine J.meet _ ?_ ⟨rfl, rfl, trivial⟩ rfl)
         simp_all [-List.length_eq_zero_iff, OM.chkR, emp, longB] <;> first | omega | (rw [Bool.eq_iff_iff]; simp [-List.length_eq_zero_iff] <;> omega)
        refine J.k rfl <| J.k rfl <| J.p rfl (Q.pick_f rfl rfl) <| J.p rfl (Q.asg rfl) <| J.nil <| J.blk_n ?_
        first
          | refine J.meet _ ?_ ⟨rfl, rfl, trivial⟩ rfl
          | (refine J.keep [1, 0, 2] rfl ?_
             refine J.meet _ ?_ ⟨rfl, rfl, trivial⟩ rfl)
        simp_all [-List.length_eq_zero_iff, OM.chkR, emp, longB] <;> first | omega | (rw [Bool.eq_iff_iff]; simp [-List.length_eq_zero_iff] <;> omega)
       refine J.k rfl <| J.k rfl <| J.p rfl (Q.pick_f rfl rfl) <| J.m rfl <| J.k rfl <| J.k rfl <| J.p rfl (Q.pick_f rfl rfl) <| J.p rfl (Q.asg rfl) <| J.nil <| J.blk_n ?_
       first
         | refine J.meet _ ?_ ⟨rfl, rfl, trivial⟩ rfl
         | (refine J.keep [1, 0, 2] rfl ?_
            refine J.meet _ ?_ ⟨rfl, rfl, trivial⟩ rfl)
       simp_all [-List.length_eq_zero_iff, OM.chkR, emp, longB] <;> first | omega | (rw [Bool.eq_iff_iff]; simp [-List.length_eq_zero_iff] <;> omega)
      refine J.k rfl <| J.k rfl <| J.p rfl (Q.pick_f rfl rfl) <| J.m rfl <| J.k rfl <| J.k rfl <| J.p rfl (Q.pick_f rfl rfl) <| J.m rfl <| J.k rfl <| J.k rfl <| J.p rfl (Q.pick_f rfl rfl) <| J.p rfl (Q.asg rfl) <| J.nil <| J.blk_n ?_
      first
        | refine J.meet _ ?_ ⟨rfl, rfl, trivial⟩ rfl
        | (refine J.keep [1, 0, 2] rfl ?_
           refine J.meet _ ?_ ⟨rfl, rfl, trivial⟩ rfl)
      simp_all [-List.length_eq_zero_iff, OM.chkR, emp, longB] <;> first | omega | (rw [Bool.eq_iff_iff]; simp [-List.length_eq_zero_iff] <;> omega)
     refine J.k rfl <| J.k rfl <| J.p rfl (Q.pick_f rfl rfl) <| J.m rfl <| J.k rfl <| J.k rfl <| J.p rfl (Q.pick_f rfl rfl) <| J.m rfl <| J.k rfl <| J.k rfl <| J.p rfl (Q.pick_f rfl rfl) <| J.m rfl <| J.k rfl <| J.k rfl <| J.p rfl (Q.pick_f rfl rfl) <| J.p rfl (Q.asg rfl) <| J.nil <| J.blk_n ?_
     first
       | refine J.meet _ ?_ ⟨rfl, rfl, trivial⟩ rfl
       | (refine J.keep [1, 0, 2] rfl ?_
          refine J.meet _ ?_ ⟨rfl, rfl, trivial⟩ rfl)
     simp_all [-List.length_eq_zero_iff, OM.chkR, emp, longB] <;> first | omega | (rw [Bool.eq_iff_iff]; simp [-List.length_eq_zero_iff] <;> omega)
    refine J.k rfl <| J.k rfl <| J.p rfl (Q.pick_f rfl rfl) <| J.m rfl <| J.k rfl <| J.k rfl <| J.p rfl (Q.pick_f rfl rfl) <| J.m rfl <| J.k rfl <| J.k rfl <| J.p rfl (Q.pick_f rfl rfl) <| J.m rfl <| J.k rfl <| J.k rfl <| J.p rfl (Q.pick_f rfl rfl) <| J.m rfl <| J.k rfl <| J.k rfl ?_
    refine J.p rfl (Q.pick_f rfl rfl) <| J.p rfl (Q.asg rfl) <| J.nil <| J.blk_n ?_
    first
      | refine J.meet _ ?_ ⟨rfl, rfl, trivial⟩ rfl
      | (refine J.keep [1, 0, 2] rfl ?_
         refine J.meet _ ?_ ⟨rfl, rfl, trivial⟩ rfl)
    simp_all [-List.length_eq_zero_iff, OM.chkR, emp, longB] <;> first | omega | (rw [Bool.eq_iff_iff]; simp [-List.length_eq_zero_iff] <;> omega)
   refine J.cond_f rfl <| J.cskip <| J.blk_n ?_
   first
     | refine J.meet _ ?_ ⟨rfl, rfl, trivial⟩ rfl
     | (refine J.keep [1, 0, 2] rfl ?_
        refine J.meet _ ?_ ⟨rfl, rfl, trivial⟩ rfl)
   simp_all [-List.length_eq_zero_iff, OM.chkR, emp, longB] <;> first | omega | (rw [Bool.eq_iff_iff]; simp [-List.length_eq_zero_iff] <;> omega)
  refine J.seq <| J.seq <| J.region <| J.m rfl <| J.p rfl (Q.not rfl) <| J.nil <| J.then_n ?_
  refine J.kases 251 rfl (fun hc251 => ?_) (fun hc251 => ?_)
  ·
   refine J.cond_t rfl <| J.seq <| J.region <| J.p rfl (Q.asg rfl) <| J.nil <| J.then_n <| J.cret <| J.then_r ?_
   refine J.keep [1, 2] rfl ?_
   refine J.ret1 (B := [G]) rfl rfl ⟨?_, rfl⟩ rfl
   simp_all
  refine J.cond_f rfl <| J.cskip <| J.then_n <| J.seq <| J.region <| J.p rfl (Q.asg rfl) <| J.nil <| J.then_n <| J.cret ?_
  refine J.keep [1, 2] rfl ?_
  refine J.ret1 (B := [G]) rfl rfl ⟨?_, rfl⟩ rfl
  simp_all

theorem chk_eq (o : OM) : o.chkB = o.chkR := by
  have hd : (!decide (16777216 < o.data.length)) = decide (o.data.length ≤ 16777216) := by rw [Bool.eq_iff_iff]; simp
  have hz : (!decide (0 < o.data.length)) = decide (o.data.length = 0) := by rw [Bool.eq_iff_iff]; simp
  have hl : ∀ n : Nat, longB n 0 1024 = decide (n ≤ 1024) := fun n => by rw [Bool.eq_iff_iff]; simp [longB]; omega
  unfold OM.chkB OM.chkR OM.r4 OM.r3 OM.r2 OM.r1 OM.r0 fieldsM
  by_cases h1 : o.kind = 1 ∨ o.kind = 2
  · simp [h1, hz, Bool.and_assoc]
  by_cases h3 : o.kind = 3
  · simp [h1, h3, hd, Bool.and_assoc]
  by_cases h4 : o.kind = 4 ∨ o.kind = 5 ∨ o.kind = 7
  · simp [h1, h3, h4, hz, Bool.and_assoc]
  by_cases h6 : o.kind = 6
  · simp [h1, h3, h4, h6, hz, hl, Bool.and_assoc]
  by_cases h8 : o.kind = 8
  · simp [h1, h3, h4, h6, h8, hd, Bool.and_assoc]
  by_cases h9 : o.kind = 9
  · simp [h1, h3, h4, h6, h8, h9, hz, Bool.and_assoc]
  by_cases h10 : o.kind = 10
  · simp [h1, h3, h4, h6, h8, h9, h10, hz, Bool.and_assoc]
  simp [h1, h3, h4, h6, h8, h9, h10]
end Go.Proofs.YtidbcaimgahllaaGreat

