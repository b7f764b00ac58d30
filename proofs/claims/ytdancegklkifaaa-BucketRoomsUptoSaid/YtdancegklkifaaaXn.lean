/-
  Regions of open order: where more than one operation may come next; appends among them. No program in sight.
-/
import Derived.Test.YtdancegklkifaaaXm
namespace Go.X
set_option linter.unusedSectionVars false
set_option linter.unusedSimpArgs false
set_option linter.unusedVariables false

section
variable {P : Program} {W0 : World} {N : Nat} {l : List Oper} {NQ : List Nat} {Q : Exit → Act → World → Prop} {S : List Nat} {L : Slots} {D E A B Ain F : List Assn}

theorem OpC.imp {op : Op} {ty : TypeId} {R : Value → List Assn → Prop} (h : OpC P op ty L B R) (f : ∀ k, HSat k A → HSat k B) : OpC P op ty L A R :=
  ⟨fun dst pos aft g a W0 w ag s K Q k => h.wp dst pos aft g a W0 w ag (s.imp f) K Q k⟩

/-- What is to be shown of the one at place i, where it may come next. -/
def RGi (P : Program) (W0 : World) (N : Nat) (l : List Oper) (NQ : List Nat) (Q : Exit → Act → World → Prop) (S : List Nat) (L : Slots) (D E : List Assn) (i : Nat) : Prop :=
  ∃ o, l[i]? = some o ∧ i ∈ NQ ∧ (∀ d, o.dst = some d → d < N) ∧
      ((guardL l.toArray o.guard L = some false ∧ RG P W0 N l NQ Q (i :: S) (addL o.dst undef L) D E) ∨
       (guardL l.toArray o.guard L = some true ∧ ∃ R, OpC P o.op o.type L (D ++ E) R ∧
        ((∀ v B, R v B → ∃ E', B.Perm (D ++ E') ∧ RG P W0 N l NQ Q (i :: S) (addL o.dst v L) D E') ∨
         ((∀ j, j ∈ S → (((masks [] l)[i]?).getD 0).testBit j = true) ∧ ∀ v B, R v B → ∃ D' E', B.Perm (D' ++ E') ∧ RG P W0 N l NQ Q (i :: S) (addL o.dst v L) D' E'))))

def allP (p : Nat → Prop) : List Nat → Prop
  | [] => True
  | i :: l => p i ∧ allP p l
theorem allP_of {p : Nat → Prop} : ∀ {l : List Nat}, allP p l → ∀ i, i ∈ l → p i
  | [], _, i, h => by cases h
  | j :: l, ⟨h1, h2⟩, i, h => by
    rcases List.mem_cons.1 h with rfl | h
    · exact h1
    · exact allP_of h2 i h

theorem RG.many (hR : RegOK l NQ) (i : Nat) (fr : List Nat) (hf : front l S = i :: fr) (h : allP (RGi P W0 N l NQ Q S L D E) (i :: fr)) : RG P W0 N l NQ Q S L D E :=
  RG.next hR (by rw [hf]; simp) (by rw [hf]; exact fun j hj => allP_of h j hj)

theorem RGi.one {i : Nat} {dst : Option Nat} {op : Op} {ty : TypeId} {pos : String} {aft : Array Edge} {g : Option (Nat × Bool)} {R : Value → List Assn → Prop} (ho : l[i]? = some ⟨dst, op, ty, pos, aft, g⟩)
    (hi : memN i NQ = true) (hN : (match dst with | some d => Nat.blt d N | none => true) = true) (hg : guardL l.toArray g L = some true)
    (h : OpC P op ty L (D ++ E) R) (k : ∀ v B, R v B → ∃ E', B.Perm (D ++ E') ∧ RG P W0 N l NQ Q (i :: S) (addL dst v L) D E') : RGi P W0 N l NQ Q S L D E i := by
  refine ⟨_, ho, memN_iff.1 hi, ?_, .inr ⟨hg, R, h, .inl k⟩⟩
  intro d hd; simp only at hd; subst hd; simpa [Nat.blt_eq] using hN

theorem RGi.keep {i : Nat} {dst : Option Nat} {op : Op} {ty : TypeId} {pos : String} {aft : Array Edge} {g : Option (Nat × Bool)} {v : Value} (ho : l[i]? = some ⟨dst, op, ty, pos, aft, g⟩)
    (hi : memN i NQ = true) (hN : (match dst with | some d => Nat.blt d N | none => true) = true) (hg : guardL l.toArray g L = some true)
    (h : OpQ P op ty L (D ++ E) v) (k : RG P W0 N l NQ Q (i :: S) (addL dst v L) D E) : RGi P W0 N l NQ Q S L D E i :=
  RGi.one ho hi hN hg h.toC (by rintro u B ⟨rfl, rfl⟩; exact ⟨E, List.Perm.refl _, k⟩)

theorem RGi.made {i : Nat} {d : Nat} {op : Op} {ty : TypeId} {pos : String} {aft : Array Edge} {g : Option (Nat × Bool)} {v : Nat → Value} {X : Nat → Assn} (ho : l[i]? = some ⟨some d, op, ty, pos, aft, g⟩)
    (hi : memN i NQ = true) (hN : Nat.blt d N = true) (hg : guardL l.toArray g L = some true)
    (h : OpC P op ty L (D ++ E) (fun u B => ∃ b, u = v b ∧ B = X b :: (D ++ E))) (k : ∀ b, RG P W0 N l NQ Q (i :: S) ((d, v b) :: L) D (X b :: E)) : RGi P W0 N l NQ Q S L D E i :=
  RGi.one ho hi hN hg h (by rintro u B ⟨b, rfl, rfl⟩; exact ⟨X b :: E, List.perm_middle.symm, k b⟩)

/-- 'append' onto what the region itself has made, while others may wait. -/
theorem RGi.app {i : Nat} (j : Nat) {d E0 sz n c m c2 : Nat} {T T' E2 : TypeId} {ti : TypeInfo} {zv : Value} {p p2 : Option Addr} {xs ys : List Value} {x y : Operand} {Y : Assn} {ty : TypeId} {pos : String} {aft : Array Edge} {g : Option (Nat × Bool)} {E1 : List Assn}
    (ho : l[i]? = some ⟨some d, .call { callee := .builtin .append, args := #[x, y], argTypes := #[T, T'] }, ty, pos, aft, g⟩)
    (hi : memN i NQ = true) (hN : Nat.blt d N = true) (hg : guardL l.toArray g L = some true)
    (ht : ∀ w, (underlying T).run P w = .ok (.slice E0) w) (ht2 : ∀ w, (underlying T').run P w = .ok (.slice E2) w)
    (hti : ∀ w, (typeInfo E0).run P w = .ok ti w) (hs : ∀ w, (sizeOf E0).run P w = .ok sz w) (hz : ∀ w, (zeroValue E0).run P w = .ok zv w) (hzs : zv.cells.size = sz)
    (ex : evs L [x, y] = some [.slice p n c, .slice p2 m c2]) (hE : E[j]? = some Y) (hY : ∀ h, Y h → own E0 sz (.slice p n c) xs h) (hE1 : setA j (own E0 sz (.slice p n c) xs) E = some E1)
    (hsrc : SlR (D ++ E1) sz (.slice p2 m c2) ys) (hone : ∀ v, v ∈ ys → oneC v = true)
    (hfit : (n + m) * ti.bytes ≤ 140737488355328) (hb0 : ti.bytes ≠ 0)
    (k : ∀ p' c', RG P W0 N l NQ Q (i :: S) ((d, .slice p' (n + m) c') :: L) D (E.set j (own E0 sz (.slice p' (n + m) c') (xs ++ ys)))) : RGi P W0 N l NQ Q S L D E i := by
  have hj : j < E.length := (List.getElem?_eq_some_iff.1 hE).1
  have hE1' := setA_eq hE1
  subst hE1'
  have hset : ∀ X, (D ++ E.set j (own E0 sz (.slice p n c) xs)).set (D.length + j) X = D ++ E.set j X := by
    intro X
    rw [List.set_append, if_neg (by omega), Nat.add_sub_cancel_left, List.set_set]
  have hop := C.app (P := P) (L := L) (ty := ty) (A := D ++ E.set j (own E0 sz (.slice p n c) xs)) (i := D.length + j) (xs := xs) ht ht2 hti hs hz hzs ex
    (by rw [List.getElem?_append_right (by omega), Nat.add_sub_cancel_left]; simp [hj]) hsrc hone hfit hb0
  refine RGi.one ho hi hN hg (hop.imp (A := D ++ E) fun h s => ?_) ?_
  · have := set_imp (i := D.length + j) (X := Y) (Y := own E0 sz (.slice p n c) xs) s (by rw [List.getElem?_append_right (by omega), Nat.add_sub_cancel_left]; exact hE) hY
    rwa [List.set_append, if_neg (by omega), Nat.add_sub_cancel_left] at this
  · rintro v B ⟨p', c', rfl, rfl⟩
    exact ⟨_, by rw [hset], k p' c'⟩

theorem RG.normE {B : List Assn} (e : normA E = some B) (k : RG P W0 N l NQ Q S L D B) : RG P W0 N l NQ Q S L D E := by rw [normA_eq e]; exact k

theorem own_of_zero {b E0 sz : Nat} {z : Nat × Nat} : ∀ h, pt b (.cells ([] : List Value).toArray E0 z) h → own E0 sz (.slice (some ⟨b, 0, none⟩) 0 0) [] h :=
  own.of_pt (by simp) (Nat.le_refl _) (by simp) (by simp) (by simp)
theorem own_of_block {b n E0 sz : Nat} {l : List Value} (hl : l.length = n * sz) : ∀ h, pt b (.cells l.toArray E0 (0, 0)) h → own E0 sz (.slice (some ⟨b, 0, none⟩) n n) l h :=
  own.of_pt hl (Nat.le_refl _) (by omega) (fun _ _ h => h) (by intro k _; simp)


/-- A struct over a block of its own. -/
theorem C.stA {i b : Nat} {T e : TypeId} {x y : Operand} {ty : TypeId} {vs m : List Value} (hs : ∀ w, (sizeOf T).run P w = .ok vs.length w) (ex : ev L x = some (.pointer (some ⟨b, 0, none⟩))) (ey : ev L y = some (.agg vs.toArray))
    (h : A[i]? = some (pt b (.cells m.toArray e (0, 0)))) (hl : Nat.beq m.length vs.length = true) (hv : vs.all oneC = true) (hB : setA i (pt b (.cells vs.toArray e (0, 0))) A = some B) :
    OpC P (.store T x y) ty L A (fun u C => u = undef ∧ C = B) := by
  have hl' : m.length = vs.length := (beq_iff _ _).1 hl
  have := C.stN (ty := ty) hs ex ey (fun v hm => by rw [List.all_eq_true] at hv; exact hv v hm) h (by omega) (by simp)
  rwa [splice_eq _ _ _ (by omega), Nat.zero_add, ← hl', List.drop_length, List.take_zero, List.nil_append, List.append_nil, setA_eq hB] at this

theorem flat_set1 {α : Type} {c : α → List Value} {sz : Nat} (hc : ∀ x, (c x).length = sz) : ∀ {l : List α} {i k : Nat} {x x' : α} {u : Value}, l[i]? = some x → k < sz → c x' = (c x).set k u → (l.flatMap c).set (i * sz + k) u = (l.set i x').flatMap c
  | [], _, _, _, _, _, h, _, _ => by simp at h
  | y :: l, 0, k, x, x', u, h, hk, hx => by
    simp at h; subst h
    rw [List.flatMap_cons, Nat.zero_mul, Nat.zero_add, List.set_append, if_pos (by rw [hc]; exact hk), List.set_cons_zero, List.flatMap_cons, hx]
  | y :: l, i + 1, k, x, x', u, h, hk, hx => by
    rw [List.flatMap_cons, List.set_append, if_neg (by rw [hc, Nat.add_mul]; omega), hc, show (i + 1) * sz + k - sz = i * sz + k from by rw [Nat.add_mul]; omega, flat_set1 hc (by simpa using h) hk hx, List.set_cons_succ, List.flatMap_cons]

theorem star_drop1 {α : Type} {f : α → Assn} {l : List α} (i : Nat) : ∀ h, star (l.map f) h → star ((l.eraseIdx i).map f) h := by
  intro h s
  rcases Nat.lt_or_ge i l.length with hi | hi
  · exact (HSat.perm (perm_focus f (List.getElem?_eq_getElem hi)) s).tail
  · rw [List.eraseIdx_of_length_le hi]; exact s

theorem star_set1 {α : Type} {f : α → Assn} {l : List α} (i : Nat) (x : α) : ∀ h, HSat h [f x, star (l.map f)] → star ((l.set i x).map f) h := by
  intro h s
  rcases Nat.lt_or_ge i l.length with hi | hi
  · have s2 : HSat h (f x :: (l.eraseIdx i).map f) := HSat.under s fun k hk => by
      have := HSat.unpack hk
      rw [List.append_nil] at this
      exact star_drop1 i k this
    exact s2.perm (perm_unfocus f hi)
  · rw [List.set_eq_of_length_le hi]
    have := HSat.unpack s.tail
    rwa [List.append_nil] at this

theorem star_ins1 {α : Type} {f : α → Assn} {l : List α} (i : Nat) (x : α) : ∀ h, HSat h [f x, star (l.map f)] → star ((l.take i ++ x :: l.drop i).map f) h := by
  intro h s
  have s2 : HSat h (f x :: l.map f) := HSat.under s fun k hk => by
    have := HSat.unpack hk
    rwa [List.append_nil] at this
  refine s2.perm ?_
  rw [List.map_append, List.map_cons]
  refine List.Perm.trans ?_ List.perm_middle.symm
  rw [← List.map_append, List.take_append_drop]

/-- What one of many holds reads within them all. -/
theorem J.slrStar {G : Act → World → Prop} {α : Type} {f : α → Assn} {l : List α} {E sz : Nat} {p : Option Addr} {n c : Nat} {xs : List Value} {x : α} (i k : Nat) (e : A[i]? = some (star (l.map f))) (hx : l[k]? = some x)
    (hf : f x = own E sz (.slice p n c) xs) (h : SlR [star (l.map f)] sz (.slice p n c) xs → J W0 N L A G) : J W0 N L A G := by
  refine J.tells (p := SlR [star (l.map f)] sz (.slice p n c) xs) i e (fun q hq => ?_) h
  have hm : (l.map f)[k]? = some (own E sz (.slice p n c) xs) := by rw [List.getElem?_map, hx]; exact congrArg some hf
  obtain ⟨q', hq', _⟩ := HSat.at_ hq hm
  exact SlR.into k (own.slr (i := 0) rfl ⟨q', q', fun _ => none, hq', trivial, fun _ => .inr rfl, Sub.refl _, fun _ _ e => nomatch e⟩) hm
end
end Go.X
