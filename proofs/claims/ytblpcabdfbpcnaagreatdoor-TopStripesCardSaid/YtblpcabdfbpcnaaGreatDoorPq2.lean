/-
  What the proof of the last of these texts leans on: part 2 of 6.
-/
import Derived.KernelRfl
import Derived.Laws.StructEq
import Derived.RangeFuncRecord
import Derived.RangeFuncIn
import Derived.RangeFuncLeaves
import Derived.RangeFuncSeq
import Derived.TacticsIn
import Derived.Test.YtblpcabdfbpcnaaGreatDoorPq1
set_option linter.unusedSectionVars false
set_option linter.unusedVariables false
set_option linter.unusedSimpArgs false
namespace Go.X
set_option linter.unusedSectionVars false
set_option linter.unusedSimpArgs false
set_option linter.unusedVariables false

theorem foldl_set : ∀ (vs : List Value) (k : Nat) (off : Nat) (cs : Array Value), ((vs.zipIdx k).foldl (fun (cs : Array Value) (p : Value × Nat) => cs.setIfInBounds (off + p.2) p.1) cs).toList = splice cs.toList (off + k) vs
  | [], k, off, cs => rfl
  | v :: vs, k, off, cs => by
    simp only [List.zipIdx_cons, List.foldl_cons]
    rw [foldl_set vs (k + 1) off, splice, Array.toList_setIfInBounds, Nat.add_assoc]

theorem fill_run (sz : Nat) : ∀ (vs : List Value) (k : Nat) (cs : Array Value), (∀ v, v ∈ vs → v.cells.size = sz) → cs.size = (k + vs.length) * sz →
    Instr.fill (fun i => some (i * sz, sz)) cs ((List.range' k vs.length).zip vs) = some (cs.toList.take (k * sz) ++ vs.flatMap fun v => v.cells.toList).toArray
  | [], k, cs, _, h => by
    simp only [List.length_nil, Nat.add_zero] at h
    have : cs.toList.take (k * sz) = cs.toList := List.take_of_length_le (by simp [h])
    simp [Instr.fill, this]
  | v :: vs, k, cs, hv, h => by
    have hs := hv v (by simp)
    simp only [List.length_cons] at h
    have hle : k * sz + v.cells.size ≤ cs.size := by
      rw [h, hs, ← Nat.succ_mul]; exact Nat.mul_le_mul_right sz (by omega)
    simp only [List.length_cons, List.range'_succ, List.zip_cons_cons, Instr.fill]
    have c1 : (decide (v.cells.size ≠ sz) || decide (k * sz + v.cells.size > cs.size)) = false := by
      simp [hs]; omega
    rw [if_neg (by simp only [Bool.or_eq_true, decide_eq_true_eq]; omega)]
    have hfold : (Array.foldl (fun (cs : Array Value) (x : Value × Nat) => cs.setIfInBounds (k * sz + x.2) x.1) cs v.cells.zipIdx) = (splice cs.toList (k * sz) v.cells.toList).toArray := by
      apply Array.ext'
      rw [← Array.foldl_toList, Array.toList_zipIdx]
      exact foldl_set v.cells.toList 0 (k * sz) cs
    have hfold' : (Array.foldl (fun (cs : Array Value) (x : Value × Nat) => match x with | (c, j) => cs.setIfInBounds (k * sz + j) c) cs v.cells.zipIdx) = (splice cs.toList (k * sz) v.cells.toList).toArray := hfold
    rw [hfold', fill_run sz vs (k + 1) _ (fun u hu => hv u (by simp [hu])) (by rw [List.size_toArray, splice_length, Array.length_toList, h]; congr 1; omega)]
    congr 2
    simp only [List.flatMap_cons]
    rw [← List.append_assoc]
    congr 1
    rw [splice_eq _ _ _ (by simp; omega), Nat.succ_mul, List.take_append_of_le_length (by simp; omega)]
    rw [List.take_of_length_le (by simp; omega)]

section
variable {P : Program} {L : Slots} {A : List Assn} {ty T : TypeId}
theorem C.bslG {E sz len : Nat} {zv : Value} {ps : List (Nat × Operand)} {vs l : List Value} (hu : ∀ w, (underlying T).run P w = .ok (.slice E) w) (hs : ∀ w, (sizeOf E).run P w = .ok sz w) (hz : ∀ w, (zeroValue E).run P w = .ok zv w)
    (hm : len * sz ≤ 16777216) (ev_ : evs L (ps.map (·.2)) = some vs) (hi : ps.map (·.1) = List.range' 0 len) (hn : vs.length = len) (hv : vs.all (fun v => Nat.beq v.cells.size sz) = true) (hl : vs.flatMap (fun v => v.cells.toList) = l) :
    OpC P (.buildSlice T len ps.toArray) ty L A (fun u B => ∃ b, u = .slice (some ⟨b, 0, none⟩) len len ∧ B = pt b (.cells l.toArray E (0, 0)) :: A) := by
  refine C.bsl hu hs hz hm ev_ ?_
  subst hn
  rw [hi, fill_run sz vs 0 _ ?_ ?_, ← hl]
  · simp
  · intro v hv'
    rw [List.all_eq_true] at hv
    exact (beq_iff _ _).1 (hv v hv')
  · simp
end
end Go.X
namespace Go.X
set_option linter.unusedSectionVars false
set_option linter.unusedSimpArgs false
set_option linter.unusedVariables false

theorem flat_get {α : Type} {c : α → List Value} {sz : Nat} (hc : ∀ x, (c x).length = sz) : ∀ {l : List α} {i k : Nat} {x : α} {u : Value}, l[i]? = some x → (c x)[k]? = some u → (l.flatMap c)[i * sz + k]? = some u
  | [], _, _, _, _, h, _ => by simp at h
  | y :: l, 0, k, x, u, h, hu => by
    simp at h; subst h
    rw [List.flatMap_cons, Nat.zero_mul, Nat.zero_add, List.getElem?_append_left (List.getElem?_eq_some_iff.1 hu).1]; exact hu
  | y :: l, i + 1, k, x, u, h, hu => by
    rw [List.flatMap_cons, List.getElem?_append_right (by rw [hc, Nat.add_mul]; omega), hc, show (i + 1) * sz + k - sz = i * sz + k from by rw [Nat.add_mul]; omega]
    exact flat_get hc (by simpa using h) hu

theorem splice_get {xs vs : List Value} {j k : Nat} (h : j + vs.length ≤ xs.length) : (splice xs j vs)[k]? = if j ≤ k ∧ k < j + vs.length then vs[k - j]? else xs[k]? := by
  rw [splice_eq _ _ _ h, List.append_assoc]
  by_cases h1 : k < j
  · rw [List.getElem?_append_left (by simp; omega), if_neg (by omega), List.getElem?_take_of_lt h1]
  · rw [List.getElem?_append_right (by simp; omega)]
    have hm : min j xs.length = j := by omega
    simp only [List.length_take, hm]
    by_cases h2 : k < j + vs.length
    · rw [List.getElem?_append_left (by omega), if_pos (by omega)]
    · rw [List.getElem?_append_right (by omega), if_neg (by omega), List.getElem?_drop]; congr 1; omega

theorem Lies.ok.put {o : Lies} {sz : Nat} {v : Value} {xs vs : List Value} {j : Nat} (ho : o.ok sz v xs) (hj : j + vs.length ≤ xs.length) : Lies.ok { o with l := splice o.l (o.off + j) vs } sz v (splice xs j vs) := by
  have hf := ho.fits
  have hl := ho.len
  have hm : o.len * sz ≤ o.cap * sz := Nat.mul_le_mul_right sz ho.cap
  refine ⟨ho.val, by rw [splice_length]; exact hl, ho.cap, by rw [splice_length]; exact hf, ?_, by rw [splice_length]; exact ho.free⟩
  intro k u hk
  rw [splice_get hj] at hk
  show (splice o.l (o.off + j) vs)[o.off + k]? = some u
  rw [splice_get (by omega)]
  by_cases h : j ≤ k ∧ k < j + vs.length
  · rw [if_pos h] at hk; rw [if_pos (by omega), show o.off + k - (o.off + j) = k - j from by omega]; exact hk
  · rw [if_neg h] at hk; rw [if_neg (by omega)]; exact ho.get k u hk

section
variable {P : Program} {L : Slots} {A D : List Assn} {ty T : TypeId} {x y : Operand} {W0 : World}

theorem run_storeO {i E sz n c b off j : Nat} {xs vs : List Value} {w : World} (s : Sat W0 w A) (hA : A[i]? = some (own E sz (.slice (some ⟨b, off, none⟩) n c) xs)) (hj : j + vs.length ≤ xs.length) (hv : ∀ v, v ∈ vs → oneC v = true) :
    ∃ w', (storeCells ⟨b, off + j, none⟩ vs 0).run P w = .ok () w' ∧ Sat W0 w' (A.set i (own E sz (.slice (some ⟨b, off, none⟩) n c) (splice xs j vs))) := by
  have hi : i < A.length := (List.getElem?_eq_some_iff.1 hA).1
  obtain ⟨o, ho, hh⟩ := open_at (p := fun o : Lies => o.ok sz (.slice (some ⟨b, off, none⟩) n c) xs) (Y := fun o => pt o.b (.cells o.l.toArray E o.z)) s.heap hA (by
    rintro k (⟨e1, _⟩ | h)
    · cases e1
    · exact h)
  have hval := ho.val
  simp only [Value.slice.injEq, Option.some.injEq, Addr.mk.injEq] at hval
  obtain ⟨⟨rfl, rfl, _⟩, rfl, rfl⟩ := hval
  have hf := ho.fits
  have hl := ho.len
  have hm : o.len * sz ≤ o.cap * sz := Nat.mul_le_mul_right sz ho.cap
  obtain ⟨w', r, s2⟩ := run_storeCells (P := P) (i := i) (b := o.b) (off := o.off + j) (e := E) (z := o.z) vs o.l 0 w (A.set i (pt o.b (.cells o.l.toArray E o.z))) ⟨s.os, s.tape, s.out, hh⟩ (by simp [hi]) (by omega)
    (fun k hk => by rw [Nat.add_zero]; exact ho.free _ (by omega)) hv
  rw [List.set_set, Nat.add_zero] at s2
  refine ⟨w', r, ?_⟩
  have := set_imp (Y := own E sz (.slice (some ⟨o.b, o.off, none⟩) o.len o.cap) (splice xs j vs)) s2.heap (i := i) (X := pt o.b (.cells (splice o.l (o.off + j) vs).toArray E o.z)) (by simp [hi]) (fun k hk => .inr ⟨_, ho.put hj, hk⟩)
  rw [List.set_set] at this
  exact ⟨s2.os, s2.tape, s2.out, this⟩

theorem C.stON (i : Nat) {E sz n c b off j o : Nat} {xs vs : List Value} (hs : ∀ w, (sizeOf T).run P w = .ok vs.length w) (ex : ev L x = some (.pointer (some ⟨b, o, none⟩))) (ey : ev L y = some (.agg vs.toArray)) (hA : A[i]? = some (own E sz (.slice (some ⟨b, off, none⟩) n c) xs))
    (hoj : o = off + j) (hj : j + vs.length ≤ xs.length) (hv : ∀ v, v ∈ vs → oneC v = true) :
    OpC P (.store T x y) ty L A (fun u B => u = undef ∧ B = A.set i (own E sz (.slice (some ⟨b, off, none⟩) n c) (splice xs j vs))) := by
  subst hoj
  refine ⟨fun dst pos aft g a W0 w ag s K Q k => ?_⟩
  obtain ⟨w', r1, s1⟩ := run_storeO (P := P) s hA hj hv
  have hr : (execOp a.eval ⟨dst, .store T x y, ty, pos, aft, g⟩).run P w = .ok .skip w' := by
    simp [execOp, ag.at_ ex (by simp [Op.operands]), ag.at_ ey (by simp [Op.operands]), Instr.storeAt, Instr.sureAddr, storeVar, hs, Value.cells, r1]
  unfold Oper.wp
  rw [hr, Oper.upon_skip]
  exact k _ _ _ ⟨rfl, rfl⟩ s1

theorem C.stO (i : Nat) {E sz n c b off j o : Nat} {xs : List Value} {v : Value} (hs : ∀ w, (sizeOf T).run P w = .ok 1 w) (ex : ev L x = some (.pointer (some ⟨b, o, none⟩))) (ey : ev L y = some v) (hv : oneC v = true) (hA : A[i]? = some (own E sz (.slice (some ⟨b, off, none⟩) n c) xs))
    (hoj : o = off + j) (hj : j + 1 ≤ xs.length) :
    OpC P (.store T x y) ty L A (fun u B => u = undef ∧ B = A.set i (own E sz (.slice (some ⟨b, off, none⟩) n c) (xs.set j v))) := by
  subst hoj
  refine ⟨fun dst pos aft g a W0 w ag s K Q k => ?_⟩
  obtain ⟨w', r1, s1⟩ := run_storeO (P := P) (vs := [v]) s hA hj (by simpa using hv)
  have hc : v.cells = #[v] := by cases v <;> first | rfl | simp [oneC] at hv
  have hr : (execOp a.eval ⟨dst, .store T x y, ty, pos, aft, g⟩).run P w = .ok .skip w' := by
    simp [execOp, ag.at_ ex (by simp [Op.operands]), ag.at_ ey (by simp [Op.operands]), Instr.storeAt, Instr.sureAddr, storeVar, hs, hc, r1]
  unfold Oper.wp
  rw [hr, Oper.upon_skip]
  exact k _ _ _ ⟨rfl, rfl⟩ s1

end

end Go.X
namespace Go.X
set_option linter.unusedSectionVars false
set_option linter.unusedSimpArgs false
set_option linter.unusedVariables false

section
variable [Dfs] {P : Program} {W0 : World} {N : Nat} {l : List Oper} {NQ : List Nat} {Q : Exit → Act → World → Prop} {S : List Nat} {L : Slots} {D E A B Ain F : List Assn}

theorem OpC.imp {op : Op} {ty : TypeId} {R : Value → List Assn → Prop} (h : OpC P op ty L B R) (f : ∀ k, HSat k A → HSat k B) : OpC P op ty L A R :=
  ⟨fun dst pos aft g a W0 w ag s K Q k => h.wp dst pos aft g a W0 w ag (s.imp f) K Q k⟩

def RGi [Dfs] (P : Program) (W0 : World) (N : Nat) (l : List Oper) (NQ : List Nat) (Q : Exit → Act → World → Prop) (S : List Nat) (L : Slots) (D E : List Assn) (i : Nat) : Prop :=
  ∃ o, l[i]? = some o ∧ i ∈ NQ ∧ (∀ d, o.dst = some d → d < N) ∧
      ((guardL l.toArray o.guard L = some false ∧ RG P W0 N l NQ Q (i :: S) (addL o.dst undef L) D E) ∨
       (guardL l.toArray o.guard L = some true ∧ ∃ R, OpC P o.op o.type L (D ++ E) R ∧
        ((∀ v B, R v B → ∃ E', B.Perm (D ++ E') ∧ RG P W0 N l NQ Q (i :: S) (addL o.dst v L) D E') ∨
         ((∀ j, j ∈ S → (((masks [] l)[i]?).getD 0).testBit j = true) ∧ ∀ v B, R v B → ∃ D' E', B.Perm (D' ++ E') ∧ RG P W0 N l NQ Q (i :: S) (addL o.dst v L) D' E'))))

def allP (p : Nat → Prop) : List Nat → Prop
  | [] => True
  | i :: l => p i ∧ allP p l
theorem allP_of {p : Nat → Prop} : ∀ {l : List Nat}, allP p l → ∀ i, i ∈ l → p i
  | [], _, i, h => by cases h
  | j :: l, ⟨h1, h2⟩, i, h => by
    rcases List.mem_cons.1 h with rfl | h
    · exact h1
    · exact allP_of h2 i h

theorem RG.many (hR : RegOK l NQ) (i : Nat) (fr : List Nat) (hf : front l S = i :: fr) (h : allP (RGi P W0 N l NQ Q S L D E) (i :: fr)) : RG P W0 N l NQ Q S L D E :=
  RG.next hR (by rw [hf]; simp) (by rw [hf]; exact fun j hj => allP_of h j hj)

theorem RGi.one {i : Nat} {dst : Option Nat} {op : Op} {ty : TypeId} {pos : String} {aft : Array Edge} {g : Option (Nat × Bool)} {R : Value → List Assn → Prop} (ho : l[i]? = some ⟨dst, op, ty, pos, aft, g⟩)
    (hi : memN i NQ = true) (hN : (match dst with | some d => Nat.blt d N | none => true) = true) (hg : guardL l.toArray g L = some true)
    (h : OpC P op ty L (D ++ E) R) (k : ∀ v B, R v B → ∃ E', B.Perm (D ++ E') ∧ RG P W0 N l NQ Q (i :: S) (addL dst v L) D E') : RGi P W0 N l NQ Q S L D E i := by
  refine ⟨_, ho, memN_iff.1 hi, ?_, .inr ⟨hg, R, h, .inl k⟩⟩
  intro d hd; simp only at hd; subst hd; simpa [Nat.blt_eq] using hN

theorem RGi.made {i : Nat} {d : Nat} {op : Op} {ty : TypeId} {pos : String} {aft : Array Edge} {g : Option (Nat × Bool)} {v : Nat → Value} {X : Nat → Assn} (ho : l[i]? = some ⟨some d, op, ty, pos, aft, g⟩)
    (hi : memN i NQ = true) (hN : Nat.blt d N = true) (hg : guardL l.toArray g L = some true)
    (h : OpC P op ty L (D ++ E) (fun u B => ∃ b, u = v b ∧ B = X b :: (D ++ E))) (k : ∀ b, RG P W0 N l NQ Q (i :: S) ((d, v b) :: L) D (X b :: E)) : RGi P W0 N l NQ Q S L D E i :=
  RGi.one ho hi hN hg h (by rintro u B ⟨b, rfl, rfl⟩; exact ⟨X b :: E, List.perm_middle.symm, k b⟩)

theorem RG.normE {B : List Assn} (e : normA E = some B) (k : RG P W0 N l NQ Q S L D B) : RG P W0 N l NQ Q S L D E := by rw [normA_eq e]; exact k

theorem own_of_zero {b E0 sz : Nat} {z : Nat × Nat} : ∀ h, pt b (.cells ([] : List Value).toArray E0 z) h → own E0 sz (.slice (some ⟨b, 0, none⟩) 0 0) [] h :=
  own.of_pt (by simp) (Nat.le_refl _) (by simp) (by simp) (by simp)
theorem own_of_block {b n E0 sz : Nat} {l : List Value} (hl : l.length = n * sz) : ∀ h, pt b (.cells l.toArray E0 (0, 0)) h → own E0 sz (.slice (some ⟨b, 0, none⟩) n n) l h :=
  own.of_pt hl (Nat.le_refl _) (by omega) (fun _ _ h => h) (by intro k _; simp)


theorem C.stA {i b : Nat} {T e : TypeId} {x y : Operand} {ty : TypeId} {vs m : List Value} (hs : ∀ w, (sizeOf T).run P w = .ok vs.length w) (ex : ev L x = some (.pointer (some ⟨b, 0, none⟩))) (ey : ev L y = some (.agg vs.toArray))
    (h : A[i]? = some (pt b (.cells m.toArray e (0, 0)))) (hl : Nat.beq m.length vs.length = true) (hv : vs.all oneC = true) (hB : setA i (pt b (.cells vs.toArray e (0, 0))) A = some B) :
    OpC P (.store T x y) ty L A (fun u C => u = undef ∧ C = B) := by
  have hl' : m.length = vs.length := (beq_iff _ _).1 hl
  have := C.stN (ty := ty) hs ex ey (fun v hm => by rw [List.all_eq_true] at hv; exact hv v hm) h (by omega) (by simp)
  rwa [splice_eq _ _ _ (by omega), Nat.zero_add, ← hl', List.drop_length, List.take_zero, List.nil_append, List.append_nil, setA_eq hB] at this

theorem J.slrStar {G : Act → World → Prop} {α : Type} {f : α → Assn} {l : List α} {E sz : Nat} {p : Option Addr} {n c : Nat} {xs : List Value} {x : α} (i k : Nat) (e : A[i]? = some (star (l.map f))) (hx : l[k]? = some x)
    (hf : f x = own E sz (.slice p n c) xs) (h : SlR [star (l.map f)] sz (.slice p n c) xs → J W0 N L A G) : J W0 N L A G := by
  refine J.tells (p := SlR [star (l.map f)] sz (.slice p n c) xs) i e (fun q hq => ?_) h
  have hm : (l.map f)[k]? = some (own E sz (.slice p n c) xs) := by rw [List.getElem?_map, hx]; exact congrArg some hf
  obtain ⟨q', hq', _⟩ := HSat.at_ hq hm
  exact SlR.into k (own.slr (i := 0) rfl ⟨q', q', fun _ => none, hq', trivial, fun _ => .inr rfl, Sub.refl _, fun _ _ e => nomatch e⟩) hm
end
end Go.X
namespace Go.X
set_option linter.unusedSectionVars false
set_option linter.unusedSimpArgs false
set_option linter.unusedVariables false

section
variable [Dfs] {P : Program} {W0 : World} {N : Nat} {l : List Oper} {NQ : List Nat} {Q : Exit → Act → World → Prop} {S : List Nat} {L : Slots} {D E A : List Assn}

theorem J.drawE (NQ : List Nat) (k : Nat) {id : Nat} (hm : P.follows .mixedOrders = true) (hR : regOK l NQ = true) (hD : normA (A.take k) = some D) (hE : normA (A.drop k) = some E) (h : RegOK l NQ → RG P W0 N l NQ Q [] L D E) : J W0 N L A ((Code.region id l.toArray true).wp P Q) := by
  refine ⟨fun a w f s => wp_region_any hm ?_⟩
  have hA : A = D ++ E := by rw [← normA_eq hD, ← normA_eq hE, List.take_append_drop]
  have hl : ∀ i, (Array.replicate l.toArray.size false).getD i false = false := fun i => getD_replicate_false _ i
  refine (h (regOK_spec hR)).run _ _ a _ ⟨by simp, f.size, f.defers, ⟨s.os, s.tape, s.out, by rw [← hA]; exact s.heap⟩, ?_, ?_, ?_, fun s v e _ => f.get s v e, ?_⟩ ?_
  · intro i hi; rw [hl] at hi; cases hi
  · intro i o _ hi; rw [hl] at hi; cases hi
  · intro i o _ hi; cases hi
  · intro i hi; cases hi
  · unfold unl
    exact Nat.le_trans (List.length_filter_le _ _) (by simp)
end
end Go.X
namespace Go.X
theorem FSpec.conv {P : Program} {f : FuncId} {args : List Value} {A A' : List Assn} {R R' : Value → List Assn → Prop} (h : FSpec P f args A' R') (pre : ∀ k, HSat k A → HSat k A') (post : ∀ v B', R' v B' → ∃ B, R v B ∧ ∀ k, HSat k B' → HSat k B) : FSpec P f args A R := by
  have key : ∀ {A A' : List Assn} {F : Assn}, (∀ k, HSat k A → HSat k A') → ∀ k, HSat k (A ++ [F]) → HSat k (A' ++ [F]) := by
    intro A A' F g k s
    obtain ⟨h1, h2, a, b, d, u, v⟩ := s.append
    exact HSat.of_append (g h1 a) b d u v
  refine ⟨fun W0 w F s => (h.call W0 w F (s.imp (key pre))).mono ?_⟩
  rintro e w' ⟨v, B', rfl, r, s'⟩
  obtain ⟨B, rB, g⟩ := post v B' r
  exact ⟨v, B, rfl, rB, s'.imp (key g)⟩

end Go.X
namespace Go.X
set_option linter.unusedSectionVars false
set_option linter.unusedSimpArgs false
set_option linter.unusedVariables false

section opened
variable {P : Program} {op : Op} {ty : TypeId} {L : Slots} {A D : List Assn}

theorem OpC.shutTo {R R' : Value → List Assn → Prop} (k : OpC P op ty L A R) (f : ∀ v B, R v B → ∃ B', R' v B' ∧ ∀ h, HSat h B → HSat h B') : OpC P op ty L A R' := by
  refine ⟨fun dst pos aft gd a W0 w ag s K Q kk => k.wp dst pos aft gd a W0 w ag s K Q fun v B w' r s' => ?_⟩
  obtain ⟨B', r', hb⟩ := f v B r
  exact kk v B' w' r' (s'.imp hb)
end opened

end Go.X
namespace Go.X
set_option linter.unusedSectionVars false
set_option linter.unusedSimpArgs false
set_option linter.unusedVariables false

theorem ReadsN.pt {D : List Assn} (i : Nat) {l : List Value} {e : TypeId} {z : Nat × Nat} {b : Nat} (h : D[i]? = some (X.pt b (.cells l.toArray e z))) : ReadsN D b 0 l :=
  fun j u hj => Reads.pt i h (by rw [Nat.zero_add]; exact hj)
section
variable {P : Program} {fn : Func} {N : Nat} {W0 : World} {L : Slots} {A B D : List Assn} {F : Assn} {R : Value → List Assn → Prop} {s t : Nat} {T : TypeId} {b : Nat} {vs : List Value} {u : Value}

theorem run_loadAgg {w : World} (ha : ∀ w, (isAgg T).run P w = .ok true w) (hs : ∀ w, (sizeOf T).run P w = .ok vs.length w) (hr : ReadsN A b 0 vs) (t : Sat W0 w A) : (loadVar T ⟨b, 0, none⟩).run P w = .ok (.agg vs.toArray) w := by
  have hc := run_loadCells (P := P) t hr
  simp [loadVar, ha, hs, hc]

end


end Go.X
namespace Go.X
set_option linter.unusedSectionVars false
set_option linter.unusedSimpArgs false
set_option linter.unusedVariables false

section
variable {P : Program} {L : Slots} {D : List Assn} {ty T T' : TypeId} {x y : Operand} {k : IntKind} {a b : Int}
theorem Q.or (ex : ev L x = some (.int k a)) (ey : ev L y = some (.int k b)) : OpQ P (.binOp .or T x y T') ty L D (.int k (k.wrap (BitVec.ofInt k.bits a ||| BitVec.ofInt k.bits b).toNat)) :=
  Q.bin ex ey fun w => by simp [guard_int, binOp, Op.intBits]
theorem Q.and (ex : ev L x = some (.int k a)) (ey : ev L y = some (.int k b)) : OpQ P (.binOp .and T x y T') ty L D (.int k (k.wrap (BitVec.ofInt k.bits a &&& BitVec.ofInt k.bits b).toNat)) :=
  Q.bin ex ey fun w => by simp [guard_int, binOp, Op.intBits]

theorem Q.mkif {d : TypeDesc} {v : Value} (hT : ∀ w, (underlying T).run P w = .ok d w) (hn : ∀ m, d ≠ .interface m) (e : ev L x = some v) : OpQ P (.makeInterface T x) ty L D (.iface T v) :=
  .pure_ fun _ _ _ _ a w ag => by
    have h1 := ag.at_ e (by simp [Op.operands])
    cases d <;> first
      | exact absurd rfl (hn _)
      | simp [execOp, h1, Instr.makeInterface, hT]
end

theorem eq_nil {P : Program} {T t : TypeId} {ms : Array (String × TypeId)} {v : Value} (d : Nat) (hT : ∀ w, (underlying T).run P w = .ok (.interface ms) w) (w : World) : (Op.equalIn (d + 1) T (.iface t v) .nilIface).run P w = .ok false w := by
  simp [Op.equalIn, hT]
theorem results_tmp3 {fn : Func} {t u v : Tmp} (h : fn.results = #[.tmp t, .tmp u, .tmp v]) (tmps : Array Value) (P : Program) (w : World) :
    (results fn tmps).run P w = .ok (.tuple #[tmps.getD t undef, tmps.getD u undef, tmps.getD v undef]) w := by
  simp [results, h]
theorem J.ret3 {P : Program} {fn : Func} {N : Nat} {A : List Assn} {R : Value → List Assn → Prop} {W0 : World} {L : Slots} {F : Assn} {v u z : Value} {s t r : Nat} {B : List Assn} (hr : fn.results = #[.tmp s, .tmp t, .tmp r]) (hv : find s L = some v) (hu : find t L = some u) (hz : find r L = some z) (hR : R (.tuple #[v, u, z]) B) (hA : A = B ++ [F]) :
    J W0 N L A (bodyPost P fn (RetQ W0 R F) .ret) := by
  refine ⟨fun a w f x => ?_⟩
  refine bodyPost_ret (results_tmp3 hr _ _ _) f.defers ⟨.tuple #[v, u, z], B, ?_, hR, hA ▸ x⟩
  rw [Array.getD_eq_getD_getElem?, Array.getD_eq_getD_getElem?, Array.getD_eq_getD_getElem?, f.get s v hv, f.get t u hu, f.get r z hz]; rfl

theorem wrap64 {n : Nat} (h : n < 18446744073709551616) : IntKind.u64.wrap (n : Int) = (n : Int) := by
  unfold IntKind.wrap
  simp only [IntKind.bits, IntKind.signed]
  show (n : Int) % 2 ^ 64 = _
  omega
theorem or64 {a b i : Nat} (ha : a < 2 ^ i) (hb : a + 2 ^ i * b < 18446744073709551616) : IntKind.u64.wrap ((BitVec.ofInt IntKind.u64.bits (a : Int) ||| BitVec.ofInt IntKind.u64.bits ((2 ^ i * b : Nat) : Int)).toNat : Int) = ((a + 2 ^ i * b : Nat) : Int) := by
  have e : (BitVec.ofInt IntKind.u64.bits (a : Int) ||| BitVec.ofInt IntKind.u64.bits ((2 ^ i * b : Nat) : Int)).toNat = a + 2 ^ i * b := by
    rw [BitVec.toNat_or]
    have h1 : (BitVec.ofInt IntKind.u64.bits (a : Int)).toNat = a := by
      rw [show BitVec.ofInt IntKind.u64.bits (a : Int) = BitVec.ofNat IntKind.u64.bits a from BitVec.ofInt_natCast .., BitVec.toNat_ofNat]
      exact Nat.mod_eq_of_lt (by show a < 2 ^ 64; omega)
    have h2 : (BitVec.ofInt IntKind.u64.bits ((2 ^ i * b : Nat) : Int)).toNat = 2 ^ i * b := by
      rw [show BitVec.ofInt IntKind.u64.bits ((2 ^ i * b : Nat) : Int) = BitVec.ofNat IntKind.u64.bits (2 ^ i * b) from BitVec.ofInt_natCast .., BitVec.toNat_ofNat]
      exact Nat.mod_eq_of_lt (by show 2 ^ i * b < 2 ^ 64; omega)
    rw [h1, h2, Nat.or_comm, ← Nat.two_pow_add_eq_or_of_lt ha, Nat.add_comm]
  rw [e]; exact wrap64 hb
theorem and127 {n : Nat} (h : n < 256) : IntKind.u8.wrap ((BitVec.ofInt IntKind.u8.bits (n : Int) &&& BitVec.ofInt IntKind.u8.bits 127).toNat : Int) = ((n % 128 : Nat) : Int) := by
  have key : ∀ r : Fin 256, IntKind.u8.wrap ((BitVec.ofInt IntKind.u8.bits ((r.val : Nat) : Int) &&& BitVec.ofInt IntKind.u8.bits 127).toNat : Int) = ((r.val % 128 : Nat) : Int) := by decide +kernel
  exact key ⟨n, h⟩

theorem own.clip {E sz : Nat} {p : Option Addr} {n c : Nat} {xs : List Value} : ∀ h, own E sz (.slice p n c) xs h → own E sz (.slice p n n) xs h := by
  rintro h (⟨e1, e2⟩ | ⟨o, ho, hp⟩)
  · cases e1; exact .inl ⟨rfl, e2⟩
  · have hv := ho.val
    simp only [Value.slice.injEq] at hv
    obtain ⟨rfl, rfl, rfl⟩ := hv
    refine .inr ⟨{ o with cap := o.len }, ⟨rfl, ho.len, Nat.le_refl _, ?_, ho.get, ho.free⟩, hp⟩
    have h1 := ho.fits
    have h2 := Nat.mul_le_mul_right sz ho.cap
    show o.off + o.len * sz ≤ o.l.length
    omega

def numB (v : Nat) : List UInt8 := if v < 128 then [UInt8.ofNat v] else UInt8.ofNat (v % 128 + 128) :: numB (v / 128)
termination_by v
decreasing_by omega
theorem numB_small {v : Nat} (h : v < 128) : numB v = [UInt8.ofNat v] := by rw [numB, if_pos h]
theorem numB_step {v : Nat} (h : ¬ v < 128) : numB v = UInt8.ofNat (v % 128 + 128) :: numB (v / 128) := by rw [numB, if_neg h]

theorem wrap8 (v : Nat) : IntKind.u8.wrap (v : Int) = ((v % 256 : Nat) : Int) := by
  unfold IntKind.wrap
  simp only [IntKind.bits, IntKind.signed]
  show (v : Int) % 2 ^ 8 = _
  omega
theorem or128 (v : Nat) : IntKind.u8.wrap ((BitVec.ofInt IntKind.u8.bits (IntKind.u8.wrap (v : Int)) ||| BitVec.ofInt IntKind.u8.bits 128).toNat : Int) = ((UInt8.ofNat (v % 128 + 128)).toNat : Int) := by
  have e0 : IntKind.u8.wrap (v : Int) = ((v % 256 : Nat) : Int) := wrap8 v
  rw [e0]
  have key : ∀ r : Fin 256, IntKind.u8.wrap ((BitVec.ofInt IntKind.u8.bits ((r.val : Nat) : Int) ||| BitVec.ofInt IntKind.u8.bits 128).toNat : Int) = ((UInt8.ofNat (r.val % 128 + 128)).toNat : Int) := by decide +kernel
  have h := key ⟨v % 256, Nat.mod_lt _ (by decide)⟩
  dsimp only at h
  rw [h, show v % 256 % 128 = v % 128 by omega]
theorem low8 {v : Nat} (h : v < 128) : IntKind.u8.wrap (v : Int) = ((UInt8.ofNat v).toNat : Int) := by
  rw [wrap8]
  simp
theorem numB_le : ∀ (n v : Nat), v < 128 ^ n → 1 ≤ n → (numB v).length ≤ n
  | 0, _, _, h => by omega
  | n + 1, v, hv, _ => by
    by_cases h : v < 128
    · rw [numB_small h]; simp
    · rw [numB_step h, List.length_cons]
      have h1 : v / 128 < 128 ^ n := by
        rw [Nat.div_lt_iff_lt_mul (by decide)]; rwa [Nat.pow_succ] at hv
      have hn : 1 ≤ n := by
        rcases Nat.eq_zero_or_pos n with e | e
        · subst e; simp at h1; omega
        · exact e
      have := numB_le n (v / 128) h1 hn
      omega
theorem numB_len (v : Nat) (h : v ≤ 18446744073709551615) : (numB v).length ≤ 10 := numB_le 10 v (by
  have : (128 : Nat) ^ 10 = 1180591620717411303424 := by decide
  omega) (by decide)
end Go.X
namespace Go.X
set_option linter.unusedSectionVars false
set_option linter.unusedSimpArgs false
set_option linter.unusedVariables false

theorem normA_some : ∀ A : List Assn, normA A = some A
  | [] => rfl
  | a :: A => by simp only [normA, normA_some A]
class AtPt (A : List Assn) (b : Nat) (o : outParam Obj) (C : outParam (Obj → List Assn)) : Prop where
  at_ : ∃ i, A[i]? = some (pt b o) ∧ ∀ n, A.set i (pt b n) = C n
instance AtPt.head {b : Nat} {o : Obj} {A : List Assn} : AtPt (pt b o :: A) b o (fun n => pt b n :: A) := ⟨0, rfl, fun _ => rfl⟩
instance AtPt.tail {b : Nat} {o : Obj} {X : Assn} {A : List Assn} {C : Obj → List Assn} [h : AtPt A b o C] : AtPt (X :: A) b o (fun n => X :: C n) := by
  obtain ⟨i, h1, h2⟩ := h.at_
  exact ⟨i + 1, by simpa using h1, fun n => by simp [h2]⟩
instance AtPt.left {b : Nat} {o : Obj} {A E : List Assn} {C : Obj → List Assn} [h : AtPt A b o C] : AtPt (A ++ E) b o (fun n => C n ++ E) := by
  obtain ⟨i, h1, h2⟩ := h.at_
  have hi := (List.getElem?_eq_some_iff.1 h1).1
  exact ⟨i, by rw [List.getElem?_append_left hi]; exact h1, fun n => by rw [List.set_append, if_pos hi, h2]⟩
instance AtPt.right {b : Nat} {o : Obj} {A E : List Assn} {C : Obj → List Assn} [h : AtPt E b o C] : AtPt (A ++ E) b o (fun n => A ++ C n) := by
  obtain ⟨i, h1, h2⟩ := h.at_
  exact ⟨A.length + i, by rw [List.getElem?_append_right (by omega)]; simpa using h1, fun n => by rw [List.set_append, if_neg (by omega)]; simp [h2]⟩
section
variable [Dfs] {P : Program} {W0 : World} {N : Nat} {ops : Array Oper} {Q : Exit → Act → World → Prop} {L : Slots} {A D : List Assn} {rest : List Oper}
variable {ty : TypeId} {pos : String} {aft : Array Edge} {g : Option (Nat × Bool)} {T : TypeId} {x y : Operand} {b off : Nat} {l l' vs m : List Value} {e : TypeId} {z : Nat × Nat} {v : Value} {B : List Assn} {KK : Obj → List Assn}
theorem rdI [h : AtPt D b (.cells l.toArray e z) KK] (hv : l[off]? = some v) : Reads D b off v := by
  obtain ⟨i, h1, _⟩ := h.at_; exact Reads.pt i h1 hv
theorem rnI [h : AtPt D b (.cells l.toArray e z) KK] : ReadsN D b 0 l := by
  obtain ⟨i, h1, _⟩ := h.at_; exact ReadsN.pt i h1
theorem C.stI (hs : ∀ w, (sizeOf T).run P w = .ok 1 w) (ex : ev L x = some (.pointer (some ⟨b, off, none⟩))) (ey : ev L y = some v) (hv : oneC v = true) [h : AtPt A b (.cells l.toArray e z) KK]
    (hl : setV off v l = some l') (hz : (decide (z.1 ≤ off) && decide (off < z.2)) = false) (hB : normA (KK (.cells l'.toArray e z)) = some B) : OpC P (.store T x y) ty L A (fun u D => u = undef ∧ D = B) := by
  obtain ⟨i, h1, h2⟩ := h.at_
  have hl' := setV_eq hl
  refine OpC.shutTo (C.st hs ex ey hv h1 hl'.1 hz) ?_
  rintro u D ⟨rfl, rfl⟩
  refine ⟨_, ⟨rfl, rfl⟩, fun h hh => ?_⟩
  rw [hl'.2, h2, normA_eq hB] at hh; exact hh
theorem C.stAI (hs : ∀ w, (sizeOf T).run P w = .ok vs.length w) (ex : ev L x = some (.pointer (some ⟨b, 0, none⟩))) (ey : ev L y = some (.agg vs.toArray)) [h : AtPt A b (.cells m.toArray e (0, 0)) KK]
    (hl : Nat.beq m.length vs.length = true) (hv : vs.all oneC = true) (hB : normA (KK (.cells vs.toArray e (0, 0))) = some B) : OpC P (.store T x y) ty L A (fun u D => u = undef ∧ D = B) := by
  obtain ⟨i, h1, h2⟩ := h.at_
  refine C.stA hs ex ey h1 hl hv ?_
  have : setA i (pt b (.cells vs.toArray e (0, 0))) A = some B := by
    have key : ∀ (A : List Assn) (i : Nat) (X : Assn), i < A.length → setA i X A = some (A.set i X) := by
      intro A
      induction A with
      | nil => intro i X h; simp at h
      | cons a A ih =>
        intro i X h
        cases i with
        | zero => simp [setA, normA_some]
        | succ i => simp only [setA, ih i X (by simpa using h)]; rfl
    rw [key A i _ (List.getElem?_eq_some_iff.1 h1).1, h2, normA_eq hB]
  exact this
theorem J.stI (hg : guardL ops g L = some true) (hs : ∀ w, (sizeOf T).run P w = .ok 1 w) (ex : ev L x = some (.pointer (some ⟨b, off, none⟩))) (ey : ev L y = some v) (hv : oneC v = true) [h : AtPt A b (.cells l.toArray e z) KK]
    (hl : setV off v l = some l') (hz : (decide (z.1 ≤ off) && decide (off < z.2)) = false) (hB : normA (KK (.cells l'.toArray e z)) = some B)
    (k : J W0 N L B (wpList P ops Q rest)) : J W0 N L A (wpList P ops Q (⟨none, .store T x y, ty, pos, aft, g⟩ :: rest)) :=
  J.c0 hg (C.stI hs ex ey hv hl hz hB) (by rintro _ _ ⟨rfl, rfl⟩; exact k)
theorem J.stAI (hg : guardL ops g L = some true) (hs : ∀ w, (sizeOf T).run P w = .ok vs.length w) (ex : ev L x = some (.pointer (some ⟨b, 0, none⟩))) (ey : ev L y = some (.agg vs.toArray)) [h : AtPt A b (.cells m.toArray e (0, 0)) KK]
    (hl : Nat.beq m.length vs.length = true) (hv : vs.all oneC = true) (hB : normA (KK (.cells vs.toArray e (0, 0))) = some B)
    (k : J W0 N L B (wpList P ops Q rest)) : J W0 N L A (wpList P ops Q (⟨none, .store T x y, ty, pos, aft, g⟩ :: rest)) :=
  J.c0 hg (C.stAI hs ex ey hl hv hB) (by rintro _ _ ⟨rfl, rfl⟩; exact k)
end
section
variable [Dfs] {P : Program} {W0 : World} {N : Nat} {l : List Oper} {NQ : List Nat} {Q : Exit → Act → World → Prop} {S : List Nat} {L : Slots} {D E : List Assn}
variable {ty : TypeId} {pos : String} {aft : Array Edge} {g : Option (Nat × Bool)} {T : TypeId} {x y : Operand} {b off : Nat} {vs m m' : List Value} {e : TypeId} {z : Nat × Nat} {v : Value} {B : List Assn} {KK : Obj → List Assn}
theorem RG.stI (i : Nat) (hR : RegOK l NQ) (hf : front l S = [i]) (ho : l[i]? = some ⟨none, .store T x y, ty, pos, aft, g⟩) (hi : memN i NQ = true) (hg : guardL l.toArray g L = some true) (hb : S.all (fun j => (((masks [] l)[i]?).getD 0).testBit j) = true)
    (hs : ∀ w, (sizeOf T).run P w = .ok 1 w) (ex : ev L x = some (.pointer (some ⟨b, off, none⟩))) (ey : ev L y = some v) (hv : oneC v = true) [h : AtPt (D ++ E) b (.cells m.toArray e z) KK]
    (hl : setV off v m = some m') (hz : (decide (z.1 ≤ off) && decide (off < z.2)) = false) (hB : normA (KK (.cells m'.toArray e z)) = some B) (k : RG P W0 N l NQ Q (i :: S) L B []) : RG P W0 N l NQ Q S L D E :=
  RG.bar i hR hf ho hi rfl hg hb (C.stI hs ex ey hv hl hz hB) (by rintro _ _ ⟨rfl, rfl⟩; exact k)
theorem RG.stAI (i : Nat) (hR : RegOK l NQ) (hf : front l S = [i]) (ho : l[i]? = some ⟨none, .store T x y, ty, pos, aft, g⟩) (hi : memN i NQ = true) (hg : guardL l.toArray g L = some true) (hb : S.all (fun j => (((masks [] l)[i]?).getD 0).testBit j) = true)
    (hs : ∀ w, (sizeOf T).run P w = .ok vs.length w) (ex : ev L x = some (.pointer (some ⟨b, 0, none⟩))) (ey : ev L y = some (.agg vs.toArray)) [h : AtPt (D ++ E) b (.cells m.toArray e (0, 0)) KK]
    (hl : Nat.beq m.length vs.length = true) (hv : vs.all oneC = true) (hB : normA (KK (.cells vs.toArray e (0, 0))) = some B) (k : RG P W0 N l NQ Q (i :: S) L B []) : RG P W0 N l NQ Q S L D E :=
  RG.bar i hR hf ho hi rfl hg hb (C.stAI hs ex ey hl hv hB) (by rintro _ _ ⟨rfl, rfl⟩; exact k)
end

class PickO (A : List Assn) (X : Assn) (F : outParam (List Assn)) : Prop where
  perm : A.Perm (X :: F)
instance PickO.head {X : Assn} {A : List Assn} : PickO (X :: A) X A := ⟨List.Perm.refl _⟩
instance (priority := 900) PickO.tail {X Y : Assn} {A F : List Assn} [h : PickO A X F] : PickO (Y :: A) X (Y :: F) := ⟨(h.perm.cons Y).trans (List.Perm.swap X Y F)⟩
instance PickO.left {X : Assn} {A B F : List Assn} [h : PickO A X F] : PickO (A ++ B) X (F ++ B) := ⟨h.perm.append_right B⟩
instance (priority := 900) PickO.right {X : Assn} {A B F : List Assn} [h : PickO B X F] : PickO (A ++ B) X (A ++ F) := ⟨(h.perm.append_left A).trans List.perm_middle⟩
class PickL (A Xs : List Assn) (F : outParam (List Assn)) : Prop where
  perm : A.Perm (Xs ++ F)
instance PickL.nil {A : List Assn} : PickL A [] A := ⟨List.Perm.refl _⟩
instance PickL.cons {A F G Xs : List Assn} {X : Assn} [h : PickO A X F] [k : PickL F Xs G] : PickL A (X :: Xs) G := ⟨h.perm.trans (k.perm.cons X)⟩
instance PickL.app {A F G Xs Ys : List Assn} [h : PickL A Xs F] [k : PickL F Ys G] : PickL A (Xs ++ Ys) G := ⟨by rw [List.append_assoc]; exact h.perm.trans (k.perm.append_left Xs)⟩

section
variable {P : Program} {L : Slots} {A Ain F : List Assn} {R : Value → List Assn → Prop} {f : FuncId} {ty : TypeId} {argTypes : Array TypeId}
theorem OpC.callP {xs : List Operand} {args : List Value} (hc : ∀ (args : Array Value) (w : World), (callFunc f args).run P w = .ok (.enter f args) w) (he : evs L xs = some args) (hs : FSpec P f args Ain R) (hp : A.Perm (Ain ++ F)) :
    OpC P (.call { callee := .value (.func f), args := xs.toArray, argTypes }) ty L A (fun v B => ∃ B1, R v B1 ∧ B = B1 ++ F) := by
  refine ⟨fun dst pos aft g a W0 w ag s K Q k => ?_⟩
  have hx : xs.map a.eval = args := evs_map (fun x hx => ag x (by simp [Op.operands, Call.operands, hx])) he
  have ha : (xs.toArray).map a.eval = args.toArray := by simp [hx]
  unfold Oper.wp
  have hrun : (execOp a.eval ⟨dst, .call { callee := .value (.func f), args := xs.toArray, argTypes }, ty, pos, aft, g⟩).run P w = .ok (.enter f args.toArray) w := by
    simp only [execOp, resolve, Deferred.ofValue, Act.eval, invoke, Sem.run_bind, Sem.run_pure, Result.andThen_ok, ha]
    simpa using hc args.toArray w
  rw [hrun, Oper.upon_enter]
  have s' : Sat W0 w (Ain ++ [star F]) := by
    refine (s.perm hp).imp fun k t => ?_
    obtain ⟨h1, h2, p, q, d, u, v⟩ := t.append
    exact HSat.of_append p (Bs := [star F]) ⟨h2, fun _ => none, q, trivial, fun _ => Or.inr rfl, Sub.refl _, fun _ _ e => nomatch e⟩ d u v
  refine (hs.call W0 w (star F) s').mono ?_
  rintro e w' ⟨v, B, rfl, r, t⟩
  refine k v (B ++ F) w' ⟨B, r, rfl⟩ (t.imp fun k t => ?_)
  obtain ⟨h1, h2, p, ⟨k1, k2, q, _, _, s1, _⟩, d, u, v⟩ := t.append
  exact HSat.of_append p (HSat.mono q s1) d u v
end
section
variable [Dfs] {P : Program} {W0 : World} {N : Nat} {ops : Array Oper} {Q : Exit → Act → World → Prop} {L : Slots} {A Ain F : List Assn} {rest : List Oper}
variable {ty : TypeId} {pos : String} {aft : Array Edge} {g : Option (Nat × Bool)} {d : Nat} {argTypes : Array TypeId} {f : FuncId} {R : Value → List Assn → Prop}
theorem J.callI {xs : List Operand} {args : List Value} (hc : ∀ (args : Array Value) (w : World), (callFunc f args).run P w = .ok (.enter f args) w) (hs : FSpec P f args Ain R)
    (hg : guardL ops g L = some true) (hd : Nat.blt d N = true) (he : evs L xs = some args) [hp : PickL A Ain F]
    (k : ∀ v B, R v B → J W0 N ((d, v) :: L) (B ++ F) (wpList P ops Q rest)) :
    J W0 N L A (wpList P ops Q (⟨some d, .call { callee := .value (.func f), args := xs.toArray, argTypes }, ty, pos, aft, g⟩ :: rest)) :=
  J.c hg hd (OpC.callP hc he hs hp.perm) (by rintro v _ ⟨B, r, rfl⟩; exact k v B r)
end
section
variable [Dfs] {P : Program} {W0 : World} {N : Nat} {l : List Oper} {NQ : List Nat} {Q : Exit → Act → World → Prop} {S : List Nat} {L : Slots} {D E Ain F : List Assn}
variable {d : Nat} {ty : TypeId} {pos : String} {aft : Array Edge} {g : Option (Nat × Bool)} {f : FuncId} {argTypes : Array TypeId} {R : Value → List Assn → Prop} {xs : List Operand} {args : List Value}
theorem RG.callI (i : Nat) (hR : RegOK l NQ) (hf : front l S = [i])
    (ho : l[i]? = some ⟨some d, .call { callee := .value (.func f), args := xs.toArray, argTypes }, ty, pos, aft, g⟩) (hi : memN i NQ = true) (hN : Nat.blt d N = true) (hg : guardL l.toArray g L = some true) (hb : S.all (fun j => (((masks [] l)[i]?).getD 0).testBit j) = true)
    (hc : ∀ (args : Array Value) (w : World), (callFunc f args).run P w = .ok (.enter f args) w) (hs : FSpec P f args Ain R) (he : evs L xs = some args) [hp : PickL (D ++ E) Ain F]
    (k : ∀ v B, R v B → RG P W0 N l NQ Q (i :: S) ((d, v) :: L) (B ++ F) []) : RG P W0 N l NQ Q S L D E :=
  RG.bar i hR hf ho hi hN hg hb (OpC.callP hc he hs hp.perm) (by rintro v _ ⟨B, r, rfl⟩; exact k v B r)
theorem RG.callkI (i : Nat) (hR : RegOK l NQ) (hf : front l S = [i])
    (ho : l[i]? = some ⟨some d, .call { callee := .value (.func f), args := xs.toArray, argTypes }, ty, pos, aft, g⟩) (hi : memN i NQ = true) (hN : Nat.blt d N = true) (hg : guardL l.toArray g L = some true)
    (hc : ∀ (args : Array Value) (w : World), (callFunc f args).run P w = .ok (.enter f args) w) (hs : FSpec P f args Ain R) (he : evs L xs = some args) [hp : PickL E Ain F]
    (k : ∀ v B, R v B → RG P W0 N l NQ Q (i :: S) ((d, v) :: L) D (B ++ F)) : RG P W0 N l NQ Q S L D E :=
  RG.one i hR hf ho hi hN hg (OpC.callP hc he hs (F := D ++ F) ((hp.perm.append_left D).trans (by rw [← List.append_assoc, ← List.append_assoc]; exact List.perm_append_comm.append_right F)))
    (by rintro v _ ⟨B, r, rfl⟩; exact ⟨B ++ F, (by rw [← List.append_assoc, ← List.append_assoc]; exact List.perm_append_comm.append_right F), k v B r⟩)
theorem RGi.callkI {i : Nat}
    (ho : l[i]? = some ⟨some d, .call { callee := .value (.func f), args := xs.toArray, argTypes }, ty, pos, aft, g⟩) (hi : memN i NQ = true) (hN : Nat.blt d N = true) (hg : guardL l.toArray g L = some true)
    (hc : ∀ (args : Array Value) (w : World), (callFunc f args).run P w = .ok (.enter f args) w) (hs : FSpec P f args Ain R) (he : evs L xs = some args) [hp : PickL E Ain F]
    (k : ∀ v B, R v B → RG P W0 N l NQ Q (i :: S) ((d, v) :: L) D (B ++ F)) : RGi P W0 N l NQ Q S L D E i :=
  RGi.one ho hi hN hg (OpC.callP hc he hs (F := D ++ F) ((hp.perm.append_left D).trans (by rw [← List.append_assoc, ← List.append_assoc]; exact List.perm_append_comm.append_right F)))
    (by rintro v _ ⟨B, r, rfl⟩; exact ⟨B ++ F, (by rw [← List.append_assoc, ← List.append_assoc]; exact List.perm_append_comm.append_right F), k v B r⟩)
end
section
variable [Dfs] {W0 : World} {N : Nat} {L : Slots} {A B C F : List Assn} {G : Act → World → Prop}
theorem HSat.keepI {h : Hp} [k : PickL A B F] (s : HSat h A) : HSat h B := by
  obtain ⟨h1, _, a, _, _, x, _⟩ := (s.perm k.perm).append
  exact a.mono x
theorem J.pickI (B : List Assn) [h : PickL A B F] (k : J W0 N L (B ++ F) G) : J W0 N L A G := k.perm h.perm
theorem J.keepI (B : List Assn) [h : PickL A B F] (k : J W0 N L B G) : J W0 N L A G := k.imp fun _ s => HSat.keepI (A := A) (F := F) s
theorem J.convI (U Y : Assn) [h : PickO A U F] (f : ∀ h, U h → Y h) (k : J W0 N L (Y :: F) G) : J W0 N L A G := (k.imp fun _ s => HSat.imp s f).perm h.perm
theorem J.shutI (C : List Assn) (Y : Assn) [h : PickL A C F] (f : ∀ h, HSat h C → Y h) (k : J W0 N L (Y :: F) G) : J W0 N L A G :=
  (k.imp fun _ s => HSat.imp (HSat.pack s) f).perm h.perm
end
section
variable [Dfs] {ι : Type} {W0 : World} {N : Nat} {I : ι → Prop} {m : ι → Nat} {Ls : ι → Slots} {As : ι → List Assn} {x : ι} {Q : Exit → Act → World → Prop} {L : Slots} {A F : List Assn}
theorem J.againI (y : ι) (hi : I y) (hm : m y < m x) (hL : Knows L (Ls y)) [h : PickL A (As y) F] : J W0 N L A (LoopQ W0 N I m Ls As x Q .normal) := J.keepI (As y) (F := F) (J.again y hi hm hL rfl)
theorem J.meetI (i : ι) (hi : I i) (hL : Knows L (Ls i)) [h : PickL A (As i) F] : J W0 N L A (CutQ W0 N I Ls As Q .normal) := J.keepI (As i) (F := F) (J.meet i hi hL rfl)
end
section
variable {P : Program} {fn : Func} {N : Nat} {A B D : List Assn} {R : Value → List Assn → Prop} {W0 : World} {L : Slots} {F : Assn} {v u : Value} {s t : Nat}
theorem J.ret1I (B : List Assn) (hr : fn.results = #[.tmp s]) (hv : find s L = some v) (hR : R v B) [h : PickL A (B ++ [F]) D] : J W0 N L A (bodyPost P fn (RetQ W0 R F) .ret) := J.keepI (B ++ [F]) (F := D) (J.ret1 hr hv hR rfl)
theorem J.ret2I (B : List Assn) (hr : fn.results = #[.tmp s, .tmp t]) (hv : find s L = some v) (hu : find t L = some u) (hR : R (.tuple #[v, u]) B) [h : PickL A (B ++ [F]) D] : J W0 N L A (bodyPost P fn (RetQ W0 R F) .ret) := J.keepI (B ++ [F]) (F := D) (J.ret2 hr hv hu hR rfl)
theorem J.end0I (B : List Assn) (hr : fn.results = #[]) (hR : R (.tuple #[]) B) [h : PickL A (B ++ [F]) D] : J W0 N L A (bodyPost P fn (RetQ W0 R F) .normal) := J.keepI (B ++ [F]) (F := D) (J.end0 hr hR rfl)
end

section
variable [Dfs] {P : Program} {W0 : World} {N : Nat} {l : List Oper} {NQ : List Nat} {Q : Exit → Act → World → Prop} {S : List Nat} {L : Slots} {D E Ain F A : List Assn}
theorem SlR.inI {sz : Nat} {v : Value} {xs : List Value} {X : Assn} (h : SlR [X] sz v xs) [k : PickO D X F] : SlR D sz v xs := by
  obtain ⟨i, hi⟩ := List.getElem?_of_mem (k.perm.mem_iff.2 List.mem_cons_self)
  exact h.within hi
theorem RG.slr1 {E0 sz : Nat} {p : Option Addr} {n c : Nat} {xs : List Value} [h : PickO (D ++ E) (own E0 sz (.slice p n c) xs) F] (k : SlR [own E0 sz (.slice p n c) xs] sz (.slice p n c) xs → RG P W0 N l NQ Q S L D E) : RG P W0 N l NQ Q S L D E :=
  ⟨fun m listed a w inv hm => by
    obtain ⟨h1, _, a1, _, _, _, _⟩ := inv.sat.heap.perm h.perm
    exact (k (own.slr (i := 0) rfl ⟨h1, ⟨h1, fun _ => none, a1, trivial, fun _ => Or.inr rfl, Sub.refl _, fun _ _ e => nomatch e⟩⟩)).run m listed a w inv hm⟩
theorem J.slrI {G : Act → World → Prop} {E0 sz : Nat} {p : Option Addr} {n c : Nat} {xs : List Value} [h : PickO A (own E0 sz (.slice p n c) xs) F] (k : SlR [own E0 sz (.slice p n c) xs] sz (.slice p n c) xs → J W0 N L A G) : J W0 N L A G :=
  ⟨fun a w x y => by
    obtain ⟨h1, _, a1, _, _, _, _⟩ := y.heap.perm h.perm
    exact (k (own.slr (i := 0) rfl ⟨h1, ⟨h1, fun _ => none, a1, trivial, fun _ => Or.inr rfl, Sub.refl _, fun _ _ e => nomatch e⟩⟩)).run a w x y⟩
end
theorem len_app {α : Type} (a b : List α) : (a ++ b).length = a.length + b.length := List.length_append
class Says (b : Bool) (v : Bool) (p : outParam Prop) : Prop where
  says : b = v → p
instance (priority := 10) {b v : Bool} : Says b v (b = v) := ⟨id⟩
instance {p : Prop} [Decidable p] : Says (decide p) true p := ⟨of_decide_eq_true⟩
instance {p : Prop} [Decidable p] : Says (decide p) false (¬ p) := ⟨of_decide_eq_false⟩
instance {p : Prop} [Decidable p] : Says (!decide p) true (¬ p) := ⟨X.tt_not⟩
instance {p : Prop} [Decidable p] : Says (!decide p) false p := ⟨X.ff_not⟩
theorem nm {b v : Bool} {p : Prop} [h : Says b v p] (e : b = v) : p := h.says e
end Go.X
namespace Go.X
theorem J.kases [Dfs] {W0 : World} {N : Nat} {G : Act → World → Prop} {L : Slots} {A : List Assn} (s : Nat) {b : Bool} {p q : Prop} (e : find s L = some (.bool b)) [h1 : Says b true p] [h2 : Says b false q] (ht : p → J W0 N ((s, .bool true) :: L) A G) (hf : q → J W0 N ((s, .bool false) :: L) A G) : J W0 N L A G := J.cases s e (fun h => ht (h1.says h)) fun h => hf (h2.says h)
section
variable [Dfs] {P : Program} {W0 : World} {N : Nat} {Q : Exit → Act → World → Prop} {L : Slots} {D A B : List Assn} {ty T e : TypeId} {pos : String} {aft : Array Edge} {g : Option (Nat × Bool)} {v : Value} {x y : Operand} {ops : Array Oper} {rest : List Oper} {b off : Nat} {z : Nat × Nat} {KK : Obj → List Assn}
theorem Q.ldI {l : List Value} (ha : ∀ w, (isAgg T).run P w = .ok false w) (ex : ev L x = some (.pointer (some ⟨b, off, none⟩))) [h : AtPt D b (.cells l.toArray e z) KK] (hv : l[off]? = some v := by exact rfl) : OpQ P (.load T x) ty L D v := Q.ld ha ex (rdI hv)
theorem J.stJ {l l' : List Value} (hg : guardL ops g L = some true) (hs : ∀ w, (sizeOf T).run P w = .ok 1 w) (ex : ev L x = some (.pointer (some ⟨b, off, none⟩))) (ey : ev L y = some v) (hv : oneC v = true) [h : AtPt A b (.cells l.toArray e z) KK]
    (k : J W0 N L B (wpList P ops Q rest)) (hl : setV off v l = some l' := by exact rfl) (hz : (decide (z.1 ≤ off) && decide (off < z.2)) = false := by exact rfl) (hB : normA (KK (.cells l'.toArray e z)) = some B := by exact rfl) : J W0 N L A (wpList P ops Q (⟨none, .store T x y, ty, pos, aft, g⟩ :: rest)) :=
  J.stI hg hs ex ey hv hl hz hB k
theorem J.stAJ {m vs : List Value} (hg : guardL ops g L = some true) (hs : ∀ w, (sizeOf T).run P w = .ok vs.length w) (ex : ev L x = some (.pointer (some ⟨b, 0, none⟩))) (ey : ev L y = some (.agg vs.toArray)) [h : AtPt A b (.cells m.toArray e (0, 0)) KK]
    (k : J W0 N L B (wpList P ops Q rest)) (hl : Nat.beq m.length vs.length = true := by exact rfl) (hv : vs.all oneC = true := by exact rfl) (hB : normA (KK (.cells vs.toArray e (0, 0))) = some B := by exact rfl) : J W0 N L A (wpList P ops Q (⟨none, .store T x y, ty, pos, aft, g⟩ :: rest)) :=
  J.stAI hg hs ex ey hl hv hB k
end
end Go.X
namespace Go.X
set_option linter.unusedSectionVars false
set_option linter.unusedSimpArgs false
set_option linter.unusedVariables false

def fen (r : Option Nat) : Fence := { Fence.wide with round := r }
theorem callsIn_fen {r : Option Nat} {n : Nat} {P : Program} {f : FuncId} {args : Array Value} {w : World} {R : Ending → World → Prop} (h : Calls P f args w R) : CallsIn (fen r) n P f args w R :=
  ⟨trivial, fun cs _ => let ⟨e, w', fr, q, s, x⟩ := h cs; ⟨e, w', fr, q, comesIn_wide.2 s, x⟩⟩
theorem callsIn_fen_out {r : Option Nat} {n : Nat} {P : Program} {f : FuncId} {args : Array Value} {w : World} {R : Ending → World → Prop} (h : CallsIn (fen r) n P f args w R) : Calls P f args w R :=
  fun cs => let ⟨e, w', fr, q, s, x⟩ := h.2 cs (room_wide _); ⟨e, w', fr, q, comesIn_wide.1 s, x⟩
def EI (Q : Exit → Act → World → Prop) (ds : List Deferred) (e : Exit) : Act → World → Prop := fun a w => Q e { a with defers := ds } w



def lrec (fn : FuncId) (T : Array Value) (ps : List Tmp) (assign body : Code) (D : Nat) (st : LoopState) (pe : Option Code) : Obj :=
  .loop { state := st, pending := pe, fn, tmps := T, params := ps.toArray, assign, body, defers := D }


theorem putObj_sat {W0 w : World} {l : Nat} {o p : Obj} {A : List Assn} (s : Sat W0 w (pt l o :: A)) : Sat W0 (w.putObj l p) (pt l p :: A) := by
  have h0 : hp w l = some o := by obtain ⟨k, hk, hs⟩ := s.heap.at_ (i := 0) rfl; exact hs l o hk
  refine ⟨s.os, s.tape, s.out, ?_⟩
  have e : hp (w.putObj l p) = upd (hp w) l p := hp_set w l p o h0
  rw [e]
  have := HSat.update (i := 0) (b := l) (o := p) (A := pt l o) (B := pt l p) s.heap rfl fun k hk => ⟨⟨o, hk⟩, by simp [pt, upd]⟩
  simpa using this


section loops
variable [Dfs] {α β γ δ : Type} {P : Program} {W0 : World} {N : Nat} {Q : Exit → Act → World → Prop} {L : Slots} {A : List Assn} {c : Code}
theorem J.loop2 (I : α → β → Prop) (m : α → β → Nat) (Ls : α → β → Slots) (As : α → β → List Assn) (x0 : α) (y0 : β) (h0 : I x0 y0) (hL : Knows L (Ls x0 y0)) (hA : A = As x0 y0)
    (round : ∀ x y, I x y → J W0 N (Ls x y) (As x y) (c.wp P (LoopQ W0 N (fun z : α × β => I z.1 z.2) (fun z => m z.1 z.2) (fun z => Ls z.1 z.2) (fun z => As z.1 z.2) (x, y) Q))) : J W0 N L A ((Code.loop c).wp P Q) :=
  J.loop (fun z : α × β => I z.1 z.2) (fun z => m z.1 z.2) (fun z => Ls z.1 z.2) (fun z => As z.1 z.2) (x0, y0) h0 hL hA fun x h => round x.1 x.2 h
theorem J.loop3 (I : α → β → γ → Prop) (m : α → β → γ → Nat) (Ls : α → β → γ → Slots) (As : α → β → γ → List Assn) (x0 : α) (y0 : β) (z0 : γ) (h0 : I x0 y0 z0) (hL : Knows L (Ls x0 y0 z0)) (hA : A = As x0 y0 z0)
    (round : ∀ x y u, I x y u → J W0 N (Ls x y u) (As x y u) (c.wp P (LoopQ W0 N (fun z : α × β × γ => I z.1 z.2.1 z.2.2) (fun z => m z.1 z.2.1 z.2.2) (fun z => Ls z.1 z.2.1 z.2.2) (fun z => As z.1 z.2.1 z.2.2) (x, y, u) Q))) : J W0 N L A ((Code.loop c).wp P Q) :=
  J.loop (fun z : α × β × γ => I z.1 z.2.1 z.2.2) (fun z => m z.1 z.2.1 z.2.2) (fun z => Ls z.1 z.2.1 z.2.2) (fun z => As z.1 z.2.1 z.2.2) (x0, y0, z0) h0 hL hA fun x h => round x.1 x.2.1 x.2.2 h
theorem J.loop4 (I : α → β → γ → δ → Prop) (m : α → β → γ → δ → Nat) (Ls : α → β → γ → δ → Slots) (As : α → β → γ → δ → List Assn) (x0 : α) (y0 : β) (z0 : γ) (w0 : δ) (h0 : I x0 y0 z0 w0) (hL : Knows L (Ls x0 y0 z0 w0)) (hA : A = As x0 y0 z0 w0)
    (round : ∀ x y u v, I x y u v → J W0 N (Ls x y u v) (As x y u v) (c.wp P (LoopQ W0 N (fun z : α × β × γ × δ => I z.1 z.2.1 z.2.2.1 z.2.2.2) (fun z => m z.1 z.2.1 z.2.2.1 z.2.2.2) (fun z => Ls z.1 z.2.1 z.2.2.1 z.2.2.2) (fun z => As z.1 z.2.1 z.2.2.1 z.2.2.2) (x, y, u, v) Q))) : J W0 N L A ((Code.loop c).wp P Q) :=
  J.loop (fun z : α × β × γ × δ => I z.1 z.2.1 z.2.2.1 z.2.2.2) (fun z => m z.1 z.2.1 z.2.2.1 z.2.2.2) (fun z => Ls z.1 z.2.1 z.2.2.1 z.2.2.2) (fun z => As z.1 z.2.1 z.2.2.1 z.2.2.2) (x0, y0, z0, w0) h0 hL hA fun x h => round x.1 x.2.1 x.2.2.1 x.2.2.2 h
end loops
end Go.X
namespace Go.Proofs.YtblpcabdfbpcnaaGreatDoor
open Go.Proofs.Tryz
open Go.X

theorem clip_spec (p : Option Addr) (c : Nat) (bs : List UInt8) (hn : bs.length ≤ 9223372036854775807) : FSpec Tryz.prog 184 [.slice p bs.length c] [own 5 1 (.slice p bs.length c) (bytesV bs)] (fun v B => v = .slice p bs.length bs.length ∧ B = [own 5 1 (.slice p bs.length bs.length) (bytesV bs)]) := by
  refine FSpec.of func184 rfl ntmps184 rfl fun W0 F => ?_
  refine J.seq <| J.region <| J.p rfl (Q.asg rfl) <| J.nil <| J.then_n <| J.seq ?_
  refine J.tells 0 rfl own.len fun hln => ?_
  obtain ⟨_, hcap⟩ := hln
  refine J.region <| J.m rfl <| J.m rfl <| J.p rfl (Q.lenSl runUnderlying22 rfl) <| J.m rfl <| J.p rfl (Q.lenSl runUnderlying22 rfl) <| J.p rfl (Q.slHM runUnderlying22 sizeOf5 rfl rfl rfl (by omega) (by omega) (by omega)) <| J.p rfl (Q.asg rfl) <| J.nil <| J.then_n <| J.cret ?_
  refine J.conv (Y := own 5 1 (.slice p bs.length bs.length) (bytesV bs)) 0 rfl own.clip ?_
  refine J.ret1 (B := [own 5 1 (.slice p bs.length bs.length) (bytesV bs)]) rfl rfl ⟨rfl, rfl⟩ rfl

theorem number_spec (p : Option Addr) (c : Nat) (bs : List UInt8) (v : Nat) (hn : bs.length ≤ 70368744100000) (hv : v ≤ 18446744073709551615) : FSpec Tryz.prog 115 [.slice p bs.length c, .int .u64 v] [own 5 1 (.slice p bs.length c) (bytesV bs)]
    (fun u B => ∃ p' c', u = .slice p' (bs ++ numB v).length c' ∧ B = [own 5 1 (.slice p' (bs ++ numB v).length c') (bytesV (bs ++ numB v))]) := by
  refine FSpec.of func115 rfl ntmps115 rfl fun W0 F => ?_
  refine J.seq <| J.region <| J.p rfl (Q.asg rfl) <| J.nil <| J.then_n <| J.seq <| J.region <| J.m rfl ?_
  refine J.call call184 (clip_spec p c bs (by omega)) [0] rfl rfl rfl rfl ?_
  rintro _ _ ⟨rfl, rfl⟩
  refine J.norm rfl <| J.p rfl (Q.asg rfl) <| J.nil <| J.then_n <| J.seq <| J.block ?_
  refine J.loop (fun z : List UInt8 × Nat × Option Addr × Nat => z.1 ++ numB z.2.1 = bs ++ numB v ∧ z.2.1 ≤ 18446744073709551615 ∧ z.1.length ≤ bs.length + (numB v).length) (fun z => z.2.1) (fun z => [(0, .slice z.2.2.1 z.1.length z.2.2.2), (1, .int .u64 z.2.1)]) (fun z => [own 5 1 (.slice z.2.2.1 z.1.length z.2.2.2) (bytesV z.1), F]) (bs, v, p, bs.length) ⟨rfl, hv, by show bs.length ≤ _; omega⟩ ⟨rfl, rfl, trivial⟩ rfl fun z hz => ?_
  obtain ⟨acc, w, q, d⟩ := z
  obtain ⟨hz1, hz2, hz3⟩ := hz
  dsimp only at hz1 hz2 hz3
  refine J.seq <| J.seq <| J.region <| J.m rfl <| J.p rfl (Q.geq rfl rfl) <| J.nil <| J.then_n ?_
  refine J.kases 8 rfl (fun hc8 => ?_) (fun hc8 => ?_)
  ·
   try (first | (cases hc8; done) | (exfalso; simp at hc8; done))
   all_goals
    refine J.cond_t rfl <| J.cskip <| J.then_n <| J.block <| J.seq ?_
    have hw : ¬ w < 128 := by have h := hc8; dsimp only at h; omega
    have hst := numB_step (v := w) hw
    refine J.region <| J.m rfl <| J.m rfl <| J.p rfl (Q.conv runUnderlying30 runUnderlying5 rfl) <| J.p rfl (Q.or rfl rfl) ?_
    refine J.slot 12 (byteV (UInt8.ofNat (w % 128 + 128))) rfl (by show Value.int .u8 _ = _; rw [or128 w]; rfl) ?_
    refine J.c rfl rfl (C.bslG (l := [_]) runUnderlying22 sizeOf5 zeroValue5 (by decide) rfl rfl rfl rfl rfl) ?_
    rintro _ _ ⟨b13, rfl, rfl⟩
    refine J.norm rfl ?_
    refine J.conv (Y := own 5 1 (.slice (some ⟨b13, 0, none⟩) 1 1) (bytesV [UInt8.ofNat (w % 128 + 128)])) 0 rfl (own_of_block rfl) ?_
    refine J.slr1 0 rfl fun hs13 => ?_
    refine J.c rfl rfl (C.app (i := 1) runUnderlying22 runUnderlying22 typeInfo5 sizeOf5 zeroValue5 rfl rfl rfl (hs13.within (i := 0) rfl) (bytesV_one _) (by rw [show Tryz.t5.bytes = 1 from rfl]; show (acc.length + 1) * 1 ≤ _; have := numB_len v hv; omega) (by decide)) ?_
    rintro _ _ ⟨p14, c14, rfl, rfl⟩
    refine J.norm rfl <| J.p rfl (Q.asg rfl) <| J.nil <| J.then_n <| J.region <| J.m rfl <| J.p rfl (Q.shr rfl rfl (by omega)) ?_
    refine J.slot 16 (.int .u64 ((w / 128 : Nat) : Int)) rfl (by show Value.int .u64 _ = _; congr 1; show (w : Int).fdiv (2 ^ 7) = _; rw [Int.fdiv_eq_ediv_of_nonneg _ (by decide)]; omega) ?_
    refine J.p rfl (Q.asg rfl) <| J.nil <| J.blk_n ?_
    refine J.keep [1, 2] rfl ?_
    have hbl : (acc ++ [UInt8.ofNat (w % 128 + 128)]).length = acc.length + 1 := by simp
    refine J.again (acc ++ [UInt8.ofNat (w % 128 + 128)], w / 128, p14, c14) ⟨?_, by show w / 128 ≤ _; omega, ?_⟩ (by show w / 128 < w; omega) ⟨(by show _ = some (Value.slice p14 _ c14); rw [hbl]; rfl), rfl, trivial⟩ ?_
    · show (acc ++ [UInt8.ofNat (w % 128 + 128)]) ++ numB (w / 128) = bs ++ numB v
      rw [← hz1, hst, List.append_assoc]; rfl
    · have h1 := congrArg List.length hz1
      rw [hst] at h1
      simp only [List.length_append, List.length_cons] at h1
      show (acc ++ [UInt8.ofNat (w % 128 + 128)]).length ≤ _
      rw [hbl]; omega
    · show _ = [own 5 1 (.slice p14 (acc ++ [UInt8.ofNat (w % 128 + 128)]).length c14) (bytesV (acc ++ [UInt8.ofNat (w % 128 + 128)])), _]
      rw [hbl, ← bytesV_append]
  try (first | (cases hc8; done) | (exfalso; simp at hc8; done))
  all_goals
   refine J.cond_f rfl <| J.exit <| J.then_x <| J.lp_x <| J.blk_x <| J.then_n <| J.seq ?_
   have hlt : w < 128 := by have h := hc8; dsimp only at h; omega
   rw [numB_small hlt] at hz1
   refine J.region <| J.m rfl <| J.m rfl <| J.p rfl (Q.conv runUnderlying30 runUnderlying5 rfl) ?_
   refine J.slot 19 (byteV (UInt8.ofNat w)) rfl (by show Value.int .u8 _ = _; rw [low8 hlt]; rfl) ?_
   refine J.c rfl rfl (C.bslG (l := [_]) runUnderlying22 sizeOf5 zeroValue5 (by decide) rfl rfl rfl rfl rfl) ?_
   rintro _ _ ⟨b20, rfl, rfl⟩
   refine J.norm rfl ?_
   refine J.conv (Y := own 5 1 (.slice (some ⟨b20, 0, none⟩) 1 1) (bytesV [UInt8.ofNat w])) 0 rfl (own_of_block rfl) ?_
   refine J.slr1 0 rfl fun hs20 => ?_
   refine J.c rfl rfl (C.app (i := 1) runUnderlying22 runUnderlying22 typeInfo5 sizeOf5 zeroValue5 rfl rfl rfl (hs20.within (i := 0) rfl) (bytesV_one _) (by rw [show Tryz.t5.bytes = 1 from rfl]; show (acc.length + 1) * 1 ≤ _; have := numB_len v hv; omega) (by decide)) ?_
   rintro _ _ ⟨p21, c21, rfl, rfl⟩
   refine J.norm rfl <| J.p rfl (Q.asg rfl) <| J.nil <| J.then_n <| J.cret ?_
   rw [← hz1]
   have hbl : (acc ++ [UInt8.ofNat w]).length = acc.length + 1 := by simp
   refine J.keep [1, 2] rfl ?_
   refine J.ret1 (B := [own 5 1 (.slice p21 (acc ++ [UInt8.ofNat w]).length c21) (bytesV (acc ++ [UInt8.ofNat w]))]) rfl rfl ⟨p21, c21, by rw [hbl], rfl⟩ ?_
   show _ = [own 5 1 (.slice p21 (acc ++ [UInt8.ofNat w]).length c21) (bytesV (acc ++ [UInt8.ofNat w])), F]
   rw [hbl, ← bytesV_append]

def encB (bs : List UInt8) : List UInt8 := numB bs.length ++ bs

section
variable (G : Assn) (q : Option Addr) (e : Nat) (bs : List UInt8) (hs : SlR [G] 1 (.slice q bs.length e) (bytesV bs)) (hn : bs.length ≤ 70368744100000) (b : Nat)
include hs hn
theorem size_spec : FSpec Tryz.prog 186 [.slice (some ⟨b, 0, none⟩) 1 1] [pt b (.cells [.slice q bs.length e].toArray 22 (0, 0)), G] (fun v B => v = .int .i64 bs.length ∧ B = [pt b (.cells [.slice q bs.length e].toArray 22 (0, 0)), G]) := by
  refine FSpec.of func186 rfl ntmps186 rfl fun W0 F => ?_
  refine J.seq <| J.region <| J.p rfl (Q.asg rfl) <| J.nil <| J.then_n <| J.seq <| J.region <| J.p rfl (Q.asg rfl) <| J.nil <| J.then_n <| J.seq <| J.seq <| J.region <| J.m rfl <| J.p rfl (Q.lenSl runUnderlying45 rfl) <| J.m rfl <| J.nil <| J.then_n <| J.block ?_
  refine J.loop2 (fun (i : Nat) (z : Int) => i ≤ 1 ∧ z = (if i = 0 then 0 else bs.length : Nat)) (fun i _ => 1 - i) (fun i z => [(3, .int .i64 z), (6, .slice (some ⟨b, 0, none⟩) 1 1), (7, .int .i64 1), (8, .int .i64 i)]) (fun _ _ => [pt b (.cells [.slice q bs.length e].toArray 22 (0, 0)), G, F]) 0 0 ⟨Nat.zero_le _, rfl⟩ ⟨rfl, rfl, rfl, rfl, trivial⟩ rfl fun i z hz => ?_
  obtain ⟨hi, hz⟩ := hz
  refine J.seq <| J.region <| J.p rfl (Q.lss rfl rfl) <| J.nil <| J.then_n <| J.seq ?_
  refine J.kases 9 rfl (fun hc9 => ?_) (fun hc9 => ?_)
  ·
   try (first | (cases hc9; done) | (exfalso; simp at hc9; done))
   all_goals
    refine J.cond_t rfl <| J.cskip <| J.then_n <| J.seq <| J.block <| J.seq ?_
    obtain rfl : i = 0 := by omega
    rw [if_pos rfl] at hz
    refine J.region <| J.p rfl (Q.ia runUnderlying45 sizeOf22 rfl rfl (by omega) (by omega)) ?_
    refine J.p rfl (Q.ldI isAgg22 rfl) ?_
    refine J.p rfl (Q.asg rfl) <| J.nil <| J.then_n <| J.region <| J.m rfl <| J.m rfl <| J.p rfl (Q.lenSl runUnderlying22 rfl) <| J.p rfl (Q.add64 rfl rfl (by omega)) <| J.p rfl (Q.asg rfl) <| J.nil <| J.blk_n <| J.then_n <| J.region <| J.p rfl (Q.add64 rfl rfl (by omega)) <| J.m rfl <| J.nil ?_
    refine J.again (1, _) ⟨Nat.le_refl _, by show _ = ((if (1 : Nat) = 0 then 0 else bs.length : Nat) : Int); rw [if_neg (by decide), hz]; simp⟩ (by show 1 - 1 < 1 - 0; omega) ⟨rfl, rfl, rfl, rfl, trivial⟩ rfl
  try (first | (cases hc9; done) | (exfalso; simp at hc9; done))
  all_goals
   refine J.cond_f rfl <| J.exit <| J.then_x <| J.lp_x <| J.blk_x <| J.then_n <| J.seq <| J.region <| J.m rfl <| J.p rfl (Q.asg rfl) <| J.nil <| J.then_n <| J.cret ?_
   obtain rfl : i = 1 := by omega
   rw [if_neg (by decide)] at hz
   subst hz
   refine J.ret1 (B := [_, _]) rfl rfl ⟨rfl, rfl⟩ rfl

theorem bytes_spec (p : Option Addr) (c : Nat) (acc : List UInt8) (ha : acc.length ≤ 70368744100000) : FSpec Tryz.prog 117 [.slice p acc.length c, .slice (some ⟨b, 0, none⟩) 1 1] [own 5 1 (.slice p acc.length c) (bytesV acc), pt b (.cells [.slice q bs.length e].toArray 22 (0, 0)), G]
    (fun u B => ∃ p' c', u = .slice p' (acc ++ encB bs).length c' ∧ B = [own 5 1 (.slice p' (acc ++ encB bs).length c') (bytesV (acc ++ encB bs)), G]) := by
  refine FSpec.of func117 rfl ntmps117 rfl fun W0 F => ?_
  refine J.seq <| J.region <| J.p rfl (Q.asg rfl) <| J.nil <| J.then_n <| J.seq <| J.region <| J.m rfl <| J.m rfl ?_
  refine J.call call186 (size_spec G q e bs hs hn b) [1, 2] rfl rfl rfl rfl ?_
  rintro _ _ ⟨rfl, rfl⟩
  refine J.norm rfl <| J.p rfl (Q.conv runUnderlying3 runUnderlying30 rfl) ?_
  refine J.slot 10 (.int .u64 (bs.length : Int)) rfl (by congr 1; exact wrap64 (by omega)) ?_
  refine J.call call115 (number_spec p c acc bs.length (by omega) (by omega)) [2] rfl rfl rfl rfl ?_
  rintro _ _ ⟨p1, c1, rfl, rfl⟩
  refine J.norm rfl ?_
  have hnl := numB_len bs.length (by omega)
  refine J.p rfl (Q.asg rfl) <| J.nil <| J.then_n <| J.seq <| J.seq <| J.region <| J.m rfl <| J.p rfl (Q.lenSl runUnderlying45 rfl) <| J.m rfl <| J.nil <| J.then_n <| J.block ?_
  refine J.loop3 (fun (i : Nat) (p' : Option Addr) (c' : Nat) => i ≤ 1) (fun i _ _ => 1 - i) (fun i p' c' => [(0, .slice p' (acc ++ numB bs.length ++ (if i = 0 then [] else bs)).length c'), (12, .slice (some ⟨b, 0, none⟩) 1 1), (13, .int .i64 1), (14, .int .i64 i)]) (fun i p' c' => [own 5 1 (.slice p' (acc ++ numB bs.length ++ (if i = 0 then [] else bs)).length c') (bytesV (acc ++ numB bs.length ++ (if i = 0 then [] else bs))), pt b (.cells [.slice q bs.length e].toArray 22 (0, 0)), G, F]) 0 p1 c1 (Nat.zero_le _) ⟨by rw [if_pos rfl, List.append_nil]; rfl, rfl, rfl, rfl, trivial⟩ (by rw [if_pos rfl, List.append_nil]) fun i p' c' hi => ?_
  refine J.seq <| J.region <| J.p rfl (Q.lss rfl rfl) <| J.nil <| J.then_n <| J.seq ?_
  refine J.kases 15 rfl (fun hc15 => ?_) (fun hc15 => ?_)
  ·
   try (first | (cases hc15; done) | (exfalso; simp at hc15; done))
   all_goals
    refine J.cond_t rfl <| J.cskip <| J.then_n <| J.seq <| J.block <| J.seq ?_
    obtain rfl : i = 0 := by omega
    rw [if_pos rfl, List.append_nil]
    refine J.region <| J.p rfl (Q.ia runUnderlying45 sizeOf22 rfl rfl (by omega) (by omega)) ?_
    refine J.p rfl (Q.ldI isAgg22 rfl) ?_
    refine J.p rfl (Q.asg rfl) <| J.nil <| J.then_n <| J.region <| J.m rfl <| J.m rfl ?_
    refine J.c rfl rfl (C.app (i := 0) runUnderlying22 runUnderlying22 typeInfo5 sizeOf5 zeroValue5 rfl rfl rfl (hs.within (i := 2) rfl) (bytesV_one _) (by rw [show Tryz.t5.bytes = 1 from rfl, List.length_append]; omega) (by decide)) ?_
    rintro _ _ ⟨p2, c2, rfl, rfl⟩
    refine J.norm rfl <| J.p rfl (Q.asg rfl) <| J.nil <| J.blk_n <| J.then_n <| J.region <| J.p rfl (Q.add64 rfl rfl (by omega)) <| J.m rfl <| J.nil ?_
    refine J.again (1, p2, c2) (Nat.le_refl _) (by show 1 - 1 < 1 - 0; omega) ⟨(by show _ = some (Value.slice p2 (acc ++ numB bs.length ++ (if (1 : Nat) = 0 then [] else bs)).length c2); rw [if_neg (by decide), X.len_app (acc ++ numB bs.length)]; rfl), rfl, rfl, rfl, trivial⟩ ?_
    show _ = [own 5 1 (.slice p2 (acc ++ numB bs.length ++ (if (1 : Nat) = 0 then [] else bs)).length c2) (bytesV (acc ++ numB bs.length ++ (if (1 : Nat) = 0 then [] else bs))), _, _, _]
    rw [if_neg (by decide), X.len_app (acc ++ numB bs.length), ← bytesV_append (acc ++ numB bs.length) bs]
  try (first | (cases hc15; done) | (exfalso; simp at hc15; done))
  all_goals
   refine J.cond_f rfl <| J.exit <| J.then_x <| J.lp_x <| J.blk_x <| J.then_n <| J.seq ?_
   obtain rfl : i = 1 := by omega
   rw [if_neg (by decide), List.append_assoc]
   refine J.region <| J.m rfl <| J.p rfl (Q.asg rfl) <| J.nil <| J.then_n <| J.cret ?_
   refine J.keep [0, 2, 3] rfl ?_
   refine J.ret1 (B := [own 5 1 (.slice p' (acc ++ encB bs).length c') (bytesV (acc ++ encB bs)), G]) rfl rfl ⟨p', c', rfl, rfl⟩ rfl
end
end Go.Proofs.YtblpcabdfbpcnaaGreatDoor
namespace Go.X
set_option linter.unusedSectionVars false
set_option linter.unusedSimpArgs false
set_option linter.unusedVariables false

class OwnB (A : List Assn) (b : Nat) (E sz off n c : outParam Nat) (xs : outParam (List Value)) (D : outParam (List Assn)) : Prop where
  perm : A.Perm (own E sz (.slice (some ⟨b, off, none⟩) n c) xs :: D)
instance OwnB.head {A : List Assn} {b E sz off n c : Nat} {xs : List Value} : OwnB (own E sz (.slice (some ⟨b, off, none⟩) n c) xs :: A) b E sz off n c xs A := ⟨List.Perm.refl _⟩
instance (priority := 900) OwnB.tail {A D : List Assn} {Y : Assn} {b E sz off n c : Nat} {xs : List Value} [h : OwnB A b E sz off n c xs D] : OwnB (Y :: A) b E sz off n c xs (Y :: D) := ⟨(h.perm.cons Y).trans (List.Perm.swap _ _ _)⟩
instance OwnB.left {A B D : List Assn} {b E sz off n c : Nat} {xs : List Value} [h : OwnB A b E sz off n c xs D] : OwnB (A ++ B) b E sz off n c xs (D ++ B) := ⟨h.perm.append_right B⟩
instance (priority := 900) OwnB.right {A B D : List Assn} {b E sz off n c : Nat} {xs : List Value} [h : OwnB B b E sz off n c xs D] : OwnB (A ++ B) b E sz off n c xs (A ++ D) := ⟨(h.perm.append_left A).trans List.perm_middle⟩

theorem rdO {A D : List Assn} {b E sz off n c o j : Nat} {xs : List Value} {v : Value} [h : OwnB A b E sz off n c xs D] (hv : xs[j]? = some v) (ho : o = off + j) : Reads A b o v := by
  subst ho
  intro k s
  obtain ⟨k1, _, h1, _, _, u1, _⟩ := s.perm h.perm
  rcases h1 with ⟨e1, _⟩ | ⟨o', ho', hb⟩
  · cases e1
  · have hv' := ho'.val
    simp only [Value.slice.injEq, Option.some.injEq, Addr.mk.injEq, and_true] at hv'
    obtain ⟨⟨hb1, hb2⟩, _, _⟩ := hv'
    refine ⟨_, _, _, u1 _ _ (by rw [hb1]; exact hb), ?_⟩
    have := ho'.get j v hv
    rw [← hb2] at this
    simpa using this
theorem rnO {α : Type} {cl : α → List Value} {A D : List Assn} {b E sz off n c o i : Nat} {l : List α} {x : α} [h : OwnB A b E sz off n c (l.flatMap cl) D] (hc : ∀ x, (cl x).length = sz) (hx : l[i]? = some x) (ho : o = off + i * sz) : ReadsN A b o (cl x) := by
  intro j v hj
  exact rdO (j := i * sz + j) (flat_get hc hx hj) (by omega)
section
variable {P : Program} {L : Slots} {A D : List Assn} {ty T : TypeId} {x y : Operand}
theorem C.stNO {E sz b off n c o : Nat} (j : Nat) {xs vs : List Value} (hs : ∀ w, (sizeOf T).run P w = .ok vs.length w) (ex : ev L x = some (.pointer (some ⟨b, o, none⟩))) (ey : ev L y = some (.agg vs.toArray)) [h : OwnB A b E sz off n c xs D]
    (hoj : o = off + j) (hj : j + vs.length ≤ xs.length) (hv : vs.all oneC = true) : OpC P (.store T x y) ty L A (fun u B => u = undef ∧ B = own E sz (.slice (some ⟨b, off, none⟩) n c) (splice xs j vs) :: D) :=
  (C.stON (A := own E sz (.slice (some ⟨b, off, none⟩) n c) xs :: D) 0 hs ex ey rfl hoj hj (fun v hm => by rw [List.all_eq_true] at hv; exact hv v hm)).imp fun _ s => s.perm h.perm
theorem C.st1O {E sz b off n c o : Nat} (j : Nat) {xs : List Value} {v : Value} (hs : ∀ w, (sizeOf T).run P w = .ok 1 w) (ex : ev L x = some (.pointer (some ⟨b, o, none⟩))) (ey : ev L y = some v) (hv : oneC v = true) [h : OwnB A b E sz off n c xs D]
    (hoj : o = off + j) (hj : j + 1 ≤ xs.length) : OpC P (.store T x y) ty L A (fun u B => u = undef ∧ B = own E sz (.slice (some ⟨b, off, none⟩) n c) (xs.set j v) :: D) :=
  (C.stO (A := own E sz (.slice (some ⟨b, off, none⟩) n c) xs :: D) 0 hs ex ey hv rfl hoj hj).imp fun _ s => s.perm h.perm
end

class OwnAt (A : List Assn) (v : Value) (E sz : Nat) (xs : outParam (List Value)) (D : outParam (List Assn)) : Prop where
  imp : ∀ h, HSat h A → HSat h (own E sz v xs :: D)
instance OwnAt.head {A : List Assn} {v : Value} {E sz : Nat} {xs : List Value} : OwnAt (own E sz v xs :: A) v E sz xs A := ⟨fun _ s => s⟩
instance OwnAt.zero {A : List Assn} {b E sz : Nat} {z : Nat × Nat} : OwnAt (pt b (.cells ([] : List Value).toArray E z) :: A) (.slice (some ⟨b, 0, none⟩) 0 0) E sz [] A := ⟨fun _ s => HSat.imp s own_of_zero⟩
instance (priority := 900) OwnAt.tail {A D : List Assn} {Y : Assn} {v : Value} {E sz : Nat} {xs : List Value} [h : OwnAt A v E sz xs D] : OwnAt (Y :: A) v E sz xs (Y :: D) :=
  ⟨fun _ s => (HSat.under s fun k q => h.imp k q).perm (List.Perm.swap _ _ _)⟩
section
variable {P : Program} {L : Slots} {A D : List Assn} {W0 : World} {N : Nat} {l : List Oper} {NQ : List Nat} {Q : Exit → Act → World → Prop} {S : List Nat} {Dm Em : List Assn}
theorem C.appI {E sz n c m c2 : Nat} {T T' E2 : TypeId} {ti : TypeInfo} {zv : Value} {p p2 : Option Addr} {xs ys : List Value} {x y : Operand} {ty : TypeId}
    (ht : ∀ w, (underlying T).run P w = .ok (.slice E) w) (ht2 : ∀ w, (underlying T').run P w = .ok (.slice E2) w)
    (hi : ∀ w, (typeInfo E).run P w = .ok ti w) (hs : ∀ w, (sizeOf E).run P w = .ok sz w) (hz : ∀ w, (zeroValue E).run P w = .ok zv w) (hzs : zv.cells.size = sz)
    (ex : evs L [x, y] = some [.slice p n c, .slice p2 m c2]) [h : OwnAt A (.slice p n c) E sz xs D]
    (hsrc : SlR (own E sz (.slice p n c) xs :: D) sz (.slice p2 m c2) ys) (hone : ∀ v, v ∈ ys → oneC v = true)
    (hfit : (n + m) * ti.bytes ≤ 140737488355328) (hb0 : ti.bytes ≠ 0) :
    OpC P (.call { callee := .builtin .append, args := #[x, y], argTypes := #[T, T'] }) ty L A (fun v B => ∃ p' c', v = .slice p' (n + m) c' ∧ B = own E sz (.slice p' (n + m) c') (xs ++ ys) :: D) :=
  (C.app (A := own E sz (.slice p n c) xs :: D) (i := 0) ht ht2 hi hs hz hzs ex rfl hsrc hone hfit hb0).imp h.imp
theorem RGi.appI [Dfs] {i : Nat} {d E sz n c m c2 : Nat} {T T' E2 : TypeId} {ti : TypeInfo} {zv : Value} {p p2 : Option Addr} {xs ys : List Value} {x y : Operand} {ty : TypeId} {pos : String} {aft : Array Edge} {g : Option (Nat × Bool)}
    (ho : l[i]? = some ⟨some d, .call { callee := .builtin .append, args := #[x, y], argTypes := #[T, T'] }, ty, pos, aft, g⟩)
    (hi : memN i NQ = true) (hN : Nat.blt d N = true) (hg : guardL l.toArray g L = some true)
    (ht : ∀ w, (underlying T).run P w = .ok (.slice E) w) (ht2 : ∀ w, (underlying T').run P w = .ok (.slice E2) w)
    (hti : ∀ w, (typeInfo E).run P w = .ok ti w) (hs : ∀ w, (sizeOf E).run P w = .ok sz w) (hz : ∀ w, (zeroValue E).run P w = .ok zv w) (hzs : zv.cells.size = sz)
    (ex : evs L [x, y] = some [.slice p n c, .slice p2 m c2]) [h : OwnAt Em (.slice p n c) E sz xs D]
    (hsrc : SlR (own E sz (.slice p n c) xs :: (Dm ++ D)) sz (.slice p2 m c2) ys) (hone : ∀ v, v ∈ ys → oneC v = true)
    (hfit : (n + m) * ti.bytes ≤ 140737488355328) (hb0 : ti.bytes ≠ 0)
    (k : ∀ p' c', RG P W0 N l NQ Q (i :: S) ((d, .slice p' (n + m) c') :: L) Dm (own E sz (.slice p' (n + m) c') (xs ++ ys) :: D)) : RGi P W0 N l NQ Q S L Dm Em i := by
  have im : ∀ k, HSat k (Dm ++ Em) → HSat k (own E sz (.slice p n c) xs :: (Dm ++ D)) := by
    intro k s
    obtain ⟨h1, h2, a, b, d, u, v⟩ := s.append
    exact (HSat.of_append a (h.imp _ b) d u v).perm List.perm_middle
  refine RGi.one ho hi hN hg ((C.app (A := own E sz (.slice p n c) xs :: (Dm ++ D)) (i := 0) ht ht2 hti hs hz hzs ex rfl hsrc hone hfit hb0).imp im) ?_
  rintro v B ⟨p', c', rfl, rfl⟩
  exact ⟨_, List.perm_middle.symm, k p' c'⟩
end

section
variable {P : Program} {fn : Func} {N : Nat} {W0 : World} {L : Slots} {A B D : List Assn} {F : Assn} {R : Value → List Assn → Prop} {s t : Nat} {T : TypeId} {b : Nat} {vs : List Value} {u : Value} {G : Act → World → Prop}
theorem J.retCI (B : List Assn) (hr : fn.results = #[.cell s T]) (hv : find s L = some (.pointer (some ⟨b, 0, none⟩))) (ha : ∀ w, (isAgg T).run P w = .ok true w) (hs : ∀ w, (sizeOf T).run P w = .ok vs.length w) (hrd : ReadsN A b 0 vs)
    (hR : R (.agg vs.toArray) B) [h : PickL A (B ++ [F]) D] : J W0 N L A (bodyPost P fn (RetQ W0 R F) .ret) := by
  refine ⟨fun a w f t => ?_⟩
  have hg : (a.tmps[s]?).getD undef = .pointer (some ⟨b, 0, none⟩) := by rw [f.get s _ hv]; rfl
  have hres : (results fn a.tmps).run P w = .ok (.agg vs.toArray) w := by
    simp [results, hr, hg, asAddr, run_loadAgg ha hs hrd t]
  exact bodyPost_ret hres f.defers ⟨_, B, rfl, hR, t.imp fun k q => HSat.keepI (A := A) (F := D) q⟩
theorem J.retC2I (B : List Assn) (hr : fn.results = #[.cell s T, .tmp t]) (hv : find s L = some (.pointer (some ⟨b, 0, none⟩))) (ht : find t L = some u) (ha : ∀ w, (isAgg T).run P w = .ok true w) (hs : ∀ w, (sizeOf T).run P w = .ok vs.length w) (hrd : ReadsN A b 0 vs)
    (hR : R (.tuple #[.agg vs.toArray, u]) B) [h : PickL A (B ++ [F]) D] : J W0 N L A (bodyPost P fn (RetQ W0 R F) .ret) := by
  refine ⟨fun a w f q => ?_⟩
  have hg : (a.tmps[s]?).getD undef = .pointer (some ⟨b, 0, none⟩) := by rw [f.get s _ hv]; rfl
  have hg2 : (a.tmps[t]?).getD undef = u := by rw [f.get t _ ht]; rfl
  have hres : (results fn a.tmps).run P w = .ok (.tuple #[.agg vs.toArray, u]) w := by
    simp [results, hr, hg, hg2, asAddr, run_loadAgg ha hs hrd q]
  exact bodyPost_ret hres f.defers ⟨_, B, rfl, hR, q.imp fun k q => HSat.keepI (A := A) (F := D) q⟩
theorem J.focusI [Dfs] {α : Type} {f : α → Assn} {l : List α} (k : Nat) {x : α} (hk : l[k]? = some x) [h : PickO A (star (l.map f)) D] (j : J W0 N L (f x :: star ((l.eraseIdx k).map f) :: D) G) : J W0 N L A G :=
  j.imp fun q s => by
    have s1 := HSat.unpack (s.perm h.perm)
    have s2 : HSat q ((f x :: (l.eraseIdx k).map f) ++ D) := s1.perm ((perm_focus f hk).append_right D)
    exact HSat.under (A := f x) s2 (fun _ s => HSat.pack s)
theorem J.unfocusI [Dfs] {α : Type} {f : α → Assn} {l : List α} (k : Nat) (x : α) (hk : k < l.length) [h : PickL A [f x, star ((l.eraseIdx k).map f)] D] (j : J W0 N L (star ((l.set k x).map f) :: D) G) : J W0 N L A G :=
  j.imp fun q s => by
    have s1 := s.perm h.perm
    have s2 : HSat q (f x :: ((l.eraseIdx k).map f ++ D)) := HSat.under (A := f x) s1 (fun _ s => HSat.unpack s)
    exact HSat.pack (HSat.perm (As := (f x :: (l.eraseIdx k).map f) ++ D) ((perm_unfocus f hk).append_right D) s2)
theorem J.unpackI [Dfs] (Bs : List Assn) [h : PickO A (star Bs) D] (j : J W0 N L (Bs ++ D) G) : J W0 N L A G := (j.imp fun _ s => HSat.unpack s).perm h.perm
theorem J.openI [Dfs] {α : Type} (U : Assn) {Bs : α → List Assn} {p : α → Prop} (f : ∀ h, U h → ∃ x, p x ∧ HSat h (Bs x)) [h : PickO A U D] (j : ∀ x, p x → J W0 N L (Bs x ++ D) G) : J W0 N L A G :=
  by
  refine ⟨fun a w u s => ?_⟩
  obtain ⟨h1, h2, hb, hd, d, s1, s2⟩ := s.heap.perm h.perm
  obtain ⟨x, px, hx⟩ := f h1 hb
  exact (j x px).run a w u ⟨s.os, s.tape, s.out, HSat.of_append hx hd d s1 s2⟩
end
end Go.X
namespace Go.X
theorem SlR.ptI {D : List Assn} {b n c sz : Nat} {l : List Value} {e : TypeId} {z : Nat × Nat} {KK : Obj → List Assn} [h : AtPt D b (.cells l.toArray e z) KK] (hl : l.length = n * sz) : SlR D sz (.slice (some ⟨b, 0, none⟩) n c) l := by
  obtain ⟨i, h1, _⟩ := h.at_
  exact SlR.pt i h1 hl (fun j u hj => by rw [Nat.zero_add]; exact hj)
end Go.X
namespace Go.X
theorem Reads.inI {D F : List Assn} {X : Assn} {b o : Nat} {v : Value} (h : Reads [X] b o v) [k : PickO D X F] : Reads D b o v := by
  obtain ⟨i, hi⟩ := List.getElem?_of_mem (k.perm.mem_iff.2 List.mem_cons_self)
  exact h.within hi
theorem J.slrStarI [Dfs] {W0 : World} {N : Nat} {L : Slots} {A D : List Assn} {G : Act → World → Prop} {α : Type} {f : α → Assn} {l : List α} {E sz : Nat} {p : Option Addr} {n c : Nat} {xs : List Value} {x : α} (k : Nat) (hx : l[k]? = some x)
    (hf : f x = own E sz (.slice p n c) xs) [h : PickO A (star (l.map f)) D] (j : SlR [star (l.map f)] sz (.slice p n c) xs → J W0 N L A G) : J W0 N L A G := by
  obtain ⟨i, hi⟩ := List.getElem?_of_mem (h.perm.mem_iff.2 List.mem_cons_self)
  exact J.slrStar i k hi hx hf j
end Go.X
namespace Go.X
theorem J.tellsI [Dfs] {W0 : World} {N : Nat} {L : Slots} {A D : List Assn} {G : Act → World → Prop} (X : Assn) {p : Prop} [k : PickO A X D] (f : ∀ h, X h → p) (h : p → J W0 N L A G) : J W0 N L A G := by
  obtain ⟨i, hi⟩ := List.getElem?_of_mem (k.perm.mem_iff.2 List.mem_cons_self)
  exact J.tells i hi f h
end Go.X
namespace Go.X
set_option linter.unusedSectionVars false
set_option linter.unusedSimpArgs false
set_option linter.unusedVariables false
section
variable {P : Program} {L : Slots} {D A F Ain : List Assn} {ty : TypeId} {x y : Operand} {k : IntKind} {a : Int} {R : Value → List Assn → Prop} {f : FuncId} {argTypes : Array TypeId}
theorem Q.maxI {m : Int} {ts : Array TypeId} (e : evs L [x, y] = some [.int k a, .int k m]) : OpQ P (.call { callee := .builtin .max, args := #[x, y], argTypes := ts }) ty L D (.int k (if m > a then m else a)) :=
  OpQ.built (xs := [x, y]) e fun w cs => by simp [builtin, Builtin.max_, Builtin.max2]
theorem Q.slL0 {T E len cap sz : Nat} {p : Option Addr} {l : Operand} (hu : ∀ w, (underlying T).run P w = .ok (.slice E) w) (hs : ∀ w, (sizeOf E).run P w = .ok sz w) (ex : ev L x = some (.slice p len cap)) (el : ev L l = some (.int k 0)) :
    OpQ P (.slice T x (some l) none none) ty L D (.slice p len cap) :=
  .pure_ fun _ _ _ _ a w ag => by
    have e1 := ag.at_ ex (by simp [Op.operands])
    have e2 := ag.at_ el (by simp [Op.operands])
    simp [execOp, e1, e2, Instr.sliceAt, Instr.slice, hu, Instr.sliceBounds, Instr.sliceBound, asIntOf, hs]
    by_cases hc : cap = 0 <;> cases p <;> simp [hc, Addr.add]
theorem slr_tail {T E : TypeId} (hu : ∀ w, (underlying T).run P w = .ok (.slice E) w) (hs : ∀ w, (sizeOf E).run P w = .ok 1 w) {D0 : List Assn} {p : Option Addr} {n c j : Nat} {xs : List Value} (h : SlR D0 1 (.slice p n c) xs) (hk : j ≤ n) (hc : n ≤ c) :
    ∃ p' c', SlR D0 1 (.slice p' (n - j) c') (xs.drop j) ∧ n - j ≤ c' ∧ ∀ {L : Slots} {D : List Assn} {ty : TypeId} {x l : Operand} {ik : IntKind}, ev L x = some (.slice p n c) → ev L l = some (.int ik (j : Int)) → OpQ P (.slice T x (some l) none none) ty L D (.slice p' (n - j) c') := by
  by_cases e : n = 0
  · subst e
    obtain rfl : j = 0 := by omega
    exact ⟨p, c, h, hc, fun ex el => Q.slL0 hu hs ex el⟩
  · have hl := h.len
    obtain ⟨b, off, rfl, hrd⟩ := h.some_ (by omega)
    refine ⟨some ⟨b, off + (if c = j then 0 else j) * 1, none⟩, c - j, ?_, by omega, fun ex el => by
      rename_i L D ty x l ik
      have := Q.slL (P := P) (D := D) (ty := ty) hu hs ex el (by omega) (by omega)
      simpa using this⟩
    by_cases e2 : n = j
    · refine .inl ⟨_, c - j, by rw [show n - j = 0 by omega], ?_⟩
      exact List.drop_eq_nil_of_le (by omega)
    · rw [if_neg (by omega), Nat.mul_one]
      refine .inr ⟨b, off + j, n - j, c - j, rfl, by rw [List.length_drop]; omega, fun i u hu => ?_⟩
      rw [List.getElem?_drop] at hu
      have := hrd (j + i) u hu
      rwa [← Nat.add_assoc] at this
theorem OpC.callvP {t : Tmp} {xs : List Operand} {args first cap : List Value} (hc : ∀ (args : Array Value) (w : World), (callFunc f args).run P w = .ok (.enter f args) w)
    (hv : find t L = some (.func (.func f) first.toArray cap.toArray)) (he : evs L xs = some args) (hs : FSpec P f (first ++ args ++ cap) Ain R) [hp : PickL A Ain F] :
    OpC P (.call { callee := .value (.tmp t), args := xs.toArray, argTypes }) ty L A (fun v B => ∃ B1, R v B1 ∧ B = B1 ++ F) := by
  refine ⟨fun dst pos aft g a W0 w ag s K Q k => ?_⟩
  have hx : xs.map a.eval = args := evs_map (fun x hx => ag x (by simp [Op.operands, Call.operands, hx])) he
  have ha : (xs.toArray).map a.eval = args.toArray := by simp [hx]
  have hf : a.eval (.tmp t) = .func (.func f) first.toArray cap.toArray := ag _ (by simp [Op.operands, Call.operands]) _ hv
  unfold Oper.wp
  have hrun : (execOp a.eval ⟨dst, .call { callee := .value (.tmp t), args := xs.toArray, argTypes }, ty, pos, aft, g⟩).run P w = .ok (.enter f (first ++ args ++ cap).toArray) w := by
    simp only [execOp, resolve, hf, Deferred.ofValue, invoke, Sem.run_bind, Sem.run_pure, Result.andThen_ok, ha]
    simpa using hc (first ++ args ++ cap).toArray w
  rw [hrun, Oper.upon_enter]
  have s' : Sat W0 w (Ain ++ [star F]) := by
    refine (s.perm hp.perm).imp fun k t => ?_
    obtain ⟨h1, h2, p, q, d, u, v⟩ := t.append
    exact HSat.of_append p (Bs := [star F]) ⟨h2, fun _ => none, q, trivial, fun _ => Or.inr rfl, Sub.refl _, fun _ _ e => nomatch e⟩ d u v
  refine (hs.call W0 w (star F) s').mono ?_
  rintro e w' ⟨v, B, rfl, r, t⟩
  refine k v (B ++ F) w' ⟨B, r, rfl⟩ (t.imp fun k t => ?_)
  obtain ⟨h1, h2, p, ⟨k1, k2, q, _, _, s1, _⟩, d, u, v⟩ := t.append
  exact HSat.of_append p (HSat.mono q s1) d u v
end



section
variable {P : Program} {W0 : World} {N : Nat} {l : List Oper} {NQ : List Nat} {Q : Exit → Act → World → Prop} {S : List Nat} {L : Slots} {D E : List Assn}
variable {ty : TypeId} {pos : String} {aft : Array Edge} {g : Option (Nat × Bool)} {T : TypeId} {x y : Operand} {b off : Nat} {m m' : List Value} {e : TypeId} {z : Nat × Nat} {v : Value} {B : List Assn} {KK : Obj → List Assn}
theorem RG.stkI [Dfs] (i : Nat) (hR : RegOK l NQ) (hf : front l S = [i]) (ho : l[i]? = some ⟨none, .store T x y, ty, pos, aft, g⟩) (hi : memN i NQ = true) (hg : guardL l.toArray g L = some true)
    (hs : ∀ w, (sizeOf T).run P w = .ok 1 w) (ex : ev L x = some (.pointer (some ⟨b, off, none⟩))) (ey : ev L y = some v) (hv : oneC v = true) [h : AtPt E b (.cells m.toArray e z) KK]
    (hl : setV off v m = some m') (hz : (decide (z.1 ≤ off) && decide (off < z.2)) = false) (hB : normA (KK (.cells m'.toArray e z)) = some B) (k : RG P W0 N l NQ Q (i :: S) L D B) : RG P W0 N l NQ Q S L D E := by
  have hop := C.stI (P := P) (L := L) (ty := ty) (A := D ++ E) (KK := fun n => D ++ KK n) (h := AtPt.right) hs ex ey hv hl hz (normA_some _)
  refine RG.one i hR hf ho hi rfl hg hop ?_
  rintro _ _ ⟨rfl, rfl⟩
  have e : KK (.cells m'.toArray e z) = B := by
    rw [normA_some] at hB; exact Option.some.inj hB
  exact ⟨B, by rw [e], k⟩
end

end Go.X
namespace Go.X.T

abbrev U := UInt8

def sel (c : Bool) (a : U) : U := bif c then a else 0
def xt (a : U) : U := ⟨(a.toBitVec <<< 1) ^^^ (bif a.toBitVec.msb then 0x1d#8 else 0#8)⟩
def bitB (b : U) (i : Nat) : Bool := b.toBitVec.getLsbD i
def gmG : Nat → Nat → U → U → U
  | 0, _, _, _ => 0
  | n + 1, i, a, b => sel (bitB b i) a ^^^ gmG n (i + 1) (xt a) b
def gmul (a b : U) : U := gmG 8 0 a b

theorem xor_left_comm (a b c : U) : a ^^^ (b ^^^ c) = b ^^^ (a ^^^ c) := by
  rw [← UInt8.xor_assoc, UInt8.xor_comm a b, UInt8.xor_assoc]
theorem xor_cancel (a b : U) : a ^^^ (a ^^^ b) = b := by rw [← UInt8.xor_assoc, UInt8.xor_self, UInt8.zero_xor]
theorem xor_zero_iff {a b : U} : a ^^^ b = 0 ↔ a = b := by
  constructor
  · intro h
    have : a ^^^ (a ^^^ b) = a ^^^ 0 := by rw [h]
    rw [xor_cancel, UInt8.xor_zero] at this
    exact this.symm
  · rintro rfl; exact UInt8.xor_self
theorem xor4 (a b c d : U) : (a ^^^ b) ^^^ (c ^^^ d) = (a ^^^ c) ^^^ (b ^^^ d) := by
  rw [UInt8.xor_assoc, UInt8.xor_assoc, xor_left_comm b c d]

theorem sel_xor (c : Bool) (a b : U) : sel c (a ^^^ b) = sel c a ^^^ sel c b := by cases c <;> simp [sel]
theorem sel_bxor (c d : Bool) (a : U) : sel (c ^^ d) a = sel c a ^^^ sel d a := by cases c <;> cases d <;> simp [sel]
theorem bitB_xor (a b : U) (i : Nat) : bitB (a ^^^ b) i = (bitB a i ^^ bitB b i) := by
  simp [bitB, UInt8.toBitVec_xor, BitVec.getLsbD_xor]
theorem xt_xor (a b : U) : xt (a ^^^ b) = xt a ^^^ xt b := by
  apply UInt8.toBitVec_inj.1
  simp only [xt, UInt8.toBitVec_xor, BitVec.shiftLeft_xor_distrib, BitVec.msb_xor]
  generalize a.toBitVec <<< 1 = p
  generalize b.toBitVec <<< 1 = q
  cases a.toBitVec.msb <;> cases b.toBitVec.msb
  · simp
  · simp [BitVec.xor_assoc]
  · simp only [Bool.xor_false, cond_true, cond_false, BitVec.xor_zero]
    rw [BitVec.xor_assoc, BitVec.xor_assoc, BitVec.xor_comm q]
  · simp only [Bool.xor_true, Bool.not_true, cond_true, cond_false, BitVec.xor_zero]
    rw [BitVec.xor_assoc, BitVec.xor_comm 29#8, BitVec.xor_assoc, BitVec.xor_self, BitVec.xor_zero]

theorem gmG_right : ∀ (n i : Nat) (a b c : U), gmG n i a (b ^^^ c) = gmG n i a b ^^^ gmG n i a c
  | 0, _, _, _, _ => by simp [gmG]
  | n + 1, i, a, b, c => by simp only [gmG, bitB_xor, sel_bxor, gmG_right n, xor4]
theorem gmG_left : ∀ (n i : Nat) (a b c : U), gmG n i (a ^^^ b) c = gmG n i a c ^^^ gmG n i b c
  | 0, _, _, _, _ => by simp [gmG]
  | n + 1, i, a, b, c => by simp only [gmG, sel_xor, xt_xor, gmG_left n, xor4]
theorem gmul_right (a b c : U) : gmul a (b ^^^ c) = gmul a b ^^^ gmul a c := gmG_right ..
theorem gmul_left (a b c : U) : gmul (a ^^^ b) c = gmul a c ^^^ gmul b c := gmG_left ..
theorem gmul_zero (a : U) : gmul a 0 = 0 := by
  have := gmul_right a 0 0
  rw [UInt8.xor_self] at this
  have h : gmul a 0 ^^^ gmul a 0 = 0 := UInt8.xor_self
  rw [← this] at h; exact h
theorem zero_gmul (a : U) : gmul 0 a = 0 := by
  have := gmul_left 0 0 a
  rw [UInt8.xor_self] at this
  have h : gmul 0 a ^^^ gmul 0 a = 0 := UInt8.xor_self
  rw [← this] at h; exact h

def basis : List U := [1, 2, 4, 8, 16, 32, 64, 128]
def spanB (a : U) : U := sel (bitB a 0) 1 ^^^ (sel (bitB a 1) 2 ^^^ (sel (bitB a 2) 4 ^^^ (sel (bitB a 3) 8 ^^^ (sel (bitB a 4) 16 ^^^ (sel (bitB a 5) 32 ^^^ (sel (bitB a 6) 64 ^^^ sel (bitB a 7) 128))))))
def all256 (p : U → Bool) : Bool := (List.range 256).all fun n => p (UInt8.ofNat n)
theorem of_all256 {p : U → Bool} (h : all256 p = true) (a : U) : p a = true := by
  unfold all256 at h
  rw [List.all_eq_true] at h
  have := h a.toNat (List.mem_range.2 a.toNat_lt)
  rwa [UInt8.ofNat_toNat] at this
theorem spanB_eq (a : U) : spanB a = a := by
  have : all256 (fun a => Nat.beq (spanB a).toNat a.toNat) = true := by kernel_rfl
  have := of_all256 this a
  exact UInt8.toNat_inj.1 (Nat.eq_of_beq_eq_true this)
theorem span {p : U → Prop} (h0 : p 0) (hx : ∀ a b, p a → p b → p (a ^^^ b)) (hb : ∀ a, a ∈ basis → p a) (a : U) : p a := by
  have hs : ∀ (c : Bool) (x : U), x ∈ basis → p (sel c x) := by
    intro c x hm; cases c
    · exact h0
    · exact hb x hm
  rw [← spanB_eq a]
  unfold spanB
  refine hx _ _ (hs _ _ (by simp [basis])) (hx _ _ (hs _ _ (by simp [basis])) (hx _ _ (hs _ _ (by simp [basis])) (hx _ _ (hs _ _ (by simp [basis])) (hx _ _ (hs _ _ (by simp [basis])) (hx _ _ (hs _ _ (by simp [basis])) (hx _ _ (hs _ _ (by simp [basis])) (hs _ _ (by simp [basis]))))))))

theorem gmul_comm (a b : U) : gmul a b = gmul b a := by
  refine span (p := fun a => gmul a b = gmul b a) (by rw [gmul_zero, zero_gmul]) (fun x y hx hy => by rw [gmul_left, gmul_right, hx, hy]) (fun x hx => ?_) a
  refine span (p := fun b => gmul x b = gmul b x) (by rw [gmul_zero, zero_gmul]) (fun u v hu hv => by rw [gmul_left, gmul_right, hu, hv]) (fun y hy => ?_) b
  have : basis.all (fun x => basis.all fun y => Nat.beq (gmul x y).toNat (gmul y x).toNat) = true := by kernel_rfl
  rw [List.all_eq_true] at this
  have := this x hx
  rw [List.all_eq_true] at this
  exact UInt8.toNat_inj.1 (Nat.eq_of_beq_eq_true (this y hy))
theorem gmul_assoc (a b c : U) : gmul (gmul a b) c = gmul a (gmul b c) := by
  refine span (p := fun a => gmul (gmul a b) c = gmul a (gmul b c)) (by simp only [zero_gmul]) (fun x y hx hy => by simp only [gmul_left, hx, hy]) (fun x hx => ?_) a
  refine span (p := fun b => gmul (gmul x b) c = gmul x (gmul b c)) (by simp only [zero_gmul, gmul_zero]) (fun u v hu hv => by simp only [gmul_left, gmul_right, hu, hv]) (fun y hy => ?_) b
  refine span (p := fun c => gmul (gmul x y) c = gmul x (gmul y c)) (by simp only [gmul_zero]) (fun u v hu hv => by simp only [gmul_right, hu, hv]) (fun z hz => ?_) c
  have : basis.all (fun x => basis.all fun y => basis.all fun z => Nat.beq (gmul (gmul x y) z).toNat (gmul x (gmul y z)).toNat) = true := by kernel_rfl
  rw [List.all_eq_true] at this
  have := this x hx
  rw [List.all_eq_true] at this
  have := this y hy
  rw [List.all_eq_true] at this
  exact UInt8.toNat_inj.1 (Nat.eq_of_beq_eq_true (this z hz))
theorem one_gmul (a : U) : gmul 1 a = a := by
  refine span (p := fun a => gmul 1 a = a) (gmul_zero 1) (fun x y hx hy => by rw [gmul_right, hx, hy]) (fun x hx => ?_) a
  have : basis.all (fun x => Nat.beq (gmul 1 x).toNat x.toNat) = true := by kernel_rfl
  rw [List.all_eq_true] at this
  exact UInt8.toNat_inj.1 (Nat.eq_of_beq_eq_true (this x hx))
theorem gmul_one (a : U) : gmul a 1 = a := by rw [gmul_comm, one_gmul]

def gpow (a : U) : Nat → U
  | 0 => 1
  | n + 1 => gmul (gpow a n) a
def ginv (a : U) : U := gpow a 254
def sq (a : U) : U := gmul a a
def inv8 (a : U) : U :=
  let b := sq a; let c := sq b; let d := sq c; let e := sq d; let f := sq e; let g := sq f; let h := sq g
  gmul b (gmul c (gmul d (gmul e (gmul f (gmul g h)))))
theorem gpow_add (a : U) (n : Nat) : ∀ m, gpow a (n + m) = gmul (gpow a n) (gpow a m)
  | 0 => by simp [gpow, gmul_one]
  | m + 1 => by rw [← Nat.add_assoc, gpow, gpow, gpow_add a n m, gmul_assoc]
theorem gpow_one (a : U) : gpow a 1 = a := by simp [gpow, one_gmul]
theorem gpow_sq (a : U) (n : Nat) : sq (gpow a n) = gpow a (n + n) := by rw [gpow_add]; rfl
theorem ginv_eq (a : U) : ginv a = inv8 a := by
  have h1 : sq a = gpow a 2 := by rw [show (2 : Nat) = 1 + 1 from rfl, gpow_add, gpow_one]; rfl
  simp only [inv8, h1, gpow_sq, ← gpow_add]
  rfl
theorem gmul_ginv {a : U} (h : a ≠ 0) : gmul a (ginv a) = 1 := by
  have : all256 (fun a => Nat.beq a.toNat 0 || Nat.beq (gmul a (inv8 a)).toNat 1) = true := by kernel_rfl
  have := of_all256 this a
  rw [Bool.or_eq_true] at this
  rcases this with h1 | h1
  · exact absurd (UInt8.toNat_inj.1 (Nat.eq_of_beq_eq_true h1)) h
  · rw [ginv_eq]; exact UInt8.toNat_inj.1 (Nat.eq_of_beq_eq_true h1)
theorem gmul_eq_zero {a b : U} (h : gmul a b = 0) : a = 0 ∨ b = 0 := by
  by_cases ha : a = 0
  · exact .inl ha
  · right
    have : gmul (gmul a (ginv a)) b = 0 := by rw [gmul_comm a, gmul_assoc, h, gmul_zero]
    rwa [gmul_ginv ha, one_gmul] at this
theorem ginv_ne {a : U} (h : a ≠ 0) : ginv a ≠ 0 := by
  intro e
  have := gmul_ginv h
  rw [e, gmul_zero] at this
  exact absurd this (by decide)
end Go.X.T
namespace Go.X.T

def sumN : Nat → (Nat → U) → U
  | 0, _ => 0
  | n + 1, f => sumN n f ^^^ f n

theorem sumN_congr {n : Nat} {f g : Nat → U} (h : ∀ i, i < n → f i = g i) : sumN n f = sumN n g := by
  induction n with
  | zero => rfl
  | succ n ih => simp only [sumN]; rw [ih fun i hi => h i (by omega), h n (by omega)]
theorem sumN_zero {n : Nat} {f : Nat → U} (h : ∀ i, i < n → f i = 0) : sumN n f = 0 := by
  induction n with
  | zero => rfl
  | succ n ih => simp only [sumN]; rw [ih fun i hi => h i (by omega), h n (by omega), UInt8.xor_zero]
theorem sumN_xor (n : Nat) (f g : Nat → U) : sumN n (fun i => f i ^^^ g i) = sumN n f ^^^ sumN n g := by
  induction n with
  | zero => simp [sumN]
  | succ n ih => simp only [sumN, ih, xor4]
theorem sumN_mul (n : Nat) (c : U) (f : Nat → U) : sumN n (fun i => gmul c (f i)) = gmul c (sumN n f) := by
  induction n with
  | zero => simp [sumN, gmul_zero]
  | succ n ih => simp only [sumN, ih, gmul_right]
theorem sumN_mulr (n : Nat) (c : U) (f : Nat → U) : sumN n (fun i => gmul (f i) c) = gmul (sumN n f) c := by
  rw [gmul_comm, ← sumN_mul]; exact sumN_congr fun i _ => gmul_comm _ _
theorem sumN_swap (n m : Nat) (f : Nat → Nat → U) : sumN n (fun i => sumN m (f i)) = sumN m (fun j => sumN n fun i => f i j) := by
  induction n with
  | zero => simp only [sumN]; exact (sumN_zero fun _ _ => rfl).symm
  | succ n ih => simp only [sumN, ih]; rw [← sumN_xor]
theorem sumN_one {n i : Nat} {f : Nat → U} (hi : i < n) (h : ∀ j, j < n → j ≠ i → f j = 0) : sumN n f = f i := by
  induction n with
  | zero => omega
  | succ n ih =>
    simp only [sumN]
    by_cases e : i = n
    · subst e
      rw [sumN_zero fun j hj => h j (by omega) (by omega), UInt8.zero_xor]
    · rw [ih (by omega) fun j hj hne => h j (by omega) hne, h n (by omega) (by omega), UInt8.xor_zero]
def dl (i j : Nat) : U := bif Nat.beq i j then 1 else 0
theorem dl_self (i : Nat) : dl i i = 1 := by simp [dl]
theorem dl_ne {i j : Nat} (h : i ≠ j) : dl i j = 0 := by
  unfold dl
  cases hb : Nat.beq i j with
  | true => exact absurd (Nat.eq_of_beq_eq_true hb) h
  | false => rfl
theorem sumN_dl {n i : Nat} (hi : i < n) (f : Nat → U) : sumN n (fun j => gmul (dl i j) (f j)) = f i := by
  rw [sumN_one hi]
  · rw [dl_self, one_gmul]
  · intro j _ hne; rw [dl_ne (fun e => hne e.symm), zero_gmul]

theorem inv_add {A B : U} (ha : A ≠ 0) (hb : B ≠ 0) : ginv A ^^^ ginv B = gmul (A ^^^ B) (gmul (ginv A) (ginv B)) := by
  rw [gmul_left]
  rw [← gmul_assoc A, gmul_ginv ha, one_gmul, gmul_comm (ginv A), ← gmul_assoc B, gmul_ginv hb, one_gmul, UInt8.xor_comm]

theorem cauchy : ∀ (r : Nat) (x y v : Nat → U), (∀ i j, i < r → j < r → x i ≠ y j) → (∀ i j, i < r → j < r → x i = x j → i = j) → (∀ i j, i < r → j < r → y i = y j → i = j) →
    (∀ i, i < r → sumN r (fun j => gmul (v j) (ginv (x i ^^^ y j))) = 0) → ∀ j, j < r → v j = 0
  | 0, _, _, _, _, _, _, _, j, hj => by omega
  | r + 1, x, y, v, hxy, hx, hy, h, j, hj => by
    have nz : ∀ i j, i < r + 1 → j < r + 1 → x i ^^^ y j ≠ 0 := fun i j hi hj e => hxy i j hi hj (xor_zero_iff.1 e)
    -- multiplied by x i + y r
    have h1 : ∀ i, i < r + 1 → sumN (r + 1) v ^^^ sumN r (fun j => gmul (gmul (v j) (y j ^^^ y r)) (ginv (x i ^^^ y j))) = 0 := by
      intro i hi
      have e := h i hi
      have e2 : gmul (x i ^^^ y r) (sumN (r + 1) fun j => gmul (v j) (ginv (x i ^^^ y j))) = 0 := by rw [e, gmul_zero]
      rw [← sumN_mul] at e2
      have e3 : sumN (r + 1) (fun j => gmul (x i ^^^ y r) (gmul (v j) (ginv (x i ^^^ y j)))) = sumN (r + 1) (fun j => v j ^^^ gmul (gmul (v j) (y j ^^^ y r)) (ginv (x i ^^^ y j))) := by
        refine sumN_congr fun j hj => ?_
        have hs : x i ^^^ y r = (x i ^^^ y j) ^^^ (y j ^^^ y r) := by
          rw [UInt8.xor_assoc, ← UInt8.xor_assoc (y j), UInt8.xor_self, UInt8.zero_xor]
        rw [hs, gmul_left]
        congr 1
        · rw [gmul_comm (v j), ← gmul_assoc, gmul_ginv (nz i j hi hj), one_gmul]
        · rw [← gmul_assoc, gmul_comm (y j ^^^ y r)]
      rw [e3, sumN_xor] at e2
      have e4 : sumN (r + 1) (fun j => gmul (gmul (v j) (y j ^^^ y r)) (ginv (x i ^^^ y j))) = sumN r (fun j => gmul (gmul (v j) (y j ^^^ y r)) (ginv (x i ^^^ y j))) := by
        simp only [sumN, UInt8.xor_self, gmul_zero, zero_gmul, UInt8.xor_zero]
      rw [e4] at e2; exact e2
    -- the last one taken off
    have h2 : ∀ i, i < r → sumN r (fun j => gmul (gmul (gmul (v j) (y j ^^^ y r)) (ginv (x r ^^^ y j))) (ginv (x i ^^^ y j))) = 0 := by
      intro i hi
      have e := h1 i (by omega)
      have e' := h1 r (by omega)
      have e2 : sumN r (fun j => gmul (gmul (v j) (y j ^^^ y r)) (ginv (x i ^^^ y j))) ^^^ sumN r (fun j => gmul (gmul (v j) (y j ^^^ y r)) (ginv (x r ^^^ y j))) = 0 := by
        rw [xor_zero_iff, ← xor_zero_iff.1 e, ← xor_zero_iff.1 e']
      rw [← sumN_xor] at e2
      have e3 : sumN r (fun j => gmul (gmul (v j) (y j ^^^ y r)) (ginv (x i ^^^ y j)) ^^^ gmul (gmul (v j) (y j ^^^ y r)) (ginv (x r ^^^ y j))) =
          sumN r (fun j => gmul (x i ^^^ x r) (gmul (gmul (gmul (v j) (y j ^^^ y r)) (ginv (x r ^^^ y j))) (ginv (x i ^^^ y j)))) := by
        refine sumN_congr fun j hj => ?_
        rw [← gmul_right, inv_add (nz i j (by omega) (by omega)) (nz r j (by omega) (by omega))]
        have hs : (x i ^^^ y j) ^^^ (x r ^^^ y j) = x i ^^^ x r := by rw [xor4, UInt8.xor_self, UInt8.xor_zero]
        rw [hs]
        generalize gmul (v j) (y j ^^^ y r) = c
        generalize x i ^^^ x r = d
        generalize ginv (x i ^^^ y j) = p
        generalize ginv (x r ^^^ y j) = q
        rw [← gmul_assoc, gmul_comm c d, gmul_assoc, gmul_comm p q, ← gmul_assoc c]
      rw [e3, sumN_mul] at e2
      rcases gmul_eq_zero e2 with e4 | e4
      · exact absurd (hx i r (by omega) (by omega) (xor_zero_iff.1 e4)) (by omega)
      · exact e4
    have h3 : ∀ j, j < r → v j = 0 := by
      intro j hj
      have := cauchy r x y _ (fun i j hi hj => hxy i j (by omega) (by omega)) (fun i j hi hj => hx i j (by omega) (by omega)) (fun i j hi hj => hy i j (by omega) (by omega)) h2 j hj
      rcases gmul_eq_zero this with e | e
      · rcases gmul_eq_zero e with e | e
        · exact e
        · exact absurd (hy j r (by omega) (by omega) (xor_zero_iff.1 e)) (by omega)
      · exact absurd e (ginv_ne (nz r j (by omega) (by omega)))
    by_cases hjr : j < r
    · exact h3 j hjr
    · obtain rfl : j = r := by omega
      have e := h j (by omega)
      simp only [sumN] at e
      rw [sumN_zero fun i hi => by rw [h3 i hi, zero_gmul], UInt8.zero_xor] at e
      rcases gmul_eq_zero e with e | e
      · exact e
      · exact absurd e (ginv_ne (nz j j (by omega) (by omega)))

abbrev Mx := Nat → Nat → U

def Reg (n : Nat) (p : Mx) : Prop := ∀ v : Nat → U, (∀ i, i < n → sumN n (fun j => gmul (p i j) (v j)) = 0) → ∀ j, j < n → v j = 0

structure Eli (n : Nat) (p a o : Mx) : Prop where
  eq : ∀ i j, i < n → j < n → sumN n (fun l => gmul (o i l) (p l j)) = a i j
  ker : ∀ v : Nat → U, (∀ i, i < n → sumN n (fun j => gmul (a i j) (v j)) = 0) → ∀ i, i < n → sumN n (fun j => gmul (p i j) (v j)) = 0

def Cols (n k : Nat) (a : Mx) : Prop := ∀ i c, i < n → c < k → a i c = dl i c

section
variable {n k : Nat} {p a o a' o' : Mx}

theorem Eli.start (ha : ∀ i j, i < n → j < n → a i j = p i j) (ho : ∀ i j, i < n → j < n → o i j = dl i j) : Eli n p a o := by
  refine ⟨fun i j hi hj => ?_, fun v h i hi => ?_⟩
  · rw [sumN_congr (g := fun l => gmul (dl i l) (p l j)) fun l hl => by rw [ho i l hi hl], sumN_dl hi, ha i j hi hj]
  · rw [← h i hi]; exact sumN_congr fun j hj => by rw [ha i j hi hj]

theorem Eli.swap (e : Eli n p a o) (π : Nat → Nat) (hπ : ∀ i, i < n → π i < n) (hs : ∀ i, i < n → ∃ l, l < n ∧ π l = i) (ha : ∀ i j, i < n → j < n → a' i j = a (π i) j) (ho : ∀ i j, i < n → j < n → o' i j = o (π i) j) : Eli n p a' o' := by
  refine ⟨fun i j hi hj => ?_, fun v h => e.ker v fun i hi => ?_⟩
  · rw [ha i j hi hj, ← e.eq _ _ (hπ i hi) hj]
    exact sumN_congr fun l hl => by rw [ho i l hi hl]
  · obtain ⟨l, hl, rfl⟩ := hs i hi
    rw [← h l hl]
    exact sumN_congr fun j hj => by rw [ha l j hl hj]

theorem Eli.scale (e : Eli n p a o) (b : U) (hb : b ≠ 0) (ha : ∀ i j, i < n → j < n → a' i j = if i = k then gmul (a i j) b else a i j) (ho : ∀ i j, i < n → j < n → o' i j = if i = k then gmul (o i j) b else o i j) : Eli n p a' o' := by
  refine ⟨fun i j hi hj => ?_, fun v h => e.ker v fun i hi => ?_⟩
  · rw [ha i j hi hj]
    by_cases hk : i = k
    · rw [if_pos hk, ← e.eq i j hi hj, ← sumN_mulr]
      exact sumN_congr fun l hl => by rw [ho i l hi hl, if_pos hk, gmul_assoc, gmul_comm b, gmul_assoc]
    · rw [if_neg hk, ← e.eq i j hi hj]
      exact sumN_congr fun l hl => by rw [ho i l hi hl, if_neg hk]
  · have := h i hi
    by_cases hk : i = k
    · have h2 : gmul b (sumN n fun j => gmul (a i j) (v j)) = 0 := by
        rw [← this, ← sumN_mul]
        exact sumN_congr fun j hj => by rw [ha i j hi hj, if_pos hk, ← gmul_assoc, gmul_comm b]
      exact (gmul_eq_zero h2).resolve_left hb
    · rw [← this]
      exact sumN_congr fun j hj => by rw [ha i j hi hj, if_neg hk]

theorem Eli.plus (e : Eli n p a o) {i0 : Nat} (b : U) (hk : k < n) (hik : i0 ≠ k) (ha : ∀ i j, i < n → j < n → a' i j = if i = i0 then a i j ^^^ gmul (a k j) b else a i j)
    (ho : ∀ i j, i < n → j < n → o' i j = if i = i0 then o i j ^^^ gmul (o k j) b else o i j) : Eli n p a' o' := by
  refine ⟨fun i j hi hj => ?_, fun v h => e.ker v fun i hi => ?_⟩
  · rw [ha i j hi hj]
    by_cases h0 : i = i0
    · rw [if_pos h0, ← e.eq i j hi hj, ← e.eq k j hk hj, ← sumN_mulr, ← sumN_xor]
      exact sumN_congr fun l hl => by rw [ho i l hi hl, if_pos h0, gmul_left, gmul_assoc, gmul_comm b, gmul_assoc]
    · rw [if_neg h0, ← e.eq i j hi hj]
      exact sumN_congr fun l hl => by rw [ho i l hi hl, if_neg h0]
  · have hkz : sumN n (fun j => gmul (a k j) (v j)) = 0 := by
      rw [← h k hk]
      exact sumN_congr fun j hj => by rw [ha k j hk hj, if_neg (fun e => hik e.symm)]
    have := h i hi
    by_cases h0 : i = i0
    · have h2 : sumN n (fun j => gmul (a i j) (v j)) ^^^ gmul b (sumN n fun j => gmul (a k j) (v j)) = 0 := by
        rw [← this, ← sumN_mul, ← sumN_xor]
        exact sumN_congr fun j hj => by rw [ha i j hi hj, if_pos h0, gmul_left, ← gmul_assoc, gmul_comm b]
      rw [hkz, gmul_zero, UInt8.xor_zero] at h2
      exact h2
    · rw [← this]
      exact sumN_congr fun j hj => by rw [ha i j hi hj, if_neg h0]

theorem Eli.pivot (e : Eli n p a o) (hr : Reg n p) (hc : Cols n k a) (hk : k < n) : ∃ i, k ≤ i ∧ i < n ∧ a i k ≠ 0 := by
  apply Classical.byContradiction
  intro hn
  have hz : ∀ i, k ≤ i → i < n → a i k = 0 := fun i h1 h2 => Classical.byContradiction fun h3 => hn ⟨i, h1, h2, h3⟩
  have hker := e.ker (fun j => if j < k then a j k else dl j k) ?_
  · have := hr _ hker k hk
    simp only [Nat.lt_irrefl, if_false, dl_self] at this
    exact absurd this (by decide)
  · intro i hi
    have split : ∀ m, m ≤ n → sumN m (fun j => gmul (a i j) (if j < k then a j k else dl j k)) = (if i < m ∧ i < k then a i k else 0) ^^^ (if k < m then a i k else 0) := by
      intro m
      induction m with
      | zero => intro _; simp [sumN]
      | succ m ih =>
        intro hm
        rw [sumN, ih (by omega)]
        by_cases hmk : m < k
        · simp only [hmk, if_true]
          rw [hc i m hi hmk]
          have e1 : ¬ k < m := by omega
          have e2 : ¬ k < m + 1 := by omega
          rw [if_neg e1, if_neg e2, UInt8.xor_zero, UInt8.xor_zero]
          by_cases him : i = m
          · subst him
            rw [dl_self, one_gmul, if_neg (by omega), if_pos ⟨by omega, hmk⟩, UInt8.zero_xor]
          · rw [dl_ne him, zero_gmul, UInt8.xor_zero]
            by_cases h4 : i < m ∧ i < k
            · rw [if_pos h4, if_pos ⟨by omega, h4.2⟩]
            · rw [if_neg h4, if_neg (by omega)]
        · rw [if_neg hmk]
          have e3 : (i < m + 1 ∧ i < k) ↔ (i < m ∧ i < k) := by omega
          by_cases hmk2 : m = k
          · subst hmk2
            rw [dl_self, gmul_one, if_neg (by omega : ¬ m < m), UInt8.xor_zero, if_pos (by omega : m < m + 1)]
            simp only [e3]
          · rw [dl_ne hmk2, gmul_zero, UInt8.xor_zero, if_pos (by omega : k < m), if_pos (by omega : k < m + 1)]
            simp only [e3]
    rw [split n (Nat.le_refl _), if_pos hk]
    by_cases hik : i < k
    · rw [if_pos ⟨hi, hik⟩, UInt8.xor_self]
    · rw [if_neg (by omega), UInt8.zero_xor]
      exact hz i (by omega) hi

theorem Eli.back (e : Eli n p a o) (hc : Cols n n a) {D S : Nat → U} (hS : ∀ i, i < n → S i = sumN n fun j => gmul (p i j) (D j)) : ∀ l, l < n → sumN n (fun i => gmul (o l i) (S i)) = D l := by
  intro l hl
  have e1 : sumN n (fun i => gmul (o l i) (S i)) = sumN n (fun i => sumN n fun j => gmul (gmul (o l i) (p i j)) (D j)) := by
    refine sumN_congr fun i hi => ?_
    rw [hS i hi, ← sumN_mul]
    exact sumN_congr fun j _ => (gmul_assoc _ _ _).symm
  rw [e1, sumN_swap]
  rw [sumN_congr (g := fun j => gmul (dl l j) (D j)) fun j hj => by rw [sumN_mulr, e.eq l j hl hj, hc l j hl hj]]
  exact sumN_dl hl _
end
end Go.X.T
namespace Go.X.T

def sumL : List Nat → (Nat → U) → U
  | [], _ => 0
  | a :: l, f => f a ^^^ sumL l f
theorem sumL_append (f : Nat → U) : ∀ l m, sumL (l ++ m) f = sumL l f ^^^ sumL m f
  | [], m => by simp [sumL]
  | a :: l, m => by simp only [List.cons_append, sumL, sumL_append f l m, UInt8.xor_assoc]
theorem sumN_range (f : Nat → U) : ∀ n, sumN n f = sumL (List.range n) f
  | 0 => rfl
  | n + 1 => by rw [sumN, List.range_succ, sumL_append, sumN_range f n]; simp [sumL]
theorem sumL_filter {f : Nat → U} {q : Nat → Bool} : ∀ {l : List Nat}, (∀ j, j ∈ l → q j = false → f j = 0) → sumL l f = sumL (l.filter q) f
  | [], _ => rfl
  | a :: l, h => by
    have ih := sumL_filter (f := f) (q := q) (l := l) fun j hj => h j (List.mem_cons_of_mem _ hj)
    simp only [List.filter_cons]
    cases hq : q a with
    | true => simp only [if_true, sumL, ih]
    | false => simp [sumL, ih, h a (by simp) hq]
theorem sumN_front (f : Nat → U) : ∀ n, sumN (n + 1) f = f 0 ^^^ sumN n fun i => f (i + 1)
  | 0 => by simp [sumN]
  | n + 1 => by rw [sumN, sumN_front f n, sumN, UInt8.xor_assoc]
theorem sumL_get (f : Nat → U) : ∀ l : List Nat, sumL l f = sumN l.length fun i => f (l.getD i 0)
  | [] => rfl
  | a :: l => by
    rw [sumL, sumL_get f l, List.length_cons, sumN_front]
    congr 1

theorem getD_in {l : List Nat} {i : Nat} (h : i < l.length) : l.getD i 0 = l[i] := by simp [List.getD_eq_getElem?_getD, h]
theorem len_split (q : Nat → Bool) : ∀ l : List Nat, l.length = (l.filter q).length + (l.filter fun a => !q a).length
  | [] => rfl
  | a :: l => by
    have := len_split q l
    simp only [List.filter_cons]
    cases q a <;> simp <;> omega

def rowE (k n j : Nat) : U := if n < k then dl n j else ginv (UInt8.ofNat n ^^^ UInt8.ofNat j)

theorem ofNat_inj {a b : Nat} (ha : a < 256) (hb : b < 256) (h : UInt8.ofNat a = UInt8.ofNat b) : a = b := by
  have := congrArg UInt8.toNat h
  simp only [UInt8.toNat_ofNat'] at this
  rwa [Nat.mod_eq_of_lt ha, Nat.mod_eq_of_lt hb] at this

theorem nodup_get {l : List Nat} (h : l.Nodup) {i j : Nat} (hi : i < l.length) (hj : j < l.length) (e : l.getD i 0 = l.getD j 0) : i = j := by
  rw [getD_in hi, getD_in hj] at e
  rcases Nat.lt_trichotomy i j with h1 | h1 | h1
  · exact absurd e (List.pairwise_iff_getElem.1 h i j hi hj h1)
  · exact h1
  · exact absurd e.symm (List.pairwise_iff_getElem.1 h j i hj hi h1)

theorem rows_reg {k : Nat} {rows : List Nat} (hk : k ≤ 256) (hl : rows.length = k) (hn : rows.Nodup) (hb : ∀ n, n ∈ rows → n < 256) : Reg k (fun i j => rowE k (rows.getD i 0) j) := by
  intro v hv
  -- the unit's rows
  have h1 : ∀ n, n ∈ rows → n < k → v n = 0 := by
    intro n hm hnk
    obtain ⟨i, hi, rfl⟩ := List.getElem_of_mem hm
    have := hv i (by omega)
    simp only [getD_in hi] at this
    rw [← this, sumN_congr (g := fun j => gmul (dl rows[i] j) (v j)) fun j _ => by simp only [rowE, if_pos hnk]]
    exact (sumN_dl hnk _).symm
  obtain ⟨xs, hxs⟩ : ∃ xs, xs = rows.filter (fun n => decide (k ≤ n)) := ⟨_, rfl⟩
  obtain ⟨ys, hys⟩ : ∃ ys, ys = (List.range k).filter (fun j => !rows.contains j) := ⟨_, rfl⟩
  have hxn : xs.Nodup := hxs ▸ hn.filter _
  have hyn : ys.Nodup := hys ▸ List.nodup_range.filter _
  have hlen : xs.length = ys.length := by
    have p : (rows.filter fun n => !decide (k ≤ n)).Perm ((List.range k).filter fun j => rows.contains j) := by
      rw [List.perm_ext_iff_of_nodup (hn.filter _) (List.nodup_range.filter _)]
      intro a
      simp only [List.mem_filter, List.mem_range, Bool.not_eq_true', decide_eq_false_iff_not, List.contains_iff_mem]
      constructor
      · rintro ⟨h1, h2⟩; exact ⟨by omega, h1⟩
      · rintro ⟨h1, h2⟩; exact ⟨h2, by omega⟩
    have e1 : rows.length = (rows.filter fun n => decide (k ≤ n)).length + (rows.filter fun n => !decide (k ≤ n)).length := len_split _ _
    have e2 : (List.range k).length = ((List.range k).filter fun j => rows.contains j).length + ((List.range k).filter fun j => !rows.contains j).length := len_split _ _
    rw [List.length_range] at e2
    have := p.length_eq
    rw [hxs, hys]; omega
  have hy : ∀ j, j < xs.length → v (ys.getD j 0) = 0 := by
    refine cauchy xs.length (fun i => UInt8.ofNat (xs.getD i 0)) (fun j => UInt8.ofNat (ys.getD j 0)) (fun j => v (ys.getD j 0)) ?_ ?_ ?_ ?_
    all_goals
      have mx : ∀ i, i < xs.length → xs.getD i 0 ∈ rows ∧ k ≤ xs.getD i 0 := by
        intro i hi
        have : xs.getD i 0 ∈ xs := by rw [getD_in hi]; exact List.getElem_mem _
        rw [hxs] at this
        rw [hxs]
        simpa [List.mem_filter] using this
      have my : ∀ j, j < xs.length → ys.getD j 0 < k := by
        intro j hj
        have : ys.getD j 0 ∈ ys := by rw [getD_in (by omega)]; exact List.getElem_mem _
        rw [hys] at this
        rw [hys]
        simp only [List.mem_filter, List.mem_range] at this
        exact this.1
    · intro i j hi hj e
      have := ofNat_inj (hb _ (mx i hi).1) (by have := my j hj; omega) e
      have := (mx i hi).2
      have := my j hj
      omega
    · intro i j hi hj e
      exact nodup_get hxn hi hj (ofNat_inj (hb _ (mx i hi).1) (hb _ (mx j hj).1) e)
    · intro i j hi hj e
      exact nodup_get hyn (by omega) (by omega) (ofNat_inj (by have := my i hi; omega) (by have := my j hj; omega) e)
    · intro i hi
      obtain ⟨hm, hki⟩ := mx i hi
      obtain ⟨q, hq, e⟩ := List.getElem_of_mem hm
      have := hv q (by omega)
      simp only [getD_in hq, e] at this
      rw [sumN_range, sumL_filter (q := fun j => !rows.contains j), ← hys, sumL_get, ← hlen] at this
      · rw [← this]
        refine sumN_congr fun j hj => ?_
        simp only [rowE]
        rw [if_neg (by omega), gmul_comm]
      · intro j hj hjr
        simp only [Bool.not_eq_false', List.contains_iff_mem] at hjr
        rw [h1 j hjr (List.mem_range.1 hj), gmul_zero]
  intro j hj
  by_cases hm : j ∈ rows
  · exact h1 j hm hj
  · have : j ∈ ys := by rw [hys]; simp [List.mem_filter, hj, hm]
    obtain ⟨i, hi, rfl⟩ := List.getElem_of_mem this
    have := hy i (by omega)
    rwa [getD_in hi] at this
end Go.X.T
namespace Go.X.T

abbrev Ml := List (List U)
def get2 (l : Ml) (i j : Nat) : U := ((l[i]?).getD [])[j]?.getD 0
structure Sq (n : Nat) (l : Ml) : Prop where
  len : l.length = n
  row : ∀ r, r ∈ l → r.length = n
theorem Sq.at_ {n i : Nat} {l : Ml} (h : Sq n l) (hi : i < n) : ∃ r, l[i]? = some r ∧ r.length = n := by
  have hi' : i < l.length := by rw [h.len]; exact hi
  exact ⟨l[i], by simp [hi'], h.row _ (List.getElem_mem _)⟩
theorem Sq.set {n i : Nat} {l : Ml} {r : List U} (h : Sq n l) (hr : r.length = n) : Sq n (l.set i r) := by
  refine ⟨by simp [h.len], fun r' hm => ?_⟩
  rcases List.mem_or_eq_of_mem_set hm with hm | rfl
  · exact h.row _ hm
  · exact hr
theorem get2_set {n i i' j : Nat} {l : Ml} {r : List U} (h : l.length = n) (hi : i < n) : get2 (l.set i r) i' j = if i' = i then r[j]?.getD 0 else get2 l i' j := by
  unfold get2
  rw [List.getElem?_set]
  by_cases e : i = i'
  · subst e; simp [h, hi]
  · rw [if_neg e, if_neg (fun x => e x.symm)]
theorem get2_row {i j : Nat} {l : Ml} {r : List U} (h : l[i]? = some r) : get2 l i j = r[j]?.getD 0 := by simp [get2, h]

def mulRow (r : List U) (b : U) : List U := r.map fun x => gmul x b
def addRow (r o : List U) (b : U) : List U := List.zipWith (fun x y => x ^^^ gmul y b) r o
theorem mulRow_get {r : List U} {b : U} {j : Nat} (h : j < r.length) : (mulRow r b)[j]?.getD 0 = gmul (r[j]?.getD 0) b := by simp [mulRow, h]
theorem addRow_get {r o : List U} {b : U} {j : Nat} (h : j < r.length) (h' : j < o.length) : (addRow r o b)[j]?.getD 0 = (r[j]?.getD 0) ^^^ gmul (o[j]?.getD 0) b := by
  simp [addRow, List.getElem?_zipWith, h, h']
theorem mulRow_len (r : List U) (b : U) : (mulRow r b).length = r.length := by simp [mulRow]
theorem addRow_len {r o : List U} {b : U} (h : r.length = o.length) : (addRow r o b).length = r.length := by simp [addRow, h]

def unitL (n : Nat) : Ml := (List.range n).map fun i => (List.range n).map fun j => dl i j
def swapL (l : Ml) (k q : Nat) : Ml := (l.set k ((l[q]?).getD [])).set q ((l[k]?).getD [])

structure ElAt (n : Nat) (p : Ml) (k : Nat) (a o : Ml) : Prop where
  sa : Sq n a
  so : Sq n o
  eli : Eli n (get2 p) (get2 a) (get2 o)
  cols : Cols n k (get2 a)
structure ElIn (n : Nat) (p : Ml) (k i : Nat) (a o : Ml) : Prop where
  sa : Sq n a
  so : Sq n o
  eli : Eli n (get2 p) (get2 a) (get2 o)
  cols : Cols n k (get2 a)
  one : get2 a k k = 1
  done : ∀ i', i' < i → i' < n → i' ≠ k → get2 a i' k = 0

section
variable {n k i q : Nat} {p a o : Ml}

theorem unitL_sq (n : Nat) : Sq n (unitL n) := ⟨by simp [unitL], fun r hr => by simp only [unitL, List.mem_map] at hr; obtain ⟨i, _, rfl⟩ := hr; simp⟩
theorem unitL_get {i j : Nat} (hi : i < n) (hj : j < n) : get2 (unitL n) i j = dl i j := by simp [unitL, get2, hi, hj]

theorem ElAt.start (hp : Sq n p) : ElAt n p 0 p (unitL n) :=
  ⟨hp, unitL_sq n, Eli.start (fun _ _ _ _ => rfl) fun _ _ hi hj => unitL_get hi hj, fun _ _ _ h => by omega⟩

theorem ElAt.pivot (e : ElAt n p k a o) (hr : Reg n (get2 p)) (hk : k < n) : ∃ i, k ≤ i ∧ i < n ∧ get2 a i k ≠ 0 := e.eli.pivot hr e.cols hk

theorem swapL_sq (h : Sq n a) (hk : k < n) (hq : q < n) : Sq n (swapL a k q) := by
  obtain ⟨r, h1, h2⟩ := h.at_ hk
  obtain ⟨s, h3, h4⟩ := h.at_ hq
  unfold swapL
  rw [h1, h3]
  exact (h.set h4).set h2
theorem swapL_get {j : Nat} (h : Sq n a) (hk : k < n) (hq : q < n) (i : Nat) : get2 (swapL a k q) i j = get2 a (if i = q then k else if i = k then q else i) j := by
  unfold swapL
  rw [get2_set (n := n) (by simp [h.len]) hq, get2_set h.len hk]
  by_cases e : i = q
  · simp only [if_pos e]; rfl
  · simp only [if_neg e]
    by_cases e2 : i = k
    · simp only [if_pos e2]; rfl
    · simp only [if_neg e2]

theorem ElAt.swap (e : ElAt n p k a o) (hkq : k ≤ q) (hq : q < n) (hz : get2 a q k ≠ 0) : ElAt n p k (swapL a k q) (swapL o k q) ∧ get2 (swapL a k q) k k ≠ 0 := by
  have hk : k < n := by omega
  refine ⟨⟨swapL_sq e.sa hk hq, swapL_sq e.so hk hq, e.eli.swap (fun i => if i = q then k else if i = k then q else i) ?_ ?_ (fun i j _ _ => swapL_get e.sa hk hq i) (fun i j _ _ => swapL_get e.so hk hq i), ?_⟩, ?_⟩
  · intro i hi; split
    · exact hk
    · split
      · exact hq
      · exact hi
  · intro i hi
    refine ⟨if i = q then k else if i = k then q else i, ?_, ?_⟩
    · split
      · exact hk
      · split
        · exact hq
        · exact hi
    · by_cases e1 : i = q
      · subst e1; by_cases e2 : k = i <;> simp [e2]
      · by_cases e2 : i = k
        · subst e2; simp [e1]
        · simp [e1, e2]
  · intro i c hi hc
    rw [swapL_get e.sa hk hq]
    by_cases e1 : i = q
    · subst e1
      rw [if_pos rfl, e.cols k c hk hc, dl_ne (by omega), dl_ne (by omega)]
    · rw [if_neg e1]
      by_cases e2 : i = k
      · subst e2
        rw [if_pos rfl, e.cols q c hq hc, dl_ne (by omega), dl_ne (by omega)]
      · rw [if_neg e2, e.cols i c hi hc]
  · rw [swapL_get e.sa hk hq]
    by_cases e1 : k = q
    · subst e1; rw [if_pos rfl]; exact hz
    · rw [if_neg e1, if_pos rfl]; exact hz

theorem scale_get {b : U} {r : List U} {j : Nat} (h : Sq n a) (hk : k < n) (hr : a[k]? = some r) (hj : j < n) (i : Nat) : get2 (a.set k (mulRow r b)) i j = if i = k then gmul (get2 a i j) b else get2 a i j := by
  rw [get2_set h.len hk]
  by_cases e : i = k
  · subst e
    obtain ⟨r', h1, h2⟩ := h.at_ hk
    rw [hr] at h1; cases h1
    rw [if_pos rfl, if_pos rfl, mulRow_get (by omega), get2_row hr]
  · rw [if_neg e, if_neg e]
theorem ElAt.scale {r s : List U} (e : ElAt n p k a o) (hk : k < n) (hz : get2 a k k ≠ 0) (hr : a[k]? = some r) (hs : o[k]? = some s) :
    ElIn n p k 0 (a.set k (mulRow r (ginv (get2 a k k)))) (o.set k (mulRow s (ginv (get2 a k k)))) := by
  obtain ⟨r', h1, h2⟩ := e.sa.at_ hk
  rw [hr] at h1; cases h1
  obtain ⟨s', h3, h4⟩ := e.so.at_ hk
  rw [hs] at h3; cases h3
  refine ⟨e.sa.set (by rw [mulRow_len]; exact h2), e.so.set (by rw [mulRow_len]; exact h4), e.eli.scale (k := k) _ (ginv_ne hz) (fun i j _ hj => scale_get e.sa hk hr hj i) (fun i j _ hj => scale_get e.so hk hs hj i), ?_, ?_, fun i' h => by omega⟩
  · intro i c hi hc
    rw [scale_get e.sa hk hr (by omega)]
    split
    · rename_i e2
      subst e2
      rw [e.cols i c hi hc, dl_ne (by omega), zero_gmul]
    · exact e.cols i c hi hc
  · rw [scale_get e.sa hk hr hk, if_pos rfl, gmul_ginv hz]

theorem plus_get {b : U} {r s : List U} {j : Nat} (h : Sq n a) (hi : i < n) (hk : k < n) (hr : a[i]? = some r) (hs : a[k]? = some s) (hj : j < n) (i' : Nat) : get2 (a.set i (addRow r s b)) i' j = if i' = i then get2 a i' j ^^^ gmul (get2 a k j) b else get2 a i' j := by
  rw [get2_set h.len hi]
  by_cases e : i' = i
  · subst e
    obtain ⟨r', h1, h2⟩ := h.at_ hi
    rw [hr] at h1; cases h1
    obtain ⟨s', h3, h4⟩ := h.at_ hk
    rw [hs] at h3; cases h3
    rw [if_pos rfl, if_pos rfl, addRow_get (by omega) (by omega), get2_row hr, get2_row hs]
  · rw [if_neg e, if_neg e]
theorem ElIn.skip (e : ElIn n p k i a o) (h : i = k ∨ get2 a i k = 0) : ElIn n p k (i + 1) a o := by
  refine ⟨e.sa, e.so, e.eli, e.cols, e.one, fun i' h1 h2 h3 => ?_⟩
  by_cases e1 : i' = i
  · subst e1
    rcases h with h | h
    · exact absurd h h3
    · exact h
  · exact e.done i' (by omega) h2 h3
theorem ElIn.plus {r s r' s' : List U} (e : ElIn n p k i a o) (hi : i < n) (hk : k < n) (hik : i ≠ k) (hr : a[i]? = some r) (hs : a[k]? = some s) (hr' : o[i]? = some r') (hs' : o[k]? = some s') :
    ElIn n p k (i + 1) (a.set i (addRow r s (get2 a i k))) (o.set i (addRow r' s' (get2 a i k))) := by
  obtain ⟨x, h1, h2⟩ := e.sa.at_ hi
  rw [hr] at h1; cases h1
  obtain ⟨x, h3, h4⟩ := e.sa.at_ hk
  rw [hs] at h3; cases h3
  obtain ⟨x, h5, h6⟩ := e.so.at_ hi
  rw [hr'] at h5; cases h5
  obtain ⟨x, h7, h8⟩ := e.so.at_ hk
  rw [hs'] at h7; cases h7
  refine ⟨e.sa.set (by rw [addRow_len (by omega)]; exact h2), e.so.set (by rw [addRow_len (by omega)]; exact h6), e.eli.plus (i0 := i) _ hk hik (fun i' j _ hj => plus_get e.sa hi hk hr hs hj i') (fun i' j _ hj => plus_get e.so hi hk hr' hs' hj i'), ?_, ?_, ?_⟩
  · intro i' c hi' hc
    rw [plus_get e.sa hi hk hr hs (by omega)]
    split
    · rename_i e2
      rw [e.cols i' c hi' hc, e.cols k c hk hc, dl_ne (i := k) (by omega), zero_gmul, UInt8.xor_zero]
    · exact e.cols i' c hi' hc
  · rw [plus_get e.sa hi hk hr hs hk, if_neg (fun x => hik x.symm)]; exact e.one
  · intro i' h9 h10 h11
    rw [plus_get e.sa hi hk hr hs hk]
    split
    · rename_i e2
      subst e2
      rw [e.one, one_gmul, UInt8.xor_self]
    · exact e.done i' (by omega) h10 h11
theorem ElIn.next (e : ElIn n p k n a o) : ElAt n p (k + 1) a o := by
  refine ⟨e.sa, e.so, e.eli, fun i c hi hc => ?_⟩
  by_cases hck : c < k
  · exact e.cols i c hi hck
  · obtain rfl : c = k := by omega
    by_cases hik : i = c
    · subst hik; rw [dl_self]; exact e.one
    · rw [dl_ne hik]; exact e.done i hi hi hik
theorem ElAt.back (e : ElAt n p n a o) {D S : Nat → U} (hS : ∀ i, i < n → S i = sumN n fun j => gmul (get2 p i j) (D j)) : ∀ l, l < n → sumN n (fun i => gmul (get2 o l i) (S i)) = D l :=
  e.eli.back e.cols hS
end
end Go.X.T
namespace Go.X.T

def cauchyL (m k : Nat) : Ml := (List.range m).map fun i => (List.range k).map fun j => ginv (UInt8.ofNat (k + i) ^^^ UInt8.ofNat j)
def width (s : Ml) : Nat := ((s[0]?).getD []).length
def timesL (m s : Ml) : Ml := m.map fun row => (List.range (width s)).map fun x => sumN s.length fun i => gmul (row[i]?.getD 0) (get2 s i x)

structure Rect (k w : Nat) (l : Ml) : Prop where
  len : l.length = k
  row : ∀ r, r ∈ l → r.length = w
theorem Rect.at_ {k w i : Nat} {l : Ml} (h : Rect k w l) (hi : i < k) : ∃ r, l[i]? = some r ∧ r.length = w := by
  have hi' : i < l.length := by rw [h.len]; exact hi
  exact ⟨l[i], by simp [hi'], h.row _ (List.getElem_mem _)⟩
theorem Rect.width {k w : Nat} {l : Ml} (h : Rect k w l) (hk : 0 < k) : width l = w := by
  obtain ⟨r, h1, h2⟩ := h.at_ hk
  simp [T.width, h1, h2]
theorem Rect.ext {k w : Nat} {a b : Ml} (ha : Rect k w a) (hb : Rect k w b) (h : ∀ i x, i < k → x < w → get2 a i x = get2 b i x) : a = b := by
  apply List.ext_getElem?
  intro i
  by_cases hi : i < k
  · obtain ⟨r, h1, h2⟩ := ha.at_ hi
    obtain ⟨s, h3, h4⟩ := hb.at_ hi
    rw [h1, h3]
    congr 1
    apply List.ext_getElem (by omega)
    intro x hx hx'
    have := h i x hi (by omega)
    rw [get2_row h1, get2_row h3] at this
    simpa [hx, hx'] using this
  · rw [List.getElem?_eq_none (by rw [ha.len]; omega), List.getElem?_eq_none (by rw [hb.len]; omega)]
theorem timesL_rect {k w : Nat} {m s : Ml} (h : Rect k w s) (hk : 0 < k) : Rect m.length w (timesL m s) := by
  refine ⟨by simp [timesL], fun r hr => ?_⟩
  simp only [timesL, List.mem_map] at hr
  obtain ⟨row, _, rfl⟩ := hr
  simp [h.width hk]
theorem timesL_get {k w i x : Nat} {m s : Ml} (h : Rect k w s) (hk : 0 < k) (hi : i < m.length) (hx : x < w) : get2 (timesL m s) i x = sumN k fun j => gmul (get2 m i j) (get2 s j x) := by
  unfold timesL get2
  rw [List.getElem?_map, List.getElem?_eq_getElem hi]
  simp only [Option.map_some, Option.getD_some, h.width hk, List.getElem?_map]
  rw [List.getElem?_range hx]
  simp only [Option.map_some, Option.getD_some, h.len]

def fullL (k m : Nat) (D : Ml) : Ml := D ++ timesL (cauchyL m k) D

section
variable {k m w : Nat} {D : Ml}
theorem fullL_rect (h : Rect k w D) (hk : 0 < k) : Rect (k + m) w (fullL k m D) := by
  have h2 := timesL_rect (m := cauchyL m k) h hk
  have hc : (cauchyL m k).length = m := by simp [cauchyL]
  refine ⟨by rw [fullL, List.length_append, h.len, h2.len, hc], fun r hr => ?_⟩
  rcases List.mem_append.1 hr with hr | hr
  · exact h.row _ hr
  · exact h2.row _ hr
theorem fullL_get (h : Rect k w D) (hk : 0 < k) {n x : Nat} (hn : n < k + m) (hx : x < w) : get2 (fullL k m D) n x = sumN k fun j => gmul (rowE k n j) (get2 D j x) := by
  by_cases hnk : n < k
  · have : get2 (fullL k m D) n x = get2 D n x := by
      unfold get2 fullL
      rw [List.getElem?_append_left (by rw [h.len]; exact hnk)]
    rw [this, sumN_congr (g := fun j => gmul (dl n j) (get2 D j x)) fun j _ => by simp only [rowE, if_pos hnk]]
    exact (sumN_dl hnk fun j => get2 D j x).symm
  · have : get2 (fullL k m D) n x = get2 (timesL (cauchyL m k) D) (n - k) x := by
      unfold get2 fullL
      rw [List.getElem?_append_right (by rw [h.len]; omega), h.len]
    rw [this, timesL_get h hk (by simp [cauchyL]; omega) hx]
    refine sumN_congr fun j hj => ?_
    have : get2 (cauchyL m k) (n - k) j = ginv (UInt8.ofNat (k + (n - k)) ^^^ UInt8.ofNat j) := by
      simp only [get2, cauchyL, List.getElem?_map]
      rw [List.getElem?_range (by omega)]
      simp only [Option.map_some, Option.getD_some, List.getElem?_map]
      rw [List.getElem?_range hj]
      rfl
    rw [this, show k + (n - k) = n from by omega]
    simp only [rowE, if_neg hnk]

def allRows (k m : Nat) : Ml := unitL k ++ cauchyL m k
theorem allRows_get {n j : Nat} (hn : n < k + m) (hj : j < k) : get2 (allRows k m) n j = rowE k n j := by
  unfold allRows
  by_cases hnk : n < k
  · have : get2 (unitL k ++ cauchyL m k) n j = get2 (unitL k) n j := by
      unfold get2
      rw [List.getElem?_append_left (by simp [unitL]; exact hnk)]
    rw [this, unitL_get hnk hj]; simp only [rowE, if_pos hnk]
  · have : get2 (unitL k ++ cauchyL m k) n j = get2 (cauchyL m k) (n - k) j := by
      unfold get2
      rw [List.getElem?_append_right (by simp [unitL]; omega)]; simp [unitL]
    rw [this]
    simp only [get2, cauchyL, List.getElem?_map]
    rw [List.getElem?_range (by omega)]
    simp only [Option.map_some, Option.getD_some, List.getElem?_map]
    rw [List.getElem?_range hj]
    simp only [Option.map_some, Option.getD_some, rowE, if_neg hnk]
    rw [show k + (n - k) = n from by omega]
theorem allRows_rect : Rect (k + m) k (allRows k m) := by
  refine ⟨by simp [allRows, unitL, cauchyL], fun r hr => ?_⟩
  rcases List.mem_append.1 hr with hr | hr
  · exact (unitL_sq k).row _ hr
  · simp only [cauchyL, List.mem_map] at hr
    obtain ⟨i, _, rfl⟩ := hr; simp

def picked (l : Ml) (rows : List Nat) : Ml := rows.map fun n => (l[n]?).getD []
theorem picked_get (l : Ml) {rows : List Nat} {i : Nat} (hi : i < rows.length) (j : Nat) : get2 (picked l rows) i j = get2 l (rows.getD i 0) j := by
  unfold picked get2
  rw [List.getElem?_map, List.getElem?_eq_getElem hi, getD_in hi]; rfl
theorem picked_rect {n w : Nat} {l : Ml} {rows : List Nat} (h : Rect n w l) (hb : ∀ i, i ∈ rows → i < n) : Rect rows.length w (picked l rows) := by
  refine ⟨by simp [picked], fun r hr => ?_⟩
  simp only [picked, List.mem_map] at hr
  obtain ⟨i, hi, rfl⟩ := hr
  obtain ⟨r, h1, h2⟩ := h.at_ (hb i hi)
  rw [h1]; exact h2

theorem part_reg {rows : List Nat} (hkm : k + m ≤ 256) (hl : rows.length = k) (hn : rows.Nodup) (hb : ∀ n, n ∈ rows → n < k + m) : Reg k (get2 (picked (allRows k m) rows)) := by
  intro v hv
  refine rows_reg (by omega) hl hn (fun n h => by have := hb n h; omega) v fun i hi => ?_
  rw [← hv i hi]
  refine sumN_congr fun j hj => ?_
  have hm : rows.getD i 0 ∈ rows := by rw [getD_in (by omega)]; exact List.getElem_mem _
  rw [picked_get _ (by omega), allRows_get (hb _ hm) hj]

theorem back_law {rows : List Nat} {a o : Ml} (h : Rect k w D) (hk : 0 < k) (hl : rows.length = k) (hb : ∀ n, n ∈ rows → n < k + m) (e : ElAt k (picked (allRows k m) rows) k a o) :
    timesL o (picked (fullL k m D) rows) = D := by
  have hr : Rect k w (picked (fullL k m D) rows) := by
    have := picked_rect (rows := rows) (fullL_rect (m := m) h hk) hb
    exact ⟨by rw [this.len, hl], this.row⟩
  have ho : o.length = k := e.so.len
  have ht := timesL_rect (m := o) hr hk
  have ht' : Rect k w (timesL o (picked (fullL k m D) rows)) := ⟨by rw [ht.len, ho], ht.row⟩
  refine Rect.ext (k := k) (w := w) ht' h fun l x hlk hx => ?_
  rw [timesL_get hr hk (by omega) hx]
  refine e.back (D := fun j => get2 D j x) (fun i hi => ?_) l hlk
  have hm : rows.getD i 0 ∈ rows := by rw [getD_in (by omega)]; exact List.getElem_mem _
  simp only [picked_get _ (show i < rows.length by omega)]
  rw [fullL_get h hk (hb _ hm) hx]
  exact sumN_congr fun j hj => by rw [allRows_get (hb _ hm) hj]
end

def shLen (k n : Nat) : Nat := max 1 ((n + k - 1) / k)
def padded (k : Nat) (data : List U) : List U := data ++ List.replicate (k * shLen k data.length - data.length) 0
def dataL (k : Nat) (data : List U) : Ml := (List.range k).map fun i => ((padded k data).drop (i * shLen k data.length)).take (shLen k data.length)

theorem shLen_le {k n : Nat} (hk : 0 < k) : n ≤ k * shLen k n := by
  have h1 : (n + k - 1) / k ≤ shLen k n := Nat.le_max_right _ _
  have h2 : n ≤ k * ((n + k - 1) / k) := by
    have := Nat.div_add_mod (n + k - 1) k
    have := Nat.mod_lt (n + k - 1) hk
    omega
  exact Nat.le_trans h2 (Nat.mul_le_mul_left k h1)
theorem padded_len {k : Nat} {data : List U} (hk : 0 < k) : (padded k data).length = k * shLen k data.length := by
  have := shLen_le (n := data.length) hk
  simp [padded]; omega
theorem dataL_rect {k : Nat} {data : List U} (hk : 0 < k) : Rect k (shLen k data.length) (dataL k data) := by
  refine ⟨by simp [dataL], fun r hr => ?_⟩
  simp only [dataL, List.mem_map, List.mem_range] at hr
  obtain ⟨i, hi, rfl⟩ := hr
  rw [List.length_take, List.length_drop, padded_len hk]
  have : (i + 1) * shLen k data.length ≤ k * shLen k data.length := Nat.mul_le_mul_right _ (by omega)
  rw [Nat.add_mul] at this
  omega
theorem chunks {w : Nat} : ∀ (n : Nat) (l : List U), l.length = n * w → ((List.range n).map fun i => (l.drop (i * w)).take w).flatten = l
  | 0, l, h => by
    rw [Nat.zero_mul] at h
    rw [List.length_eq_zero_iff.1 h]; rfl
  | n + 1, l, h => by
    have hd : (l.drop w).length = n * w := by rw [List.length_drop, h, Nat.add_mul]; omega
    have ih := chunks n (l.drop w) hd
    rw [List.range_succ_eq_map, List.map_cons, List.flatten_cons, List.map_map]
    have : ((fun i => (l.drop (i * w)).take w) ∘ Nat.succ) = fun i => ((l.drop w).drop (i * w)).take w := by
      funext i
      simp only [Function.comp, List.drop_drop]
      rw [show Nat.succ i * w = w + i * w from by rw [Nat.succ_mul]; omega]
    rw [this, ih]
    simp
theorem dataL_flat {k : Nat} {data : List U} (hk : 0 < k) : (dataL k data).flatten = padded k data := chunks k _ (padded_len hk)
theorem dataL_take {k : Nat} {data : List U} (hk : 0 < k) : ((dataL k data).flatten).take data.length = data := by
  rw [dataL_flat hk, padded, List.take_append_of_le_length (Nat.le_refl _), List.take_length]
end Go.X.T

