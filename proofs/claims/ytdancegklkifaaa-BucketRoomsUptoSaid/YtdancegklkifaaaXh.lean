/-
  Rules as the walks use them: stores into what is written out, structs that are built, calls inside regions whose order is open. No program in sight.
-/
import Derived.Test.YtdancegklkifaaaXg
namespace Go.X
set_option linter.unusedSectionVars false
set_option linter.unusedSimpArgs false
set_option linter.unusedVariables false

section
variable {P : Program} {W0 : World} {N : Nat} {ops : Array Oper} {Q : Exit → Act → World → Prop} {L : Slots} {A : List Assn} {rest : List Oper}
variable {ty : TypeId} {pos : String} {aft : Array Edge} {g : Option (Nat × Bool)} {d : Nat} {T : TypeId} {x y : Operand}

theorem C.stl {i b off : Nat} {l l' : List Value} {e : TypeId} {z : Nat × Nat} {v : Value} {B : List Assn} (hs : ∀ w, (sizeOf T).run P w = .ok 1 w) (ex : ev L x = some (.pointer (some ⟨b, off, none⟩))) (ey : ev L y = some v) (hv : oneC v = true)
    (h : A[i]? = some (pt b (.cells l.toArray e z))) (hl : setV off v l = some l') (hz : (decide (z.1 ≤ off) && decide (off < z.2)) = false) (hB : setA i (pt b (.cells l'.toArray e z)) A = some B) :
    OpC P (.store T x y) ty L A (fun u C => u = undef ∧ C = B) := by
  obtain ⟨h1, h2⟩ := setV_eq hl
  have := C.st (ty := ty) hs ex ey hv h h1 hz
  rw [h2, setA_eq hB] at this
  exact this

/-- 'x = v' where the block is written out. -/
theorem J.st {i b off : Nat} {l l' : List Value} {e : TypeId} {z : Nat × Nat} {v : Value} {B : List Assn} (hg : guardL ops g L = some true) (hs : ∀ w, (sizeOf T).run P w = .ok 1 w) (ex : ev L x = some (.pointer (some ⟨b, off, none⟩))) (ey : ev L y = some v) (hv : oneC v = true)
    (h : A[i]? = some (pt b (.cells l.toArray e z))) (hl : setV off v l = some l') (hz : (decide (z.1 ≤ off) && decide (off < z.2)) = false) (hB : setA i (pt b (.cells l'.toArray e z)) A = some B)
    (k : J W0 N L B (wpList P ops Q rest)) : J W0 N L A (wpList P ops Q (⟨none, .store T x y, ty, pos, aft, g⟩ :: rest)) :=
  J.c0 hg (C.stl hs ex ey hv h hl hz hB) (by rintro _ _ ⟨rfl, rfl⟩; exact k)

theorem Q.bld {fs : Array Field} {pl : List (Nat × Nat)} {zv : Value} {ps : List (Nat × Operand)} {vs l : List Value} {D : List Assn} (hu : ∀ w, (underlying T).run P w = .ok (.struct fs) w) (hz : ∀ w, (zeroValue T).run P w = .ok zv w)
    (hp : ∀ w, (fs.mapM fun f => do pure (f.offset, ← sizeOf f.type) : Sem (Array (Nat × Nat))).run P w = .ok pl.toArray w) (ev_ : evs L (ps.map (·.2)) = some vs)
    (hl : Instr.fill (fun i : Nat => pl[i]?) zv.cells ((ps.map (·.1)).zip vs) = some l.toArray) : OpQ P (.build T ps.toArray) ty L D (.agg l.toArray) :=
  .pure_ fun _ _ _ _ a w ag => by
    have hx : (ps.map (·.2)).map a.eval = vs := evs_map (fun x hx => ag x (by simpa [Op.operands] using hx)) ev_
    have hpp : (ps.map fun q => (q.1, a.eval q.2)) = (ps.map (·.1)).zip vs := by
      rw [← hx]; clear hx hl ev_ ag
      induction ps with
      | nil => rfl
      | cons q r ih => simp [ih]
    have hpar : (Array.map (fun q : Nat × Operand => (q.1, a.eval q.2)) ps.toArray).toList = (ps.map (·.1)).zip vs := by simpa using hpp
    have hl' : Instr.fill (fun i : Nat => pl.toArray[i]?) zv.cells ((ps.map (·.1)).zip vs) = some l.toArray := by
      have : (fun i : Nat => pl.toArray[i]?) = (fun i : Nat => pl[i]?) := by funext i; simp
      rw [this]; exact hl
    simp only [execOp, Instr.build, Sem.run_bind, hz, hu, Result.andThen_ok]
    rw [show (fs.mapM fun f => do let __do_lift ← sizeOf f.type; pure (f.offset, __do_lift) : Sem (Array (Nat × Nat))).run P w = .ok pl.toArray w from hp w]
    simp only [Result.andThen_ok, hpar, hl', Sem.run_pure]

/-- The mark of a constant's bytes. -/
theorem C.stringish {i b off n c : Nat} {E : TypeId} {l : List Value} {e : TypeId} {B : List Assn} (hu : ∀ w, (underlying T).run P w = .ok (.slice E) w) (hE : ∀ w, (underlying E).run P w = .ok (.int .u8) w) (ex : ev L x = some (.slice (some ⟨b, off, none⟩) n c)) (h : A[i]? = some (pt b (.cells l.toArray e (0, 0))))
    (hB : setA i (pt b (.cells l.toArray e (l.length, l.length + 1))) A = some B) :
    OpC P (.convert T T x) ty L A (fun u C => u = .slice (some ⟨b, off, none⟩) n c ∧ C = B) := by
  refine ⟨fun dst pos aft g a W0 w ag s K Q k => ?_⟩
  have e1 := ag.at_ ex (by simp [Op.operands])
  have hb := s.at_ h
  have hr : (execOp a.eval ⟨dst, .convert T T x, ty, pos, aft, g⟩).run P w = .ok (.value (.slice (some ⟨b, off, none⟩) n c)) (w.freeze ⟨b, l.length, none⟩ 1) := by
    have hsh : w.shape? b = some (e, l.length) := by simp [World.shape?, hb]
    simp [execOp, e1, convert, hu, hE, markStringish, hsh]
  have s' : Sat W0 (w.freeze ⟨b, l.length, none⟩ 1) (A.set i (pt b (.cells l.toArray e (l.length, l.length + 1)))) := by
    refine s.set h _ rfl rfl rfl ?_
    unfold World.freeze
    rw [if_neg (by omega)]
    show hp { w with heap := w.heap.modify b _ } = _
    rw [hp_modify w _ _ _ hb]
    simp
  rw [setA_eq hB] at s'
  unfold Oper.wp
  rw [hr, Oper.upon_value]
  exact k _ _ _ ⟨rfl, rfl⟩ s'
end

section
variable {P : Program} {W0 : World} {N : Nat} {l : List Oper} {NQ : List Nat} {Q : Exit → Act → World → Prop} {S : List Nat} {L : Slots} {D E A Ain F : List Assn}

theorem RG.norm {B : List Assn} (e : normA D = some B) (k : RG P W0 N l NQ Q S L B E) : RG P W0 N l NQ Q S L D E := by rw [normA_eq e]; exact k

/-- A variable is assigned while others may wait. -/
theorem RG.keep (i : Nat) {dst : Option Nat} {op : Op} {ty : TypeId} {pos : String} {aft : Array Edge} {g : Option (Nat × Bool)} {v : Value} (hR : RegOK l NQ) (hf : front l S = [i]) (ho : l[i]? = some ⟨dst, op, ty, pos, aft, g⟩)
    (hi : memN i NQ = true) (hN : (match dst with | some d => Nat.blt d N | none => true) = true) (hg : guardL l.toArray g L = some true)
    (h : OpQ P op ty L (D ++ E) v) (k : RG P W0 N l NQ Q (i :: S) (addL dst v L) D E) : RG P W0 N l NQ Q S L D E :=
  RG.one i hR hf ho hi hN hg h.toC (by rintro u B ⟨rfl, rfl⟩; exact ⟨E, List.Perm.refl _, k⟩)

/-- Something is made while others may wait. -/
theorem RG.made (i : Nat) {d : Nat} {op : Op} {ty : TypeId} {pos : String} {aft : Array Edge} {g : Option (Nat × Bool)} {v : Nat → Value} {X : Nat → Assn} (hR : RegOK l NQ) (hf : front l S = [i]) (ho : l[i]? = some ⟨some d, op, ty, pos, aft, g⟩)
    (hi : memN i NQ = true) (hN : Nat.blt d N = true) (hg : guardL l.toArray g L = some true)
    (h : OpC P op ty L (D ++ E) (fun u B => ∃ b, u = v b ∧ B = X b :: (D ++ E))) (k : ∀ b, RG P W0 N l NQ Q (i :: S) ((d, v b) :: L) D (X b :: E)) : RG P W0 N l NQ Q S L D E :=
  RG.one i hR hf ho hi hN hg h (by rintro u B ⟨b, rfl, rfl⟩; exact ⟨X b :: E, List.perm_middle.symm, k b⟩)

/-- A call of a function behind all that was derived. -/
theorem RG.call (i : Nat) {d : Nat} {ty : TypeId} {pos : String} {aft : Array Edge} {g : Option (Nat × Bool)} {f : FuncId} {argTypes : Array TypeId} {R : Value → List Assn → Prop} {xs : List Operand} {args : List Value} (hR : RegOK l NQ) (hf : front l S = [i])
    (ho : l[i]? = some ⟨some d, .call { callee := .value (.func f), args := xs.toArray, argTypes }, ty, pos, aft, g⟩) (hi : memN i NQ = true) (hN : Nat.blt d N = true) (hg : guardL l.toArray g L = some true) (hb : S.all (fun j => (((masks [] l)[i]?).getD 0).testBit j) = true)
    (hc : ∀ (args : Array Value) (w : World), (callFunc f args).run P w = .ok (.enter f args) w) (hs : FSpec P f args Ain R) (is : List Nat) (he : evs L xs = some args) (hp : X.pick is (D ++ E) = some (Ain, F))
    (k : ∀ v B, R v B → RG P W0 N l NQ Q (i :: S) ((d, v) :: L) (B ++ F) []) : RG P W0 N l NQ Q S L D E :=
  RG.bar i hR hf ho hi hN hg hb (OpC.call hc he hs is hp) (by rintro v _ ⟨B, r, rfl⟩; exact k v B r)

/-- A call of a function while others may wait. -/
theorem RG.callk (i : Nat) {d : Nat} {ty : TypeId} {pos : String} {aft : Array Edge} {g : Option (Nat × Bool)} {f : FuncId} {argTypes : Array TypeId} {R : Value → List Assn → Prop} {xs : List Operand} {args : List Value} (hR : RegOK l NQ) (hf : front l S = [i])
    (ho : l[i]? = some ⟨some d, .call { callee := .value (.func f), args := xs.toArray, argTypes }, ty, pos, aft, g⟩) (hi : memN i NQ = true) (hN : Nat.blt d N = true) (hg : guardL l.toArray g L = some true)
    (hc : ∀ (args : Array Value) (w : World), (callFunc f args).run P w = .ok (.enter f args) w) (hs : FSpec P f args Ain R) (is : List Nat) (he : evs L xs = some args) (hp : X.pick is (D ++ E) = some (Ain, F))
    (k : ∀ v B, R v B → ∃ E', (B ++ F).Perm (D ++ E') ∧ RG P W0 N l NQ Q (i :: S) ((d, v) :: L) D E') : RG P W0 N l NQ Q S L D E :=
  RG.one i hR hf ho hi hN hg (OpC.call hc he hs is hp) (by rintro v _ ⟨B, r, rfl⟩; exact k v B r)

/-- A store behind all. -/
theorem RG.st (i : Nat) {j b off : Nat} {m m' : List Value} {e : TypeId} {z : Nat × Nat} {v : Value} {B : List Assn} {T : TypeId} {x y : Operand} {ty : TypeId} {pos : String} {aft : Array Edge} {g : Option (Nat × Bool)} (hR : RegOK l NQ) (hf : front l S = [i])
    (ho : l[i]? = some ⟨none, .store T x y, ty, pos, aft, g⟩) (hi : memN i NQ = true) (hg : guardL l.toArray g L = some true) (hb : S.all (fun j => (((masks [] l)[i]?).getD 0).testBit j) = true)
    (hs : ∀ w, (sizeOf T).run P w = .ok 1 w) (ex : ev L x = some (.pointer (some ⟨b, off, none⟩))) (ey : ev L y = some v) (hv : oneC v = true)
    (h : (D ++ E)[j]? = some (pt b (.cells m.toArray e z))) (hl : setV off v m = some m') (hz : (decide (z.1 ≤ off) && decide (off < z.2)) = false) (hB : setA j (pt b (.cells m'.toArray e z)) (D ++ E) = some B)
    (k : RG P W0 N l NQ Q (i :: S) L B []) : RG P W0 N l NQ Q S L D E :=
  RG.bar i hR hf ho hi rfl hg hb (C.stl hs ex ey hv h hl hz hB) (by rintro _ _ ⟨rfl, rfl⟩; exact k)
end

theorem tt_dec {p : Prop} [Decidable p] (h : decide p = true) : p := of_decide_eq_true h
theorem ff_dec {p : Prop} [Decidable p] (h : decide p = false) : ¬ p := of_decide_eq_false h
theorem tt_not {p : Prop} [Decidable p] (h : (!decide p) = true) : ¬ p := by simpa using h
theorem ff_not {p : Prop} [Decidable p] (h : (!decide p) = false) : p := by simpa using h

/-! ### The ways through a piece of code meet again -/
/-- What the first piece must come to. -/
def CutQ {ι : Type} (W0 : World) (N : Nat) (I : ι → Prop) (Ls : ι → Slots) (As : ι → List Assn) (Q : Exit → Act → World → Prop) : Exit → Act → World → Prop
  | .normal, a, w => ∃ x, I x ∧ Fr N a (Ls x) ∧ Sat W0 w (As x)
  | e, a, w => Q e a w

section
variable {ι : Type} {P : Program} {W0 : World} {N : Nat} {I : ι → Prop} {Q : Exit → Act → World → Prop} {L : Slots} {A : List Assn} {x y : Code} {Ls : ι → Slots} {As : ι → List Assn}
theorem J.cut (I : ι → Prop) (Ls : ι → Slots) (As : ι → List Assn) (h1 : J W0 N L A (x.wp P (CutQ W0 N I Ls As Q))) (h2 : ∀ i, I i → J W0 N (Ls i) (As i) (y.wp P Q)) : J W0 N L A ((Code.seq x y).wp P Q) := by
  refine J.seq ⟨fun a w f s => ?_⟩
  refine Code.wp_mono ?_ (h1.run a w f s)
  intro e a w hq
  cases e with
  | normal => obtain ⟨i, hi, f, s⟩ := hq; exact (h2 i hi).run a w f s
  | _ => exact hq
theorem J.meet (i : ι) (hi : I i) (hL : Knows L (Ls i)) (hA : A = As i) : J W0 N L A (CutQ W0 N I Ls As Q .normal) := ⟨fun _ _ f s => ⟨i, hi, f.weaken hL, hA ▸ s⟩⟩
theorem J.cut_x {id : Nat} (h : J W0 N L A (Q (.exit id))) : J W0 N L A (CutQ W0 N I Ls As Q (.exit id)) := ⟨fun a w f s => h.run a w f s⟩
theorem J.cut_r (h : J W0 N L A (Q .ret)) : J W0 N L A (CutQ W0 N I Ls As Q .ret) := ⟨fun a w f s => h.run a w f s⟩
end
end Go.X
