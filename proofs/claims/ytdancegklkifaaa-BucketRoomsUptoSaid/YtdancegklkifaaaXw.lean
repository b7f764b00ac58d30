/-
  Regions in which something is made beside calls; maps whose entries hold nothing but their values. No program in sight.
-/
import Derived.Test.YtdancegklkifaaaXv
namespace Go.X
set_option linter.unusedSectionVars false
set_option linter.unusedSimpArgs false
set_option linter.unusedVariables false

section
variable {P : Program} {W0 : World} {N : Nat} {l : List Oper} {NQ : List Nat} {Q : Exit → Act → World → Prop} {S : List Nat} {L : Slots} {D E A Ain F : List Assn}

theorem RG.permE {E' : List Assn} (p : E.Perm E') (k : RG P W0 N l NQ Q S L D E') : RG P W0 N l NQ Q S L D E :=
  ⟨fun m listed a w inv hm => k.run m listed a w ⟨inv.size, inv.tsz, inv.defs, inv.sat.perm (List.Perm.append_left D p), inv.sub, inv.closed, inv.scl, inv.slots, inv.pend⟩ hm⟩
/-- The first of those that nobody waits for comes last. -/
theorem RG.rot {X : Assn} (k : RG P W0 N l NQ Q S L D (E ++ [X])) : RG P W0 N l NQ Q S L D (X :: E) := RG.permE (List.perm_append_singleton X E).symm k

theorem Pend.frame {o : Oper} {v : Value} (Fs : List Assn) (h : Pend P l o L D v) : Pend P l o L (D ++ Fs) v := by
  rcases h with ⟨h1, h2⟩ | h
  · refine .inl ⟨h1, ⟨fun dst pos aft g a W0 w F ag s => ?_⟩⟩
    rw [List.append_assoc] at s ⊢
    exact h2.run dst pos aft g a W0 w (Fs ++ F) ag s
  · exact .inr h
/-- The first of those that nobody waits for may be waited for. -/
theorem RG.hold {X : Assn} (k : RG P W0 N l NQ Q S L (D ++ [X]) E) : RG P W0 N l NQ Q S L D (X :: E) :=
  ⟨fun m listed a w inv hm => k.run m listed a w ⟨inv.size, inv.tsz, inv.defs, by rw [List.append_assoc]; exact inv.sat, inv.sub, inv.closed, inv.scl, inv.slots, fun i hi hn => by
    obtain ⟨o, d, v, h1, h2, h3, h4, h5, h6⟩ := inv.pend i hi hn
    exact ⟨o, d, v, h1, h2, h3, h4, h5, h6.frame [X]⟩⟩ hm⟩

/-- A call of a function that may come next, while others may wait. -/
theorem RGi.callk {i d : Nat} {ty : TypeId} {pos : String} {aft : Array Edge} {g : Option (Nat × Bool)} {f : FuncId} {argTypes : Array TypeId} {R : Value → List Assn → Prop} {xs : List Operand} {args : List Value}
    (ho : l[i]? = some ⟨some d, .call { callee := .value (.func f), args := xs.toArray, argTypes }, ty, pos, aft, g⟩) (hi : memN i NQ = true) (hN : Nat.blt d N = true) (hg : guardL l.toArray g L = some true)
    (hc : ∀ (args : Array Value) (w : World), (callFunc f args).run P w = .ok (.enter f args) w) (hs : FSpec P f args Ain R) (is : List Nat) (he : evs L xs = some args) (hp : X.pick is (D ++ E) = some (Ain, F))
    (k : ∀ v B, R v B → ∃ E', (B ++ F).Perm (D ++ E') ∧ RG P W0 N l NQ Q (i :: S) ((d, v) :: L) D E') : RGi P W0 N l NQ Q S L D E i :=
  RGi.one ho hi hN hg (OpC.call hc he hs is hp) (by rintro v _ ⟨B, r, rfl⟩; exact k v B r)
theorem getElem?_appendE {j : Nat} {X : Assn} (h : E[j]? = some X) : (D ++ E)[D.length + j]? = some X := by
  rw [List.getElem?_append_right (by omega), Nat.add_sub_cancel_left]; exact h
theorem set_appendE {j : Nat} {X : Assn} : (D ++ E).set (D.length + j) X = D ++ E.set j X := by
  rw [List.set_append, if_neg (by omega), Nat.add_sub_cancel_left]

/-- A struct into a block that nobody waits for. -/
theorem RG.stAk (i : Nat) {j b : Nat} {T e : TypeId} {x y : Operand} {ty : TypeId} {pos : String} {aft : Array Edge} {g : Option (Nat × Bool)} {vs m : List Value} {E' : List Assn} (hR : RegOK l NQ) (hf : front l S = [i])
    (ho : l[i]? = some ⟨none, .store T x y, ty, pos, aft, g⟩) (hi : memN i NQ = true) (hg : guardL l.toArray g L = some true)
    (hs : ∀ w, (sizeOf T).run P w = .ok vs.length w) (ex : ev L x = some (.pointer (some ⟨b, 0, none⟩))) (ey : ev L y = some (.agg vs.toArray))
    (h : E[j]? = some (pt b (.cells m.toArray e (0, 0)))) (hl : Nat.beq m.length vs.length = true) (hv : vs.all oneC = true) (hB : setA j (pt b (.cells vs.toArray e (0, 0))) E = some E')
    (k : RG P W0 N l NQ Q (i :: S) L D E') : RG P W0 N l NQ Q S L D E := by
  have hl' : m.length = vs.length := (beq_iff _ _).1 hl
  have hop := C.stN (P := P) (L := L) (A := D ++ E) (i := D.length + j) (ty := ty) hs ex ey (fun v hm => by rw [List.all_eq_true] at hv; exact hv v hm) (getElem?_appendE h) (by omega) (by simp)
  rw [splice_eq _ _ _ (by omega), Nat.zero_add, ← hl', List.drop_length, List.take_zero, List.nil_append, List.append_nil, set_appendE, setA_eq hB] at hop
  refine RG.one i hR hf ho hi rfl hg hop ?_
  rintro _ _ ⟨rfl, rfl⟩
  exact ⟨E', List.Perm.refl _, k⟩
end

namespace G
variable {κ : Type} [DecidableEq κ]
/-- An entry that holds nothing but its value. -/
def plainRep (_ : κ) (v : Value) (val : Value) : Assn := fun _ => val = v

section
variable {P : Program} {L : Slots} {A D : List Assn} {ty : TypeId} {T K E : TypeId} {x y z : Operand} {enc : κ → Value} {lt : κ → κ → Bool} {r : Nat} {S : List (κ × Value)} {k : κ} {v : Value}

theorem plain_shut (o : Ord3 lt) (hS : Srtd lt S) : ∀ h, MapHole enc plainRep r S k v h → MapAt enc plainRep r (sput lt k v S) h := fun h hh =>
  MapHole.back (rep := plainRep) (v' := v) o hS h (HSat.two (h1 := fun _ => none) (show plainRep k v v (fun _ => none) from rfl) hh (fun _ => Or.inl rfl) (fun _ _ e => nomatch e) (Sub.refl _))

theorem Q.lkPlain {i : Nat} {zv : Value} (o : Ord3 lt) (hS : Srtd lt S) (hT : ∀ w, (underlying T).run P w = .ok (.map K E) w) (hk : Keyed P K enc) (hz : ∀ w, (zeroValue E).run P w = .ok zv w) (ex : ev L x = some (.map (some r))) (ey : ev L y = some (enc k))
    (hA : D[i]? = some (MapAt enc plainRep r S)) (hv : sget k S = some v) : OpQ P (.lookup T x y false) ty L D v := by
  refine OpQ.opened (α := Unit) (Bs := fun _ => [MapHole enc plainRep r S k v]) (p := fun _ => True) hA ?_ ?_ (fun _ _ => Q.lkYes (i := 0) hT hk hz ex ey rfl)
  · intro h hh
    obtain ⟨val, h1, h2, e, ⟨k1, k2, q, _, _, s1, _⟩, d, s, t⟩ := MapAt.focus hv h hh
    have e' : val = v := e
    subst e'
    exact ⟨(), trivial, HSat.mono (HSat.one q) (s1.trans t)⟩
  · rintro _ _ h ⟨k1, k2, q, _, _, s1, _⟩
    have h1 : HSat h [MapHole enc plainRep r S k v] := HSat.mono (HSat.one q) s1
    obtain ⟨j1, j2, a, b, c, e, f⟩ := h1
    have := plain_shut o hS j1 a
    rw [sput_same o hS hv] at this
    obtain ⟨x, p1, p2⟩ := this
    exact ⟨x, p1, p2.mono e⟩
end
end G
end Go.X
