/-
  The judgements: what is known of the frame's slots and of memory makes a piece of code come to what is wanted; the rules for control, calls and returns. No program in sight.
-/
import Derived.Test.YtdancegklkifaaaXa
namespace Go.X
set_option linter.unusedSectionVars false
set_option linter.unusedSimpArgs false
set_option linter.unusedVariables false

/-- From whatever frame with these slots and whatever memory with these assertions, G. -/
structure J (W0 : World) (N : Nat) (L : Slots) (A : List Assn) (G : Act → World → Prop) : Prop where
  run : ∀ a w, Fr N a L → Sat W0 w A → G a w

section generic
variable {W0 : World} {N : Nat} {L M : Slots} {A B C : List Assn} {G G' : Act → World → Prop}

theorem J.mono (h : J W0 N L A G) (f : ∀ a w, G a w → G' a w) : J W0 N L A G' := ⟨fun a w x y => f a w (h.run a w x y)⟩
theorem J.sub (M : Slots) (k : Knows L M) (h : J W0 N M A G) : J W0 N L A G := ⟨fun a w x y => h.run a w (x.weaken k) y⟩
theorem J.imp (f : ∀ h, HSat h A → HSat h B) (h : J W0 N L B G) : J W0 N L A G := ⟨fun a w x y => h.run a w x (y.imp f)⟩
theorem J.perm (p : A.Perm B) (h : J W0 N L B G) : J W0 N L A G := ⟨fun a w x y => h.run a w x (y.perm p)⟩
/-- The named places come first, the others behind them. -/
theorem J.pick (is : List Nat) {B C : List Assn} (e : pick is A = some (B, C)) (h : J W0 N L (B ++ C) G) : J W0 N L A G := h.perm (pick_perm e)
/-- The named places alone, in that order. -/
theorem J.keep (is : List Nat) {B C : List Assn} (e : X.pick is A = some (B, C)) (h : J W0 N L B G) : J W0 N L A G :=
  ⟨fun a w x y => h.run a w x (y.imp fun k s => by
    obtain ⟨h1, h2, p, q, d, u, v⟩ := (s.perm (pick_perm e)).append
    exact p.mono u)⟩
/-- A slot that holds a truth value: both ways. -/
theorem J.cases (s : Nat) {b : Bool} (e : find s L = some (.bool b)) (ht : b = true → J W0 N ((s, .bool true) :: L) A G) (hf : b = false → J W0 N ((s, .bool false) :: L) A G) : J W0 N L A G := by
  have key : ∀ c : Bool, b = c → J W0 N ((s, .bool c) :: L) A G → J W0 N L A G := by
    intro c hc h
    subst hc
    refine ⟨fun a w x y => h.run a w ⟨x.size, ?_, x.defers⟩ y⟩
    intro t u eu
    simp only [find] at eu
    cases hb : Nat.beq t s with
    | true => rw [hb] at eu; simp at eu; rw [beq_iff] at hb; subst hb; subst eu; exact x.get _ _ e
    | false => rw [hb] at eu; simp at eu; exact x.get _ _ eu
  cases hb : b with
  | true => exact key true hb (ht hb)
  | false => exact key false hb (hf hb)
/-- A slot's value is another that equals it. -/
theorem J.slot (s : Nat) (v : Value) {u : Value} (e : find s L = some u) (huv : u = v) (h : J W0 N ((s, v) :: L) A G) : J W0 N L A G := by
  subst huv
  refine ⟨fun a w x y => h.run a w ⟨x.size, ?_, x.defers⟩ y⟩
  intro t u' eu
  simp only [find] at eu
  cases hb : Nat.beq t s with
  | true => rw [hb] at eu; simp at eu; rw [beq_iff] at hb; subst hb; subst eu; exact x.get _ _ e
  | false => rw [hb] at eu; simp at eu; exact x.get _ _ eu

/-- What memory tells. -/
theorem J.know {p : Prop} (f : ∀ h, HSat h A → p) (h : p → J W0 N L A G) : J W0 N L A G := ⟨fun a w x y => (h (f _ y.heap)).run a w x y⟩

/-- An assertion is opened: the one at place i. -/
theorem J.open_ {α : Type} (i : Nat) {B : Assn} {Bs : α → List Assn} {p : α → Prop} {C D : List Assn} (e : X.pick [i] A = some (C, D)) (eC : C = [B]) (f : ∀ h, B h → ∃ x, p x ∧ HSat h (Bs x)) (h : ∀ x, p x → J W0 N L (Bs x ++ D) G) : J W0 N L A G := by
  subst eC
  refine ⟨fun a w u s => ?_⟩
  obtain ⟨h1, h2, hb, hd, d, s1, s2⟩ := s.heap.perm (pick_perm e)
  obtain ⟨x, px, hx⟩ := f h1 hb
  exact (h x px).run a w u ⟨s.os, s.tape, s.out, HSat.of_append hx hd d s1 s2⟩

/-- Assertions are shut into one: those at the places. -/
theorem J.shut (is : List Nat) (B : Assn) {C D : List Assn} (e : X.pick is A = some (C, D)) (f : ∀ h, HSat h C → B h) (h : J W0 N L (B :: D) G) : J W0 N L A G :=
  h.imp fun k s => by
    obtain ⟨h1, h2, p, q, d, u, v⟩ := (s.perm (pick_perm e)).append
    exact ⟨h1, h2, f _ p, q, d, u, v⟩
end generic

/-! ### Operations -/

def Agree (a : Act) (L : Slots) (op : Op) : Prop := ∀ x, x ∈ op.operands.toList → ∀ u, ev L x = some u → a.eval x = u

theorem Fr.agree {N : Nat} {a : Act} {L : Slots} (f : Fr N a L) (op : Op) : Agree a L op := fun _ _ _ e => f.eval e

/-- An operation that leaves memory as it was: its value. -/
structure OpQ (P : Program) (op : Op) (ty : TypeId) (L : Slots) (D : List Assn) (v : Value) : Prop where
  run : ∀ (dst : Option Tmp) (pos : String) (aft : Array Edge) (g : Option (Nat × Bool)) (a : Act) (W0 w : World) (F : List Assn), Agree a L op → Sat W0 w (D ++ F) →
    ∃ w', (execOp a.eval ⟨dst, op, ty, pos, aft, g⟩).run P w = .ok (.value v) w' ∧ Sat W0 w' (D ++ F)

/-- An operation, with what it may come to. -/
structure OpC (P : Program) (op : Op) (ty : TypeId) (L : Slots) (A : List Assn) (R : Value → List Assn → Prop) : Prop where
  wp : ∀ (dst : Option Tmp) (pos : String) (aft : Array Edge) (g : Option (Nat × Bool)) (a : Act) (W0 w : World), Agree a L op → Sat W0 w A →
    ∀ (K : Act → World → Prop) (Q : Exit → Act → World → Prop), (∀ v A' w', R v A' → Sat W0 w' A' → K (a.put dst v) w') → Oper.wp P ⟨dst, op, ty, pos, aft, g⟩ a w K Q

theorem OpQ.toC {P : Program} {op : Op} {ty : TypeId} {L : Slots} {A : List Assn} {v : Value} (h : OpQ P op ty L A v) : OpC P op ty L A (fun u B => u = v ∧ B = A) := by
  refine ⟨fun dst pos aft g a W0 w ag s K Q k => ?_⟩
  obtain ⟨w', e, s'⟩ := h.run dst pos aft g a W0 w [] ag (by simpa using s)
  unfold Oper.wp
  rw [e, Oper.upon_value]
  exact k v A w' ⟨rfl, rfl⟩ (by simpa using s')

def guardL (ops : Array Oper) (g : Option (Nat × Bool)) (L : Slots) : Option Bool :=
  match g with
  | none => some true
  | some (j, want) =>
    match (ops[j]?).bind (·.dst) with
    | some d =>
      match find d L with
      | some (.bool b) => some (b == want)
      | some _ => some false
      | none => none
    | none => none

theorem guardL_wanted {N : Nat} {ops : Array Oper} {o : Oper} {L : Slots} {a : Act} {b : Bool} (f : Fr N a L) (e : guardL ops o.guard L = some b) : Region.wanted o (yielded ops a.tmps) = b := by
  unfold guardL at e
  unfold Region.wanted
  cases hg : o.guard with
  | none => rw [hg] at e; simpa using e
  | some p =>
    obtain ⟨j, want⟩ := p
    rw [hg] at e
    simp only at e ⊢
    unfold yielded
    cases hd : (ops[j]?).bind (·.dst) with
    | none => rw [hd] at e; cases e
    | some d =>
      rw [hd] at e
      simp only at e
      cases hf : find d L with
      | none => rw [hf] at e; cases e
      | some v =>
        rw [hf] at e
        have ht := f.get d v hf
        simp only [Option.bind_some, ht]
        cases v <;> simp at e ⊢ <;> first | exact e | (rw [← e]; cases want <;> rename_i q <;> cases q <;> rfl) | exact e.symm

section lists
variable {P : Program} {W0 : World} {N : Nat} {ops : Array Oper} {Q : Exit → Act → World → Prop} {L : Slots} {A : List Assn} {rest : List Oper}
variable {op : Op} {ty : TypeId} {pos : String} {aft : Array Edge} {g : Option (Nat × Bool)} {d : Nat} {v : Value}

theorem J.q (hg : guardL ops g L = some true) (hd : Nat.blt d N = true) (h : OpQ P op ty L A v) (k : J W0 N ((d, v) :: L) A (wpList P ops Q rest)) :
    J W0 N L A (wpList P ops Q (⟨some d, op, ty, pos, aft, g⟩ :: rest)) := by
  refine ⟨fun a w f s => ?_⟩
  have hw := guardL_wanted (o := ⟨some d, op, ty, pos, aft, g⟩) f hg
  unfold wpList
  rw [if_pos hw]
  refine Or.inl (h.toC.wp _ _ _ _ a W0 w (f.agree _) s _ _ ?_)
  rintro u B w' ⟨rfl, rfl⟩ s'
  exact k.run _ _ (f.put u hd) s'

theorem J.q0 (hg : guardL ops g L = some true) (h : OpQ P op ty L A v) (k : J W0 N L A (wpList P ops Q rest)) :
    J W0 N L A (wpList P ops Q (⟨none, op, ty, pos, aft, g⟩ :: rest)) := by
  refine ⟨fun a w f s => ?_⟩
  have hw := guardL_wanted (o := ⟨none, op, ty, pos, aft, g⟩) f hg
  unfold wpList
  rw [if_pos hw]
  refine Or.inl (h.toC.wp _ _ _ _ a W0 w (f.agree _) s _ _ ?_)
  rintro u B w' ⟨rfl, rfl⟩ s'
  exact k.run _ _ (f.put_none u) s'

theorem J.c {R : Value → List Assn → Prop} (hg : guardL ops g L = some true) (hd : Nat.blt d N = true) (h : OpC P op ty L A R) (k : ∀ v B, R v B → J W0 N ((d, v) :: L) B (wpList P ops Q rest)) :
    J W0 N L A (wpList P ops Q (⟨some d, op, ty, pos, aft, g⟩ :: rest)) := by
  refine ⟨fun a w f s => ?_⟩
  have hw := guardL_wanted (o := ⟨some d, op, ty, pos, aft, g⟩) f hg
  unfold wpList
  rw [if_pos hw]
  refine Or.inl (h.wp _ _ _ _ a W0 w (f.agree _) s _ _ ?_)
  intro u B w' r s'
  exact (k u B r).run _ _ (f.put u hd) s'

theorem J.c0 {R : Value → List Assn → Prop} (hg : guardL ops g L = some true) (h : OpC P op ty L A R) (k : ∀ v B, R v B → J W0 N L B (wpList P ops Q rest)) :
    J W0 N L A (wpList P ops Q (⟨none, op, ty, pos, aft, g⟩ :: rest)) := by
  refine ⟨fun a w f s => ?_⟩
  have hw := guardL_wanted (o := ⟨none, op, ty, pos, aft, g⟩) f hg
  unfold wpList
  rw [if_pos hw]
  refine Or.inl (h.wp _ _ _ _ a W0 w (f.agree _) s _ _ ?_)
  intro u B w' r s'
  exact (k u B r).run _ _ (f.put_none u) s'

/-- An operation whose guard says no. -/
theorem J.skip (hg : guardL ops g L = some false) (hd : Nat.blt d N = true) (k : J W0 N ((d, undef) :: L) A (wpList P ops Q rest)) :
    J W0 N L A (wpList P ops Q (⟨some d, op, ty, pos, aft, g⟩ :: rest)) := by
  refine ⟨fun a w f s => ?_⟩
  have hw := guardL_wanted (o := ⟨some d, op, ty, pos, aft, g⟩) f hg
  unfold wpList
  rw [if_neg (by rw [hw]; exact Bool.false_ne_true)]
  exact k.run _ _ (f.put _ hd) s

theorem J.skip0 (hg : guardL ops g L = some false) (k : J W0 N L A (wpList P ops Q rest)) :
    J W0 N L A (wpList P ops Q (⟨none, op, ty, pos, aft, g⟩ :: rest)) := by
  refine ⟨fun a w f s => ?_⟩
  have hw := guardL_wanted (o := ⟨none, op, ty, pos, aft, g⟩) f hg
  unfold wpList
  rw [if_neg (by rw [hw]; exact Bool.false_ne_true)]
  exact k.run _ _ (f.put_none _) s

theorem J.nil (k : J W0 N L A (Q .normal)) : J W0 N L A (wpList P ops Q []) := ⟨fun a w f s => k.run a w f s⟩
end lists

/-! ### Control -/
section control
variable {P : Program} {W0 : World} {N : Nat} {Q : Exit → Act → World → Prop} {L : Slots} {A : List Assn} {x y : Code}

theorem J.seq (h : J W0 N L A (x.wp P (Exit.then (y.wp P Q) Q))) : J W0 N L A ((Code.seq x y).wp P Q) := ⟨fun a w f s => wp_seq (h.run a w f s)⟩
theorem J.region {id : Nat} {l : List Oper} (h : J W0 N L A (wpList P l.toArray Q l)) : J W0 N L A ((Code.region id l.toArray false).wp P Q) := ⟨fun a w f s => wp_region_lit (h.run a w f s)⟩
theorem J.then_n (h : J W0 N L A (y.wp P Q)) : J W0 N L A (Exit.then (y.wp P Q) Q .normal) := ⟨fun a w f s => h.run a w f s⟩
theorem J.then_r {K : Act → World → Prop} (h : J W0 N L A (Q .ret)) : J W0 N L A (Exit.then K Q .ret) := ⟨fun a w f s => h.run a w f s⟩
theorem J.then_x {K : Act → World → Prop} {id : Nat} (h : J W0 N L A (Q (.exit id))) : J W0 N L A (Exit.then K Q (.exit id)) := ⟨fun a w f s => h.run a w f s⟩
theorem J.cond {c : Operand} {t : Bool} (e : ev L c = some (.bool t)) (ht : t = true → J W0 N L A (x.wp P Q)) (hf : t = false → J W0 N L A (y.wp P Q)) : J W0 N L A ((Code.cond c x y).wp P Q) :=
  ⟨fun a w f s => wp_cond_split (f.eval e) (fun h => (ht h).run a w f s) (fun h => (hf h).run a w f s)⟩
theorem J.cond_t {c : Operand} (e : ev L c = some (.bool true)) (h : J W0 N L A (x.wp P Q)) : J W0 N L A ((Code.cond c x y).wp P Q) := ⟨fun a w f s => wp_cond_true (f.eval e) (h.run a w f s)⟩
theorem J.cond_f {c : Operand} (e : ev L c = some (.bool false)) (h : J W0 N L A (y.wp P Q)) : J W0 N L A ((Code.cond c x y).wp P Q) := ⟨fun a w f s => wp_cond_false (f.eval e) (h.run a w f s)⟩
theorem J.block {id : Nat} (h : J W0 N L A (x.wp P (Exit.inBlock id Q))) : J W0 N L A ((Code.block id x).wp P Q) := ⟨fun a w f s => wp_block (h.run a w f s)⟩
theorem J.blk_n {id : Nat} (h : J W0 N L A (Q .normal)) : J W0 N L A (Exit.inBlock id Q .normal) := ⟨fun a w f s => h.run a w f s⟩
theorem J.blk_x {id : Nat} (h : J W0 N L A (Q .normal)) : J W0 N L A (Exit.inBlock id Q (.exit id)) := ⟨fun a w f s => by simp only [Exit.inBlock, if_true]; exact h.run a w f s⟩
theorem J.blk_o {id id' : Nat} (e : Nat.beq id' id = false) (h : J W0 N L A (Q (.exit id'))) : J W0 N L A (Exit.inBlock id Q (.exit id')) := by
  refine ⟨fun a w f s => ?_⟩
  have : id' ≠ id := by rintro rfl; rw [Nat.beq_refl] at e; cases e
  simp only [Exit.inBlock, if_neg this]
  exact h.run a w f s
theorem J.blk_r {id : Nat} (h : J W0 N L A (Q .ret)) : J W0 N L A (Exit.inBlock id Q .ret) := ⟨fun a w f s => h.run a w f s⟩
theorem J.cskip (h : J W0 N L A (Q .normal)) : J W0 N L A (Code.skip.wp P Q) := ⟨fun a w f s => wp_skip (h.run a w f s)⟩
theorem J.clabel {l : Nat} (h : J W0 N L A (Q .normal)) : J W0 N L A ((Code.label l).wp P Q) := ⟨fun a w f s => wp_label (h.run a w f s)⟩
theorem J.exit {id : Nat} (h : J W0 N L A (Q (.exit id))) : J W0 N L A ((Code.exit id).wp P Q) := ⟨fun a w f s => wp_exit (h.run a w f s)⟩
theorem J.cret (h : J W0 N L A (Q .ret)) : J W0 N L A (Code.ret.wp P Q) := ⟨fun a w f s => wp_ret (h.run a w f s)⟩
theorem J.scope (h : J W0 N L A (x.wp P (Exit.noGoto Q))) : J W0 N L A ((Code.scope x).wp P Q) := ⟨fun a w f s => wp_scope_straight (h.run a w f s)⟩
theorem J.scp_n (h : J W0 N L A (Q .normal)) : J W0 N L A (Exit.noGoto Q .normal) := ⟨fun a w f s => h.run a w f s⟩
theorem J.scp_r (h : J W0 N L A (Q .ret)) : J W0 N L A (Exit.noGoto Q .ret) := ⟨fun a w f s => h.run a w f s⟩
theorem J.scp_x {id : Nat} (h : J W0 N L A (Q (.exit id))) : J W0 N L A (Exit.noGoto Q (.exit id)) := ⟨fun a w f s => h.run a w f s⟩
end control

/-! ### Loops -/

theorem wp_loop' {ι : Type} {P : Program} {Q : Exit → Act → World → Prop} {c : Code} (I : ι → Act → World → Prop) (m : ι → Nat)
    (round : ∀ x a w, I x a w → c.wp P (fun e a' w' => match e with | .normal => ∃ y, m y < m x ∧ I y a' w' | e => Q e a' w') a w) :
    ∀ x a w, I x a w → (Code.loop c).wp P Q a w := by
  intro x0 a0 w0 h₀ b k cs
  have key : ∀ n x a w, m x = n → I x a w →
      ∃ e a' w', Q e a' w' ∧ Arrives P (lone (b.at a (.code c :: .inLoop c :: k)) cs w) b k cs e a' w' := by
    intro n
    induction n using Nat.strongRecOn with
    | _ n ih =>
      intro x a w hn hI
      obtain ⟨e, a₁, w₁, hq, harr⟩ := round x a w hI b (.inLoop c :: k) cs
      cases e with
      | normal =>
        obtain ⟨y, hlt, hI₁⟩ := hq
        obtain ⟨e₂, a₂, w₂, hq₂, harr₂⟩ := ih (m y) (hn ▸ hlt) y a₁ w₁ rfl hI₁
        exact ⟨e₂, a₂, w₂, hq₂, .of_steps (Steps.trans harr (.one step_inLoop)) harr₂⟩
      | exit id => exact ⟨_, a₁, w₁, hq, .pass (x := .inLoop c) rfl (fun _ _ => .inl (by simp)) harr⟩
      | goto l => exact ⟨_, a₁, w₁, hq, .pass (x := .inLoop c) rfl (fun _ _ => .inl (by simp)) harr⟩
      | ret => exact ⟨_, a₁, w₁, hq, .pass (x := .inLoop c) rfl (fun _ _ => .inl (by simp)) harr⟩
      | panic ch => exact ⟨_, a₁, w₁, hq, .pass (x := .inLoop c) rfl (fun _ _ => .inl (by simp)) harr⟩
      | outgrown => exact ⟨_, a₁, w₁, hq, .pass (x := .inLoop c) rfl (fun _ _ => .inl (by simp)) harr⟩
  obtain ⟨e, a', w', hq, harr⟩ := key _ x0 a0 w0 rfl h₀
  exact ⟨e, a', w', hq, .of_steps (.one step_loop) harr⟩

/-- What a round must come to. -/
def LoopQ {ι : Type} (W0 : World) (N : Nat) (I : ι → Prop) (m : ι → Nat) (Ls : ι → Slots) (As : ι → List Assn) (x : ι) (Q : Exit → Act → World → Prop) : Exit → Act → World → Prop
  | .normal, a, w => ∃ y, I y ∧ m y < m x ∧ Fr N a (Ls y) ∧ Sat W0 w (As y)
  | e, a, w => Q e a w

section loops
variable {ι : Type} {P : Program} {W0 : World} {N : Nat} {Q : Exit → Act → World → Prop} {L : Slots} {A : List Assn} {c : Code}
theorem J.loop (I : ι → Prop) (m : ι → Nat) (Ls : ι → Slots) (As : ι → List Assn) (x0 : ι) (h0 : I x0) (hL : Knows L (Ls x0)) (hA : A = As x0)
    (round : ∀ x, I x → J W0 N (Ls x) (As x) (c.wp P (LoopQ W0 N I m Ls As x Q))) : J W0 N L A ((Code.loop c).wp P Q) := by
  subst hA
  refine ⟨fun a w f s => wp_loop' (fun x a w => I x ∧ Fr N a (Ls x) ∧ Sat W0 w (As x)) m ?_ x0 a w ⟨h0, f.weaken hL, s⟩⟩
  rintro x a w ⟨hi, f, s⟩
  refine Code.wp_mono ?_ ((round x hi).run a w f s)
  intro e a w hq
  cases e with
  | normal => obtain ⟨y, a1, a2, a3, a4⟩ := hq; exact ⟨y, a2, a1, a3, a4⟩
  | _ => exact hq

variable {I : ι → Prop} {m : ι → Nat} {Ls : ι → Slots} {As : ι → List Assn} {x : ι}
theorem J.again (y : ι) (hi : I y) (hm : m y < m x) (hL : Knows L (Ls y)) (hA : A = As y) : J W0 N L A (LoopQ W0 N I m Ls As x Q .normal) :=
  ⟨fun _ _ f s => ⟨y, hi, hm, f.weaken hL, hA ▸ s⟩⟩
theorem J.lp_x {id : Nat} (h : J W0 N L A (Q (.exit id))) : J W0 N L A (LoopQ W0 N I m Ls As x Q (.exit id)) := ⟨fun a w f s => h.run a w f s⟩
theorem J.lp_r (h : J W0 N L A (Q .ret)) : J W0 N L A (LoopQ W0 N I m Ls As x Q .ret) := ⟨fun a w f s => h.run a w f s⟩
end loops

/-! ### Functions -/

def RetQ (W0 : World) (R : Value → List Assn → Prop) (F : Assn) (e : Ending) (w : World) : Prop := ∃ v A, e = .returned v ∧ R v A ∧ Sat W0 w (A ++ [F])

/-- The contract of a function: from memory with A (and whatever else) it returns some v with memory as R says (and whatever else there was). -/
structure FSpec (P : Program) (f : FuncId) (args : List Value) (A : List Assn) (R : Value → List Assn → Prop) : Prop where
  call : ∀ (W0 w : World) (F : Assn), Sat W0 w (A ++ [F]) → Calls P f args.toArray w (RetQ W0 R F)

def argSlots : Nat → List Value → Slots
  | _, [] => []
  | i, v :: l => (i, v) :: argSlots (i + 1) l

theorem find_argSlots : ∀ (l : List Value) (i s : Nat) (v : Value), find s (argSlots i l) = some v → i ≤ s ∧ l[s - i]? = some v
  | [], i, s, v, e => by simp [argSlots, find] at e
  | u :: l, i, s, v, e => by
    simp only [argSlots, find] at e
    cases hb : Nat.beq s i with
    | true => rw [hb] at e; simp at e; rw [beq_iff] at hb; subst hb; subst e; simp
    | false =>
      rw [hb] at e; simp at e
      obtain ⟨h1, h2⟩ := find_argSlots l (i + 1) s v e
      refine ⟨by omega, ?_⟩
      rw [show s - i = (s - (i + 1)) + 1 from by omega]
      simpa using h2

section funcs
variable {P : Program} {f : FuncId} {fn : Func} {c : Code} {N : Nat} {args : List Value} {A : List Assn} {R : Value → List Assn → Prop}

theorem FSpec.of (hf : P.funcs[f]? = some fn) (hb : fn.body = some c) (hn : fn.ntmps = N) (hl : Nat.ble args.length N = true)
    (h : ∀ (W0 : World) (F : Assn), J W0 N (argSlots 0 args) (A ++ [F]) (c.wp P (bodyPost P fn (RetQ W0 R F)))) : FSpec P f args A R := by
  refine ⟨fun W0 w F s => calls_of_wp hf hb ((h W0 F).run _ w ⟨?_, ?_, rfl⟩ s)⟩
  · have : args.length ≤ N := Nat.le_of_ble_eq_true hl
    simp [hn]; omega
  · intro t v e
    obtain ⟨_, h2⟩ := find_argSlots _ _ _ _ e
    simp only [Nat.sub_zero] at h2
    rw [Array.getElem?_append_left]
    · simpa using h2
    · rcases Nat.lt_or_ge t args.length with q | q
      · simpa using q
      · rw [List.getElem?_eq_none q] at h2; cases h2

theorem FSpec.mono {R' : Value → List Assn → Prop} (h : FSpec P f args A R) (hr : ∀ v B, R v B → R' v B) : FSpec P f args A R' :=
  ⟨fun W0 w F s => (h.call W0 w F s).mono fun _ _ ⟨v, B, e, r, t⟩ => ⟨v, B, e, hr _ _ r, t⟩⟩

/-- What a function does not speak of stays. -/
theorem FSpec.frame (h : FSpec P f args A R) (Fs : List Assn) : FSpec P f args (A ++ Fs) (fun v B => ∃ B1, R v B1 ∧ B = B1 ++ Fs) := by
  refine ⟨fun W0 w F s => (h.call W0 w (star (Fs ++ [F])) ?_).mono ?_⟩
  · rw [List.append_assoc] at s
    refine s.imp fun k t => ?_
    obtain ⟨h1, h2, p, q, d, u, v⟩ := t.append
    exact HSat.of_append p (As := A) (Bs := [star (Fs ++ [F])]) ⟨h2, fun _ => none, q, trivial, fun _ => Or.inr rfl, Sub.refl _, fun _ _ e => nomatch e⟩ d u v
  · rintro e w' ⟨v, B, rfl, r, t⟩
    refine ⟨v, B ++ Fs, rfl, ⟨B, r, rfl⟩, ?_⟩
    rw [List.append_assoc]
    refine t.imp fun k t => ?_
    obtain ⟨h1, h2, p, ⟨k1, k2, q, _, _, s1, _⟩, d, u, v⟩ := t.append
    exact HSat.of_append p (HSat.mono q s1) d u v

variable {W0 : World} {L : Slots} {F : Assn} {v : Value}

theorem J.ret1 {s : Nat} {B : List Assn} (hr : fn.results = #[.tmp s]) (hv : find s L = some v) (hR : R v B) (hA : A = B ++ [F]) : J W0 N L A (bodyPost P fn (RetQ W0 R F) .ret) := by
  refine ⟨fun a w f t => ?_⟩
  refine bodyPost_ret (results_tmp hr _ _ _) f.defers ⟨v, B, ?_, hR, hA ▸ t⟩
  rw [Array.getD_eq_getD_getElem?, f.get s v hv]; rfl

theorem J.ret2 {s t : Nat} {u : Value} {B : List Assn} (hr : fn.results = #[.tmp s, .tmp t]) (hv : find s L = some v) (hu : find t L = some u) (hR : R (.tuple #[v, u]) B) (hA : A = B ++ [F]) :
    J W0 N L A (bodyPost P fn (RetQ W0 R F) .ret) := by
  refine ⟨fun a w f x => ?_⟩
  refine bodyPost_ret (results_tmp2 hr _ _ _) f.defers ⟨.tuple #[v, u], B, ?_, hR, hA ▸ x⟩
  rw [Array.getD_eq_getD_getElem?, Array.getD_eq_getD_getElem?, f.get s v hv, f.get t u hu]; rfl

theorem J.ret0 {B : List Assn} (hr : fn.results = #[]) (hR : R (.tuple #[]) B) (hA : A = B ++ [F]) : J W0 N L A (bodyPost P fn (RetQ W0 R F) .ret) := by
  refine ⟨fun a w f x => ?_⟩
  exact bodyPost_ret (results_none hr _ _ _) f.defers ⟨.tuple #[], B, rfl, hR, hA ▸ x⟩

theorem J.end0 {B : List Assn} (hr : fn.results = #[]) (hR : R (.tuple #[]) B) (hA : A = B ++ [F]) : J W0 N L A (bodyPost P fn (RetQ W0 R F) .normal) := by
  refine ⟨fun a w f x => ?_⟩
  exact bodyPost_end (results_none hr _ _ _) f.defers ⟨.tuple #[], B, rfl, hR, hA ▸ x⟩
end funcs

/-! ### Calls -/

def evs (L : Slots) : List Operand → Option (List Value)
  | [] => some []
  | x :: l =>
    match ev L x with
    | some v =>
      match evs L l with
      | some vs => some (v :: vs)
      | none => none
    | none => none

theorem evs_map {a : Act} {L : Slots} : ∀ {l : List Operand} {vs : List Value}, (∀ x, x ∈ l → ∀ u, ev L x = some u → a.eval x = u) → evs L l = some vs → l.map a.eval = vs
  | [], vs, _, e => by simp [evs] at e; simp [e]
  | x :: l, vs, h, e => by
    simp only [evs] at e
    split at e
    · rename_i v hv
      split at e
      · rename_i us hu
        simp only [Option.some.injEq] at e
        subst e
        simp only [List.map_cons, h x (by simp) v hv]
        rw [evs_map (fun y hy => h y (by simp [hy])) hu]
      · cases e
    · cases e

section calls
variable {P : Program} {L : Slots} {A Ain F : List Assn} {R : Value → List Assn → Prop} {f : FuncId} {ty : TypeId} {argTypes : Array TypeId}

theorem OpC.ofEnter {op : Op} {args : List Value}
    (hrun : ∀ (dst : Option Tmp) (pos : String) (aft : Array Edge) (g : Option (Nat × Bool)) (a : Act) (w : World), Agree a L op → (execOp a.eval ⟨dst, op, ty, pos, aft, g⟩).run P w = .ok (.enter f args.toArray) w)
    (hs : FSpec P f args Ain R) (is : List Nat) (hp : X.pick is A = some (Ain, F)) : OpC P op ty L A (fun v B => ∃ B1, R v B1 ∧ B = B1 ++ F) := by
  refine ⟨fun dst pos aft g a W0 w ag s K Q k => ?_⟩
  unfold Oper.wp
  rw [hrun dst pos aft g a w ag, Oper.upon_enter]
  have s' : Sat W0 w (Ain ++ [star F]) := by
    refine (s.perm (pick_perm hp)).imp fun k t => ?_
    obtain ⟨h1, h2, p, q, d, u, v⟩ := t.append
    exact HSat.of_append p (Bs := [star F]) ⟨h2, fun _ => none, q, trivial, fun _ => Or.inr rfl, Sub.refl _, fun _ _ e => nomatch e⟩ d u v
  refine (hs.call W0 w (star F) s').mono ?_
  rintro e w' ⟨v, B, rfl, r, t⟩
  refine k v (B ++ F) w' ⟨B, r, rfl⟩ (t.imp fun k t => ?_)
  obtain ⟨h1, h2, p, ⟨k1, k2, q, _, _, s1, _⟩, d, u, v⟩ := t.append
  exact HSat.of_append p (HSat.mono q s1) d u v

/-- A call of a function by its name. -/
theorem OpC.call {xs : List Operand} {args : List Value} (hc : ∀ (args : Array Value) (w : World), (callFunc f args).run P w = .ok (.enter f args) w) (he : evs L xs = some args)
    (hs : FSpec P f args Ain R) (is : List Nat) (hp : X.pick is A = some (Ain, F)) :
    OpC P (.call { callee := .value (.func f), args := xs.toArray, argTypes }) ty L A (fun v B => ∃ B1, R v B1 ∧ B = B1 ++ F) := by
  refine OpC.ofEnter ?_ hs is hp
  intro dst pos aft g a w ag
  have hx : xs.map a.eval = args := evs_map (fun x hx => ag x (by simp [Op.operands, Call.operands, hx])) he
  have ha : (xs.toArray).map a.eval = args.toArray := by simp [hx]
  simp only [execOp, resolve, Deferred.ofValue, Act.eval, invoke, Sem.run_bind, Sem.run_pure, Result.andThen_ok, ha]
  simpa using hc args.toArray w

/-- A call of a function value. -/
theorem OpC.callv {t : Tmp} {xs : List Operand} {args first cap : List Value} (hc : ∀ (args : Array Value) (w : World), (callFunc f args).run P w = .ok (.enter f args) w)
    (hv : find t L = some (.func (.func f) first.toArray cap.toArray)) (he : evs L xs = some args)
    (hs : FSpec P f (first ++ args ++ cap) Ain R) (is : List Nat) (hp : X.pick is A = some (Ain, F)) :
    OpC P (.call { callee := .value (.tmp t), args := xs.toArray, argTypes }) ty L A (fun v B => ∃ B1, R v B1 ∧ B = B1 ++ F) := by
  refine OpC.ofEnter ?_ hs is hp
  intro dst pos aft g a w ag
  have hx : xs.map a.eval = args := evs_map (fun x hx => ag x (by simp [Op.operands, Call.operands, hx])) he
  have ha : (xs.toArray).map a.eval = args.toArray := by simp [hx]
  have hf : a.eval (.tmp t) = .func (.func f) first.toArray cap.toArray := ag _ (by simp [Op.operands, Call.operands]) _ hv
  simp only [execOp, resolve, hf, Deferred.ofValue, invoke, Sem.run_bind, Sem.run_pure, Result.andThen_ok, ha]
  simpa using hc (first ++ args ++ cap).toArray w
end calls

section callrules
variable {P : Program} {W0 : World} {N : Nat} {ops : Array Oper} {Q : Exit → Act → World → Prop} {L : Slots} {A Ain F : List Assn} {rest : List Oper}
variable {ty : TypeId} {pos : String} {aft : Array Edge} {g : Option (Nat × Bool)} {d : Nat} {argTypes : Array TypeId} {f : FuncId} {R : Value → List Assn → Prop}

theorem J.call {xs : List Operand} {args : List Value} (hc : ∀ (args : Array Value) (w : World), (callFunc f args).run P w = .ok (.enter f args) w) (hs : FSpec P f args Ain R) (is : List Nat)
    (hg : guardL ops g L = some true) (hd : Nat.blt d N = true) (he : evs L xs = some args) (hp : X.pick is A = some (Ain, F))
    (k : ∀ v B, R v B → J W0 N ((d, v) :: L) (B ++ F) (wpList P ops Q rest)) :
    J W0 N L A (wpList P ops Q (⟨some d, .call { callee := .value (.func f), args := xs.toArray, argTypes }, ty, pos, aft, g⟩ :: rest)) :=
  J.c hg hd (OpC.call hc he hs is hp) (by rintro v _ ⟨B, r, rfl⟩; exact k v B r)

theorem J.call0 {xs : List Operand} {args : List Value} (hc : ∀ (args : Array Value) (w : World), (callFunc f args).run P w = .ok (.enter f args) w) (hs : FSpec P f args Ain R) (is : List Nat)
    (hg : guardL ops g L = some true) (he : evs L xs = some args) (hp : X.pick is A = some (Ain, F))
    (k : ∀ v B, R v B → J W0 N L (B ++ F) (wpList P ops Q rest)) :
    J W0 N L A (wpList P ops Q (⟨none, .call { callee := .value (.func f), args := xs.toArray, argTypes }, ty, pos, aft, g⟩ :: rest)) :=
  J.c0 hg (OpC.call hc he hs is hp) (by rintro v _ ⟨B, r, rfl⟩; exact k v B r)

theorem J.callv {t : Tmp} {xs : List Operand} {args first cap : List Value} (hc : ∀ (args : Array Value) (w : World), (callFunc f args).run P w = .ok (.enter f args) w) (hs : FSpec P f (first ++ args ++ cap) Ain R) (is : List Nat)
    (hg : guardL ops g L = some true) (hd : Nat.blt d N = true) (hv : find t L = some (.func (.func f) first.toArray cap.toArray)) (he : evs L xs = some args) (hp : X.pick is A = some (Ain, F))
    (k : ∀ v B, R v B → J W0 N ((d, v) :: L) (B ++ F) (wpList P ops Q rest)) :
    J W0 N L A (wpList P ops Q (⟨some d, .call { callee := .value (.tmp t), args := xs.toArray, argTypes }, ty, pos, aft, g⟩ :: rest)) :=
  J.c hg hd (OpC.callv hc hv he hs is hp) (by rintro v _ ⟨B, r, rfl⟩; exact k v B r)
end callrules

end Go.X
