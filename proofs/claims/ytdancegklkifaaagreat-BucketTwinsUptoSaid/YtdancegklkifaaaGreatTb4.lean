/-
  What the proof of the last of these texts leans on: part 4 of 7.
-/
import Derived.Test.YtdancegklkifaaaGreatRows
import Derived.KernelRfl
import Derived.RangeFuncRecord
import Derived.RangeFuncIn
import Derived.RangeFuncLeaves
import Derived.RangeFuncSeq
import Derived.TacticsIn
import Derived.Shelf.SortM.Plain
import Derived.Shelf.SortM.SortNone
import Derived.Ground.SlgmProg
import Derived.Sort.AssemblyPlain
import Derived.Test.YtdancegklkifaaaGreatTb3
namespace Go.X
set_option linter.unusedSectionVars false
set_option linter.unusedSimpArgs false
set_option linter.unusedVariables false

def fen (r : Option Nat) : Fence := { Fence.wide with round := r }
theorem callsIn_fen {r : Option Nat} {n : Nat} {P : Program} {f : FuncId} {args : Array Value} {w : World} {R : Ending → World → Prop} (h : Calls P f args w R) : CallsIn (fen r) n P f args w R :=
  ⟨trivial, fun cs _ => let ⟨e, w', fr, q, s, x⟩ := h cs; ⟨e, w', fr, q, comesIn_wide.2 s, x⟩⟩
theorem callsIn_fen_out {r : Option Nat} {n : Nat} {P : Program} {f : FuncId} {args : Array Value} {w : World} {R : Ending → World → Prop} (h : CallsIn (fen r) n P f args w R) : Calls P f args w R :=
  fun cs => let ⟨e, w', fr, q, s, x⟩ := h.2 cs (room_wide _); ⟨e, w', fr, q, comesIn_wide.1 s, x⟩
theorem rowsIn_fen {r : Option Nat} {n : Nat} {P : Program} {row : String} {args : Array Value} {w : World} {R : Value → World → Prop} (h : Rows P row args w R) : RowsIn (fen r) n P row args w R :=
  fun c cs _ => let ⟨v, w', q, s⟩ := h c cs; ⟨v, w', q, stepsIn_wide.2 s⟩
theorem roundIn_fen {r r' : Option Nat} {n m : Nat} {P : Program} {l : Nat} {f : FuncId} {tmps : Array Value} {assign body : Code} {w : World} {R : Ending → World → Prop}
    (h : RoundIn (fen r) n P l f tmps assign body w R) : RoundIn (fen r') m P l f tmps assign body w R :=
  ⟨trivial, fun c cs _ => h.2 c cs (room_wide _)⟩

theorem oper_in {r : Option Nat} {n : Nat} {P : Program} {o : Oper} {a : Act} {w : World} {K : Act → World → Prop} {Q : Exit → Act → World → Prop} (hd : ∀ c, o.op ≠ .defer c) (h : Oper.wp P o a w K Q) : Oper.wpIn (fen r) n P o a w K Q := by
  refine ⟨fun _ _ => trivial, ?_⟩
  rw [Oper.semAt_eq _ _ _ hd]
  unfold Oper.wp at h
  revert h
  cases (execOp a.eval o).run P w with
  | ok x w' =>
    cases x with
    | value v => exact id
    | skip => exact id
    | defer d => exact id
    | enter f args => exact fun h => ⟨fun h => (by cases h), callsIn_fen h⟩
    | row row args => exact fun h => ⟨fun h => (by cases h), rowsIn_fen h⟩
    | _ => exact fun h => h.elim
  | halt x w' =>
    cases x with
    | panic v => exact id
    | _ => exact fun h => h.elim

def LI (r : Option Nat) (P : Program) (ops : Array Oper) (Q : Exit → Act → World → Prop) (ds : List Deferred) (l : List Oper) : Act → World → Prop :=
  fun a w => wpListIn (fen r) 0 P ops Q l { a with defers := ds } w
def CI (r : Option Nat) (P : Program) (c : Code) (Q : Exit → Act → World → Prop) (ds : List Deferred) : Act → World → Prop :=
  fun a w => c.wpIn (fen r) 0 P Q { a with defers := ds } w
def EI (Q : Exit → Act → World → Prop) (ds : List Deferred) (e : Exit) : Act → World → Prop := fun a w => Q e { a with defers := ds } w

def YSpec (P : Program) (l : Nat) (args : List Value) (A : List Assn) (R : Value → List Assn → Prop) : Prop :=
  ∀ (W0 w : World) (F : Assn), Sat W0 w (A ++ [F]) → YieldAt (fen none) 0 P l args.toArray w (RetQ W0 R F)

section lists
variable {P : Program} {W0 : World} {N : Nat} {ops : Array Oper} {Q : Exit → Act → World → Prop} {L : Slots} {A Ain F : List Assn} {rest : List Oper} {r : Option Nat} {ds : List Deferred}
variable {op : Op} {ty : TypeId} {pos : String} {aft : Array Edge} {g : Option (Nat × Bool)} {d : Nat} {v : Value} {argTypes : Array TypeId}

theorem guardL_in {o : Oper} {a : Act} {b : Bool} (f : Fr N a L) (e : guardL ops o.guard L = some b) : Region.wanted o (yielded ops ({ a with defers := ds } : Act).tmps) = b := guardL_wanted (a := a) f e
theorem agree_in {a : Act} (f : Fr N a L) (op : Op) : Agree { a with defers := ds } L op := fun x _ u e => (f.eval (x := x) e : a.eval x = u)

theorem JI.c {R : Value → List Assn → Prop} (hg : guardL ops g L = some true) (hd : Nat.blt d N = true) (hop : ∀ c, op ≠ .defer c) (h : OpC P op ty L A R) (k : ∀ v B, R v B → J W0 N ((d, v) :: L) B (LI r P ops Q ds rest)) :
    J W0 N L A (LI r P ops Q ds (⟨some d, op, ty, pos, aft, g⟩ :: rest)) := by
  refine ⟨fun a w f s => ?_⟩
  unfold LI wpListIn
  rw [if_pos (guardL_in (o := ⟨some d, op, ty, pos, aft, g⟩) f hg)]
  refine oper_in hop (h.wp _ _ _ _ { a with defers := ds } W0 w (agree_in f _) s _ _ ?_)
  intro u B w' q s'
  exact (k u B q).run _ _ (f.put u hd) s'
theorem JI.c0 {R : Value → List Assn → Prop} (hg : guardL ops g L = some true) (hop : ∀ c, op ≠ .defer c) (h : OpC P op ty L A R) (k : ∀ v B, R v B → J W0 N L B (LI r P ops Q ds rest)) :
    J W0 N L A (LI r P ops Q ds (⟨none, op, ty, pos, aft, g⟩ :: rest)) := by
  refine ⟨fun a w f s => ?_⟩
  unfold LI wpListIn
  rw [if_pos (guardL_in (o := ⟨none, op, ty, pos, aft, g⟩) f hg)]
  refine oper_in hop (h.wp _ _ _ _ { a with defers := ds } W0 w (agree_in f _) s _ _ ?_)
  intro u B w' q s'
  exact (k u B q).run _ _ f s'
theorem JI.q (hg : guardL ops g L = some true) (hd : Nat.blt d N = true) (hop : ∀ c, op ≠ .defer c) (h : OpQ P op ty L A v) (k : J W0 N ((d, v) :: L) A (LI r P ops Q ds rest)) :
    J W0 N L A (LI r P ops Q ds (⟨some d, op, ty, pos, aft, g⟩ :: rest)) :=
  JI.c hg hd hop h.toC (by rintro u B ⟨rfl, rfl⟩; exact k)
theorem JI.nil (k : J W0 N L A (EI Q ds .normal)) : J W0 N L A (LI r P ops Q ds []) := ⟨fun a w f s => k.run a w f s⟩

theorem JI.yield {t l : Nat} {R : Value → List Assn → Prop} {xs : List Operand} {args : List Value} (hs : YSpec P l args Ain R) (is : List Nat) (hg : guardL ops g L = some true) (hd : Nat.blt d N = true)
    (hv : find t L = some (.func (.yield l) #[] #[])) (he : evs L xs = some args) (hp : X.pick is A = some (Ain, F)) (k : ∀ v B, R v B → J W0 N ((d, v) :: L) (B ++ F) (LI r P ops Q ds rest)) :
    J W0 N L A (LI r P ops Q ds (⟨some d, .call { callee := .value (.tmp t), args := xs.toArray, argTypes }, ty, pos, aft, g⟩ :: rest)) := by
  refine ⟨fun a w f s => ?_⟩
  unfold LI wpListIn
  rw [if_pos (guardL_in (o := ⟨some d, .call { callee := .value (.tmp t), args := xs.toArray, argTypes }, ty, pos, aft, g⟩) f hg)]
  refine ⟨fun _ _ => trivial, ?_⟩
  rw [Oper.semAt_eq _ _ _ (fun c e => by cases e)]
  have ag := agree_in (ds := ds) f (.call { callee := .value (.tmp t), args := xs.toArray, argTypes })
  have hx : xs.map ({ a with defers := ds } : Act).eval = args := evs_map (fun x hx => ag x (by simp [Op.operands, Call.operands, hx])) he
  have ha : (xs.toArray).map ({ a with defers := ds } : Act).eval = args.toArray := by simp [hx]
  have hf : ({ a with defers := ds } : Act).eval (.tmp t) = .func (.yield l) #[] #[] := ag _ (by simp [Op.operands, Call.operands]) _ hv
  have s' : Sat W0 w (Ain ++ [star F]) := by
    refine (s.perm (pick_perm hp)).imp fun k t => ?_
    obtain ⟨h1, h2, p, q, d, u, v⟩ := t.append
    exact HSat.of_append p (Bs := [star F]) ⟨h2, fun _ => none, q, trivial, fun _ => Or.inr rfl, Sub.refl _, fun _ _ e => nomatch e⟩ d u v
  obtain ⟨fn, tmps, assign, body, hy, hR⟩ := hs W0 w (star F) s'
  have hrun : (execOp ({ a with defers := ds } : Act).eval ⟨some d, .call { callee := .value (.tmp t), args := xs.toArray, argTypes }, ty, pos, aft, g⟩).run P w = .ok (.round l fn tmps assign body) w := by
    simp only [execOp, resolve, hf, Deferred.ofValue, invoke, Sem.run_bind, Sem.run_pure, Result.andThen_ok, ha]
    simpa using hy
  rw [hrun, Oper.uponIn_round]
  refine ⟨fun h => (by cases h), (roundIn_fen hR).mono ?_⟩
  rintro e w' ⟨v, B, rfl, q, t'⟩
  refine (k v B q).run _ _ (f.put v hd) (t'.imp fun k t => ?_)
  obtain ⟨h1, h2, p, ⟨k1, k2, q, _, _, s1, _⟩, d, u, v⟩ := t.append
  exact HSat.of_append p (HSat.mono q s1) d u v
end lists

section control
variable {P : Program} {W0 : World} {N : Nat} {Q : Exit → Act → World → Prop} {L : Slots} {A : List Assn} {x y : Code} {r : Option Nat} {ds : List Deferred}
theorem JI.region {id : Nat} {l : List Oper} (h : J W0 N L A (LI r P l.toArray Q ds l)) : J W0 N L A (CI r P (.region id l.toArray false) Q ds) := ⟨fun a w f s => wpIn_region_lit (h.run a w f s)⟩
theorem JI.block {id : Nat} (h : J W0 N L A (CI r P x (Exit.inBlock id Q) ds)) : J W0 N L A (CI r P (.block id x) Q ds) := ⟨fun a w f s => wpIn_block (h.run a w f s)⟩
theorem JI.blk_n {id : Nat} (h : J W0 N L A (EI Q ds .normal)) : J W0 N L A (EI (Exit.inBlock id Q) ds .normal) := ⟨fun a w f s => h.run a w f s⟩
theorem JI.seq (h : J W0 N L A (CI r P x (Exit.then (y.wpIn (fen r) 0 P Q) Q) ds)) : J W0 N L A (CI r P (.seq x y) Q ds) := ⟨fun a w f s => wpIn_seq (h.run a w f s)⟩
theorem JI.then_n (h : J W0 N L A (CI r P y Q ds)) : J W0 N L A (EI (Exit.then (y.wpIn (fen r) 0 P Q) Q) ds .normal) := ⟨fun a w f s => h.run a w f s⟩
theorem JI.ret (h : J W0 N L A (EI Q ds .ret)) : J W0 N L A (CI r P .ret Q ds) := ⟨fun a w f s => wpIn_ret (h.run a w f s)⟩
theorem J.regionY {id : Nat} {l : List Oper} (h : J W0 N L A (LI none P l.toArray Q [] l)) : J W0 N L A ((Code.region id l.toArray false).wp P Q) :=
  ⟨fun a w f s => (wpIn_wide (n := 0)).1 (wpIn_region_lit (by
    have := h.run a w f s
    have e : ({ a with defers := [] } : Act) = a := by rw [← f.defers]
    unfold LI at this
    rw [e] at this; exact this))⟩
theorem JI.out {e : Exit} (h : J W0 N L A (Q e)) : J W0 N L A (EI Q [] e) :=
  ⟨fun a w f s => by
    have := h.run a w f s
    have e : ({ a with defers := [] } : Act) = a := by rw [← f.defers]
    unfold EI; rw [e]; exact this⟩
end control

def lrec (fn : FuncId) (T : Array Value) (ps : List Tmp) (assign body : Code) (D : Nat) (st : LoopState) (pe : Option Code) : Obj :=
  .loop { state := st, pending := pe, fn, tmps := T, params := ps.toArray, assign, body, defers := D }

structure FrT (N : Nat) (T : Array Value) (L : Slots) : Prop where
  size : T.size = N
  get : ∀ s v, find s L = some v → T[s]? = some v

def zipS : List Tmp → List Value → Slots
  | p :: ps, v :: vs => zipS ps vs ++ [(p, v)]
  | _, _ => []
theorem FrT.puts_ : ∀ {ps : List Tmp} {vs : List Value} {N : Nat} {T : Array Value} {L : Slots}, FrT N T L → (∀ p, p ∈ ps → p < N) → FrT N ((ps.zip vs).foldl (fun t (q : Nat × Value) => t.setIfInBounds q.1 q.2) T) (zipS ps vs ++ L)
  | [], vs, N, T, L, h, _ => by simpa [zipS] using h
  | p :: ps, [], N, T, L, h, _ => by simpa [zipS] using h
  | p :: ps, v :: vs, N, T, L, h, hp => by
    have h1 : FrT N (T.setIfInBounds p v) ((p, v) :: L) := by
      refine ⟨by simp [h.size], fun s u e => ?_⟩
      simp only [find] at e
      rw [Array.getElem?_setIfInBounds]
      cases hb : Nat.beq s p with
      | true =>
        rw [hb] at e; simp at e
        rw [beq_iff] at hb; subst hb; subst e
        have := hp s (by simp)
        simp [h.size, this]
      | false =>
        rw [hb] at e; simp at e
        have hne : p ≠ s := by rintro rfl; rw [Nat.beq_refl] at hb; cases hb
        rw [if_neg hne]; exact h.get s u e
    have := FrT.puts_ (ps := ps) (vs := vs) h1 (fun q hq => hp q (by simp [hq]))
    simpa [zipS, List.append_assoc] using this
theorem FrT.puts {ps : List Tmp} {vs : List Value} {N : Nat} {T : Array Value} {L : Slots} (h : FrT N T L) (hp : ∀ p, p ∈ ps → p < N) : FrT N ((ps.toArray.zip vs.toArray).foldl (fun t (q : Nat × Value) => t.setIfInBounds q.1 q.2) T) (zipS ps vs ++ L) := by
  have := FrT.puts_ (vs := vs) h hp
  rw [← Array.foldl_toList]
  simpa using this

def BodyQ (W0 : World) (A : List Assn) : Exit → Act → World → Prop
  | .normal, _, w => Sat W0 w A
  | _, _, _ => False
def AsgQ (W0 : World) (N : Nat) (L : Slots) (A : List Assn) : Exit → Act → World → Prop
  | .normal, a, w => Fr N a L ∧ Sat W0 w A
  | _, _, _ => False
section ends
variable {W0 : World} {N : Nat} {L M : Slots} {A B : List Assn}
theorem JI.bodyEnd (e : A = B) : J W0 N L A (EI (BodyQ W0 B) [] .normal) := ⟨fun _ _ _ s => e ▸ s⟩
theorem JI.asgEnd (hL : Knows L M) (e : A = B) : J W0 N L A (EI (AsgQ W0 N M B) [] .normal) :=
  ⟨fun a _ f s => ⟨by have := f.weaken hL; exact ⟨this.size, this.get, rfl⟩, e ▸ s⟩⟩
end ends

theorem putObj_sat {W0 w : World} {l : Nat} {o p : Obj} {A : List Assn} (s : Sat W0 w (pt l o :: A)) : Sat W0 (w.putObj l p) (pt l p :: A) := by
  have h0 : hp w l = some o := by obtain ⟨k, hk, hs⟩ := s.heap.at_ (i := 0) rfl; exact hs l o hk
  refine ⟨s.os, s.tape, s.out, ?_⟩
  have e : hp (w.putObj l p) = upd (hp w) l p := hp_set w l p o h0
  rw [e]
  have := HSat.update (i := 0) (b := l) (o := p) (A := pt l o) (B := pt l p) s.heap rfl fun k hk => ⟨⟨o, hk⟩, by simp [pt, upd]⟩
  simpa using this

def ItSpec {α : Type} (P : Program) (gf : FuncId) (lb : List Value) (enc : α → List Value) (Ait : List Assn) (S : List α → Prop) (ok : List α → α → Prop) : Prop :=
  ∀ (l : Nat) (Inv : List α → Assn), (∀ pre x, ok pre x → YSpec P l (enc x) [Inv pre] (fun v B => v = .bool true ∧ B = [Inv (pre ++ [x])])) →
    FSpec P gf (.func (.yield l) #[] #[] :: lb) (Inv [] :: Ait) (fun _ B => ∃ xs, S xs ∧ B = Inv xs :: Ait)

section stmt
variable {P : Program} {W0 : World} {N : Nat} {Q : Exit → Act → World → Prop} {L : Slots} {A Ait C : List Assn}

theorem JI.rangeFunc {α : Type} {gt : Tmp} {ps : List Tmp} {assign body : Code} (gf : FuncId) (lb : List Value) (enc : α → List Value) (S : List α → Prop) (ok : List α → α → Prop) (Ib : List α → List Assn) (L1 : α → Slots)
    (hg : find gt L = some (.func (.func gf) #[] lb.toArray)) (eg : ∀ (args : Array Value) (w : World), (callFunc gf args).run P w = .ok (.enter gf args) w) (hit : ItSpec P gf lb enc Ait S ok)
    (hps : ∀ p, p ∈ ps → p < N) (hen : ∀ x, (enc x).length = ps.length) (is : List Nat) (hp : X.pick is A = some (Ib [] ++ Ait, C))
    (hassign : ∀ (l : Nat) (W0 : World) (F : Assn) pre x, ok pre x → J W0 N (zipS ps (enc x) ++ L) (Ib pre ++ [F]) (CI (some l) P assign (AsgQ W0 N (L1 x) (Ib pre ++ [F])) []))
    (hbody : ∀ (l : Nat) (W0 : World) (F : Assn) pre x, ok pre x → J W0 N (L1 x) (Ib pre ++ [F]) (CI (some l) P body (BodyQ W0 (Ib (pre ++ [x]) ++ [F])) []))
    (k : ∀ D xs, S xs → J W0 N L (pt D (.deferred (some [])) :: (Ib xs ++ Ait ++ C)) (EI Q [{ target := .collected D, args := #[] }] .normal)) :
    J W0 N L A (CI none P (.rangeFunc (.tmp gt) ps.toArray assign body) Q []) := by
  refine ⟨fun a w f s => ?_⟩
  unfold CI
  have ea : ({ a with defers := [] } : Act) = a := by rw [← f.defers]
  rw [ea]
  refine wpIn_rangeFunc ?_
  intro fn _
  obtain ⟨rec, hrec⟩ : ∃ rec : LoopState → Option Code → Obj, rec = lrec fn a.tmps ps assign body w.heap.size := ⟨_, rfl⟩
  have s0 := s.perm (pick_perm hp)
  have s1 : Sat W0 ((w.alloc (.deferred (some []))).alloc (rec .ready none)) (pt (w.heap.size + 1) (rec .ready none) :: pt w.heap.size (.deferred (some [])) :: (Ib [] ++ Ait ++ C)) := by
    have h1 := s0.new (.deferred (some []))
    have h2 := h1.new (rec .ready none)
    rw [show ({ w with heap := w.heap.push (.deferred (some [])) } : World).heap.size = w.heap.size + 1 from by simp] at h2
    exact h2
  obtain ⟨W1, hW1⟩ : ∃ W1, (w.alloc (.deferred (some []))).alloc (rec .ready none) = W1 := ⟨_, rfl⟩
  rw [hW1] at s1
  refine ⟨w.heap.size + 1, [{ target := .collected w.heap.size, args := #[] }], W1, { target := .fn (.func gf) lb.toArray, args := #[.func (.yield (w.heap.size + 1)) #[] #[]] }, W1, gf,
    #[.func (.yield (w.heap.size + 1)) #[] #[]] ++ lb.toArray, W1, ?_, ?_, fun _ _ => trivial, ?_, fun h => (by cases h), ?_⟩
  · rw [← hW1, hrec]; exact run_enterLoop_outer _ _ _ _ _
  · have : a.eval (.tmp gt) = .func (.func gf) #[] lb.toArray := f.eval (x := .tmp gt) hg
    simp only [resolve, this]
    simp [go_sem]
  · simp [invoke, go_sem, eg]
  · have hInv : ∀ pre x, ok pre x → YSpec P (w.heap.size + 1) (enc x) [star (pt (w.heap.size + 1) (rec .ready none) :: pt w.heap.size (.deferred (some [])) :: Ib pre)]
        (fun v B => v = .bool true ∧ B = [star (pt (w.heap.size + 1) (rec .ready none) :: pt w.heap.size (.deferred (some [])) :: Ib (pre ++ [x]))]) := by
      intro pre x hok W0' w' F' s
      have t : Sat W0' w' ((pt (w.heap.size + 1) (rec .ready none) :: pt w.heap.size (.deferred (some [])) :: Ib pre) ++ [F']) :=
        s.imp fun h hh => HSat.unpack (As := pt (w.heap.size + 1) (rec .ready none) :: pt w.heap.size (.deferred (some [])) :: Ib pre) (Bs := [F']) hh
      have hl := t.at_ (i := 0) rfl
      have hl' : w'.heap[w.heap.size + 1]? = some (lrec fn a.tmps ps assign body w.heap.size .ready none) := by rw [← hrec]; exact hl
      refine ⟨fn, _, assign, body, run_yield hl' (by simp [hen]), roundIn_of_wpIn trivial ?_⟩
      have fr0 : Fr N ⟨(ps.toArray.zip (enc x).toArray).foldl (fun t (q : Nat × Value) => t.setIfInBounds q.1 q.2) a.tmps, []⟩ (zipS ps (enc x) ++ L) := by
        have := FrT.puts (vs := enc x) (⟨f.size, f.get⟩ : FrT N a.tmps L) hps
        exact ⟨this.size, this.get, rfl⟩
      have t1 : ∀ (st : Obj) (X : List Assn) {w2 : World}, Sat W0' w2 ((pt (w.heap.size + 1) st :: pt w.heap.size (.deferred (some [])) :: X) ++ [F']) → Sat W0' w2 (X ++ [star [pt (w.heap.size + 1) st, pt w.heap.size (.deferred (some [])), F']]) := by
        intro st X w2 h
        have h2 : Sat W0' w2 ([pt (w.heap.size + 1) st, pt w.heap.size (.deferred (some [])), F'] ++ X) := h.perm (by
          simp only [List.cons_append, List.nil_append]
          exact ((List.perm_append_singleton F' X).cons _).cons _)
        exact (h2.imp fun h hh => HSat.pack hh).perm (List.perm_append_singleton _ X).symm
      have t2 : ∀ (st : Obj) (X : List Assn) {w2 : World}, Sat W0' w2 (X ++ [star [pt (w.heap.size + 1) st, pt w.heap.size (.deferred (some [])), F']]) → Sat W0' w2 ((pt (w.heap.size + 1) st :: pt w.heap.size (.deferred (some [])) :: X) ++ [F']) := by
        intro st X w2 h
        have h1 := (h.perm (List.perm_append_singleton _ X)).imp fun h hh => HSat.unpack hh
        exact h1.perm (by
          simp only [List.cons_append, List.nil_append]
          exact ((List.perm_append_singleton F' X).symm.cons _).cons _)
      refine wpIn_mono ((hassign (w.heap.size + 1) W0' _ pre x hok).run _ w' fr0 (t1 _ _ t)) ?_
      intro e a1 w1 hq
      cases e with
      | normal =>
        obtain ⟨fr1, s1⟩ := hq
        have s1' := t2 _ _ s1
        have hl1 := s1'.at_ (i := 0) rfl
        rw [hrec] at hl1
        refine ⟨_, run_beginRound hl1 rfl, ?_⟩
        have s2 := putObj_sat (p := lrec fn a.tmps ps assign body w.heap.size .busy none) s1'
        have ea1 : ({ a1 with defers := [] } : Act) = a1 := by rw [← fr1.defers]
        have hb := (hbody (w.heap.size + 1) W0' _ pre x hok).run a1 _ fr1 (t1 _ _ s2)
        unfold CI at hb
        rw [ea1] at hb
        refine wpIn_mono hb ?_
        intro e a3 w3 hq3
        cases e with
        | normal =>
          have s3 := t2 _ _ hq3
          have hl3 := s3.at_ (i := 0) rfl
          refine ⟨_, _, run_endRound none hl3, ?_⟩
          have s4 := putObj_sat (p := rec .ready none) s3
          rw [hrec] at s4 ⊢
          exact ⟨_, _, rfl, ⟨rfl, rfl⟩, s4.imp fun h hh => HSat.pack (As := pt (w.heap.size + 1) (lrec fn a.tmps ps assign body w.heap.size .ready none) :: pt w.heap.size (.deferred (some [])) :: Ib (pre ++ [x])) (Bs := [F']) hh⟩
        | _ => exact hq3.elim
      | _ => exact hq.elim
    have s2 : Sat W0 W1 ((star (pt (w.heap.size + 1) (rec .ready none) :: pt w.heap.size (.deferred (some [])) :: Ib []) :: Ait) ++ [star C]) := by
      have e1 : pt (w.heap.size + 1) (rec .ready none) :: pt w.heap.size (.deferred (some [])) :: (Ib [] ++ Ait ++ C) = (pt (w.heap.size + 1) (rec .ready none) :: pt w.heap.size (.deferred (some [])) :: Ib []) ++ (Ait ++ C) := by simp
      rw [e1] at s1
      have h1 := s1.imp fun h hh => HSat.pack hh
      have h2 : Sat W0 W1 (C ++ (star (pt (w.heap.size + 1) (rec .ready none) :: pt w.heap.size (.deferred (some [])) :: Ib []) :: Ait)) := h1.perm (by
        rw [← List.cons_append]; exact List.perm_append_comm)
      exact (h2.imp fun h hh => HSat.pack hh).perm (List.perm_append_singleton _ _).symm
    have hc := (hit (w.heap.size + 1) (fun pre => star (pt (w.heap.size + 1) (rec .ready none) :: pt w.heap.size (.deferred (some [])) :: Ib pre)) hInv).call W0 W1 (star C) s2
    rw [show (Value.func (.yield (w.heap.size + 1)) #[] #[] :: lb).toArray = #[Value.func (.yield (w.heap.size + 1)) #[] #[]] ++ lb.toArray from by simp] at hc
    refine callsIn_fen (hc.mono ?_)
    rintro e w' ⟨v, B, rfl, ⟨xs, hS, rfl⟩, t⟩
    have t1 := (t.perm (List.perm_append_singleton (star C) _)).imp fun h hh => HSat.unpack hh
    have t2 : Sat W0 w' (star (pt (w.heap.size + 1) (rec .ready none) :: pt w.heap.size (.deferred (some [])) :: Ib xs) :: (Ait ++ C)) := t1.perm (by
      rw [← List.cons_append]; exact List.perm_append_comm)
    have t3 := t2.imp fun h hh => HSat.unpack hh
    have hl := t3.at_ (i := 0) rfl
    rw [hrec] at hl
    refine ⟨none, _, run_endLoop hl (by simp), ?_⟩
    have t4 := putObj_sat (p := lrec fn a.tmps ps assign body w.heap.size .exhausted none) t3
    have hk := (k w.heap.size xs hS).run a _ f (t4.imp fun h hh => by
      have := HSat.tail hh
      simpa using this)
    unfold EI at hk
    have ed : ([{ target := .collected w.heap.size, args := #[] }] ++ a.defers : List Deferred) = [{ target := .collected w.heap.size, args := #[] }] := by rw [f.defers]; rfl
    rw [ed]
    exact hk
end stmt

section funcs
variable {P : Program} {f : FuncId} {fn : Func} {c : Code} {N : Nat} {args : List Value} {A B D : List Assn} {R : Value → List Assn → Prop} {W0 : World} {L : Slots} {F : Assn} {v : Value}
theorem FSpec.ofM (hf : P.funcs[f]? = some fn) (hb : fn.body = some c) (hn : fn.ntmps = N) (hl : Nat.ble args.length N = true)
    (h : ∀ (W0 : World) (F : Assn), J W0 N (argSlots 0 args) (A ++ [F]) (CI none P c (bodyPostM (fen none) 0 P fn (RetQ W0 R F)) [])) : FSpec P f args A R := by
  refine ⟨fun W0 w F s => callsIn_fen_out (r := none) (callsIn_of_wp_marks hf hb trivial ((h W0 F).run ⟨args.toArray ++ Array.replicate (fn.ntmps - args.toArray.size) undef, []⟩ w ⟨?_, ?_, rfl⟩ s) rfl)⟩
  · have : args.length ≤ N := Nat.le_of_ble_eq_true hl
    simp [hn]; omega
  · intro t v e
    obtain ⟨_, h2⟩ := find_argSlots _ _ _ _ e
    simp only [Nat.sub_zero] at h2
    rw [Array.getElem?_append_left]
    · simpa using h2
    · rcases Nat.lt_or_ge t args.length with q | q
      · simpa using q
      · rw [List.getElem?_eq_none q] at h2; cases h2

theorem JI.ret1 {s D0 : Nat} (hr : fn.results = #[.tmp s]) (hv : find s L = some v) (hR : R v B) (hA : A = pt D0 (.deferred (some [])) :: (B ++ [F])) :
    J W0 N L A (EI (bodyPostM (fen none) 0 P fn (RetQ W0 R F)) [{ target := .collected D0, args := #[] }] .ret) := by
  subst hA
  refine ⟨fun a w f t => ?_⟩
  have hd := t.at_ (i := 0) rfl
  refine ⟨by simp, .inl ⟨D0, _, rfl, run_takeDeferred hd, v, ?_, v, B, rfl, hR, ?_⟩⟩
  · rw [results_tmp hr]
    rw [Array.getD_eq_getD_getElem?, f.get s v hv]; rfl
  · exact (putObj_sat (p := .deferred none) t).imp fun h hh => HSat.tail hh
end funcs
section loops
variable {α β γ δ : Type} {P : Program} {W0 : World} {N : Nat} {Q : Exit → Act → World → Prop} {L : Slots} {A : List Assn} {c : Code}
theorem J.loop2 (I : α → β → Prop) (m : α → β → Nat) (Ls : α → β → Slots) (As : α → β → List Assn) (x0 : α) (y0 : β) (h0 : I x0 y0) (hL : Knows L (Ls x0 y0)) (hA : A = As x0 y0)
    (round : ∀ x y, I x y → J W0 N (Ls x y) (As x y) (c.wp P (LoopQ W0 N (fun z : α × β => I z.1 z.2) (fun z => m z.1 z.2) (fun z => Ls z.1 z.2) (fun z => As z.1 z.2) (x, y) Q))) : J W0 N L A ((Code.loop c).wp P Q) :=
  J.loop (fun z : α × β => I z.1 z.2) (fun z => m z.1 z.2) (fun z => Ls z.1 z.2) (fun z => As z.1 z.2) (x0, y0) h0 hL hA fun x h => round x.1 x.2 h
theorem J.loop3 (I : α → β → γ → Prop) (m : α → β → γ → Nat) (Ls : α → β → γ → Slots) (As : α → β → γ → List Assn) (x0 : α) (y0 : β) (z0 : γ) (h0 : I x0 y0 z0) (hL : Knows L (Ls x0 y0 z0)) (hA : A = As x0 y0 z0)
    (round : ∀ x y u, I x y u → J W0 N (Ls x y u) (As x y u) (c.wp P (LoopQ W0 N (fun z : α × β × γ => I z.1 z.2.1 z.2.2) (fun z => m z.1 z.2.1 z.2.2) (fun z => Ls z.1 z.2.1 z.2.2) (fun z => As z.1 z.2.1 z.2.2) (x, y, u) Q))) : J W0 N L A ((Code.loop c).wp P Q) :=
  J.loop (fun z : α × β × γ => I z.1 z.2.1 z.2.2) (fun z => m z.1 z.2.1 z.2.2) (fun z => Ls z.1 z.2.1 z.2.2) (fun z => As z.1 z.2.1 z.2.2) (x0, y0, z0) h0 hL hA fun x h => round x.1 x.2.1 x.2.2 h
theorem J.loop4 (I : α → β → γ → δ → Prop) (m : α → β → γ → δ → Nat) (Ls : α → β → γ → δ → Slots) (As : α → β → γ → δ → List Assn) (x0 : α) (y0 : β) (z0 : γ) (w0 : δ) (h0 : I x0 y0 z0 w0) (hL : Knows L (Ls x0 y0 z0 w0)) (hA : A = As x0 y0 z0 w0)
    (round : ∀ x y u v, I x y u v → J W0 N (Ls x y u v) (As x y u v) (c.wp P (LoopQ W0 N (fun z : α × β × γ × δ => I z.1 z.2.1 z.2.2.1 z.2.2.2) (fun z => m z.1 z.2.1 z.2.2.1 z.2.2.2) (fun z => Ls z.1 z.2.1 z.2.2.1 z.2.2.2) (fun z => As z.1 z.2.1 z.2.2.1 z.2.2.2) (x, y, u, v) Q))) : J W0 N L A ((Code.loop c).wp P Q) :=
  J.loop (fun z : α × β × γ × δ => I z.1 z.2.1 z.2.2.1 z.2.2.2) (fun z => m z.1 z.2.1 z.2.2.1 z.2.2.2) (fun z => Ls z.1 z.2.1 z.2.2.1 z.2.2.2) (fun z => As z.1 z.2.1 z.2.2.1 z.2.2.2) (x0, y0, z0, w0) h0 hL hA fun x h => round x.1 x.2.1 x.2.2.1 x.2.2.2 h
end loops
end Go.X
namespace Go.Proofs.YtdancegklkifaaaGreat
set_option linter.unusedSectionVars false
set_option linter.unusedSimpArgs false
set_option linter.unusedVariables false
open Go.X

def boxOwnS (b : Nat) (xs : List ByteArray) : Assn := fun h => ∃ z : Option Addr × Nat, HSat h [pt b (.cells [.slice z.1 xs.length z.2].toArray 35 (0, 0)), own 9 1 (.slice z.1 xs.length z.2) (xs.map Value.string)]

theorem appendSeqS (gf : FuncId) (lb : List Value) (G : Assn) (S : List ByteArray → Prop) (ok : List ByteArray → ByteArray → Prop) (eg : ∀ (args : Array Value) (w : World), (callFunc gf args).run Tryz.prog w = .ok (.enter gf args) w)
    (hit : ItSpec Tryz.prog gf lb (fun x : ByteArray => [Value.string x]) [G] S ok) (hok : ∀ pre x, ok pre x → pre.length < 1099511627776) :
    FSpec Tryz.prog 86 [.slice none 0 0, .func (.func gf) #[] lb.toArray] [G] (fun v B => ∃ (xs : List ByteArray) (p : Option Addr) (c : Nat), S xs ∧ v = .slice p xs.length c ∧ B = [own 9 1 (.slice p xs.length c) (xs.map Value.string), G]) := by
  refine FSpec.ofM Tryz.func86 rfl Tryz.ntmps86 rfl fun W0 F => ?_
  refine JI.seq ?_
  refine JI.region ?_
  refine JI.c rfl rfl (fun _ e => nomatch e) (C.box (l := [_]) rfl rfl) ?_
  rintro _ _ ⟨b2, rfl, rfl⟩
  refine J.norm rfl ?_
  refine JI.q rfl rfl (fun _ e => nomatch e) (Q.asg rfl) ?_
  refine JI.nil ?_
  refine JI.then_n ?_
  refine JI.seq ?_
  refine JI.seq ?_
  refine JI.region ?_
  refine JI.q rfl rfl (fun _ e => nomatch e) (Q.mv rfl) ?_
  refine JI.nil ?_
  refine JI.then_n ?_
  refine JI.block ?_
  refine J.give (own.nil 9 1 _) ?_
  refine J.shut [1, 0] (boxOwnS b2 []) rfl (fun h s => ⟨(none, 0), s⟩) ?_
  refine J.sub [(2, .pointer (some ⟨b2, 0, none⟩)), (6, .func (.func gf) #[] lb.toArray)] ⟨rfl, rfl, trivial⟩ ?_
  refine JI.rangeFunc gf lb (fun x : ByteArray => [Value.string x]) S ok (fun pre => [boxOwnS b2 pre]) (fun x => [(5, Value.string x), (2, .pointer (some ⟨b2, 0, none⟩))]) rfl eg hit (by decide) (fun _ => rfl) [0, 1] rfl ?_ ?_ ?_
  · intro l W1 F1 pre x _
    refine JI.region ?_
    refine JI.q rfl rfl (fun _ e => nomatch e) (Q.asg rfl) ?_
    refine JI.nil ?_
    exact JI.asgEnd ⟨rfl, rfl, trivial⟩ rfl
  · intro l W1 F1 pre x hk
    have hlen := hok pre x hk
    refine JI.block ?_
    refine JI.region ?_
    refine J.open_ 0 (p := fun _ => True) rfl rfl (fun h hh => by obtain ⟨z, hz⟩ := hh; exact ⟨z, trivial, hz⟩) fun z _ => ?_
    refine J.norm rfl ?_
    refine JI.q rfl rfl (fun _ e => nomatch e) (Q.ld Tryz.isAgg35 rfl (Reads.pt 0 rfl rfl)) ?_
    refine JI.q rfl rfl (fun _ e => nomatch e) (Q.mv rfl) ?_
    refine JI.c rfl rfl (fun _ e => nomatch e) (C.bslG (l := [_]) Tryz.runUnderlying35 Tryz.sizeOf9 Tryz.zeroValue9 (by decide) rfl rfl rfl rfl rfl) ?_
    rintro _ _ ⟨b10, rfl, rfl⟩
    refine J.norm rfl ?_
    refine JI.c rfl rfl (fun _ e => nomatch e) (C.app (i := 2) Tryz.runUnderlying35 Tryz.runUnderlying35 Tryz.typeInfo9 Tryz.sizeOf9 Tryz.zeroValue9 rfl rfl rfl (SlR.pt 0 rfl rfl (xs := [Value.string x]) (fun j u h => by rw [Nat.zero_add]; exact h)) (by intro v hv; obtain rfl := List.mem_singleton.1 hv; rfl) (by simp [Tryz.t9]; omega) (by decide)) ?_
    rintro _ _ ⟨p11, c11, rfl, rfl⟩
    refine J.norm rfl ?_
    refine JI.c0 rfl (fun _ e => nomatch e) (C.stl (i := 1) Tryz.sizeOf35 rfl rfl rfl rfl rfl rfl rfl) ?_
    rintro _ _ ⟨rfl, rfl⟩
    refine JI.nil ?_
    refine JI.blk_n ?_
    refine J.shut [1, 2] (boxOwnS b2 (pre ++ [x])) rfl (fun h s => ⟨(p11, c11), by simpa [List.length_append] using s⟩) ?_
    refine J.keep [0, 2] rfl ?_
    exact JI.bodyEnd rfl
  · intro D xs hS
    refine J.norm rfl ?_
    refine JI.blk_n ?_
    refine JI.then_n ?_
    refine JI.seq ?_
    refine JI.region ?_
    refine J.open_ 1 (p := fun _ => True) rfl rfl (fun h hh => by obtain ⟨z, hz⟩ := hh; exact ⟨z, trivial, hz⟩) fun z _ => ?_
    refine J.norm rfl ?_
    refine JI.q rfl rfl (fun _ e => nomatch e) (Q.ld Tryz.isAgg35 rfl (Reads.pt 0 rfl rfl)) ?_
    refine JI.q rfl rfl (fun _ e => nomatch e) (Q.asg rfl) ?_
    refine JI.nil ?_
    refine JI.then_n ?_
    refine JI.ret ?_
    refine J.keep [2, 1, 3, 4] rfl ?_
    exact JI.ret1 rfl rfl ⟨xs, z.1, z.2, hS, rfl, rfl⟩ rfl

theorem collectS (gf : FuncId) (lb : List Value) (G : Assn) (S : List ByteArray → Prop) (ok : List ByteArray → ByteArray → Prop) (eg : ∀ (args : Array Value) (w : World), (callFunc gf args).run Tryz.prog w = .ok (.enter gf args) w)
    (hit : ItSpec Tryz.prog gf lb (fun x : ByteArray => [Value.string x]) [G] S ok) (hok : ∀ pre x, ok pre x → pre.length < 1099511627776) :
    FSpec Tryz.prog 49 [.func (.func gf) #[] lb.toArray] [G] (fun v B => ∃ (xs : List ByteArray) (p : Option Addr) (c : Nat), S xs ∧ v = .slice p xs.length c ∧ B = [own 9 1 (.slice p xs.length c) (xs.map Value.string), G]) := by
 refine FSpec.of Tryz.func49 rfl Tryz.ntmps49 rfl fun W0 F => ?_
 refine J.seq ?_
 refine J.region ?_
 refine J.p rfl (Q.asg rfl) ?_
 refine J.nil ?_
 refine J.then_n ?_
 refine J.seq ?_
 refine J.region ?_
 refine J.m rfl ?_
 refine J.call Tryz.call86 (appendSeqS gf lb G S ok eg hit hok) [0] rfl rfl rfl rfl ?_
 rintro _ _ ⟨xs, p, c, hS, rfl, rfl⟩
 refine J.norm rfl ?_
 refine J.p rfl (Q.asg rfl) ?_
 refine J.nil ?_
 refine J.then_n ?_
 refine J.cret ?_
 refine J.ret1 (B := [_, G]) rfl rfl ⟨xs, p, c, hS, rfl, rfl⟩ rfl
end Go.Proofs.YtdancegklkifaaaGreat
namespace Go.Proofs
open Go.Shelf
def Tryz.sort50_ren : Go.Shelf.Ren := ⟨fun | 6 => 50 | 8 => 88 | 9 => 87 | 19 => 106 | 20 => 107 | 21 => 97 | 22 => 98 | 23 => 99 | 24 => 100 | 25 => 101 | 26 => 102 | 27 => 103 | 28 => 104 | 29 => 105 | 36 => 127 | 31 => 128 | 32 => 129 | 37 => 130 | 38 => 131 | 39 => 132 | 41 => 141 | n => n, fun | 27 => 35 | 29 => 9 | 3 => 3 | 32 => 110 | 26 => 35 | 0 => 0 | 44 => 146 | 46 => 23 | 4 => 4 | 36 => 140 | 35 => 139 | 41 => 119 | 5 => 5 | 9 => 9 | 53 => 160 | 57 => 164 | 63 => 170 | 64 => 171 | n => n, fun | n => n⟩
theorem Tryz.sort50 : Go.Proofs.SlLaysM.n6 Tryz.prog Tryz.sort50_ren := {
  mixed := by kernel_rfl
  f6 := ⟨Tryz.f50.name, by decide, Tryz.func50.trans (congrArg some (by kernel_rfl))⟩
  f8 := Tryz.func88.trans (congrArg some (by kernel_rfl))
  f9 := ⟨Tryz.f87.name, by decide, Tryz.func87.trans (congrArg some (by kernel_rfl))⟩
  f19 := Tryz.func106.trans (congrArg some (by kernel_rfl))
  f20 := Tryz.func107.trans (congrArg some (by kernel_rfl))
  f21 := ⟨Tryz.f97.name, by decide, Tryz.func97.trans (congrArg some (by kernel_rfl))⟩
  f22 := ⟨Tryz.f98.name, by decide, Tryz.func98.trans (congrArg some (by kernel_rfl))⟩
  f23 := ⟨Tryz.f99.name, by decide, Tryz.func99.trans (congrArg some (by kernel_rfl))⟩
  f24 := ⟨Tryz.f100.name, by decide, Tryz.func100.trans (congrArg some (by kernel_rfl))⟩
  f25 := ⟨Tryz.f101.name, by decide, Tryz.func101.trans (congrArg some (by kernel_rfl))⟩
  f26 := ⟨Tryz.f102.name, by decide, Tryz.func102.trans (congrArg some (by kernel_rfl))⟩
  f27 := ⟨Tryz.f103.name, by decide, Tryz.func103.trans (congrArg some (by kernel_rfl))⟩
  f28 := ⟨Tryz.f104.name, by decide, Tryz.func104.trans (congrArg some (by kernel_rfl))⟩
  f29 := ⟨Tryz.f105.name, by decide, Tryz.func105.trans (congrArg some (by kernel_rfl))⟩
  f31 := Tryz.func128.trans (congrArg some (by kernel_rfl))
  f32 := Tryz.func129.trans (congrArg some (by kernel_rfl))
  f36 := ⟨Tryz.f127.name, by decide, Tryz.func127.trans (congrArg some (by kernel_rfl))⟩
  f37 := ⟨Tryz.f130.name, by decide, Tryz.func130.trans (congrArg some (by kernel_rfl))⟩
  f38 := ⟨Tryz.f131.name, by decide, Tryz.func131.trans (congrArg some (by kernel_rfl))⟩
  f39 := ⟨Tryz.f132.name, by decide, Tryz.func132.trans (congrArg some (by kernel_rfl))⟩
  f41 := ⟨Tryz.f141.name, by decide, Tryz.func141.trans (congrArg some (by kernel_rfl))⟩
  t0 := Tryz.underlying0
  a0 := Tryz.isAgg0
  z0 := Tryz.sizeOf0
  v0 := Tryz.zeroValue0
  t3 := Tryz.underlying3
  a3 := Tryz.isAgg3
  z3 := Tryz.sizeOf3
  v3 := Tryz.zeroValue3
  t4 := Tryz.underlying4
  a4 := Tryz.isAgg4
  z4 := Tryz.sizeOf4
  v4 := Tryz.zeroValue4
  t5 := Tryz.underlying5
  a5 := Tryz.isAgg5
  z5 := Tryz.sizeOf5
  v5 := Tryz.zeroValue5
  t9 := Tryz.underlying9
  a9 := Tryz.isAgg9
  z9 := Tryz.sizeOf9
  v9 := Tryz.zeroValue9
  t26 := Tryz.underlying35
  a26 := Tryz.isAgg35
  z26 := Tryz.sizeOf35
  v26 := Tryz.zeroValue35
  t27 := Tryz.underlying35
  a27 := Tryz.isAgg35
  z27 := Tryz.sizeOf35
  v27 := Tryz.zeroValue35
  t29 := Tryz.underlying9
  a29 := Tryz.isAgg9
  z29 := Tryz.sizeOf9
  v29 := Tryz.zeroValue9
  t32 := Tryz.underlying110
  a32 := Tryz.isAgg110
  z32 := Tryz.sizeOf110
  v32 := Tryz.zeroValue110
  t35 := Tryz.underlying139
  a35 := Tryz.isAgg139
  z35 := Tryz.sizeOf139
  v35 := Tryz.zeroValue139
  t36 := Tryz.underlying140
  a36 := Tryz.isAgg140
  z36 := Tryz.sizeOf140
  v36 := Tryz.zeroValue140
  t41 := Tryz.underlying119
  a41 := Tryz.isAgg119
  z41 := Tryz.sizeOf119
  v41 := Tryz.zeroValue119
  t44 := Tryz.underlying146
  a44 := Tryz.isAgg146
  z44 := Tryz.sizeOf146
  v44 := Tryz.zeroValue146
  t46 := Tryz.underlying23
  a46 := Tryz.isAgg23
  z46 := Tryz.sizeOf23
  v46 := Tryz.zeroValue23
  t53 := Tryz.underlying160
  a53 := Tryz.isAgg160
  z53 := Tryz.sizeOf160
  v53 := Tryz.zeroValue160
  t57 := Tryz.underlying164
  a57 := Tryz.isAgg164
  z57 := Tryz.sizeOf164
  v57 := Tryz.zeroValue164
  t63 := Tryz.underlying170
  a63 := Tryz.isAgg170
  z63 := Tryz.sizeOf170
  v63 := Tryz.zeroValue170
  t64 := Tryz.underlying171
  a64 := Tryz.isAgg171
  z64 := Tryz.sizeOf171
  v64 := Tryz.zeroValue171 }
def Tryz.sort58_ren : Go.Shelf.Ren := ⟨fun | 5 => 58 | 8 => 88 | 7 => 93 | 19 => 106 | 20 => 107 | 10 => 117 | 11 => 118 | 12 => 119 | 13 => 120 | 14 => 121 | 15 => 122 | 16 => 123 | 17 => 124 | 18 => 125 | 30 => 137 | 31 => 128 | 32 => 129 | 33 => 138 | 34 => 139 | 35 => 140 | 40 => 143 | n => n, fun | 23 => 24 | 25 => 3 | 3 => 3 | 32 => 110 | 22 => 24 | 0 => 0 | 44 => 146 | 46 => 23 | 4 => 4 | 36 => 140 | 35 => 139 | 41 => 119 | 5 => 5 | 9 => 9 | 53 => 160 | 57 => 164 | 63 => 170 | 64 => 171 | n => n, fun | n => n⟩
theorem Tryz.sort58 : Go.Proofs.SlLaysM.n5 Tryz.prog Tryz.sort58_ren := {
  mixed := by kernel_rfl
  f5 := ⟨Tryz.f58.name, by decide, Tryz.func58.trans (congrArg some (by kernel_rfl))⟩
  f7 := ⟨Tryz.f93.name, by decide, Tryz.func93.trans (congrArg some (by kernel_rfl))⟩
  f8 := Tryz.func88.trans (congrArg some (by kernel_rfl))
  f10 := ⟨Tryz.f117.name, by decide, Tryz.func117.trans (congrArg some (by kernel_rfl))⟩
  f11 := ⟨Tryz.f118.name, by decide, Tryz.func118.trans (congrArg some (by kernel_rfl))⟩
  f12 := ⟨Tryz.f119.name, by decide, Tryz.func119.trans (congrArg some (by kernel_rfl))⟩
  f13 := ⟨Tryz.f120.name, by decide, Tryz.func120.trans (congrArg some (by kernel_rfl))⟩
  f14 := ⟨Tryz.f121.name, by decide, Tryz.func121.trans (congrArg some (by kernel_rfl))⟩
  f15 := ⟨Tryz.f122.name, by decide, Tryz.func122.trans (congrArg some (by kernel_rfl))⟩
  f16 := ⟨Tryz.f123.name, by decide, Tryz.func123.trans (congrArg some (by kernel_rfl))⟩
  f17 := ⟨Tryz.f124.name, by decide, Tryz.func124.trans (congrArg some (by kernel_rfl))⟩
  f18 := ⟨Tryz.f125.name, by decide, Tryz.func125.trans (congrArg some (by kernel_rfl))⟩
  f19 := Tryz.func106.trans (congrArg some (by kernel_rfl))
  f20 := Tryz.func107.trans (congrArg some (by kernel_rfl))
  f30 := ⟨Tryz.f137.name, by decide, Tryz.func137.trans (congrArg some (by kernel_rfl))⟩
  f31 := Tryz.func128.trans (congrArg some (by kernel_rfl))
  f32 := Tryz.func129.trans (congrArg some (by kernel_rfl))
  f33 := ⟨Tryz.f138.name, by decide, Tryz.func138.trans (congrArg some (by kernel_rfl))⟩
  f34 := ⟨Tryz.f139.name, by decide, Tryz.func139.trans (congrArg some (by kernel_rfl))⟩
  f35 := ⟨Tryz.f140.name, by decide, Tryz.func140.trans (congrArg some (by kernel_rfl))⟩
  f40 := ⟨Tryz.f143.name, by decide, Tryz.func143.trans (congrArg some (by kernel_rfl))⟩
  t0 := Tryz.underlying0
  a0 := Tryz.isAgg0
  z0 := Tryz.sizeOf0
  v0 := Tryz.zeroValue0
  t3 := Tryz.underlying3
  a3 := Tryz.isAgg3
  z3 := Tryz.sizeOf3
  v3 := Tryz.zeroValue3
  t4 := Tryz.underlying4
  a4 := Tryz.isAgg4
  z4 := Tryz.sizeOf4
  v4 := Tryz.zeroValue4
  t5 := Tryz.underlying5
  a5 := Tryz.isAgg5
  z5 := Tryz.sizeOf5
  v5 := Tryz.zeroValue5
  t9 := Tryz.underlying9
  a9 := Tryz.isAgg9
  z9 := Tryz.sizeOf9
  v9 := Tryz.zeroValue9
  t22 := Tryz.underlying24
  a22 := Tryz.isAgg24
  z22 := Tryz.sizeOf24
  v22 := Tryz.zeroValue24
  t23 := Tryz.underlying24
  a23 := Tryz.isAgg24
  z23 := Tryz.sizeOf24
  v23 := Tryz.zeroValue24
  t25 := Tryz.underlying3
  a25 := Tryz.isAgg3
  z25 := Tryz.sizeOf3
  v25 := Tryz.zeroValue3
  t32 := Tryz.underlying110
  a32 := Tryz.isAgg110
  z32 := Tryz.sizeOf110
  v32 := Tryz.zeroValue110
  t35 := Tryz.underlying139
  a35 := Tryz.isAgg139
  z35 := Tryz.sizeOf139
  v35 := Tryz.zeroValue139
  t36 := Tryz.underlying140
  a36 := Tryz.isAgg140
  z36 := Tryz.sizeOf140
  v36 := Tryz.zeroValue140
  t41 := Tryz.underlying119
  a41 := Tryz.isAgg119
  z41 := Tryz.sizeOf119
  v41 := Tryz.zeroValue119
  t44 := Tryz.underlying146
  a44 := Tryz.isAgg146
  z44 := Tryz.sizeOf146
  v44 := Tryz.zeroValue146
  t46 := Tryz.underlying23
  a46 := Tryz.isAgg23
  z46 := Tryz.sizeOf23
  v46 := Tryz.zeroValue23
  t53 := Tryz.underlying160
  a53 := Tryz.isAgg160
  z53 := Tryz.sizeOf160
  v53 := Tryz.zeroValue160
  t57 := Tryz.underlying164
  a57 := Tryz.isAgg164
  z57 := Tryz.sizeOf164
  v57 := Tryz.zeroValue164
  t63 := Tryz.underlying170
  a63 := Tryz.isAgg170
  z63 := Tryz.sizeOf170
  v63 := Tryz.zeroValue170
  t64 := Tryz.underlying171
  a64 := Tryz.isAgg171
  z64 := Tryz.sizeOf171
  v64 := Tryz.zeroValue171 }
end Go.Proofs
namespace Go.Proofs.YtdancegklkifaaaGreat
set_option linter.unusedSectionVars false
set_option linter.unusedSimpArgs false
set_option linter.unusedVariables false
open Go.X

def boxOwnI (b : Nat) (xs : List Int) : Assn := fun h => ∃ z : Option Addr × Nat, HSat h [pt b (.cells [.slice z.1 xs.length z.2].toArray 24 (0, 0)), own 3 1 (.slice z.1 xs.length z.2) (xs.map (Value.int .i64))]

theorem appendSeqI (gf : FuncId) (lb : List Value) (G : Assn) (S : List Int → Prop) (ok : List Int → Int → Prop) (eg : ∀ (args : Array Value) (w : World), (callFunc gf args).run Tryz.prog w = .ok (.enter gf args) w)
    (hit : ItSpec Tryz.prog gf lb (fun x : Int => [(Value.int .i64) x]) [G] S ok) (hok : ∀ pre x, ok pre x → pre.length < 1099511627776) :
    FSpec Tryz.prog 92 [.slice none 0 0, .func (.func gf) #[] lb.toArray] [G] (fun v B => ∃ (xs : List Int) (p : Option Addr) (c : Nat), S xs ∧ v = .slice p xs.length c ∧ B = [own 3 1 (.slice p xs.length c) (xs.map (Value.int .i64)), G]) := by
  refine FSpec.ofM Tryz.func92 rfl Tryz.ntmps92 rfl fun W0 F => ?_
  refine JI.seq ?_
  refine JI.region ?_
  refine JI.c rfl rfl (fun _ e => nomatch e) (C.box (l := [_]) rfl rfl) ?_
  rintro _ _ ⟨b2, rfl, rfl⟩
  refine J.norm rfl ?_
  refine JI.q rfl rfl (fun _ e => nomatch e) (Q.asg rfl) ?_
  refine JI.nil ?_
  refine JI.then_n ?_
  refine JI.seq ?_
  refine JI.seq ?_
  refine JI.region ?_
  refine JI.q rfl rfl (fun _ e => nomatch e) (Q.mv rfl) ?_
  refine JI.nil ?_
  refine JI.then_n ?_
  refine JI.block ?_
  refine J.give (own.nil 3 1 _) ?_
  refine J.shut [1, 0] (boxOwnI b2 []) rfl (fun h s => ⟨(none, 0), s⟩) ?_
  refine J.sub [(2, .pointer (some ⟨b2, 0, none⟩)), (6, .func (.func gf) #[] lb.toArray)] ⟨rfl, rfl, trivial⟩ ?_
  refine JI.rangeFunc gf lb (fun x : Int => [(Value.int .i64) x]) S ok (fun pre => [boxOwnI b2 pre]) (fun x => [(5, (Value.int .i64) x), (2, .pointer (some ⟨b2, 0, none⟩))]) rfl eg hit (by decide) (fun _ => rfl) [0, 1] rfl ?_ ?_ ?_
  · intro l W1 F1 pre x _
    refine JI.region ?_
    refine JI.q rfl rfl (fun _ e => nomatch e) (Q.asg rfl) ?_
    refine JI.nil ?_
    exact JI.asgEnd ⟨rfl, rfl, trivial⟩ rfl
  · intro l W1 F1 pre x hk
    have hlen := hok pre x hk
    refine JI.block ?_
    refine JI.region ?_
    refine J.open_ 0 (p := fun _ => True) rfl rfl (fun h hh => by obtain ⟨z, hz⟩ := hh; exact ⟨z, trivial, hz⟩) fun z _ => ?_
    refine J.norm rfl ?_
    refine JI.q rfl rfl (fun _ e => nomatch e) (Q.ld Tryz.isAgg24 rfl (Reads.pt 0 rfl rfl)) ?_
    refine JI.q rfl rfl (fun _ e => nomatch e) (Q.mv rfl) ?_
    refine JI.c rfl rfl (fun _ e => nomatch e) (C.bslG (l := [_]) Tryz.runUnderlying24 Tryz.sizeOf3 Tryz.zeroValue3 (by decide) rfl rfl rfl rfl rfl) ?_
    rintro _ _ ⟨b10, rfl, rfl⟩
    refine J.norm rfl ?_
    refine JI.c rfl rfl (fun _ e => nomatch e) (C.app (i := 2) Tryz.runUnderlying24 Tryz.runUnderlying24 Tryz.typeInfo3 Tryz.sizeOf3 Tryz.zeroValue3 rfl rfl rfl (SlR.pt 0 rfl rfl (xs := [(Value.int .i64) x]) (fun j u h => by rw [Nat.zero_add]; exact h)) (by intro v hv; obtain rfl := List.mem_singleton.1 hv; rfl) (by simp [Tryz.t3]; omega) (by decide)) ?_
    rintro _ _ ⟨p11, c11, rfl, rfl⟩
    refine J.norm rfl ?_
    refine JI.c0 rfl (fun _ e => nomatch e) (C.stl (i := 1) Tryz.sizeOf24 rfl rfl rfl rfl rfl rfl rfl) ?_
    rintro _ _ ⟨rfl, rfl⟩
    refine JI.nil ?_
    refine JI.blk_n ?_
    refine J.shut [1, 2] (boxOwnI b2 (pre ++ [x])) rfl (fun h s => ⟨(p11, c11), by simpa [List.length_append] using s⟩) ?_
    refine J.keep [0, 2] rfl ?_
    exact JI.bodyEnd rfl
  · intro D xs hS
    refine J.norm rfl ?_
    refine JI.blk_n ?_
    refine JI.then_n ?_
    refine JI.seq ?_
    refine JI.region ?_
    refine J.open_ 1 (p := fun _ => True) rfl rfl (fun h hh => by obtain ⟨z, hz⟩ := hh; exact ⟨z, trivial, hz⟩) fun z _ => ?_
    refine J.norm rfl ?_
    refine JI.q rfl rfl (fun _ e => nomatch e) (Q.ld Tryz.isAgg24 rfl (Reads.pt 0 rfl rfl)) ?_
    refine JI.q rfl rfl (fun _ e => nomatch e) (Q.asg rfl) ?_
    refine JI.nil ?_
    refine JI.then_n ?_
    refine JI.ret ?_
    refine J.keep [2, 1, 3, 4] rfl ?_
    exact JI.ret1 rfl rfl ⟨xs, z.1, z.2, hS, rfl, rfl⟩ rfl

theorem collectI (gf : FuncId) (lb : List Value) (G : Assn) (S : List Int → Prop) (ok : List Int → Int → Prop) (eg : ∀ (args : Array Value) (w : World), (callFunc gf args).run Tryz.prog w = .ok (.enter gf args) w)
    (hit : ItSpec Tryz.prog gf lb (fun x : Int => [(Value.int .i64) x]) [G] S ok) (hok : ∀ pre x, ok pre x → pre.length < 1099511627776) :
    FSpec Tryz.prog 57 [.func (.func gf) #[] lb.toArray] [G] (fun v B => ∃ (xs : List Int) (p : Option Addr) (c : Nat), S xs ∧ v = .slice p xs.length c ∧ B = [own 3 1 (.slice p xs.length c) (xs.map (Value.int .i64)), G]) := by
 refine FSpec.of Tryz.func57 rfl Tryz.ntmps57 rfl fun W0 F => ?_
 refine J.seq ?_
 refine J.region ?_
 refine J.p rfl (Q.asg rfl) ?_
 refine J.nil ?_
 refine J.then_n ?_
 refine J.seq ?_
 refine J.region ?_
 refine J.m rfl ?_
 refine J.call Tryz.call92 (appendSeqI gf lb G S ok eg hit hok) [0] rfl rfl rfl rfl ?_
 rintro _ _ ⟨xs, p, c, hS, rfl, rfl⟩
 refine J.norm rfl ?_
 refine J.p rfl (Q.asg rfl) ?_
 refine J.nil ?_
 refine J.then_n ?_
 refine J.cret ?_
 refine J.ret1 (B := [_, G]) rfl rfl ⟨xs, p, c, hS, rfl, rfl⟩ rfl
end Go.Proofs.YtdancegklkifaaaGreat
namespace Go.Proofs.YtdancegklkifaaaGreat
set_option linter.unusedSectionVars false
set_option linter.unusedSimpArgs false
set_option linter.unusedVariables false
open Go.X
open Go.Sort (Holds putRow putCells grow mapBlock onCells)

section
variable {α : Type} [Inhabited α] {enc : α → Value} {W0 w : World} {E b off n c : Nat} {zs zs' : List α} {F : List Assn}
theorem own_open (s : Sat W0 w (own E 1 (.slice (some ⟨b, off, none⟩) n c) (zs.map enc) :: F)) : ∃ o : Lies, o.ok 1 (.slice (some ⟨b, off, none⟩) n c) (zs.map enc) ∧ o.b = b ∧ o.off = off ∧ Sat W0 w (pt b (.cells o.l.toArray E o.z) :: F) := by
  obtain ⟨h1, h2, a, q, d, x, y⟩ := s.heap
  rcases a with ⟨h, _⟩ | ⟨o, ho, hp⟩
  · cases h
  · have hv := ho.val
    simp only [Value.slice.injEq, Option.some.injEq, Addr.mk.injEq] at hv
    obtain ⟨⟨e1, e2, _⟩, _, _⟩ := hv
    exact ⟨o, ho, e1.symm, e2.symm, s.os, s.tape, s.out, h1, h2, e1 ▸ hp, q, d, x, y⟩
theorem own_holds (s : Sat W0 w (own E 1 (.slice (some ⟨b, off, none⟩) n c) (zs.map enc) :: F)) : Holds enc w b off zs.toArray ∧ b < w.heap.size := by
  obtain ⟨o, ho, rfl, rfl, t⟩ := own_open s
  have hb := t.at_ (i := 0) rfl
  refine ⟨fun j hj => ?_, (Array.getElem?_eq_some_iff.1 hb).1⟩
  have hj' : j < zs.length := by simpa using hj
  have hg := ho.get j (enc zs[j]!) (by simp [hj'])
  have hlt := (List.getElem?_eq_some_iff.1 hg).1
  refine ⟨?_, ?_⟩
  · simp only [World.cell?, hb]
    simpa [hj'] using hg
  · have := ho.free (o.off + j) hlt
    simp only [World.frozen?, hb]
    simpa using this
theorem own_putRow (s : Sat W0 w (own E 1 (.slice (some ⟨b, off, none⟩) n c) (zs.map enc) :: F)) (hl : zs'.length = zs.length) (m : Nat) (os : Array Obj) :
    Sat W0 (grow (putRow enc (Go.Sort.ahead w m) b off zs'.toArray) os) (own E 1 (.slice (some ⟨b, off, none⟩) n c) (zs'.map enc) :: F) := by
  obtain ⟨o, ho, rfl, rfl, t⟩ := own_open s
  have hb : hp w o.b = some (.cells o.l.toArray E o.z) := t.at_ (i := 0) rfl
  have hlen : zs.length = n := by have := ho.len; have hv := ho.val; simp only [Value.slice.injEq] at hv; rw [← hv.2.1] at this; simpa using this
  have e1 : hp (putRow enc (Go.Sort.ahead w m) o.b o.off zs'.toArray) = upd (hp w) o.b (.cells (putCells enc o.off zs'.toArray o.l.toArray) E o.z) := hp_modify w o.b (onCells (putCells enc o.off zs'.toArray)) _ hb
  have hsub : Sub (hp (putRow enc (Go.Sort.ahead w m) o.b o.off zs'.toArray)) (hp (grow (putRow enc (Go.Sort.ahead w m) o.b o.off zs'.toArray) os)) := by
    intro x p hx
    have hlt := (Array.getElem?_eq_some_iff.1 (show (putRow enc (Go.Sort.ahead w m) o.b o.off zs'.toArray).heap[x]? = some p from hx)).1
    show ((putRow enc (Go.Sort.ahead w m) o.b o.off zs'.toArray).heap ++ os)[x]? = some p
    rw [Array.getElem?_append_left hlt]; exact hx
  have hu : HSat (upd (hp w) o.b (.cells (putCells enc o.off zs'.toArray o.l.toArray) E o.z)) (pt o.b (.cells (putCells enc o.off zs'.toArray o.l.toArray) E o.z) :: F) := by
    have := HSat.update (i := 0) (b := o.b) (o := .cells (putCells enc o.off zs'.toArray o.l.toArray) E o.z) (A := pt o.b (.cells o.l.toArray E o.z)) (B := pt o.b (.cells (putCells enc o.off zs'.toArray o.l.toArray) E o.z)) t.heap rfl fun k hk => ⟨⟨_, hk⟩, by simp [pt, upd]⟩
    simpa using this
  refine ⟨t.os, t.tape, t.out, (HSat.mono ?_ (e1 ▸ hsub))⟩
  refine hu.imp fun h hh => .inr ⟨{ o with l := (putCells enc o.off zs'.toArray o.l.toArray).toList }, ⟨ho.val, ?_, ho.cap, ?_, ?_, ?_⟩, hh⟩
  · have := ho.len; simp only [List.length_map] at this ⊢; omega
  · have := ho.fits; simpa [putCells] using this
  · intro j u hj
    have hj' : j < zs'.length := by have := (List.getElem?_eq_some_iff.1 hj).1; simpa using this
    have hg := ho.get j (enc zs[j]!) (by simp [show j < zs.length by omega])
    have hlt := (List.getElem?_eq_some_iff.1 hg).1
    simp only [List.getElem?_map, List.getElem?_eq_getElem hj', Option.map_some, Option.some.injEq] at hj
    subst hj
    simp only [putCells, Array.getElem?_toList, Array.getElem?_mapIdx, List.getElem?_toArray, hg, Option.map_some, List.size_toArray]
    rw [if_pos (by omega)]
    simp [hj']
  · intro k hk
    exact ho.free k (by simpa [putCells] using hk)
end

def ordI (l : List Int) : List Int := l.mergeSort fun x y => decide (x ≤ y)
theorem ordI_perm {l m : List Int} (h : l.Perm m) : ordI l = ordI m := by
  unfold ordI
  have t1 : ∀ a b c : Int, decide (a ≤ b) = true → decide (b ≤ c) = true → decide (a ≤ c) = true := fun a b c h1 h2 => by simp at *; omega
  have t2 : ∀ a b : Int, (decide (a ≤ b) || decide (b ≤ a)) = true := fun a b => by simp; omega
  refine List.Perm.eq_of_pairwise (le := fun a b => decide (a ≤ b) = true) ?_ (List.pairwise_mergeSort t1 t2 l) (List.pairwise_mergeSort t1 t2 m) (((List.mergeSort_perm l _).trans h).trans (List.mergeSort_perm m _).symm)
  intro a b _ _ h1 h2
  simp at h1 h2; omega
def leBy (a b : ByteArray) : Bool := decide (a.data.toList ≤ b.data.toList)
def ordS (l : List ByteArray) : List ByteArray := l.mergeSort leBy
theorem ordS_map (l : List ByteArray) : (ordS l).map (·.data.toList) = (l.map (·.data.toList)).mergeSort fun x y => decide (x ≤ y) :=
  List.map_mergeSort fun a _ b _ => rfl
theorem bytes_inj {a b : ByteArray} (h : a.data.toList = b.data.toList) : a = b := by
  cases a; cases b; simp only [ByteArray.mk.injEq] at *; exact Array.toList_inj.1 h
theorem ordS_perm {l m : List ByteArray} (h : l.Perm m) : ordS l = ordS m := by
  unfold ordS
  have t1 : ∀ a b c : ByteArray, leBy a b = true → leBy b c = true → leBy a c = true := fun a b c h1 h2 => by
    simp only [leBy, decide_eq_true_eq] at *; exact List.le_trans h1 h2
  have t2 : ∀ a b : ByteArray, (leBy a b || leBy b a) = true := fun a b => by
    simp only [leBy, Bool.or_eq_true, decide_eq_true_eq]; exact List.le_total _ _
  refine List.Perm.eq_of_pairwise (le := fun a b => leBy a b = true) ?_ (List.pairwise_mergeSort t1 t2 l) (List.pairwise_mergeSort t1 t2 m) (((List.mergeSort_perm l _).trans h).trans (List.mergeSort_perm m _).symm)
  intro a b _ _ h1 h2
  simp only [leBy, decide_eq_true_eq] at h1 h2
  exact bytes_inj (List.le_antisymm h1 h2)
theorem ordS_enc (l : List ByteArray) : l.map Value.string = (l.map (·.data.toList)).map encStr := by
  rw [List.map_map]
  refine List.map_congr_left fun p _ => ?_
  show Value.string p = Value.string ⟨p.data.toList.toArray⟩
  rw [Array.toArray_toList]

theorem sortAnyI (p : Option Addr) (c : Nat) (l : List Int) (hs : l.length ≤ 1099511627776) :
    FSpec Tryz.prog 58 [.slice p l.length c] [own 3 1 (.slice p l.length c) (l.map (Value.int .i64))] (fun v B => v = .tuple #[] ∧ B = [own 3 1 (.slice p l.length c) ((ordI l).map (Value.int .i64))]) := by
  refine ⟨fun W0 w F s => ?_⟩
  obtain ⟨k, hk, _⟩ := s.heap.at_ (i := 0) rfl
  rcases hk with ⟨h1, h2⟩ | ⟨o, ho, _⟩
  · have hl : l = [] := by simpa using h2
    subst hl
    refine (AnyM.slices_Sort_int_none Tryz.sort58 p c w).mono ?_
    rintro e w' ⟨rfl, rfl⟩
    exact ⟨_, _, rfl, ⟨rfl, rfl⟩, by simpa [ordI] using s⟩
  · have hv := ho.val
    simp only [Value.slice.injEq] at hv
    obtain ⟨rfl, _, _⟩ := hv
    obtain ⟨q1, q2⟩ := own_holds (F := [F]) s
    refine (AnyM.slices_Sort_int Tryz.sort58 o.b o.off c l w q1 q2 (by omega)).mono ?_
    rintro e w' ⟨rfl, m, os, rfl⟩
    exact ⟨_, _, rfl, ⟨rfl, rfl⟩, own_putRow (F := [F]) s (by simp [List.length_mergeSort]) m os⟩

theorem sortAnyS (p : Option Addr) (c : Nat) (l : List ByteArray) (hs : l.length ≤ 1099511627776) :
    FSpec Tryz.prog 50 [.slice p l.length c] [own 9 1 (.slice p l.length c) (l.map Value.string)] (fun v B => v = .tuple #[] ∧ B = [own 9 1 (.slice p l.length c) ((ordS l).map Value.string)]) := by
  refine ⟨fun W0 w F s => ?_⟩
  obtain ⟨k, hk, _⟩ := s.heap.at_ (i := 0) rfl
  rcases hk with ⟨h1, h2⟩ | ⟨o, ho, _⟩
  · have hl : l = [] := by simpa using h2
    subst hl
    refine (AnyM.slices_Sort_string_none Tryz.sort50 p c w).mono ?_
    rintro e w' ⟨rfl, rfl⟩
    exact ⟨_, _, rfl, ⟨rfl, rfl⟩, by simpa [ordS] using s⟩
  · have hv := ho.val
    simp only [Value.slice.injEq] at hv
    obtain ⟨rfl, _, _⟩ := hv
    rw [ordS_enc] at s
    obtain ⟨q1, q2⟩ := own_holds (F := [F]) s
    have hc := AnyM.slices_Sort_string Tryz.sort50 o.b o.off c (l.map (·.data.toList)) w q1 q2 (by simp; omega)
    rw [List.length_map] at hc
    refine hc.mono ?_
    rintro e w' ⟨rfl, m, os, rfl⟩
    refine ⟨_, _, rfl, ⟨rfl, rfl⟩, ?_⟩
    rw [ordS_enc, ordS_map]
    exact own_putRow (F := [F]) s (by simp [List.length_mergeSort]) m os

theorem sortedI (gf : FuncId) (lb : List Value) (G : Assn) (M : List Int) (ok : List Int → Int → Prop) (eg : ∀ (args : Array Value) (w : World), (callFunc gf args).run Tryz.prog w = .ok (.enter gf args) w)
    (hit : ItSpec Tryz.prog gf lb (fun x : Int => [Value.int .i64 x]) [G] (fun xs => xs.Perm M) ok) (hok : ∀ pre x, ok pre x → pre.length < 1099511627776) (hs : M.length ≤ 1099511627776) :
    FSpec Tryz.prog 25 [.func (.func gf) #[] lb.toArray] [G] (fun v B => ∃ (p : Option Addr) (c : Nat), v = .slice p M.length c ∧ B = [own 3 1 (.slice p M.length c) ((ordI M).map (Value.int .i64)), G]) := by
 refine FSpec.of Tryz.func25 rfl Tryz.ntmps25 rfl fun W0 F => ?_
 refine J.seq ?_
 refine J.region ?_
 refine J.p rfl (Q.asg rfl) ?_
 refine J.nil ?_
 refine J.then_n ?_
 refine J.seq ?_
 refine J.region ?_
 refine J.m rfl ?_
 refine J.call Tryz.call57 (collectI gf lb G (fun xs => xs.Perm M) ok eg hit hok) [0] rfl rfl rfl rfl ?_
 rintro _ _ ⟨xs, p, c, hS, rfl, rfl⟩
 refine J.norm rfl ?_
 have hlen : xs.length = M.length := hS.length_eq
 refine J.p rfl (Q.asg rfl) ?_
 refine J.nil ?_
 refine J.then_n ?_
 refine J.seq ?_
 refine J.region ?_
 refine J.m rfl ?_
 refine J.call Tryz.call58 (sortAnyI p c xs (by omega)) [0] rfl rfl rfl rfl ?_
 rintro _ _ ⟨rfl, rfl⟩
 refine J.norm rfl ?_
 refine J.nil ?_
 refine J.then_n ?_
 refine J.seq ?_
 refine J.region ?_
 refine J.m rfl ?_
 refine J.p rfl (Q.asg rfl) ?_
 refine J.nil ?_
 refine J.then_n ?_
 refine J.cret ?_
 rw [ordI_perm hS, hlen]
 refine J.ret1 (B := [_, G]) rfl rfl ⟨p, c, rfl, rfl⟩ rfl
theorem sortedS (gf : FuncId) (lb : List Value) (G : Assn) (M : List ByteArray) (ok : List ByteArray → ByteArray → Prop) (eg : ∀ (args : Array Value) (w : World), (callFunc gf args).run Tryz.prog w = .ok (.enter gf args) w)
    (hit : ItSpec Tryz.prog gf lb (fun x : ByteArray => [Value.string x]) [G] (fun xs => xs.Perm M) ok) (hok : ∀ pre x, ok pre x → pre.length < 1099511627776) (hs : M.length ≤ 1099511627776) :
    FSpec Tryz.prog 19 [.func (.func gf) #[] lb.toArray] [G] (fun v B => ∃ (p : Option Addr) (c : Nat), v = .slice p M.length c ∧ B = [own 9 1 (.slice p M.length c) ((ordS M).map Value.string), G]) := by
 refine FSpec.of Tryz.func19 rfl Tryz.ntmps19 rfl fun W0 F => ?_
 refine J.seq ?_
 refine J.region ?_
 refine J.p rfl (Q.asg rfl) ?_
 refine J.nil ?_
 refine J.then_n ?_
 refine J.seq ?_
 refine J.region ?_
 refine J.m rfl ?_
 refine J.call Tryz.call49 (collectS gf lb G (fun xs => xs.Perm M) ok eg hit hok) [0] rfl rfl rfl rfl ?_
 rintro _ _ ⟨xs, p, c, hS, rfl, rfl⟩
 refine J.norm rfl ?_
 have hlen : xs.length = M.length := hS.length_eq
 refine J.p rfl (Q.asg rfl) ?_
 refine J.nil ?_
 refine J.then_n ?_
 refine J.seq ?_
 refine J.region ?_
 refine J.m rfl ?_
 refine J.call Tryz.call50 (sortAnyS p c xs (by omega)) [0] rfl rfl rfl rfl ?_
 rintro _ _ ⟨rfl, rfl⟩
 refine J.norm rfl ?_
 refine J.nil ?_
 refine J.then_n ?_
 refine J.seq ?_
 refine J.region ?_
 refine J.m rfl ?_
 refine J.p rfl (Q.asg rfl) ?_
 refine J.nil ?_
 refine J.then_n ?_
 refine J.cret ?_
 rw [ordS_perm hS, hlen]
 refine J.ret1 (B := [_, G]) rfl rfl ⟨p, c, rfl, rfl⟩ rfl
end Go.Proofs.YtdancegklkifaaaGreat
namespace Go.Proofs.YtdancegklkifaaaGreat
set_option linter.unusedSectionVars false
set_option linter.unusedSimpArgs false
set_option linter.unusedVariables false
open Go.X
open Go.Sort (swp insInner insOuter insertionSort siftDown heapBuild heapPop heapSort PermIn SortedIn SWO)

def ltU (a b : Nat) : Bool := (decide (a < b) && true)
theorem swoU : SWO ltU := ⟨fun x => by simp [ltU], fun x y z h1 h2 => by simp [ltU] at *; omega, fun x y z h1 h2 => by simp [ltU] at *; omega⟩
def avU (d : Array Nat) : List Value := d.toList.map encU
theorem avU_len (d : Array Nat) : (avU d).length = d.size := by simp [avU]
theorem avU_get {d : Array Nat} {j : Nat} (h : j < d.size) : (avU d)[j]? = some (encU d[j]!) := by
  simp [avU, h]
theorem avU_swp (d : Array Nat) (i j : Nat) : ((avU d).set i (encU d[j]!)).set j (encU d[i]!) = avU (swp d i j) := by
  simp [avU, swp, List.map_set]
theorem szU_swp (d : Array Nat) (i j : Nat) : (swp d i j).size = d.size := by simp [swp]

abbrev rowU (b off n c : Nat) (d : Array Nat) : Assn := own 23 1 (.slice (some ⟨b, off, none⟩) n c) (avU d)
theorem rdU {D : List Assn} {k b off n c : Nat} {d : Array Nat} (e : D[k]? = some (rowU b off n c d)) {i : Int} (h : i.toNat < d.size) : Reads D b (off + i.toNat * 1) (encU d[i.toNat]!) :=
  Reads.by_ k e fun h0 hh => by
    rcases hh with ⟨x, _⟩ | ⟨o, ho, hp⟩
    · cases x
    · have hv := ho.val
      simp only [Value.slice.injEq, Option.some.injEq, Addr.mk.injEq] at hv
      obtain ⟨⟨rfl, rfl, _⟩, _, _⟩ := hv
      refine ⟨_, _, _, hp, ?_⟩
      have := ho.get _ _ (avU_get h)
      simpa using this
theorem swrU {v : Value} {d : Array Nat} {i j : Int} {i0 j0 : Nat} (hi : i.toNat = i0) (hj : j.toNat = j0) : ∀ h, own 23 1 v (((avU d).set (i.toNat * 1) (encU d[j.toNat]!)).set (j.toNat * 1) (encU d[i.toNat]!)) h → own 23 1 v (avU (swp d i0 j0)) h := by
  intro h hh
  rw [Nat.mul_one, Nat.mul_one, avU_swp, hi, hj] at hh; exact hh

theorem isnanU (a : Nat) : FSpec Tryz.prog 136 [encU a] [] (fun v B => v = .bool false ∧ B = []) := by
  refine FSpec.of Tryz.func136 rfl Tryz.ntmps136 rfl fun W0 F => ?_
  refine J.seq <| J.region <| J.p rfl (Q.asg rfl) <| J.nil <| J.then_n <| J.seq <| J.region <| J.m rfl <| J.m rfl <| J.p rfl (Q.neq rfl rfl) <| J.p rfl (Q.asg rfl) <| J.nil <| J.then_n <| J.cret ?_
  refine J.keep [0] rfl ?_
  refine J.ret1 (B := []) rfl rfl ⟨by simp, rfl⟩ rfl
theorem lessU (a b : Nat) : FSpec Tryz.prog 114 [encU a, encU b] [] (fun v B => v = .bool (ltU a b) ∧ B = []) := by
  refine FSpec.of Tryz.func114 rfl Tryz.ntmps114 rfl fun W0 F => ?_
  refine J.seq <| J.region <| J.p rfl (Q.asg rfl) <| J.nil <| J.then_n <| J.seq <| J.region <| J.m rfl ?_
  refine J.call Tryz.call136 (isnanU a) [] rfl rfl rfl rfl ?_
  rintro _ _ ⟨rfl, rfl⟩
  refine J.norm rfl <| J.m rfl ?_
  refine J.cases 7 rfl (fun hb7 => ?_) (fun hb7 => ?_)
  ·
   cases hb7
  replace hb7 := X.nm hb7
  refine J.skip rfl rfl <| J.skip rfl rfl <| J.skip rfl rfl <| J.p rfl (Q.pick_f rfl rfl) <| J.m rfl <| J.m rfl <| J.m rfl <| J.p rfl (Q.lss rfl rfl) <| J.p rfl (Q.pick_f rfl rfl) <| J.p rfl (Q.asg rfl) <| J.nil <| J.then_n <| J.cret ?_
  refine J.keep [0] rfl ?_
  refine J.ret1 (B := []) rfl rfl ⟨by simp [ltU], rfl⟩ rfl

theorem insInner_go {α : Type} [Inhabited α] {lt : α → α → Bool} {a j : Nat} {d : Array α} (h : a < j) (hl : lt d[j]! d[j - 1]! = true) : insInner lt a j d = insInner lt a (j - 1) (swp d j (j - 1)) := by
  obtain ⟨k, rfl⟩ : ∃ k, j = k + 1 := ⟨j - 1, by omega⟩
  rw [insInner]; simp only [Nat.add_sub_cancel] at hl ⊢
  rw [if_pos (by simp [hl]; omega)]
theorem insInner_stop {α : Type} [Inhabited α] {lt : α → α → Bool} {a j : Nat} {d : Array α} (h : ¬ a < j ∨ lt d[j]! d[j - 1]! = false) : insInner lt a j d = d := by
  cases j with
  | zero => rfl
  | succ k =>
    rw [insInner]; simp only [Nat.add_sub_cancel] at h
    rw [if_neg]
    rcases h with h | h
    · simp; omega
    · simp [h]

theorem insertionU (b off n c : Nat) (d : Array Nat) (x e : Nat) (hn : d.size = n) (hx : x ≤ e) (he : e ≤ n) (hs : n ≤ 1099511627776) :
    FSpec Tryz.prog 108 [.slice (some ⟨b, off, none⟩) n c, .int .i64 x, .int .i64 e] [rowU b off n c d] (fun v B => v = .tuple #[] ∧ B = [rowU b off n c (insertionSort ltU d x e)]) := by
  refine FSpec.of Tryz.func108 rfl Tryz.ntmps108 rfl fun W0 F => ?_
  refine J.seq <| J.region <| J.m rfl <| J.p rfl (Q.add64 rfl rfl (by omega)) <| J.p rfl (Q.asg rfl) <| J.nil <| J.then_n <| J.block ?_
  refine J.loop2 (fun (i : Nat) (d1 : Array Nat) => d1.size = n ∧ x + 1 ≤ i ∧ insOuter ltU x e i d1 = insertionSort ltU d x e) (fun i _ => e - i) (fun i _ => [(0, .slice (some ⟨b, off, none⟩) n c), (1, .int .i64 x), (2, .int .i64 e), (6, .int .i64 i)]) (fun _ d1 => [rowU b off n c d1, F]) (x + 1) d ⟨hn, Nat.le_refl _, rfl⟩ ⟨rfl, rfl, rfl, rfl, trivial⟩ rfl fun i d1 hz => ?_
  obtain ⟨h1, h2, h3⟩ := hz
  refine J.seq <| J.seq <| J.region <| J.m rfl <| J.m rfl <| J.p rfl (Q.lss rfl rfl) <| J.nil <| J.then_n ?_
  refine J.cases 12 rfl (fun hc12 => ?_) (fun hc12 => ?_)
  ·
   replace hc12 := X.nm hc12
   try (first | (cases hc12; done) | (exfalso; simp at hc12; done))
   all_goals
    refine J.cond_t rfl <| J.cskip <| J.then_n <| J.seq <| J.block <| J.seq <| J.region <| J.m rfl <| J.p rfl (Q.asg rfl) <| J.nil <| J.then_n <| J.block ?_
    refine J.loop2 (fun (j : Nat) (d2 : Array Nat) => d2.size = n ∧ j ≤ i ∧ insInner ltU x j d2 = insInner ltU x i d1) (fun j _ => j) (fun j _ => [(0, .slice (some ⟨b, off, none⟩) n c), (1, .int .i64 x), (2, .int .i64 e), (6, .int .i64 i), (7, .int .i64 j)]) (fun _ d2 => [rowU b off n c d2, F]) i d1 ⟨h1, Nat.le_refl _, rfl⟩ ⟨rfl, rfl, rfl, rfl, rfl, trivial⟩ rfl fun j d2 hz => ?_
    obtain ⟨g1, g2, g3⟩ := hz
    refine J.seq <| J.seq ?_
    refine J.draw [13] Tryz.mixed (by kernel_rfl) fun hR => ?_
    refine RG.p 0 hR rfl (Q.mv rfl) <| RG.p 1 hR rfl (Q.mv rfl) <| RG.p 2 hR rfl (Q.gtr rfl rfl) <| RG.p 3 hR rfl (Q.mv rfl) ?_
    refine RG.cases 19 rfl (fun hb19 => ?_) (fun hb19 => ?_)
    ·
     replace hb19 := X.nm hb19
     try (first | (cases hb19; done) | (exfalso; simp at hb19; done))
     all_goals
      refine RG.p 4 hR rfl (Q.mv rfl) <| RG.p 5 hR rfl (Q.mv rfl) <| RG.p 6 hR rfl (Q.ia Tryz.runUnderlying60 Tryz.sizeOf23 rfl rfl (by omega) (by omega)) <| RG.p 7 hR rfl (Q.ld Tryz.isAgg23 rfl (rdU (k := 0) rfl (by omega))) <| RG.p 8 hR rfl (Q.mv rfl) <| RG.p 9 hR rfl (Q.mv rfl) <| RG.p 10 hR rfl (Q.sub64 rfl rfl (by omega)) ?_
      refine RG.p 11 hR rfl (Q.ia Tryz.runUnderlying60 Tryz.sizeOf23 rfl rfl (by omega) (by omega)) <| RG.p 12 hR rfl (Q.ld Tryz.isAgg23 rfl (rdU (k := 0) rfl (by omega))) ?_
      refine RG.call 13 hR rfl rfl rfl rfl rfl rfl Tryz.call114 (lessU _ _) [] rfl rfl ?_
      rintro _ _ ⟨rfl, rfl⟩
      refine RG.norm rfl <| RG.p 14 hR rfl (Q.pick_t rfl rfl) ?_
      refine RG.fin hR rfl ?_
      refine J.norm rfl <| J.then_n ?_
      refine J.cases 30 rfl (fun hc30 => ?_) (fun hc30 => ?_)
      ·
       replace hc30 := X.nm hc30
       try (first | (cases hc30; done) | (exfalso; simp at hc30; done))
       all_goals
        refine J.cond_t rfl <| J.cskip <| J.then_n <| J.seq <| J.block ?_
        refine J.draw [15, 17] Tryz.mixed (by kernel_rfl) fun hR => ?_
        refine RG.p 0 hR rfl (Q.mv rfl) <| RG.p 1 hR rfl (Q.mv rfl) <| RG.p 2 hR rfl (Q.mv rfl) <| RG.p 3 hR rfl (Q.mv rfl) <| RG.p 4 hR rfl (Q.sub64 rfl rfl (by omega)) <| RG.p 5 hR rfl (Q.mv rfl) <| RG.p 6 hR rfl (Q.mv rfl) <| RG.p 7 hR rfl (Q.sub64 rfl rfl (by omega)) ?_
        refine RG.p 8 hR rfl (Q.ia Tryz.runUnderlying60 Tryz.sizeOf23 rfl rfl (by omega) (by omega)) <| RG.p 9 hR rfl (Q.ld Tryz.isAgg23 rfl (rdU (k := 0) rfl (by omega))) <| RG.p 10 hR rfl (Q.mv rfl) <| RG.p 11 hR rfl (Q.mv rfl) <| RG.p 12 hR rfl (Q.ia Tryz.runUnderlying60 Tryz.sizeOf23 rfl rfl (by omega) (by omega)) ?_
        refine RG.p 13 hR rfl (Q.ld Tryz.isAgg23 rfl (rdU (k := 0) rfl (by omega))) <| RG.p 14 hR rfl (Q.ia Tryz.runUnderlying60 Tryz.sizeOf23 rfl rfl (by omega) (by omega)) ?_
        refine RG.barP 15 [2, 3, 4] hR rfl rfl rfl rfl rfl (by kernel_rfl) ⟨Free.q rfl rfl rfl (Q.mv rfl), ⟨Free.q rfl rfl rfl (Q.mv rfl), ⟨Free.q rfl rfl rfl (Q.sub64 rfl rfl (by omega)), trivial⟩⟩⟩ (C.stO 0 Tryz.sizeOf23 rfl rfl rfl rfl rfl (by first | (rw [avU_len]; omega) | (rw [List.length_set, avU_len]; omega))) ?_
        rintro _ _ ⟨rfl, rfl⟩
        refine RG.norm rfl <| RG.p 16 hR rfl (Q.ia Tryz.runUnderlying60 Tryz.sizeOf23 rfl rfl (by omega) (by omega)) ?_
        refine RG.barP 17 [] hR rfl rfl rfl rfl rfl (by kernel_rfl) trivial (C.stO 0 Tryz.sizeOf23 rfl rfl rfl rfl rfl (by first | (rw [avU_len]; omega) | (rw [List.length_set, avU_len]; omega))) ?_
        rintro _ _ ⟨rfl, rfl⟩
        refine RG.norm rfl ?_
        refine RG.fin hR rfl ?_
        refine J.norm rfl <| J.blk_n <| J.then_n <| J.region <| J.m rfl <| J.p rfl (Q.sub64 rfl rfl (by omega)) <| J.p rfl (Q.asg rfl) <| J.nil ?_
        refine J.conv (Y := rowU b off n c (swp d2 j (j - 1))) 0 rfl (swrU (by omega) (by omega)) ?_
        have e1 : ((j : Int) - 1).toNat = j - 1 := by omega
        rw [Int.toNat_natCast, e1] at hc30
        refine J.again (j - 1, swp d2 j (j - 1)) ⟨by show (swp d2 j (j - 1)).size = n; rw [szU_swp, g1], by show j - 1 ≤ i; omega, by show insInner ltU x (j - 1) (swp d2 j (j - 1)) = _; rw [← g3, insInner_go (by omega) hc30]⟩ (by show j - 1 < j; omega) ⟨rfl, rfl, rfl, rfl, (by show some (Value.int .i64 ((j : Int) - 1)) = some (Value.int .i64 ((j - 1 : Nat) : Int)); congr 2; omega), trivial⟩ rfl
      replace hc30 := X.nm hc30
      try (first | (cases hc30; done) | (exfalso; simp at hc30; done))
      all_goals
       refine J.cond_f rfl <| J.exit <| J.then_x <| J.lp_x <| J.blk_x <| J.blk_n <| J.then_n <| J.region <| J.m rfl <| J.p rfl (Q.add64 rfl rfl (by omega)) <| J.p rfl (Q.asg rfl) <| J.nil ?_
       have e1 : ((j : Int) - 1).toNat = j - 1 := by omega
       have hd : insInner ltU x i d1 = d2 := by
         rw [← g3]
         refine insInner_stop ?_
         first
           | (left; omega)
           | (right; rw [Int.toNat_natCast, e1] at hc30; exact hc30)
           | (right; rw [Int.toNat_natCast, e1] at hc30; simpa [ltU] using hc30)
       refine J.again (i + 1, d2) ⟨g1, by show x + 1 ≤ i + 1; omega, by show insOuter ltU x e (i + 1) d2 = _; rw [← h3, ← hd]; conv => { rhs; rw [insOuter] }; rw [if_pos (by omega)]⟩ (by show e - (i + 1) < e - i; omega) ⟨rfl, rfl, rfl, rfl, trivial⟩ rfl
    replace hb19 := X.nm hb19
    try (first | (cases hb19; done) | (exfalso; simp at hb19; done))
    all_goals
     refine RG.skip 4 hR rfl rfl rfl rfl rfl rfl <| RG.skip 5 hR rfl rfl rfl rfl rfl rfl <| RG.skip 6 hR rfl rfl rfl rfl rfl rfl <| RG.skip 7 hR rfl rfl rfl rfl rfl rfl <| RG.skip 8 hR rfl rfl rfl rfl rfl rfl <| RG.skip 9 hR rfl rfl rfl rfl rfl rfl <| RG.skip 10 hR rfl rfl rfl rfl rfl rfl <| RG.skip 11 hR rfl rfl rfl rfl rfl rfl <| RG.skip 12 hR rfl rfl rfl rfl rfl rfl ?_
     refine RG.pass 13 hR rfl rfl rfl rfl rfl ?_
     refine RG.p 14 hR rfl (Q.pick_f rfl rfl) ?_
     refine RG.fin hR rfl ?_
     refine J.norm rfl <| J.then_n <| J.cond_f rfl <| J.exit <| J.then_x <| J.lp_x <| J.blk_x <| J.blk_n <| J.then_n <| J.region <| J.m rfl <| J.p rfl (Q.add64 rfl rfl (by omega)) <| J.p rfl (Q.asg rfl) <| J.nil ?_
     have e1 : ((j : Int) - 1).toNat = j - 1 := by omega
     have hd : insInner ltU x i d1 = d2 := by
       rw [← g3]
       refine insInner_stop ?_
       first
         | (left; omega)
         | (right; rw [Int.toNat_natCast, e1] at hc30; exact hc30)
         | (right; rw [Int.toNat_natCast, e1] at hc30; simpa [ltU] using hc30)
     refine J.again (i + 1, d2) ⟨g1, by show x + 1 ≤ i + 1; omega, by show insOuter ltU x e (i + 1) d2 = _; rw [← h3, ← hd]; conv => { rhs; rw [insOuter] }; rw [if_pos (by omega)]⟩ (by show e - (i + 1) < e - i; omega) ⟨rfl, rfl, rfl, rfl, trivial⟩ rfl
  replace hc12 := X.nm hc12
  try (first | (cases hc12; done) | (exfalso; simp at hc12; done))
  all_goals
   refine J.cond_f rfl <| J.exit <| J.then_x <| J.lp_x <| J.blk_x ?_
   have hd : d1 = insertionSort ltU d x e := by rw [← h3, insOuter, if_neg (by omega)]
   rw [hd]
   refine J.end0 (B := [_]) rfl ⟨rfl, rfl⟩ rfl
end Go.Proofs.YtdancegklkifaaaGreat
namespace Go.Proofs.YtdancegklkifaaaGreat
set_option linter.unusedSectionVars false
set_option linter.unusedSimpArgs false
set_option linter.unusedVariables false
open Go.X
open Go.Sort (swp insInner insOuter insertionSort siftDown heapBuild heapPop heapSort PermIn SortedIn SWO reverseLoop reverseRange)

section plain
variable {α : Type} [Inhabited α] {lt : α → α → Bool} {hi first root : Nat} {d : Array α}
def chB (lt : α → α → Bool) (hi first root : Nat) (d : Array α) : Bool := decide (2 * root + 1 + 1 < hi) && lt d[first + (2 * root + 1)]! d[first + (2 * root + 1) + 1]!
def chN (lt : α → α → Bool) (hi first root : Nat) (d : Array α) : Nat := if chB lt hi first root d = true then 2 * root + 2 else 2 * root + 1
theorem sift_end (h : ¬ 2 * root + 1 < hi) : siftDown lt hi first root d = d := by rw [siftDown, dif_pos (by omega)]
theorem sift_eq (h : 2 * root + 1 < hi) : siftDown lt hi first root d = if lt d[first + root]! d[first + chN lt hi first root d]! = true then siftDown lt hi first (chN lt hi first root d) (swp d (first + root) (first + chN lt hi first root d)) else d := by
  unfold chN
  rw [siftDown, dif_neg (by omega)]
  cases hc : chB lt hi first root d with
  | true =>
    have hc' := hc
    unfold chB at hc'
    rw [if_pos hc']
    have h2 : 2 * root + 2 < hi := by have := hc'; simp at this; omega
    simp only [if_true]
    cases hl : lt d[first + root]! d[first + (2 * root + 2)]! with
    | true => simp [h2]
    | false => simp
  | false =>
    have hc' := hc
    unfold chB at hc'
    rw [if_neg (by rw [hc']; exact Bool.false_ne_true)]
    simp only [Bool.false_eq_true, if_false]
    cases hl : lt d[first + root]! d[first + (2 * root + 1)]! with
    | true => simp
    | false => simp
theorem sz_sift : ∀ (k root : Nat) (d : Array α), hi - root ≤ k → (siftDown lt hi first root d).size = d.size
  | 0, root, d, h => by rw [sift_end (by omega)]
  | k + 1, root, d, h => by
    by_cases h1 : 2 * root + 1 < hi
    · rw [sift_eq h1]
      have : 2 * root + 1 ≤ chN lt hi first root d := by unfold chN; split <;> omega
      split
      · rw [sz_sift k _ _ (by omega)]; simp [swp]
      · rfl
    · rw [sift_end h1]
theorem sift_size : (siftDown lt hi first root d).size = d.size := sz_sift _ root d (Nat.le_refl _)
end plain

theorem siftU (b off n c : Nat) (d : Array Nat) (lo hi first : Nat) (hn : d.size = n) (hlo : lo ≤ n) (hhi : first + hi ≤ n) (hs : n ≤ 1099511627776) :
    FSpec Tryz.prog 133 [.slice (some ⟨b, off, none⟩) n c, .int .i64 lo, .int .i64 hi, .int .i64 first] [rowU b off n c d] (fun v B => v = .tuple #[] ∧ B = [rowU b off n c (siftDown ltU hi first lo d)]) := by
  refine FSpec.of Tryz.func133 rfl Tryz.ntmps133 rfl fun W0 F => ?_
  refine J.seq <| J.region <| J.m rfl <| J.p rfl (Q.asg rfl) <| J.nil <| J.then_n <| J.block ?_
  refine J.loop2 (fun (root : Nat) (d1 : Array Nat) => d1.size = n ∧ root ≤ n ∧ siftDown ltU hi first root d1 = siftDown ltU hi first lo d) (fun root _ => hi - root) (fun root _ => [(0, .slice (some ⟨b, off, none⟩) n c), (2, .int .i64 hi), (3, .int .i64 first), (8, .int .i64 root)]) (fun _ d1 => [rowU b off n c d1, F]) lo d ⟨hn, hlo, rfl⟩ ⟨rfl, rfl, rfl, rfl, trivial⟩ rfl fun root d1 hz => ?_
  obtain ⟨h1, h2, h3⟩ := hz
  refine J.block <| J.seq <| J.region <| J.m rfl <| J.p rfl (Q.mul64 rfl rfl (by omega)) <| J.p rfl (Q.add64 rfl rfl (by omega)) <| J.p rfl (Q.asg rfl) <| J.nil <| J.then_n <| J.seq <| J.seq <| J.region <| J.m rfl <| J.m rfl <| J.p rfl (Q.geq rfl rfl) <| J.nil <| J.then_n ?_
  refine J.cases 16 rfl (fun hc16 => ?_) (fun hc16 => ?_)
  ·
   replace hc16 := X.nm hc16
   try (first | (cases hc16; done) | (exfalso; simp at hc16; done))
   all_goals
    refine J.cond_t rfl <| J.exit <| J.then_x <| J.blk_o rfl <| J.lp_x <| J.blk_x ?_
    rw [← h3, sift_end (by omega)]
    refine J.end0 (B := [_]) rfl ⟨rfl, rfl⟩ rfl
  replace hc16 := X.nm hc16
  try (first | (cases hc16; done) | (exfalso; simp at hc16; done))
  all_goals
   refine J.cond_f rfl <| J.cskip <| J.then_n ?_
   refine J.cut (fun _ : Unit => True) (fun _ => [(0, .slice (some ⟨b, off, none⟩) n c), (2, .int .i64 hi), (3, .int .i64 first), (8, .int .i64 root), (9, .int .i64 (chN ltU hi first root d1 : Nat))]) (fun _ => [rowU b off n c d1, F]) ?_ fun _ _ => ?_
   ·
    refine J.seq ?_
    refine J.draw [18] Tryz.mixed (by kernel_rfl) fun hR => ?_
    refine RG.p 0 hR rfl (Q.mv rfl) <| RG.p 1 hR rfl (Q.add64 rfl rfl (by omega)) <| RG.p 2 hR rfl (Q.mv rfl) <| RG.p 3 hR rfl (Q.lss rfl rfl) <| RG.p 4 hR rfl (Q.mv rfl) ?_
    refine RG.cases 21 rfl (fun hb21 => ?_) (fun hb21 => ?_)
    ·
     replace hb21 := X.nm hb21
     try (first | (cases hb21; done) | (exfalso; simp at hb21; done))
     all_goals
      refine RG.p 5 hR rfl (Q.mv rfl) <| RG.p 6 hR rfl (Q.mv rfl) <| RG.p 7 hR rfl (Q.mv rfl) <| RG.p 8 hR rfl (Q.add64 rfl rfl (by omega)) <| RG.p 9 hR rfl (Q.ia Tryz.runUnderlying60 Tryz.sizeOf23 rfl rfl (by omega) (by omega)) <| RG.p 10 hR rfl (Q.ld Tryz.isAgg23 rfl (rdU (k := 0) rfl (by omega))) ?_
      refine RG.p 11 hR rfl (Q.mv rfl) <| RG.p 12 hR rfl (Q.mv rfl) <| RG.p 13 hR rfl (Q.mv rfl) <| RG.p 14 hR rfl (Q.add64 rfl rfl (by omega)) <| RG.p 15 hR rfl (Q.add64 rfl rfl (by omega)) <| RG.p 16 hR rfl (Q.ia Tryz.runUnderlying60 Tryz.sizeOf23 rfl rfl (by omega) (by omega)) <| RG.p 17 hR rfl (Q.ld Tryz.isAgg23 rfl (rdU (k := 0) rfl (by omega))) ?_
      refine RG.call 18 hR rfl rfl rfl rfl rfl rfl Tryz.call114 (lessU _ _) [] rfl rfl ?_
      rintro _ _ ⟨rfl, rfl⟩
      refine RG.norm rfl <| RG.p 19 hR rfl (Q.pick_t rfl rfl) ?_
      refine RG.fin hR rfl ?_
      refine J.norm rfl <| J.then_n ?_
      refine J.cases 36 rfl (fun hc36 => ?_) (fun hc36 => ?_)
      ·
       replace hc36 := X.nm hc36
       try (first | (cases hc36; done) | (exfalso; simp at hc36; done))
       all_goals
        refine J.cond_t rfl <| J.region <| J.m rfl <| J.p rfl (Q.add64 rfl rfl (by omega)) <| J.p rfl (Q.asg rfl) <| J.nil ?_
        have e1 : ((first : Int) + (2 * (root : Int) + 1)).toNat = first + (2 * root + 1) := by omega
        have e2 : ((first : Int) + (2 * (root : Int) + 1) + 1).toNat = first + (2 * root + 1) + 1 := by omega
        first
          | (rw [e1, e2] at hc36
             have hcb : chB ltU hi first root d1 = true := by unfold chB; rw [decide_eq_true (by omega), Bool.true_and]; exact hc36
             refine J.meet () trivial ⟨rfl, rfl, rfl, rfl, (by unfold chN; rw [if_pos hcb]; show some (Value.int .i64 (2 * (root : Int) + 1 + 1)) = some (Value.int .i64 ((2 * root + 2 : Nat) : Int)); congr 2), trivial⟩ rfl)
          | (have hcb : ¬ chB ltU hi first root d1 = true := by
               unfold chB
               first
                 | (rw [e1, e2] at hc36; rw [decide_eq_true (by omega), Bool.true_and, hc36]; exact Bool.false_ne_true)
                 | (rw [decide_eq_false (by omega), Bool.false_and]; exact Bool.false_ne_true)
             refine J.meet () trivial ⟨rfl, rfl, rfl, rfl, (by unfold chN; rw [if_neg hcb]; show some (Value.int .i64 (2 * (root : Int) + 1)) = some (Value.int .i64 ((2 * root + 1 : Nat) : Int)); congr 2), trivial⟩ rfl)
      replace hc36 := X.nm hc36
      try (first | (cases hc36; done) | (exfalso; simp at hc36; done))
      all_goals
       refine J.cond_f rfl <| J.cskip ?_
       have e1 : ((first : Int) + (2 * (root : Int) + 1)).toNat = first + (2 * root + 1) := by omega
       have e2 : ((first : Int) + (2 * (root : Int) + 1) + 1).toNat = first + (2 * root + 1) + 1 := by omega
       first
         | (rw [e1, e2] at hc36
            have hcb : chB ltU hi first root d1 = true := by unfold chB; rw [decide_eq_true (by omega), Bool.true_and]; exact hc36
            refine J.meet () trivial ⟨rfl, rfl, rfl, rfl, (by unfold chN; rw [if_pos hcb]; show some (Value.int .i64 (2 * (root : Int) + 1 + 1)) = some (Value.int .i64 ((2 * root + 2 : Nat) : Int)); congr 2), trivial⟩ rfl)
         | (have hcb : ¬ chB ltU hi first root d1 = true := by
              unfold chB
              first
                | (rw [e1, e2] at hc36; rw [decide_eq_true (by omega), Bool.true_and, hc36]; exact Bool.false_ne_true)
                | (rw [decide_eq_false (by omega), Bool.false_and]; exact Bool.false_ne_true)
            refine J.meet () trivial ⟨rfl, rfl, rfl, rfl, (by unfold chN; rw [if_neg hcb]; show some (Value.int .i64 (2 * (root : Int) + 1)) = some (Value.int .i64 ((2 * root + 1 : Nat) : Int)); congr 2), trivial⟩ rfl)
    replace hb21 := X.nm hb21
    try (first | (cases hb21; done) | (exfalso; simp at hb21; done))
    all_goals
     refine RG.skip 5 hR rfl rfl rfl rfl rfl rfl <| RG.skip 6 hR rfl rfl rfl rfl rfl rfl <| RG.skip 7 hR rfl rfl rfl rfl rfl rfl <| RG.skip 8 hR rfl rfl rfl rfl rfl rfl <| RG.skip 9 hR rfl rfl rfl rfl rfl rfl <| RG.skip 10 hR rfl rfl rfl rfl rfl rfl <| RG.skip 11 hR rfl rfl rfl rfl rfl rfl <| RG.skip 12 hR rfl rfl rfl rfl rfl rfl <| RG.skip 13 hR rfl rfl rfl rfl rfl rfl <| RG.skip 14 hR rfl rfl rfl rfl rfl rfl ?_
     refine RG.skip 15 hR rfl rfl rfl rfl rfl rfl <| RG.skip 16 hR rfl rfl rfl rfl rfl rfl <| RG.skip 17 hR rfl rfl rfl rfl rfl rfl ?_
     refine RG.pass 18 hR rfl rfl rfl rfl rfl ?_
     refine RG.p 19 hR rfl (Q.pick_f rfl rfl) ?_
     refine RG.fin hR rfl ?_
     refine J.norm rfl <| J.then_n <| J.cond_f rfl <| J.cskip ?_
     have e1 : ((first : Int) + (2 * (root : Int) + 1)).toNat = first + (2 * root + 1) := by omega
     have e2 : ((first : Int) + (2 * (root : Int) + 1) + 1).toNat = first + (2 * root + 1) + 1 := by omega
     first
       | (rw [e1, e2] at hc36
          have hcb : chB ltU hi first root d1 = true := by unfold chB; rw [decide_eq_true (by omega), Bool.true_and]; exact hc36
          refine J.meet () trivial ⟨rfl, rfl, rfl, rfl, (by unfold chN; rw [if_pos hcb]; show some (Value.int .i64 (2 * (root : Int) + 1 + 1)) = some (Value.int .i64 ((2 * root + 2 : Nat) : Int)); congr 2), trivial⟩ rfl)
       | (have hcb : ¬ chB ltU hi first root d1 = true := by
            unfold chB
            first
              | (rw [e1, e2] at hc36; rw [decide_eq_true (by omega), Bool.true_and, hc36]; exact Bool.false_ne_true)
              | (rw [decide_eq_false (by omega), Bool.false_and]; exact Bool.false_ne_true)
          refine J.meet () trivial ⟨rfl, rfl, rfl, rfl, (by unfold chN; rw [if_neg hcb]; show some (Value.int .i64 (2 * (root : Int) + 1)) = some (Value.int .i64 ((2 * root + 1 : Nat) : Int)); congr 2), trivial⟩ rfl)
   obtain ⟨ch, hch⟩ : ∃ ch, ch = chN ltU hi first root d1 := ⟨_, rfl⟩
   have hc1 : 2 * root + 1 ≤ ch ∧ ch < hi := by rw [hch]; unfold chN; split; · rename_i hb; unfold chB at hb; simp at hb; omega
                                                · omega
   have hsf := sift_eq (lt := ltU) (hi := hi) (first := first) (root := root) (d := d1) (by omega)
   rw [← hch] at hsf ⊢
   refine J.seq <| J.seq ?_
   refine J.draw [12] Tryz.mixed (by kernel_rfl) fun hR => ?_
   refine RG.p 0 hR rfl (Q.mv rfl) <| RG.p 1 hR rfl (Q.mv rfl) <| RG.p 2 hR rfl (Q.mv rfl) <| RG.p 3 hR rfl (Q.add64 rfl rfl (by omega)) <| RG.p 4 hR rfl (Q.ia Tryz.runUnderlying60 Tryz.sizeOf23 rfl rfl (by omega) (by omega)) <| RG.p 5 hR rfl (Q.ld Tryz.isAgg23 rfl (rdU (k := 0) rfl (by omega))) ?_
   refine RG.p 6 hR rfl (Q.mv rfl) <| RG.p 7 hR rfl (Q.mv rfl) <| RG.p 8 hR rfl (Q.mv rfl) <| RG.p 9 hR rfl (Q.add64 rfl rfl (by omega)) <| RG.p 10 hR rfl (Q.ia Tryz.runUnderlying60 Tryz.sizeOf23 rfl rfl (by omega) (by omega)) <| RG.p 11 hR rfl (Q.ld Tryz.isAgg23 rfl (rdU (k := 0) rfl (by omega))) ?_
   refine RG.call 12 hR rfl rfl rfl rfl rfl rfl Tryz.call114 (lessU _ _) [] rfl rfl ?_
   rintro _ _ ⟨rfl, rfl⟩
   refine RG.norm rfl <| RG.p 13 hR rfl (Q.not rfl) ?_
   refine RG.fin hR rfl ?_
   refine J.norm rfl <| J.then_n ?_
   refine J.cases 52 rfl (fun hc52 => ?_) (fun hc52 => ?_)
   ·
    replace hc52 := X.nm hc52
    try (first | (cases hc52; done) | (exfalso; simp at hc52; done))
    all_goals
     refine J.cond_t rfl <| J.cret <| J.then_r <| J.blk_r <| J.lp_r <| J.blk_r ?_
     have e1 : ((first : Int) + (root : Int)).toNat = first + root := by omega
     have e2 : ((first : Int) + (ch : Int)).toNat = first + ch := by omega
     rw [e1, e2] at hc52
     rw [← h3, hsf, if_neg (by simpa using hc52)]
     refine J.ret0 (B := [_]) rfl ⟨rfl, rfl⟩ rfl
   replace hc52 := X.nm hc52
   try (first | (cases hc52; done) | (exfalso; simp at hc52; done))
   all_goals
    refine J.cond_f rfl <| J.cskip <| J.then_n <| J.seq ?_
    refine J.draw [21, 23] Tryz.mixed (by kernel_rfl) fun hR => ?_
    refine RG.p 0 hR rfl (Q.mv rfl) <| RG.p 1 hR rfl (Q.mv rfl) <| RG.p 2 hR rfl (Q.mv rfl) <| RG.p 3 hR rfl (Q.add64 rfl rfl (by omega)) <| RG.p 4 hR rfl (Q.mv rfl) <| RG.p 5 hR rfl (Q.mv rfl) <| RG.p 6 hR rfl (Q.mv rfl) <| RG.p 7 hR rfl (Q.add64 rfl rfl (by omega)) ?_
    refine RG.p 8 hR rfl (Q.mv rfl) <| RG.p 9 hR rfl (Q.mv rfl) <| RG.p 10 hR rfl (Q.mv rfl) <| RG.p 11 hR rfl (Q.add64 rfl rfl (by omega)) <| RG.p 12 hR rfl (Q.ia Tryz.runUnderlying60 Tryz.sizeOf23 rfl rfl (by omega) (by omega)) <| RG.p 13 hR rfl (Q.ld Tryz.isAgg23 rfl (rdU (k := 0) rfl (by omega))) ?_
    refine RG.p 14 hR rfl (Q.mv rfl) <| RG.p 15 hR rfl (Q.mv rfl) <| RG.p 16 hR rfl (Q.mv rfl) <| RG.p 17 hR rfl (Q.add64 rfl rfl (by omega)) <| RG.p 18 hR rfl (Q.ia Tryz.runUnderlying60 Tryz.sizeOf23 rfl rfl (by omega) (by omega)) <| RG.p 19 hR rfl (Q.ld Tryz.isAgg23 rfl (rdU (k := 0) rfl (by omega))) ?_
    refine RG.p 20 hR rfl (Q.ia Tryz.runUnderlying60 Tryz.sizeOf23 rfl rfl (by omega) (by omega)) ?_
    refine RG.barP 21 [4, 5, 6, 7] hR rfl rfl rfl rfl rfl (by kernel_rfl) ⟨Free.q rfl rfl rfl (Q.mv rfl), ⟨Free.q rfl rfl rfl (Q.mv rfl), ⟨Free.q rfl rfl rfl (Q.mv rfl), ⟨Free.q rfl rfl rfl (Q.add64 rfl rfl (by omega)), trivial⟩⟩⟩⟩ (C.stO 0 Tryz.sizeOf23 rfl rfl rfl rfl rfl (by first | (rw [avU_len]; omega) | (rw [List.length_set, avU_len]; omega))) ?_
    rintro _ _ ⟨rfl, rfl⟩
    refine RG.norm rfl <| RG.p 22 hR rfl (Q.ia Tryz.runUnderlying60 Tryz.sizeOf23 rfl rfl (by omega) (by omega)) ?_
    refine RG.barP 23 [] hR rfl rfl rfl rfl rfl (by kernel_rfl) trivial (C.stO 0 Tryz.sizeOf23 rfl rfl rfl rfl rfl (by first | (rw [avU_len]; omega) | (rw [List.length_set, avU_len]; omega))) ?_
    rintro _ _ ⟨rfl, rfl⟩
    refine RG.norm rfl ?_
    refine RG.fin hR rfl ?_
    refine J.norm rfl <| J.then_n <| J.region <| J.m rfl <| J.p rfl (Q.asg rfl) <| J.nil <| J.blk_n ?_
    have e1 : ((first : Int) + (root : Int)).toNat = first + root := by omega
    have e2 : ((first : Int) + (ch : Int)).toNat = first + ch := by omega
    rw [e1, e2] at hc52
    refine J.conv (Y := rowU b off n c (swp d1 (first + root) (first + ch))) 0 rfl (swrU (by omega) (by omega)) ?_
    refine J.again (ch, swp d1 (first + root) (first + ch)) ⟨by show (swp d1 _ _).size = n; rw [szU_swp, h1], by show ch ≤ n; omega, by show siftDown ltU hi first ch (swp d1 (first + root) (first + ch)) = _; rw [← h3, hsf, if_pos (by simpa using hc52)]⟩ (by show hi - ch < hi - root; omega) ⟨rfl, rfl, rfl, rfl, trivial⟩ rfl

theorem heapU (b off n c : Nat) (d : Array Nat) (x e : Nat) (hn : d.size = n) (hx : x < e) (he : e ≤ n) (hs : n ≤ 1099511627776) :
    FSpec Tryz.prog 109 [.slice (some ⟨b, off, none⟩) n c, .int .i64 x, .int .i64 e] [rowU b off n c d] (fun v B => v = .tuple #[] ∧ B = [rowU b off n c (heapSort ltU d x e)]) := by
  refine FSpec.of Tryz.func109 rfl Tryz.ntmps109 rfl fun W0 F => ?_
  refine J.seq <| J.region <| J.m rfl <| J.p rfl (Q.asg rfl) <| J.nil <| J.then_n <| J.seq <| J.region <| J.p rfl (Q.asg rfl) <| J.nil <| J.then_n <| J.seq <| J.region <| J.m rfl <| J.m rfl <| J.p rfl (Q.sub64 rfl rfl (by omega)) <| J.p rfl (Q.asg rfl) <| J.nil <| J.then_n <| J.seq <| J.seq <| J.region <| J.m rfl <| J.p rfl (Q.sub64 rfl rfl (by omega)) ?_
  refine J.p rfl (Q.quo64 rfl rfl (by omega) (by omega) (by omega)) <| J.p rfl (Q.asg rfl) <| J.nil <| J.then_n <| J.block ?_
  refine J.loop2 (fun (k : Nat) (d1 : Array Nat) => d1.size = n ∧ k ≤ (e - x - 1) / 2 + 1 ∧ heapBuild ltU (e - x) x k d1 = heapBuild ltU (e - x) x ((e - x - 1) / 2 + 1) d) (fun k _ => k) (fun k _ => [(0, .slice (some ⟨b, off, none⟩) n c), (6, .int .i64 x), (7, .int .i64 ((0 : Nat) : Int)), (8, .int .i64 ((e - x : Nat) : Int)), (9, .int .i64 ((k : Int) - 1))]) (fun _ d1 => [rowU b off n c d1, F]) ((e - x - 1) / 2 + 1) d ⟨hn, Nat.le_refl _, rfl⟩ ⟨rfl, rfl, rfl, (by show some (Value.int .i64 ((e : Int) - x)) = some (Value.int .i64 ((e - x : Nat) : Int)); congr 2; omega), (by show some (Value.int .i64 (((e : Int) - x - 1) / 2)) = some (Value.int .i64 ((((e - x - 1) / 2 + 1 : Nat) : Int) - 1)); congr 2; omega), trivial⟩ rfl fun k d1 hz => ?_
  obtain ⟨h1, h2, h3⟩ := hz
  refine J.seq <| J.seq <| J.region <| J.m rfl <| J.p rfl (Q.geq rfl rfl) <| J.nil <| J.then_n ?_
  refine J.cases 19 rfl (fun hc19 => ?_) (fun hc19 => ?_)
  ·
   replace hc19 := X.nm hc19
   try (first | (cases hc19; done) | (exfalso; simp at hc19; done))
   all_goals
    refine J.cond_t rfl <| J.cskip <| J.then_n <| J.seq <| J.block ?_
    obtain ⟨k1, rfl⟩ : ∃ k1, k = k1 + 1 := ⟨k - 1, by omega⟩
    refine J.slot 9 (.int .i64 (k1 : Int)) rfl (by congr 1; omega) ?_
    refine J.region <| J.m rfl <| J.m rfl <| J.m rfl <| J.m rfl ?_
    refine J.call Tryz.call133 (siftU b off n c d1 k1 (e - x) x h1 (by omega) (by omega) hs) [0] rfl rfl rfl rfl ?_
    rintro _ _ ⟨rfl, rfl⟩
    refine J.norm rfl <| J.nil <| J.blk_n <| J.then_n <| J.region <| J.m rfl <| J.p rfl (Q.sub64 rfl rfl (by omega)) <| J.p rfl (Q.asg rfl) <| J.nil ?_
    refine J.again (k1, siftDown ltU (e - x) x k1 d1) ⟨by show (siftDown ltU (e - x) x k1 d1).size = n; rw [sift_size, h1], by show k1 ≤ _; omega, by rw [← h3]; rfl⟩ (by show k1 < k1 + 1; omega) ⟨rfl, rfl, rfl, rfl, rfl, trivial⟩ rfl
  replace hc19 := X.nm hc19
  try (first | (cases hc19; done) | (exfalso; simp at hc19; done))
  all_goals
   refine J.cond_f rfl <| J.exit <| J.then_x <| J.lp_x <| J.blk_x <| J.then_n <| J.seq ?_
   obtain rfl : k = 0 := by omega
   have hd : d1 = heapBuild ltU (e - x) x ((e - x - 1) / 2 + 1) d := by rw [← h3]; rfl
   refine J.region <| J.m rfl <| J.p rfl (Q.sub64 rfl rfl (by omega)) <| J.p rfl (Q.asg rfl) <| J.nil <| J.then_n <| J.block ?_
   refine J.loop2 (fun (k : Nat) (d2 : Array Nat) => d2.size = n ∧ k ≤ e - x ∧ heapPop ltU x k d2 = heapSort ltU d x e) (fun k _ => k) (fun k _ => [(0, .slice (some ⟨b, off, none⟩) n c), (6, .int .i64 x), (7, .int .i64 ((0 : Nat) : Int)), (10, .int .i64 ((k : Int) - 1))]) (fun _ d2 => [rowU b off n c d2, F]) (e - x) d1 ⟨h1, Nat.le_refl _, by rw [hd]; rfl⟩ ⟨rfl, rfl, rfl, rfl, trivial⟩ rfl fun k d2 hz => ?_
   obtain ⟨g1, g2, g3⟩ := hz
   refine J.seq <| J.seq <| J.region <| J.m rfl <| J.p rfl (Q.geq rfl rfl) <| J.nil <| J.then_n ?_
   refine J.cases 30 rfl (fun hc30 => ?_) (fun hc30 => ?_)
   ·
    replace hc30 := X.nm hc30
    try (first | (cases hc30; done) | (exfalso; simp at hc30; done))
    all_goals
     refine J.cond_t rfl <| J.cskip <| J.then_n <| J.seq <| J.block <| J.seq ?_
     obtain ⟨k1, rfl⟩ : ∃ k1, k = k1 + 1 := ⟨k - 1, by omega⟩
     refine J.slot 10 (.int .i64 (k1 : Int)) rfl (by congr 1; omega) ?_
     refine J.draw [17, 19] Tryz.mixed (by kernel_rfl) fun hR => ?_
     refine RG.p 0 hR rfl (Q.mv rfl) <| RG.p 1 hR rfl (Q.mv rfl) <| RG.p 2 hR rfl (Q.mv rfl) <| RG.p 3 hR rfl (Q.mv rfl) <| RG.p 4 hR rfl (Q.mv rfl) <| RG.p 5 hR rfl (Q.add64 rfl rfl (by omega)) <| RG.p 6 hR rfl (Q.mv rfl) <| RG.p 7 hR rfl (Q.mv rfl) <| RG.p 8 hR rfl (Q.mv rfl) ?_
     refine RG.p 9 hR rfl (Q.add64 rfl rfl (by omega)) <| RG.p 10 hR rfl (Q.ia Tryz.runUnderlying60 Tryz.sizeOf23 rfl rfl (by omega) (by omega)) <| RG.p 11 hR rfl (Q.ld Tryz.isAgg23 rfl (rdU (k := 0) rfl (by omega))) <| RG.p 12 hR rfl (Q.mv rfl) <| RG.p 13 hR rfl (Q.mv rfl) <| RG.p 14 hR rfl (Q.ia Tryz.runUnderlying60 Tryz.sizeOf23 rfl rfl (by omega) (by omega)) ?_
     refine RG.p 15 hR rfl (Q.ld Tryz.isAgg23 rfl (rdU (k := 0) rfl (by omega))) <| RG.p 16 hR rfl (Q.ia Tryz.runUnderlying60 Tryz.sizeOf23 rfl rfl (by omega) (by omega)) ?_
     refine RG.barP 17 [2, 3, 4, 5] hR rfl rfl rfl rfl rfl (by kernel_rfl) ⟨Free.q rfl rfl rfl (Q.mv rfl), ⟨Free.q rfl rfl rfl (Q.mv rfl), ⟨Free.q rfl rfl rfl (Q.mv rfl), ⟨Free.q rfl rfl rfl (Q.add64 rfl rfl (by omega)), trivial⟩⟩⟩⟩ (C.stO 0 Tryz.sizeOf23 rfl rfl rfl rfl rfl (by first | (rw [avU_len]; omega) | (rw [List.length_set, avU_len]; omega))) ?_
     rintro _ _ ⟨rfl, rfl⟩
     refine RG.norm rfl <| RG.p 18 hR rfl (Q.ia Tryz.runUnderlying60 Tryz.sizeOf23 rfl rfl (by omega) (by omega)) ?_
     refine RG.barP 19 [] hR rfl rfl rfl rfl rfl (by kernel_rfl) trivial (C.stO 0 Tryz.sizeOf23 rfl rfl rfl rfl rfl (by first | (rw [avU_len]; omega) | (rw [List.length_set, avU_len]; omega))) ?_
     rintro _ _ ⟨rfl, rfl⟩
     refine RG.norm rfl ?_
     refine RG.fin hR rfl ?_
     refine J.norm rfl <| J.then_n ?_
     refine J.conv (Y := rowU b off n c (swp d2 x (x + k1))) 0 rfl (swrU (by omega) (by omega)) ?_
     refine J.region <| J.m rfl <| J.m rfl <| J.m rfl <| J.m rfl ?_
     refine J.call Tryz.call133 (siftU b off n c (swp d2 x (x + k1)) 0 k1 x (by rw [szU_swp, g1]) (by omega) (by omega) hs) [0] rfl rfl rfl rfl ?_
     rintro _ _ ⟨rfl, rfl⟩
     refine J.norm rfl <| J.nil <| J.blk_n <| J.then_n <| J.region <| J.m rfl <| J.p rfl (Q.sub64 rfl rfl (by omega)) <| J.p rfl (Q.asg rfl) <| J.nil ?_
     refine J.again (k1, siftDown ltU k1 x 0 (swp d2 x (x + k1))) ⟨by show (siftDown ltU k1 x 0 (swp d2 x (x + k1))).size = n; rw [sift_size, szU_swp, g1], by show k1 ≤ _; omega, by rw [← g3]; rfl⟩ (by show k1 < k1 + 1; omega) ⟨rfl, rfl, rfl, rfl, trivial⟩ rfl
   replace hc30 := X.nm hc30
   try (first | (cases hc30; done) | (exfalso; simp at hc30; done))
   all_goals
    refine J.cond_f rfl <| J.exit <| J.then_x <| J.lp_x <| J.blk_x ?_
    obtain rfl : k = 0 := by omega
    have hd2 : d2 = heapSort ltU d x e := by rw [← g3]; rfl
    rw [hd2]
    refine J.end0 (B := [_]) rfl ⟨rfl, rfl⟩ rfl

theorem reverseU (b off n c : Nat) (d : Array Nat) (x e : Nat) (hn : d.size = n) (hx : x < e) (he : e ≤ n) (hs : n ≤ 1099511627776) :
    FSpec Tryz.prog 112 [.slice (some ⟨b, off, none⟩) n c, .int .i64 x, .int .i64 e] [rowU b off n c d] (fun v B => v = .tuple #[] ∧ B = [rowU b off n c (reverseRange d x e)]) := by
  refine FSpec.of Tryz.func112 rfl Tryz.ntmps112 rfl fun W0 F => ?_
  refine J.seq <| J.region <| J.m rfl <| J.p rfl (Q.asg rfl) <| J.nil <| J.then_n <| J.seq <| J.region <| J.m rfl <| J.p rfl (Q.sub64 rfl rfl (by omega)) <| J.p rfl (Q.asg rfl) <| J.nil <| J.then_n <| J.block ?_
  refine J.loop3 (fun (i j : Nat) (d1 : Array Nat) => d1.size = n ∧ j < n ∧ reverseLoop i j d1 = reverseRange d x e) (fun i j _ => j - i) (fun i j _ => [(0, .slice (some ⟨b, off, none⟩) n c), (6, .int .i64 i), (7, .int .i64 j)]) (fun _ _ d1 => [rowU b off n c d1, F]) x (e - 1) d ⟨hn, by omega, rfl⟩ ⟨rfl, rfl, (by show some (Value.int .i64 ((e : Int) - 1)) = some (Value.int .i64 ((e - 1 : Nat) : Int)); congr 2; omega), trivial⟩ rfl fun i j d1 hz => ?_
  obtain ⟨h1, h2, h3⟩ := hz
  refine J.seq <| J.seq <| J.region <| J.m rfl <| J.m rfl <| J.p rfl (Q.lss rfl rfl) <| J.nil <| J.then_n ?_
  refine J.cases 13 rfl (fun hc13 => ?_) (fun hc13 => ?_)
  ·
   replace hc13 := X.nm hc13
   try (first | (cases hc13; done) | (exfalso; simp at hc13; done))
   all_goals
    refine J.cond_t rfl <| J.cskip <| J.then_n <| J.block <| J.seq ?_
    refine J.draw [13, 15] Tryz.mixed (by kernel_rfl) fun hR => ?_
    refine RG.p 0 hR rfl (Q.mv rfl) <| RG.p 1 hR rfl (Q.mv rfl) <| RG.p 2 hR rfl (Q.mv rfl) <| RG.p 3 hR rfl (Q.mv rfl) <| RG.p 4 hR rfl (Q.mv rfl) <| RG.p 5 hR rfl (Q.mv rfl) <| RG.p 6 hR rfl (Q.ia Tryz.runUnderlying60 Tryz.sizeOf23 rfl rfl (by omega) (by omega)) <| RG.p 7 hR rfl (Q.ld Tryz.isAgg23 rfl (rdU (k := 0) rfl (by omega))) ?_
    refine RG.p 8 hR rfl (Q.mv rfl) <| RG.p 9 hR rfl (Q.mv rfl) <| RG.p 10 hR rfl (Q.ia Tryz.runUnderlying60 Tryz.sizeOf23 rfl rfl (by omega) (by omega)) <| RG.p 11 hR rfl (Q.ld Tryz.isAgg23 rfl (rdU (k := 0) rfl (by omega))) <| RG.p 12 hR rfl (Q.ia Tryz.runUnderlying60 Tryz.sizeOf23 rfl rfl (by omega) (by omega)) ?_
    refine RG.barP 13 [2, 3] hR rfl rfl rfl rfl rfl (by kernel_rfl) ⟨Free.q rfl rfl rfl (Q.mv rfl), ⟨Free.q rfl rfl rfl (Q.mv rfl), trivial⟩⟩ (C.stO 0 Tryz.sizeOf23 rfl rfl rfl rfl rfl (by first | (rw [avU_len]; omega) | (rw [List.length_set, avU_len]; omega))) ?_
    rintro _ _ ⟨rfl, rfl⟩
    refine RG.norm rfl <| RG.p 14 hR rfl (Q.ia Tryz.runUnderlying60 Tryz.sizeOf23 rfl rfl (by omega) (by omega)) ?_
    refine RG.barP 15 [] hR rfl rfl rfl rfl rfl (by kernel_rfl) trivial (C.stO 0 Tryz.sizeOf23 rfl rfl rfl rfl rfl (by first | (rw [avU_len]; omega) | (rw [List.length_set, avU_len]; omega))) ?_
    rintro _ _ ⟨rfl, rfl⟩
    refine RG.norm rfl ?_
    refine RG.fin hR rfl ?_
    refine J.norm rfl <| J.then_n <| J.seq <| J.region <| J.m rfl <| J.p rfl (Q.add64 rfl rfl (by omega)) <| J.p rfl (Q.asg rfl) <| J.nil <| J.then_n <| J.region <| J.m rfl <| J.p rfl (Q.sub64 rfl rfl (by omega)) <| J.p rfl (Q.asg rfl) <| J.nil <| J.blk_n ?_
    refine J.conv (Y := rowU b off n c (swp d1 i j)) 0 rfl (swrU (by omega) (by omega)) ?_
    refine J.again (i + 1, j - 1, swp d1 i j) ⟨by show (swp d1 i j).size = n; rw [szU_swp, h1], by show j - 1 < n; omega, by rw [← h3]; conv => { rhs; rw [reverseLoop] }; rw [if_pos (by omega)]⟩ (by show j - 1 - (i + 1) < j - i; omega) ⟨rfl, rfl, (by show some (Value.int .i64 ((j : Int) - 1)) = some (Value.int .i64 ((j - 1 : Nat) : Int)); congr 2; omega), trivial⟩ rfl
  replace hc13 := X.nm hc13
  try (first | (cases hc13; done) | (exfalso; simp at hc13; done))
  all_goals
   refine J.cond_f rfl <| J.exit <| J.then_x <| J.lp_x <| J.blk_x ?_
   have hd : d1 = reverseRange d x e := by rw [← h3, reverseLoop, if_neg (by omega)]
   rw [hd]
   refine J.end0 (B := [_]) rfl ⟨rfl, rfl⟩ rfl
end Go.Proofs.YtdancegklkifaaaGreat
namespace Go.Proofs.YtdancegklkifaaaGreat
set_option linter.unusedSectionVars false
set_option linter.unusedSimpArgs false
set_option linter.unusedVariables false
open Go.X
open Go.Sort (swp scanUp scanDown partLoop partition partEqLoop partitionEqual partLoop_eq partEqLoop_eq scanUp_ge scanDown_le guard_of PermIn SortedIn SWO)

section plain
variable {α : Type} [Inhabited α] {p : α → Bool} {i j : Nat} {d : Array α}
theorem scanUp_go (h : i ≤ j) (hp : p d[i]! = true) : scanUp p d j (i + 1) = scanUp p d j i := by
  conv => { rhs; rw [scanUp] }
  rw [if_pos (by rw [hp]; simp; exact h)]
theorem scanUp_stop (h : ¬ i ≤ j ∨ p d[i]! = false) : scanUp p d j i = i := by
  rw [scanUp, if_neg]
  rcases h with h | h
  · simp; omega
  · simp [h]
theorem scanDown_go (h : i ≤ j) (hj : 0 < j) (hp : p d[j]! = true) : scanDown p d i (j - 1) = scanDown p d i j := by
  obtain ⟨k, rfl⟩ : ∃ k, j = k + 1 := ⟨j - 1, by omega⟩
  conv => { rhs; rw [scanDown] }
  rw [if_pos (by rw [hp]; simp; exact h)]; rfl
theorem scanDown_stop (h : ¬ i ≤ j ∨ p d[j]! = false) : scanDown p d i j = j := by
  cases j with
  | zero => rfl
  | succ k =>
    rw [scanDown, if_neg]
    rcases h with h | h
    · simp; omega
    · simp [h]
end plain

theorem partitionU (b off n c : Nat) (d : Array Nat) (x e pv : Nat) (hn : d.size = n) (hx : x ≤ pv) (hp : pv < e) (he : e ≤ n) (hs : n ≤ 1099511627776) :
    FSpec Tryz.prog 116 [.slice (some ⟨b, off, none⟩) n c, .int .i64 x, .int .i64 e, .int .i64 pv] [rowU b off n c d] (fun v B => v = .tuple #[.int .i64 ((partition ltU d x e pv).1 : Nat), .bool (partition ltU d x e pv).2.1] ∧ B = [rowU b off n c (partition ltU d x e pv).2.2]) := by
  refine FSpec.of Tryz.func116 rfl Tryz.ntmps116 rfl fun W0 F => ?_
  refine J.seq <| J.region <| J.p rfl (Q.asg rfl) <| J.p rfl (Q.asg rfl) <| J.nil <| J.then_n <| J.seq ?_
  refine J.draw [13, 15] Tryz.mixed (by kernel_rfl) fun hR => ?_
  refine RG.p 0 hR rfl (Q.mv rfl) <| RG.p 1 hR rfl (Q.mv rfl) <| RG.p 2 hR rfl (Q.mv rfl) <| RG.p 3 hR rfl (Q.mv rfl) <| RG.p 4 hR rfl (Q.mv rfl) <| RG.p 5 hR rfl (Q.mv rfl) <| RG.p 6 hR rfl (Q.ia Tryz.runUnderlying60 Tryz.sizeOf23 rfl rfl (by omega) (by omega)) <| RG.p 7 hR rfl (Q.ld Tryz.isAgg23 rfl (rdU (k := 0) rfl (by omega))) ?_
  refine RG.p 8 hR rfl (Q.mv rfl) <| RG.p 9 hR rfl (Q.mv rfl) <| RG.p 10 hR rfl (Q.ia Tryz.runUnderlying60 Tryz.sizeOf23 rfl rfl (by omega) (by omega)) <| RG.p 11 hR rfl (Q.ld Tryz.isAgg23 rfl (rdU (k := 0) rfl (by omega))) <| RG.p 12 hR rfl (Q.ia Tryz.runUnderlying60 Tryz.sizeOf23 rfl rfl (by omega) (by omega)) ?_
  refine RG.barP 13 [2, 3] hR rfl rfl rfl rfl rfl (by kernel_rfl) ⟨Free.q rfl rfl rfl (Q.mv rfl), ⟨Free.q rfl rfl rfl (Q.mv rfl), trivial⟩⟩ (C.stO 0 Tryz.sizeOf23 rfl rfl rfl rfl rfl (by first | (rw [avU_len]; omega) | (rw [List.length_set, avU_len]; omega))) ?_
  rintro _ _ ⟨rfl, rfl⟩
  refine RG.norm rfl <| RG.p 14 hR rfl (Q.ia Tryz.runUnderlying60 Tryz.sizeOf23 rfl rfl (by omega) (by omega)) ?_
  refine RG.barP 15 [] hR rfl rfl rfl rfl rfl (by kernel_rfl) trivial (C.stO 0 Tryz.sizeOf23 rfl rfl rfl rfl rfl (by first | (rw [avU_len]; omega) | (rw [List.length_set, avU_len]; omega))) ?_
  rintro _ _ ⟨rfl, rfl⟩
  refine RG.norm rfl ?_
  refine RG.fin hR rfl ?_
  refine J.norm rfl <| J.then_n <| J.seq ?_
  refine J.conv (Y := rowU b off n c (swp d x pv)) 0 rfl (swrU (by omega) (by omega)) ?_
  obtain ⟨d1, hd1⟩ : ∃ d1, d1 = swp d x pv := ⟨_, rfl⟩
  have h1 : d1.size = n := by rw [hd1, szU_swp, hn]
  rw [← hd1]
  refine J.region <| J.m rfl <| J.p rfl (Q.add64 rfl rfl (by omega)) <| J.m rfl <| J.p rfl (Q.sub64 rfl rfl (by omega)) <| J.p rfl (Q.asg rfl) <| J.p rfl (Q.asg rfl) <| J.nil <| J.then_n ?_
  obtain ⟨I1, hI1⟩ : ∃ I1, I1 = scanUp (fun y => ltU y d1[x]!) d1 (e - 1) (x + 1) := ⟨_, rfl⟩
  have hge := scanUp_ge (fun y => ltU y d1[x]!) d1 (e - 1) (x + 1)
  rw [← hI1] at hge
  refine J.cut (fun _ : Unit => I1 ≤ e) (fun _ => [(0, .slice (some ⟨b, off, none⟩) n c), (1, .int .i64 x), (10, .int .i64 I1), (11, .int .i64 ((e - 1 : Nat) : Int))]) (fun _ => [rowU b off n c d1, F]) ?_ fun _ hIe => ?_
  ·
   refine J.block ?_
   refine J.loop (fun i : Nat => i ≤ e ∧ scanUp (fun y => ltU y d1[x]!) d1 (e - 1) i = I1) (fun i => e - i) (fun i => [(0, .slice (some ⟨b, off, none⟩) n c), (1, .int .i64 x), (10, .int .i64 i), (11, .int .i64 ((e - 1 : Nat) : Int))]) (fun _ => [rowU b off n c d1, F]) (x + 1) ⟨by omega, hI1.symm⟩ ⟨rfl, rfl, rfl, (by show some (Value.int .i64 ((e : Int) - 1)) = some (Value.int .i64 ((e - 1 : Nat) : Int)); congr 2; omega), trivial⟩ rfl fun i hz => ?_
   obtain ⟨g1, g2⟩ := hz
   refine J.seq <| J.seq ?_
   refine J.draw [12] Tryz.mixed (by kernel_rfl) fun hR => ?_
   refine RG.p 0 hR rfl (Q.mv rfl) <| RG.p 1 hR rfl (Q.mv rfl) <| RG.p 2 hR rfl (Q.leq rfl rfl) <| RG.p 3 hR rfl (Q.mv rfl) ?_
   refine RG.cases 33 rfl (fun hb33 => ?_) (fun hb33 => ?_)
   ·
    replace hb33 := X.nm hb33
    try (first | (cases hb33; done) | (exfalso; simp at hb33; done))
    all_goals
     refine RG.p 4 hR rfl (Q.mv rfl) <| RG.p 5 hR rfl (Q.mv rfl) <| RG.p 6 hR rfl (Q.ia Tryz.runUnderlying60 Tryz.sizeOf23 rfl rfl (by omega) (by omega)) <| RG.p 7 hR rfl (Q.ld Tryz.isAgg23 rfl (rdU (k := 0) rfl (by omega))) <| RG.p 8 hR rfl (Q.mv rfl) <| RG.p 9 hR rfl (Q.mv rfl) <| RG.p 10 hR rfl (Q.ia Tryz.runUnderlying60 Tryz.sizeOf23 rfl rfl (by omega) (by omega)) ?_
     refine RG.p 11 hR rfl (Q.ld Tryz.isAgg23 rfl (rdU (k := 0) rfl (by omega))) ?_
     refine RG.call 12 hR rfl rfl rfl rfl rfl rfl Tryz.call114 (lessU _ _) [] rfl rfl ?_
     rintro _ _ ⟨rfl, rfl⟩
     refine RG.norm rfl <| RG.p 13 hR rfl (Q.pick_t rfl rfl) ?_
     refine RG.fin hR rfl ?_
     refine J.norm rfl <| J.then_n ?_
     refine J.cases 43 rfl (fun hc43 => ?_) (fun hc43 => ?_)
     ·
      replace hc43 := X.nm hc43
      try (first | (cases hc43; done) | (exfalso; simp at hc43; done))
      all_goals
       refine J.cond_t rfl <| J.cskip <| J.then_n <| J.block <| J.region <| J.m rfl <| J.p rfl (Q.add64 rfl rfl (by omega)) <| J.p rfl (Q.asg rfl) <| J.nil <| J.blk_n ?_
       rw [Int.toNat_natCast, Int.toNat_natCast] at hc43
       refine J.again (i + 1) ⟨by show i + 1 ≤ e; omega, by rw [← g2]; exact scanUp_go (by omega) hc43⟩ (by show e - (i + 1) < e - i; omega) ⟨rfl, rfl, rfl, rfl, trivial⟩ rfl
     replace hc43 := X.nm hc43
     try (first | (cases hc43; done) | (exfalso; simp at hc43; done))
     all_goals
      refine J.cond_f rfl <| J.exit <| J.then_x <| J.lp_x <| J.blk_x ?_
      have hst : I1 = i := by
        rw [← g2]
        refine scanUp_stop ?_
        first
          | (left; omega)
          | (right; rw [Int.toNat_natCast, Int.toNat_natCast] at hc43; exact hc43)
      refine J.meet () (by rw [hst]; exact g1) ⟨rfl, rfl, (by rw [hst]; rfl), rfl, trivial⟩ rfl
   replace hb33 := X.nm hb33
   try (first | (cases hb33; done) | (exfalso; simp at hb33; done))
   all_goals
    refine RG.skip 4 hR rfl rfl rfl rfl rfl rfl <| RG.skip 5 hR rfl rfl rfl rfl rfl rfl <| RG.skip 6 hR rfl rfl rfl rfl rfl rfl <| RG.skip 7 hR rfl rfl rfl rfl rfl rfl <| RG.skip 8 hR rfl rfl rfl rfl rfl rfl <| RG.skip 9 hR rfl rfl rfl rfl rfl rfl <| RG.skip 10 hR rfl rfl rfl rfl rfl rfl <| RG.skip 11 hR rfl rfl rfl rfl rfl rfl ?_
    refine RG.pass 12 hR rfl rfl rfl rfl rfl ?_
    refine RG.p 13 hR rfl (Q.pick_f rfl rfl) ?_
    refine RG.fin hR rfl ?_
    refine J.norm rfl <| J.then_n <| J.cond_f rfl <| J.exit <| J.then_x <| J.lp_x <| J.blk_x ?_
    have hst : I1 = i := by
      rw [← g2]
      refine scanUp_stop ?_
      first
        | (left; omega)
        | (right; rw [Int.toNat_natCast, Int.toNat_natCast] at hc43; exact hc43)
    refine J.meet () (by rw [hst]; exact g1) ⟨rfl, rfl, (by rw [hst]; rfl), rfl, trivial⟩ rfl
  obtain ⟨J1, hJ1⟩ : ∃ J1, J1 = scanDown (fun y => !ltU y d1[x]!) d1 I1 (e - 1) := ⟨_, rfl⟩
  have hle := scanDown_le (fun y => !ltU y d1[x]!) d1 I1 (e - 1)
  rw [← hJ1] at hle
  refine J.cut (fun _ : Unit => True) (fun _ => [(0, .slice (some ⟨b, off, none⟩) n c), (1, .int .i64 x), (10, .int .i64 I1), (11, .int .i64 J1)]) (fun _ => [rowU b off n c d1, F]) ?_ fun _ _ => ?_
  ·
   refine J.block ?_
   refine J.loop (fun j : Nat => j < e ∧ scanDown (fun y => !ltU y d1[x]!) d1 I1 j = J1) (fun j => j) (fun j => [(0, .slice (some ⟨b, off, none⟩) n c), (1, .int .i64 x), (10, .int .i64 I1), (11, .int .i64 j)]) (fun _ => [rowU b off n c d1, F]) (e - 1) ⟨by omega, hJ1.symm⟩ ⟨rfl, rfl, rfl, rfl, trivial⟩ rfl fun j hz => ?_
   obtain ⟨g1, g2⟩ := hz
   refine J.seq <| J.seq ?_
   refine J.draw [12] Tryz.mixed (by kernel_rfl) fun hR => ?_
   refine RG.p 0 hR rfl (Q.mv rfl) <| RG.p 1 hR rfl (Q.mv rfl) <| RG.p 2 hR rfl (Q.leq rfl rfl) <| RG.p 3 hR rfl (Q.mv rfl) ?_
   refine RG.cases 49 rfl (fun hb49 => ?_) (fun hb49 => ?_)
   ·
    replace hb49 := X.nm hb49
    try (first | (cases hb49; done) | (exfalso; simp at hb49; done))
    all_goals
     refine RG.p 4 hR rfl (Q.mv rfl) <| RG.p 5 hR rfl (Q.mv rfl) <| RG.p 6 hR rfl (Q.ia Tryz.runUnderlying60 Tryz.sizeOf23 rfl rfl (by omega) (by omega)) <| RG.p 7 hR rfl (Q.ld Tryz.isAgg23 rfl (rdU (k := 0) rfl (by omega))) <| RG.p 8 hR rfl (Q.mv rfl) <| RG.p 9 hR rfl (Q.mv rfl) <| RG.p 10 hR rfl (Q.ia Tryz.runUnderlying60 Tryz.sizeOf23 rfl rfl (by omega) (by omega)) ?_
     refine RG.p 11 hR rfl (Q.ld Tryz.isAgg23 rfl (rdU (k := 0) rfl (by omega))) ?_
     refine RG.call 12 hR rfl rfl rfl rfl rfl rfl Tryz.call114 (lessU _ _) [] rfl rfl ?_
     rintro _ _ ⟨rfl, rfl⟩
     refine RG.norm rfl <| RG.p 13 hR rfl (Q.not rfl) <| RG.p 14 hR rfl (Q.pick_t rfl rfl) ?_
     refine RG.fin hR rfl ?_
     refine J.norm rfl <| J.then_n ?_
     refine J.cases 60 rfl (fun hc60 => ?_) (fun hc60 => ?_)
     ·
      replace hc60 := X.nm hc60
      try (first | (cases hc60; done) | (exfalso; simp at hc60; done))
      all_goals
       refine J.cond_t rfl <| J.cskip <| J.then_n <| J.block <| J.region <| J.m rfl <| J.p rfl (Q.sub64 rfl rfl (by omega)) <| J.p rfl (Q.asg rfl) <| J.nil <| J.blk_n ?_
       rw [Int.toNat_natCast, Int.toNat_natCast] at hc60
       refine J.again (j - 1) ⟨by show j - 1 < e; omega, by rw [← g2]; exact scanDown_go (by omega) (by omega) hc60⟩ (by show j - 1 < j; omega) ⟨rfl, rfl, rfl, (by show some (Value.int .i64 ((j : Int) - 1)) = some (Value.int .i64 ((j - 1 : Nat) : Int)); congr 2; omega), trivial⟩ rfl
     replace hc60 := X.nm hc60
     try (first | (cases hc60; done) | (exfalso; simp at hc60; done))
     all_goals
      refine J.cond_f rfl <| J.exit <| J.then_x <| J.lp_x <| J.blk_x ?_
      have hst : J1 = j := by
        rw [← g2]
        refine scanDown_stop ?_
        first
          | (left; omega)
          | (right; rw [Int.toNat_natCast, Int.toNat_natCast] at hc60; exact hc60)
      refine J.meet () trivial ⟨rfl, rfl, rfl, (by rw [hst]; rfl), trivial⟩ rfl
   replace hb49 := X.nm hb49
   try (first | (cases hb49; done) | (exfalso; simp at hb49; done))
   all_goals
    refine RG.skip 4 hR rfl rfl rfl rfl rfl rfl <| RG.skip 5 hR rfl rfl rfl rfl rfl rfl <| RG.skip 6 hR rfl rfl rfl rfl rfl rfl <| RG.skip 7 hR rfl rfl rfl rfl rfl rfl <| RG.skip 8 hR rfl rfl rfl rfl rfl rfl <| RG.skip 9 hR rfl rfl rfl rfl rfl rfl <| RG.skip 10 hR rfl rfl rfl rfl rfl rfl <| RG.skip 11 hR rfl rfl rfl rfl rfl rfl ?_
    refine RG.pass 12 hR rfl rfl rfl rfl rfl ?_
    refine RG.skip 13 hR rfl rfl rfl rfl rfl rfl <| RG.p 14 hR rfl (Q.pick_f rfl rfl) ?_
    refine RG.fin hR rfl ?_
    refine J.norm rfl <| J.then_n <| J.cond_f rfl <| J.exit <| J.then_x <| J.lp_x <| J.blk_x ?_
    have hst : J1 = j := by
      rw [← g2]
      refine scanDown_stop ?_
      first
        | (left; omega)
        | (right; rw [Int.toNat_natCast, Int.toNat_natCast] at hc60; exact hc60)
    refine J.meet () trivial ⟨rfl, rfl, rfl, (by rw [hst]; rfl), trivial⟩ rfl
  refine J.seq <| J.seq ?_
  have hP : partition ltU d x e pv = if I1 > J1 then (J1, true, swp d1 J1 x) else ((partLoop ltU x (I1 + 1) (J1 - 1) (swp d1 I1 J1)).1, false, swp (partLoop ltU x (I1 + 1) (J1 - 1) (swp d1 I1 J1)).2 (partLoop ltU x (I1 + 1) (J1 - 1) (swp d1 I1 J1)).1 x) := by
    unfold partition
    simp only [← hd1, ← hI1, ← hJ1]
  refine J.region <| J.m rfl <| J.m rfl <| J.p rfl (Q.gtr rfl rfl) <| J.nil <| J.then_n ?_
  refine J.cases 65 rfl (fun hc65 => ?_) (fun hc65 => ?_)
  ·
   replace hc65 := X.nm hc65
   try (first | (cases hc65; done) | (exfalso; simp at hc65; done))
   all_goals
    refine J.cond_t rfl <| J.seq ?_
    refine J.draw [13, 15] Tryz.mixed (by kernel_rfl) fun hR => ?_
    refine RG.p 0 hR rfl (Q.mv rfl) <| RG.p 1 hR rfl (Q.mv rfl) <| RG.p 2 hR rfl (Q.mv rfl) <| RG.p 3 hR rfl (Q.mv rfl) <| RG.p 4 hR rfl (Q.mv rfl) <| RG.p 5 hR rfl (Q.mv rfl) <| RG.p 6 hR rfl (Q.ia Tryz.runUnderlying60 Tryz.sizeOf23 rfl rfl (by omega) (by omega)) <| RG.p 7 hR rfl (Q.ld Tryz.isAgg23 rfl (rdU (k := 0) rfl (by omega))) ?_
    refine RG.p 8 hR rfl (Q.mv rfl) <| RG.p 9 hR rfl (Q.mv rfl) <| RG.p 10 hR rfl (Q.ia Tryz.runUnderlying60 Tryz.sizeOf23 rfl rfl (by omega) (by omega)) <| RG.p 11 hR rfl (Q.ld Tryz.isAgg23 rfl (rdU (k := 0) rfl (by omega))) <| RG.p 12 hR rfl (Q.ia Tryz.runUnderlying60 Tryz.sizeOf23 rfl rfl (by omega) (by omega)) ?_
    refine RG.barP 13 [2, 3] hR rfl rfl rfl rfl rfl (by kernel_rfl) ⟨Free.q rfl rfl rfl (Q.mv rfl), ⟨Free.q rfl rfl rfl (Q.mv rfl), trivial⟩⟩ (C.stO 0 Tryz.sizeOf23 rfl rfl rfl rfl rfl (by first | (rw [avU_len]; omega) | (rw [List.length_set, avU_len]; omega))) ?_
    rintro _ _ ⟨rfl, rfl⟩
    refine RG.norm rfl <| RG.p 14 hR rfl (Q.ia Tryz.runUnderlying60 Tryz.sizeOf23 rfl rfl (by omega) (by omega)) ?_
    refine RG.barP 15 [] hR rfl rfl rfl rfl rfl (by kernel_rfl) trivial (C.stO 0 Tryz.sizeOf23 rfl rfl rfl rfl rfl (by first | (rw [avU_len]; omega) | (rw [List.length_set, avU_len]; omega))) ?_
    rintro _ _ ⟨rfl, rfl⟩
    refine RG.norm rfl ?_
    refine RG.fin hR rfl ?_
    refine J.norm rfl <| J.then_n <| J.seq <| J.region <| J.m rfl <| J.p rfl (Q.asg rfl) <| J.p rfl (Q.asg rfl) <| J.nil <| J.then_n <| J.cret <| J.then_r ?_
    refine J.conv (Y := rowU b off n c (swp d1 J1 x)) 0 rfl (swrU (by omega) (by omega)) ?_
    rw [hP, if_pos (by omega)]
    refine J.ret2 (B := [_]) rfl rfl rfl ⟨rfl, rfl⟩ rfl
  replace hc65 := X.nm hc65
  try (first | (cases hc65; done) | (exfalso; simp at hc65; done))
  all_goals
   refine J.cond_f rfl <| J.cskip <| J.then_n <| J.seq ?_
   refine J.draw [13, 15] Tryz.mixed (by kernel_rfl) fun hR => ?_
   refine RG.p 0 hR rfl (Q.mv rfl) <| RG.p 1 hR rfl (Q.mv rfl) <| RG.p 2 hR rfl (Q.mv rfl) <| RG.p 3 hR rfl (Q.mv rfl) <| RG.p 4 hR rfl (Q.mv rfl) <| RG.p 5 hR rfl (Q.mv rfl) <| RG.p 6 hR rfl (Q.ia Tryz.runUnderlying60 Tryz.sizeOf23 rfl rfl (by omega) (by omega)) <| RG.p 7 hR rfl (Q.ld Tryz.isAgg23 rfl (rdU (k := 0) rfl (by omega))) ?_
   refine RG.p 8 hR rfl (Q.mv rfl) <| RG.p 9 hR rfl (Q.mv rfl) <| RG.p 10 hR rfl (Q.ia Tryz.runUnderlying60 Tryz.sizeOf23 rfl rfl (by omega) (by omega)) <| RG.p 11 hR rfl (Q.ld Tryz.isAgg23 rfl (rdU (k := 0) rfl (by omega))) <| RG.p 12 hR rfl (Q.ia Tryz.runUnderlying60 Tryz.sizeOf23 rfl rfl (by omega) (by omega)) ?_
   refine RG.barP 13 [2, 3] hR rfl rfl rfl rfl rfl (by kernel_rfl) ⟨Free.q rfl rfl rfl (Q.mv rfl), ⟨Free.q rfl rfl rfl (Q.mv rfl), trivial⟩⟩ (C.stO 0 Tryz.sizeOf23 rfl rfl rfl rfl rfl (by first | (rw [avU_len]; omega) | (rw [List.length_set, avU_len]; omega))) ?_
   rintro _ _ ⟨rfl, rfl⟩
   refine RG.norm rfl <| RG.p 14 hR rfl (Q.ia Tryz.runUnderlying60 Tryz.sizeOf23 rfl rfl (by omega) (by omega)) ?_
   refine RG.barP 15 [] hR rfl rfl rfl rfl rfl (by kernel_rfl) trivial (C.stO 0 Tryz.sizeOf23 rfl rfl rfl rfl rfl (by first | (rw [avU_len]; omega) | (rw [List.length_set, avU_len]; omega))) ?_
   rintro _ _ ⟨rfl, rfl⟩
   refine RG.norm rfl ?_
   refine RG.fin hR rfl ?_
   refine J.norm rfl <| J.then_n <| J.seq ?_
   refine J.conv (Y := rowU b off n c (swp d1 I1 J1)) 0 rfl (swrU (by omega) (by omega)) ?_
   obtain ⟨PL, hPL⟩ : ∃ PL, PL = partLoop ltU x (I1 + 1) (J1 - 1) (swp d1 I1 J1) := ⟨_, rfl⟩
   rw [if_neg (by omega), ← hPL] at hP
   refine J.region <| J.m rfl <| J.p rfl (Q.add64 rfl rfl (by omega)) <| J.p rfl (Q.asg rfl) <| J.nil <| J.then_n <| J.seq <| J.region <| J.m rfl <| J.p rfl (Q.sub64 rfl rfl (by omega)) <| J.p rfl (Q.asg rfl) <| J.nil <| J.then_n <| J.seq <| J.block ?_
   refine J.loop3 (fun (i j : Nat) (d2 : Array Nat) => d2.size = n ∧ x < i ∧ i ≤ e ∧ j < e ∧ partLoop ltU x i j d2 = PL) (fun i j _ => j + 1 - i) (fun i j _ => [(0, .slice (some ⟨b, off, none⟩) n c), (1, .int .i64 x), (10, .int .i64 i), (11, .int .i64 j)]) (fun _ _ d2 => [rowU b off n c d2, F]) (I1 + 1) (J1 - 1) (swp d1 I1 J1) ⟨by rw [szU_swp, h1], by omega, by omega, by omega, hPL.symm⟩ ⟨rfl, rfl, rfl, (by show some (Value.int .i64 ((J1 : Int) - 1)) = some (Value.int .i64 ((J1 - 1 : Nat) : Int)); congr 2; omega), trivial⟩ rfl fun i j d2 hz => ?_
   obtain ⟨k1, k2, k3, k4, k5⟩ := hz
   have hq := partLoop_eq ltU x i j d2
   refine J.block ?_
   obtain ⟨I2, hI2⟩ : ∃ I2, I2 = scanUp (fun y => ltU y d2[x]!) d2 j i := ⟨_, rfl⟩
   have hge2 := scanUp_ge (fun y => ltU y d2[x]!) d2 j i
   rw [← hI2] at hge2 hq
   refine J.cut (fun _ : Unit => I2 ≤ e) (fun _ => [(0, .slice (some ⟨b, off, none⟩) n c), (1, .int .i64 x), (10, .int .i64 I2), (11, .int .i64 j)]) (fun _ => [rowU b off n c d2, F]) ?_ fun _ hIe2 => ?_
   ·
    refine J.block ?_
    refine J.loop (fun i' : Nat => i' ≤ e ∧ scanUp (fun y => ltU y d2[x]!) d2 j i' = I2) (fun i' => e - i') (fun i' => [(0, .slice (some ⟨b, off, none⟩) n c), (1, .int .i64 x), (10, .int .i64 i'), (11, .int .i64 j)]) (fun _ => [rowU b off n c d2, F]) i ⟨k3, hI2.symm⟩ ⟨rfl, rfl, rfl, rfl, trivial⟩ rfl fun i' hz => ?_
    obtain ⟨g1, g2⟩ := hz
    refine J.seq <| J.seq ?_
    refine J.draw [12] Tryz.mixed (by kernel_rfl) fun hR => ?_
    refine RG.p 0 hR rfl (Q.mv rfl) <| RG.p 1 hR rfl (Q.mv rfl) <| RG.p 2 hR rfl (Q.leq rfl rfl) <| RG.p 3 hR rfl (Q.mv rfl) ?_
    refine RG.cases 102 rfl (fun hb102 => ?_) (fun hb102 => ?_)
    ·
     replace hb102 := X.nm hb102
     try (first | (cases hb102; done) | (exfalso; simp at hb102; done))
     all_goals
      refine RG.p 4 hR rfl (Q.mv rfl) <| RG.p 5 hR rfl (Q.mv rfl) <| RG.p 6 hR rfl (Q.ia Tryz.runUnderlying60 Tryz.sizeOf23 rfl rfl (by omega) (by omega)) <| RG.p 7 hR rfl (Q.ld Tryz.isAgg23 rfl (rdU (k := 0) rfl (by omega))) <| RG.p 8 hR rfl (Q.mv rfl) <| RG.p 9 hR rfl (Q.mv rfl) <| RG.p 10 hR rfl (Q.ia Tryz.runUnderlying60 Tryz.sizeOf23 rfl rfl (by omega) (by omega)) ?_
      refine RG.p 11 hR rfl (Q.ld Tryz.isAgg23 rfl (rdU (k := 0) rfl (by omega))) ?_
      refine RG.call 12 hR rfl rfl rfl rfl rfl rfl Tryz.call114 (lessU _ _) [] rfl rfl ?_
      rintro _ _ ⟨rfl, rfl⟩
      refine RG.norm rfl <| RG.p 13 hR rfl (Q.pick_t rfl rfl) ?_
      refine RG.fin hR rfl ?_
      refine J.norm rfl <| J.then_n ?_
      refine J.cases 112 rfl (fun hc112 => ?_) (fun hc112 => ?_)
      ·
       replace hc112 := X.nm hc112
       try (first | (cases hc112; done) | (exfalso; simp at hc112; done))
       all_goals
        refine J.cond_t rfl <| J.cskip <| J.then_n <| J.block <| J.region <| J.m rfl <| J.p rfl (Q.add64 rfl rfl (by omega)) <| J.p rfl (Q.asg rfl) <| J.nil <| J.blk_n ?_
        rw [Int.toNat_natCast, Int.toNat_natCast] at hc112
        refine J.again (i' + 1) ⟨by show i' + 1 ≤ e; omega, by rw [← g2]; exact scanUp_go (by omega) hc112⟩ (by show e - (i' + 1) < e - i'; omega) ⟨rfl, rfl, rfl, rfl, trivial⟩ rfl
      replace hc112 := X.nm hc112
      try (first | (cases hc112; done) | (exfalso; simp at hc112; done))
      all_goals
       refine J.cond_f rfl <| J.exit <| J.then_x <| J.lp_x <| J.blk_x ?_
       have hst : I2 = i' := by
         rw [← g2]
         refine scanUp_stop ?_
         first
           | (left; omega)
           | (right; rw [Int.toNat_natCast, Int.toNat_natCast] at hc112; exact hc112)
       refine J.meet () (by rw [hst]; exact g1) ⟨rfl, rfl, (by rw [hst]; rfl), rfl, trivial⟩ rfl
    replace hb102 := X.nm hb102
    try (first | (cases hb102; done) | (exfalso; simp at hb102; done))
    all_goals
     refine RG.skip 4 hR rfl rfl rfl rfl rfl rfl <| RG.skip 5 hR rfl rfl rfl rfl rfl rfl <| RG.skip 6 hR rfl rfl rfl rfl rfl rfl <| RG.skip 7 hR rfl rfl rfl rfl rfl rfl <| RG.skip 8 hR rfl rfl rfl rfl rfl rfl <| RG.skip 9 hR rfl rfl rfl rfl rfl rfl <| RG.skip 10 hR rfl rfl rfl rfl rfl rfl <| RG.skip 11 hR rfl rfl rfl rfl rfl rfl ?_
     refine RG.pass 12 hR rfl rfl rfl rfl rfl ?_
     refine RG.p 13 hR rfl (Q.pick_f rfl rfl) ?_
     refine RG.fin hR rfl ?_
     refine J.norm rfl <| J.then_n <| J.cond_f rfl <| J.exit <| J.then_x <| J.lp_x <| J.blk_x ?_
     have hst : I2 = i' := by
       rw [← g2]
       refine scanUp_stop ?_
       first
         | (left; omega)
         | (right; rw [Int.toNat_natCast, Int.toNat_natCast] at hc112; exact hc112)
     refine J.meet () (by rw [hst]; exact g1) ⟨rfl, rfl, (by rw [hst]; rfl), rfl, trivial⟩ rfl
   obtain ⟨J2, hJ2⟩ : ∃ J2, J2 = scanDown (fun y => !ltU y d2[x]!) d2 I2 j := ⟨_, rfl⟩
   have hle2 := scanDown_le (fun y => !ltU y d2[x]!) d2 I2 j
   rw [← hJ2] at hle2 hq
   refine J.cut (fun _ : Unit => True) (fun _ => [(0, .slice (some ⟨b, off, none⟩) n c), (1, .int .i64 x), (10, .int .i64 I2), (11, .int .i64 J2)]) (fun _ => [rowU b off n c d2, F]) ?_ fun _ _ => ?_
   ·
    refine J.block ?_
    refine J.loop (fun j' : Nat => j' < e ∧ scanDown (fun y => !ltU y d2[x]!) d2 I2 j' = J2) (fun j' => j') (fun j' => [(0, .slice (some ⟨b, off, none⟩) n c), (1, .int .i64 x), (10, .int .i64 I2), (11, .int .i64 j')]) (fun _ => [rowU b off n c d2, F]) j ⟨k4, hJ2.symm⟩ ⟨rfl, rfl, rfl, rfl, trivial⟩ rfl fun j' hz => ?_
    obtain ⟨g1, g2⟩ := hz
    refine J.seq <| J.seq ?_
    refine J.draw [12] Tryz.mixed (by kernel_rfl) fun hR => ?_
    refine RG.p 0 hR rfl (Q.mv rfl) <| RG.p 1 hR rfl (Q.mv rfl) <| RG.p 2 hR rfl (Q.leq rfl rfl) <| RG.p 3 hR rfl (Q.mv rfl) ?_
    refine RG.cases 118 rfl (fun hb118 => ?_) (fun hb118 => ?_)
    ·
     replace hb118 := X.nm hb118
     try (first | (cases hb118; done) | (exfalso; simp at hb118; done))
     all_goals
      refine RG.p 4 hR rfl (Q.mv rfl) <| RG.p 5 hR rfl (Q.mv rfl) <| RG.p 6 hR rfl (Q.ia Tryz.runUnderlying60 Tryz.sizeOf23 rfl rfl (by omega) (by omega)) <| RG.p 7 hR rfl (Q.ld Tryz.isAgg23 rfl (rdU (k := 0) rfl (by omega))) <| RG.p 8 hR rfl (Q.mv rfl) <| RG.p 9 hR rfl (Q.mv rfl) <| RG.p 10 hR rfl (Q.ia Tryz.runUnderlying60 Tryz.sizeOf23 rfl rfl (by omega) (by omega)) ?_
      refine RG.p 11 hR rfl (Q.ld Tryz.isAgg23 rfl (rdU (k := 0) rfl (by omega))) ?_
      refine RG.call 12 hR rfl rfl rfl rfl rfl rfl Tryz.call114 (lessU _ _) [] rfl rfl ?_
      rintro _ _ ⟨rfl, rfl⟩
      refine RG.norm rfl <| RG.p 13 hR rfl (Q.not rfl) <| RG.p 14 hR rfl (Q.pick_t rfl rfl) ?_
      refine RG.fin hR rfl ?_
      refine J.norm rfl <| J.then_n ?_
      refine J.cases 129 rfl (fun hc129 => ?_) (fun hc129 => ?_)
      ·
       replace hc129 := X.nm hc129
       try (first | (cases hc129; done) | (exfalso; simp at hc129; done))
       all_goals
        refine J.cond_t rfl <| J.cskip <| J.then_n <| J.block <| J.region <| J.m rfl <| J.p rfl (Q.sub64 rfl rfl (by omega)) <| J.p rfl (Q.asg rfl) <| J.nil <| J.blk_n ?_
        rw [Int.toNat_natCast, Int.toNat_natCast] at hc129
        refine J.again (j' - 1) ⟨by show j' - 1 < e; omega, by rw [← g2]; exact scanDown_go (by omega) (by omega) hc129⟩ (by show j' - 1 < j'; omega) ⟨rfl, rfl, rfl, (by show some (Value.int .i64 ((j' : Int) - 1)) = some (Value.int .i64 ((j' - 1 : Nat) : Int)); congr 2; omega), trivial⟩ rfl
      replace hc129 := X.nm hc129
      try (first | (cases hc129; done) | (exfalso; simp at hc129; done))
      all_goals
       refine J.cond_f rfl <| J.exit <| J.then_x <| J.lp_x <| J.blk_x ?_
       have hst : J2 = j' := by
         rw [← g2]
         refine scanDown_stop ?_
         first
           | (left; omega)
           | (right; rw [Int.toNat_natCast, Int.toNat_natCast] at hc129; exact hc129)
       refine J.meet () trivial ⟨rfl, rfl, rfl, (by rw [hst]; rfl), trivial⟩ rfl
    replace hb118 := X.nm hb118
    try (first | (cases hb118; done) | (exfalso; simp at hb118; done))
    all_goals
     refine RG.skip 4 hR rfl rfl rfl rfl rfl rfl <| RG.skip 5 hR rfl rfl rfl rfl rfl rfl <| RG.skip 6 hR rfl rfl rfl rfl rfl rfl <| RG.skip 7 hR rfl rfl rfl rfl rfl rfl <| RG.skip 8 hR rfl rfl rfl rfl rfl rfl <| RG.skip 9 hR rfl rfl rfl rfl rfl rfl <| RG.skip 10 hR rfl rfl rfl rfl rfl rfl <| RG.skip 11 hR rfl rfl rfl rfl rfl rfl ?_
     refine RG.pass 12 hR rfl rfl rfl rfl rfl ?_
     refine RG.skip 13 hR rfl rfl rfl rfl rfl rfl <| RG.p 14 hR rfl (Q.pick_f rfl rfl) ?_
     refine RG.fin hR rfl ?_
     refine J.norm rfl <| J.then_n <| J.cond_f rfl <| J.exit <| J.then_x <| J.lp_x <| J.blk_x ?_
     have hst : J2 = j' := by
       rw [← g2]
       refine scanDown_stop ?_
       first
         | (left; omega)
         | (right; rw [Int.toNat_natCast, Int.toNat_natCast] at hc129; exact hc129)
     refine J.meet () trivial ⟨rfl, rfl, rfl, (by rw [hst]; rfl), trivial⟩ rfl
   refine J.seq <| J.seq <| J.region <| J.m rfl <| J.m rfl <| J.p rfl (Q.gtr rfl rfl) <| J.nil <| J.then_n ?_
   refine J.cases 134 rfl (fun hc134 => ?_) (fun hc134 => ?_)
   ·
    replace hc134 := X.nm hc134
    try (first | (cases hc134; done) | (exfalso; simp at hc134; done))
    all_goals
     refine J.cond_t rfl <| J.exit <| J.then_x <| J.blk_o rfl <| J.lp_x <| J.blk_x <| J.then_n <| J.seq ?_
     rw [if_pos (by omega)] at hq
     have hfin : PL = (J2, d2) := by rw [← k5, hq]
     rw [hfin] at hP
     refine J.draw [13, 15] Tryz.mixed (by kernel_rfl) fun hR => ?_
     refine RG.p 0 hR rfl (Q.mv rfl) <| RG.p 1 hR rfl (Q.mv rfl) <| RG.p 2 hR rfl (Q.mv rfl) <| RG.p 3 hR rfl (Q.mv rfl) <| RG.p 4 hR rfl (Q.mv rfl) <| RG.p 5 hR rfl (Q.mv rfl) <| RG.p 6 hR rfl (Q.ia Tryz.runUnderlying60 Tryz.sizeOf23 rfl rfl (by omega) (by omega)) <| RG.p 7 hR rfl (Q.ld Tryz.isAgg23 rfl (rdU (k := 0) rfl (by omega))) ?_
     refine RG.p 8 hR rfl (Q.mv rfl) <| RG.p 9 hR rfl (Q.mv rfl) <| RG.p 10 hR rfl (Q.ia Tryz.runUnderlying60 Tryz.sizeOf23 rfl rfl (by omega) (by omega)) <| RG.p 11 hR rfl (Q.ld Tryz.isAgg23 rfl (rdU (k := 0) rfl (by omega))) <| RG.p 12 hR rfl (Q.ia Tryz.runUnderlying60 Tryz.sizeOf23 rfl rfl (by omega) (by omega)) ?_
     refine RG.barP 13 [2, 3] hR rfl rfl rfl rfl rfl (by kernel_rfl) ⟨Free.q rfl rfl rfl (Q.mv rfl), ⟨Free.q rfl rfl rfl (Q.mv rfl), trivial⟩⟩ (C.stO 0 Tryz.sizeOf23 rfl rfl rfl rfl rfl (by first | (rw [avU_len]; omega) | (rw [List.length_set, avU_len]; omega))) ?_
     rintro _ _ ⟨rfl, rfl⟩
     refine RG.norm rfl <| RG.p 14 hR rfl (Q.ia Tryz.runUnderlying60 Tryz.sizeOf23 rfl rfl (by omega) (by omega)) ?_
     refine RG.barP 15 [] hR rfl rfl rfl rfl rfl (by kernel_rfl) trivial (C.stO 0 Tryz.sizeOf23 rfl rfl rfl rfl rfl (by first | (rw [avU_len]; omega) | (rw [List.length_set, avU_len]; omega))) ?_
     rintro _ _ ⟨rfl, rfl⟩
     refine RG.norm rfl ?_
     refine RG.fin hR rfl ?_
     refine J.norm rfl <| J.then_n <| J.seq <| J.region <| J.m rfl <| J.p rfl (Q.asg rfl) <| J.p rfl (Q.asg rfl) <| J.nil <| J.then_n <| J.cret ?_
     refine J.conv (Y := rowU b off n c (swp d2 J2 x)) 0 rfl (swrU (by omega) (by omega)) ?_
     rw [hP]
     refine J.ret2 (B := [_]) rfl rfl rfl ⟨rfl, rfl⟩ rfl
   replace hc134 := X.nm hc134
   try (first | (cases hc134; done) | (exfalso; simp at hc134; done))
   all_goals
    refine J.cond_f rfl <| J.cskip <| J.then_n <| J.seq ?_
    refine J.draw [13, 15] Tryz.mixed (by kernel_rfl) fun hR => ?_
    refine RG.p 0 hR rfl (Q.mv rfl) <| RG.p 1 hR rfl (Q.mv rfl) <| RG.p 2 hR rfl (Q.mv rfl) <| RG.p 3 hR rfl (Q.mv rfl) <| RG.p 4 hR rfl (Q.mv rfl) <| RG.p 5 hR rfl (Q.mv rfl) <| RG.p 6 hR rfl (Q.ia Tryz.runUnderlying60 Tryz.sizeOf23 rfl rfl (by omega) (by omega)) <| RG.p 7 hR rfl (Q.ld Tryz.isAgg23 rfl (rdU (k := 0) rfl (by omega))) ?_
    refine RG.p 8 hR rfl (Q.mv rfl) <| RG.p 9 hR rfl (Q.mv rfl) <| RG.p 10 hR rfl (Q.ia Tryz.runUnderlying60 Tryz.sizeOf23 rfl rfl (by omega) (by omega)) <| RG.p 11 hR rfl (Q.ld Tryz.isAgg23 rfl (rdU (k := 0) rfl (by omega))) <| RG.p 12 hR rfl (Q.ia Tryz.runUnderlying60 Tryz.sizeOf23 rfl rfl (by omega) (by omega)) ?_
    refine RG.barP 13 [2, 3] hR rfl rfl rfl rfl rfl (by kernel_rfl) ⟨Free.q rfl rfl rfl (Q.mv rfl), ⟨Free.q rfl rfl rfl (Q.mv rfl), trivial⟩⟩ (C.stO 0 Tryz.sizeOf23 rfl rfl rfl rfl rfl (by first | (rw [avU_len]; omega) | (rw [List.length_set, avU_len]; omega))) ?_
    rintro _ _ ⟨rfl, rfl⟩
    refine RG.norm rfl <| RG.p 14 hR rfl (Q.ia Tryz.runUnderlying60 Tryz.sizeOf23 rfl rfl (by omega) (by omega)) ?_
    refine RG.barP 15 [] hR rfl rfl rfl rfl rfl (by kernel_rfl) trivial (C.stO 0 Tryz.sizeOf23 rfl rfl rfl rfl rfl (by first | (rw [avU_len]; omega) | (rw [List.length_set, avU_len]; omega))) ?_
    rintro _ _ ⟨rfl, rfl⟩
    refine RG.norm rfl ?_
    refine RG.fin hR rfl ?_
    refine J.norm rfl <| J.then_n <| J.seq <| J.region <| J.m rfl <| J.p rfl (Q.add64 rfl rfl (by omega)) <| J.p rfl (Q.asg rfl) <| J.nil <| J.then_n <| J.region <| J.m rfl <| J.p rfl (Q.sub64 rfl rfl (by omega)) <| J.p rfl (Q.asg rfl) <| J.nil <| J.blk_n ?_
    rw [if_neg (by omega)] at hq
    refine J.conv (Y := rowU b off n c (swp d2 I2 J2)) 0 rfl (swrU (by omega) (by omega)) ?_
    refine J.again (I2 + 1, J2 - 1, swp d2 I2 J2) ⟨by show (swp d2 I2 J2).size = n; rw [szU_swp, k1], by show x < I2 + 1; omega, by show I2 + 1 ≤ e; omega, by show J2 - 1 < e; omega, by rw [← k5, hq]⟩ (guard_of hge2 hle2 (by omega)) ⟨rfl, rfl, rfl, (by show some (Value.int .i64 ((J2 : Int) - 1)) = some (Value.int .i64 ((J2 - 1 : Nat) : Int)); congr 2; omega), trivial⟩ rfl

theorem partEqU (b off n c : Nat) (d : Array Nat) (x e pv : Nat) (hn : d.size = n) (hx : x ≤ pv) (hp : pv < e) (he : e ≤ n) (hs : n ≤ 1099511627776) :
    FSpec Tryz.prog 115 [.slice (some ⟨b, off, none⟩) n c, .int .i64 x, .int .i64 e, .int .i64 pv] [rowU b off n c d] (fun v B => v = .int .i64 ((partitionEqual ltU d x e pv).1 : Nat) ∧ B = [rowU b off n c (partitionEqual ltU d x e pv).2]) := by
  refine FSpec.of Tryz.func115 rfl Tryz.ntmps115 rfl fun W0 F => ?_
  refine J.seq <| J.region <| J.p rfl (Q.asg rfl) <| J.nil <| J.then_n <| J.seq ?_
  refine J.draw [13, 15] Tryz.mixed (by kernel_rfl) fun hR => ?_
  refine RG.p 0 hR rfl (Q.mv rfl) <| RG.p 1 hR rfl (Q.mv rfl) <| RG.p 2 hR rfl (Q.mv rfl) <| RG.p 3 hR rfl (Q.mv rfl) <| RG.p 4 hR rfl (Q.mv rfl) <| RG.p 5 hR rfl (Q.mv rfl) <| RG.p 6 hR rfl (Q.ia Tryz.runUnderlying60 Tryz.sizeOf23 rfl rfl (by omega) (by omega)) <| RG.p 7 hR rfl (Q.ld Tryz.isAgg23 rfl (rdU (k := 0) rfl (by omega))) ?_
  refine RG.p 8 hR rfl (Q.mv rfl) <| RG.p 9 hR rfl (Q.mv rfl) <| RG.p 10 hR rfl (Q.ia Tryz.runUnderlying60 Tryz.sizeOf23 rfl rfl (by omega) (by omega)) <| RG.p 11 hR rfl (Q.ld Tryz.isAgg23 rfl (rdU (k := 0) rfl (by omega))) <| RG.p 12 hR rfl (Q.ia Tryz.runUnderlying60 Tryz.sizeOf23 rfl rfl (by omega) (by omega)) ?_
  refine RG.barP 13 [2, 3] hR rfl rfl rfl rfl rfl (by kernel_rfl) ⟨Free.q rfl rfl rfl (Q.mv rfl), ⟨Free.q rfl rfl rfl (Q.mv rfl), trivial⟩⟩ (C.stO 0 Tryz.sizeOf23 rfl rfl rfl rfl rfl (by first | (rw [avU_len]; omega) | (rw [List.length_set, avU_len]; omega))) ?_
  rintro _ _ ⟨rfl, rfl⟩
  refine RG.norm rfl <| RG.p 14 hR rfl (Q.ia Tryz.runUnderlying60 Tryz.sizeOf23 rfl rfl (by omega) (by omega)) ?_
  refine RG.barP 15 [] hR rfl rfl rfl rfl rfl (by kernel_rfl) trivial (C.stO 0 Tryz.sizeOf23 rfl rfl rfl rfl rfl (by first | (rw [avU_len]; omega) | (rw [List.length_set, avU_len]; omega))) ?_
  rintro _ _ ⟨rfl, rfl⟩
  refine RG.norm rfl ?_
  refine RG.fin hR rfl ?_
  refine J.norm rfl <| J.then_n <| J.seq ?_
  refine J.conv (Y := rowU b off n c (swp d x pv)) 0 rfl (swrU (by omega) (by omega)) ?_
  obtain ⟨d1, hd1⟩ : ∃ d1, d1 = swp d x pv := ⟨_, rfl⟩
  have h1 : d1.size = n := by rw [hd1, szU_swp, hn]
  rw [← hd1]
  have hP : partitionEqual ltU d x e pv = partEqLoop ltU x (x + 1) (e - 1) d1 := by unfold partitionEqual; rw [← hd1]
  refine J.region <| J.m rfl <| J.p rfl (Q.add64 rfl rfl (by omega)) <| J.m rfl <| J.p rfl (Q.sub64 rfl rfl (by omega)) <| J.p rfl (Q.asg rfl) <| J.p rfl (Q.asg rfl) <| J.nil <| J.then_n <| J.seq <| J.block ?_
  refine J.loop3 (fun (i j : Nat) (d2 : Array Nat) => d2.size = n ∧ x < i ∧ i ≤ e ∧ j < e ∧ partEqLoop ltU x i j d2 = partitionEqual ltU d x e pv) (fun i j _ => j + 1 - i) (fun i j _ => [(0, .slice (some ⟨b, off, none⟩) n c), (1, .int .i64 x), (9, .int .i64 i), (10, .int .i64 j)]) (fun _ _ d2 => [rowU b off n c d2, F]) (x + 1) (e - 1) d1 ⟨h1, by omega, by omega, by omega, hP.symm⟩ ⟨rfl, rfl, rfl, (by show some (Value.int .i64 ((e : Int) - 1)) = some (Value.int .i64 ((e - 1 : Nat) : Int)); congr 2; omega), trivial⟩ rfl fun i j d2 hz => ?_
  obtain ⟨k1, k2, k3, k4, k5⟩ := hz
  have hq := partEqLoop_eq ltU x i j d2
  refine J.block ?_
  obtain ⟨I2, hI2⟩ : ∃ I2, I2 = scanUp (fun y => !ltU d2[x]! y) d2 j i := ⟨_, rfl⟩
  have hge2 := scanUp_ge (fun y => !ltU d2[x]! y) d2 j i
  rw [← hI2] at hge2 hq
  refine J.cut (fun _ : Unit => I2 ≤ e) (fun _ => [(0, .slice (some ⟨b, off, none⟩) n c), (1, .int .i64 x), (9, .int .i64 I2), (10, .int .i64 j)]) (fun _ => [rowU b off n c d2, F]) ?_ fun _ hIe2 => ?_
  ·
   refine J.block ?_
   refine J.loop (fun i' : Nat => i' ≤ e ∧ scanUp (fun y => !ltU d2[x]! y) d2 j i' = I2) (fun i' => e - i') (fun i' => [(0, .slice (some ⟨b, off, none⟩) n c), (1, .int .i64 x), (9, .int .i64 i'), (10, .int .i64 j)]) (fun _ => [rowU b off n c d2, F]) i ⟨k3, hI2.symm⟩ ⟨rfl, rfl, rfl, rfl, trivial⟩ rfl fun i' hz => ?_
   obtain ⟨g1, g2⟩ := hz
   refine J.seq <| J.seq ?_
   refine J.draw [12] Tryz.mixed (by kernel_rfl) fun hR => ?_
   refine RG.p 0 hR rfl (Q.mv rfl) <| RG.p 1 hR rfl (Q.mv rfl) <| RG.p 2 hR rfl (Q.leq rfl rfl) <| RG.p 3 hR rfl (Q.mv rfl) ?_
   refine RG.cases 32 rfl (fun hb32 => ?_) (fun hb32 => ?_)
   ·
    replace hb32 := X.nm hb32
    try (first | (cases hb32; done) | (exfalso; simp at hb32; done))
    all_goals
     refine RG.p 4 hR rfl (Q.mv rfl) <| RG.p 5 hR rfl (Q.mv rfl) <| RG.p 6 hR rfl (Q.ia Tryz.runUnderlying60 Tryz.sizeOf23 rfl rfl (by omega) (by omega)) <| RG.p 7 hR rfl (Q.ld Tryz.isAgg23 rfl (rdU (k := 0) rfl (by omega))) <| RG.p 8 hR rfl (Q.mv rfl) <| RG.p 9 hR rfl (Q.mv rfl) <| RG.p 10 hR rfl (Q.ia Tryz.runUnderlying60 Tryz.sizeOf23 rfl rfl (by omega) (by omega)) ?_
     refine RG.p 11 hR rfl (Q.ld Tryz.isAgg23 rfl (rdU (k := 0) rfl (by omega))) ?_
     refine RG.call 12 hR rfl rfl rfl rfl rfl rfl Tryz.call114 (lessU _ _) [] rfl rfl ?_
     rintro _ _ ⟨rfl, rfl⟩
     refine RG.norm rfl <| RG.p 13 hR rfl (Q.not rfl) <| RG.p 14 hR rfl (Q.pick_t rfl rfl) ?_
     refine RG.fin hR rfl ?_
     refine J.norm rfl <| J.then_n ?_
     refine J.cases 43 rfl (fun hc43 => ?_) (fun hc43 => ?_)
     ·
      replace hc43 := X.nm hc43
      try (first | (cases hc43; done) | (exfalso; simp at hc43; done))
      all_goals
       refine J.cond_t rfl <| J.cskip <| J.then_n <| J.block <| J.region <| J.m rfl <| J.p rfl (Q.add64 rfl rfl (by omega)) <| J.p rfl (Q.asg rfl) <| J.nil <| J.blk_n ?_
       rw [Int.toNat_natCast, Int.toNat_natCast] at hc43
       refine J.again (i' + 1) ⟨by show i' + 1 ≤ e; omega, by rw [← g2]; exact scanUp_go (by omega) hc43⟩ (by show e - (i' + 1) < e - i'; omega) ⟨rfl, rfl, rfl, rfl, trivial⟩ rfl
     replace hc43 := X.nm hc43
     try (first | (cases hc43; done) | (exfalso; simp at hc43; done))
     all_goals
      refine J.cond_f rfl <| J.exit <| J.then_x <| J.lp_x <| J.blk_x ?_
      have hst : I2 = i' := by
        rw [← g2]
        refine scanUp_stop ?_
        first
          | (left; omega)
          | (right; rw [Int.toNat_natCast, Int.toNat_natCast] at hc43; exact hc43)
      refine J.meet () (by rw [hst]; exact g1) ⟨rfl, rfl, (by rw [hst]; rfl), rfl, trivial⟩ rfl
   replace hb32 := X.nm hb32
   try (first | (cases hb32; done) | (exfalso; simp at hb32; done))
   all_goals
    refine RG.skip 4 hR rfl rfl rfl rfl rfl rfl <| RG.skip 5 hR rfl rfl rfl rfl rfl rfl <| RG.skip 6 hR rfl rfl rfl rfl rfl rfl <| RG.skip 7 hR rfl rfl rfl rfl rfl rfl <| RG.skip 8 hR rfl rfl rfl rfl rfl rfl <| RG.skip 9 hR rfl rfl rfl rfl rfl rfl <| RG.skip 10 hR rfl rfl rfl rfl rfl rfl <| RG.skip 11 hR rfl rfl rfl rfl rfl rfl ?_
    refine RG.pass 12 hR rfl rfl rfl rfl rfl ?_
    refine RG.skip 13 hR rfl rfl rfl rfl rfl rfl <| RG.p 14 hR rfl (Q.pick_f rfl rfl) ?_
    refine RG.fin hR rfl ?_
    refine J.norm rfl <| J.then_n <| J.cond_f rfl <| J.exit <| J.then_x <| J.lp_x <| J.blk_x ?_
    have hst : I2 = i' := by
      rw [← g2]
      refine scanUp_stop ?_
      first
        | (left; omega)
        | (right; rw [Int.toNat_natCast, Int.toNat_natCast] at hc43; exact hc43)
    refine J.meet () (by rw [hst]; exact g1) ⟨rfl, rfl, (by rw [hst]; rfl), rfl, trivial⟩ rfl
  obtain ⟨J2, hJ2⟩ : ∃ J2, J2 = scanDown (fun y => ltU d2[x]! y) d2 I2 j := ⟨_, rfl⟩
  have hle2 := scanDown_le (fun y => ltU d2[x]! y) d2 I2 j
  rw [← hJ2] at hle2 hq
  refine J.cut (fun _ : Unit => True) (fun _ => [(0, .slice (some ⟨b, off, none⟩) n c), (1, .int .i64 x), (9, .int .i64 I2), (10, .int .i64 J2)]) (fun _ => [rowU b off n c d2, F]) ?_ fun _ _ => ?_
  ·
   refine J.block ?_
   refine J.loop (fun j' : Nat => j' < e ∧ scanDown (fun y => ltU d2[x]! y) d2 I2 j' = J2) (fun j' => j') (fun j' => [(0, .slice (some ⟨b, off, none⟩) n c), (1, .int .i64 x), (9, .int .i64 I2), (10, .int .i64 j')]) (fun _ => [rowU b off n c d2, F]) j ⟨k4, hJ2.symm⟩ ⟨rfl, rfl, rfl, rfl, trivial⟩ rfl fun j' hz => ?_
   obtain ⟨g1, g2⟩ := hz
   refine J.seq <| J.seq ?_
   refine J.draw [12] Tryz.mixed (by kernel_rfl) fun hR => ?_
   refine RG.p 0 hR rfl (Q.mv rfl) <| RG.p 1 hR rfl (Q.mv rfl) <| RG.p 2 hR rfl (Q.leq rfl rfl) <| RG.p 3 hR rfl (Q.mv rfl) ?_
   refine RG.cases 49 rfl (fun hb49 => ?_) (fun hb49 => ?_)
   ·
    replace hb49 := X.nm hb49
    try (first | (cases hb49; done) | (exfalso; simp at hb49; done))
    all_goals
     refine RG.p 4 hR rfl (Q.mv rfl) <| RG.p 5 hR rfl (Q.mv rfl) <| RG.p 6 hR rfl (Q.ia Tryz.runUnderlying60 Tryz.sizeOf23 rfl rfl (by omega) (by omega)) <| RG.p 7 hR rfl (Q.ld Tryz.isAgg23 rfl (rdU (k := 0) rfl (by omega))) <| RG.p 8 hR rfl (Q.mv rfl) <| RG.p 9 hR rfl (Q.mv rfl) <| RG.p 10 hR rfl (Q.ia Tryz.runUnderlying60 Tryz.sizeOf23 rfl rfl (by omega) (by omega)) ?_
     refine RG.p 11 hR rfl (Q.ld Tryz.isAgg23 rfl (rdU (k := 0) rfl (by omega))) ?_
     refine RG.call 12 hR rfl rfl rfl rfl rfl rfl Tryz.call114 (lessU _ _) [] rfl rfl ?_
     rintro _ _ ⟨rfl, rfl⟩
     refine RG.norm rfl <| RG.p 13 hR rfl (Q.pick_t rfl rfl) ?_
     refine RG.fin hR rfl ?_
     refine J.norm rfl <| J.then_n ?_
     refine J.cases 59 rfl (fun hc59 => ?_) (fun hc59 => ?_)
     ·
      replace hc59 := X.nm hc59
      try (first | (cases hc59; done) | (exfalso; simp at hc59; done))
      all_goals
       refine J.cond_t rfl <| J.cskip <| J.then_n <| J.block <| J.region <| J.m rfl <| J.p rfl (Q.sub64 rfl rfl (by omega)) <| J.p rfl (Q.asg rfl) <| J.nil <| J.blk_n ?_
       rw [Int.toNat_natCast, Int.toNat_natCast] at hc59
       refine J.again (j' - 1) ⟨by show j' - 1 < e; omega, by rw [← g2]; exact scanDown_go (by omega) (by omega) hc59⟩ (by show j' - 1 < j'; omega) ⟨rfl, rfl, rfl, (by show some (Value.int .i64 ((j' : Int) - 1)) = some (Value.int .i64 ((j' - 1 : Nat) : Int)); congr 2; omega), trivial⟩ rfl
     replace hc59 := X.nm hc59
     try (first | (cases hc59; done) | (exfalso; simp at hc59; done))
     all_goals
      refine J.cond_f rfl <| J.exit <| J.then_x <| J.lp_x <| J.blk_x ?_
      have hst : J2 = j' := by
        rw [← g2]
        refine scanDown_stop ?_
        first
          | (left; omega)
          | (right; rw [Int.toNat_natCast, Int.toNat_natCast] at hc59; exact hc59)
      refine J.meet () trivial ⟨rfl, rfl, rfl, (by rw [hst]; rfl), trivial⟩ rfl
   replace hb49 := X.nm hb49
   try (first | (cases hb49; done) | (exfalso; simp at hb49; done))
   all_goals
    refine RG.skip 4 hR rfl rfl rfl rfl rfl rfl <| RG.skip 5 hR rfl rfl rfl rfl rfl rfl <| RG.skip 6 hR rfl rfl rfl rfl rfl rfl <| RG.skip 7 hR rfl rfl rfl rfl rfl rfl <| RG.skip 8 hR rfl rfl rfl rfl rfl rfl <| RG.skip 9 hR rfl rfl rfl rfl rfl rfl <| RG.skip 10 hR rfl rfl rfl rfl rfl rfl <| RG.skip 11 hR rfl rfl rfl rfl rfl rfl ?_
    refine RG.pass 12 hR rfl rfl rfl rfl rfl ?_
    refine RG.p 13 hR rfl (Q.pick_f rfl rfl) ?_
    refine RG.fin hR rfl ?_
    refine J.norm rfl <| J.then_n <| J.cond_f rfl <| J.exit <| J.then_x <| J.lp_x <| J.blk_x ?_
    have hst : J2 = j' := by
      rw [← g2]
      refine scanDown_stop ?_
      first
        | (left; omega)
        | (right; rw [Int.toNat_natCast, Int.toNat_natCast] at hc59; exact hc59)
    refine J.meet () trivial ⟨rfl, rfl, rfl, (by rw [hst]; rfl), trivial⟩ rfl
  refine J.seq <| J.seq <| J.region <| J.m rfl <| J.m rfl <| J.p rfl (Q.gtr rfl rfl) <| J.nil <| J.then_n ?_
  refine J.cases 64 rfl (fun hc64 => ?_) (fun hc64 => ?_)
  ·
   replace hc64 := X.nm hc64
   try (first | (cases hc64; done) | (exfalso; simp at hc64; done))
   all_goals
    refine J.cond_t rfl <| J.exit <| J.then_x <| J.blk_o rfl <| J.lp_x <| J.blk_x <| J.then_n <| J.seq ?_
    rw [if_pos (by omega)] at hq
    have hfin : partitionEqual ltU d x e pv = (I2, d2) := by rw [← k5, hq]
    rw [hfin]
    refine J.region <| J.m rfl <| J.p rfl (Q.asg rfl) <| J.nil <| J.then_n <| J.cret ?_
    refine J.ret1 (B := [_]) rfl rfl ⟨rfl, rfl⟩ rfl
  replace hc64 := X.nm hc64
  try (first | (cases hc64; done) | (exfalso; simp at hc64; done))
  all_goals
   refine J.cond_f rfl <| J.cskip <| J.then_n <| J.seq ?_
   refine J.draw [13, 15] Tryz.mixed (by kernel_rfl) fun hR => ?_
   refine RG.p 0 hR rfl (Q.mv rfl) <| RG.p 1 hR rfl (Q.mv rfl) <| RG.p 2 hR rfl (Q.mv rfl) <| RG.p 3 hR rfl (Q.mv rfl) <| RG.p 4 hR rfl (Q.mv rfl) <| RG.p 5 hR rfl (Q.mv rfl) <| RG.p 6 hR rfl (Q.ia Tryz.runUnderlying60 Tryz.sizeOf23 rfl rfl (by omega) (by omega)) <| RG.p 7 hR rfl (Q.ld Tryz.isAgg23 rfl (rdU (k := 0) rfl (by omega))) ?_
   refine RG.p 8 hR rfl (Q.mv rfl) <| RG.p 9 hR rfl (Q.mv rfl) <| RG.p 10 hR rfl (Q.ia Tryz.runUnderlying60 Tryz.sizeOf23 rfl rfl (by omega) (by omega)) <| RG.p 11 hR rfl (Q.ld Tryz.isAgg23 rfl (rdU (k := 0) rfl (by omega))) <| RG.p 12 hR rfl (Q.ia Tryz.runUnderlying60 Tryz.sizeOf23 rfl rfl (by omega) (by omega)) ?_
   refine RG.barP 13 [2, 3] hR rfl rfl rfl rfl rfl (by kernel_rfl) ⟨Free.q rfl rfl rfl (Q.mv rfl), ⟨Free.q rfl rfl rfl (Q.mv rfl), trivial⟩⟩ (C.stO 0 Tryz.sizeOf23 rfl rfl rfl rfl rfl (by first | (rw [avU_len]; omega) | (rw [List.length_set, avU_len]; omega))) ?_
   rintro _ _ ⟨rfl, rfl⟩
   refine RG.norm rfl <| RG.p 14 hR rfl (Q.ia Tryz.runUnderlying60 Tryz.sizeOf23 rfl rfl (by omega) (by omega)) ?_
   refine RG.barP 15 [] hR rfl rfl rfl rfl rfl (by kernel_rfl) trivial (C.stO 0 Tryz.sizeOf23 rfl rfl rfl rfl rfl (by first | (rw [avU_len]; omega) | (rw [List.length_set, avU_len]; omega))) ?_
   rintro _ _ ⟨rfl, rfl⟩
   refine RG.norm rfl ?_
   refine RG.fin hR rfl ?_
   refine J.norm rfl <| J.then_n <| J.seq <| J.region <| J.m rfl <| J.p rfl (Q.add64 rfl rfl (by omega)) <| J.p rfl (Q.asg rfl) <| J.nil <| J.then_n <| J.region <| J.m rfl <| J.p rfl (Q.sub64 rfl rfl (by omega)) <| J.p rfl (Q.asg rfl) <| J.nil <| J.blk_n ?_
   rw [if_neg (by omega)] at hq
   refine J.conv (Y := rowU b off n c (swp d2 I2 J2)) 0 rfl (swrU (by omega) (by omega)) ?_
   refine J.again (I2 + 1, J2 - 1, swp d2 I2 J2) ⟨by show (swp d2 I2 J2).size = n; rw [szU_swp, k1], by show x < I2 + 1; omega, by show I2 + 1 ≤ e; omega, by show J2 - 1 < e; omega, by rw [← k5, hq]⟩ (guard_of hge2 hle2 (by omega)) ⟨rfl, rfl, rfl, (by show some (Value.int .i64 ((J2 : Int) - 1)) = some (Value.int .i64 ((J2 - 1 : Nat) : Int)); congr 2; omega), trivial⟩ rfl
end Go.Proofs.YtdancegklkifaaaGreat
namespace Go.Proofs.YtdancegklkifaaaGreat
set_option linter.unusedSectionVars false
set_option linter.unusedSimpArgs false
set_option linter.unusedVariables false
open Go.X
open Go.Sort (swp scanSorted shiftDown shiftUp partialIns partialInsertionSort PermIn SortedIn SWO)

section plain
variable {α : Type} [Inhabited α] {lt : α → α → Bool} {i j e : Nat} {d : Array α}
theorem scanSorted_go (h : i < e) (hp : lt d[i]! d[i - 1]! = false) : scanSorted lt d e (i + 1) = scanSorted lt d e i := by
  conv => { rhs; rw [scanSorted] }
  rw [if_pos (by rw [hp]; simp; exact h)]
theorem scanSorted_stop (h : ¬ i < e ∨ lt d[i]! d[i - 1]! = true) : scanSorted lt d e i = i := by
  rw [scanSorted, if_neg]
  rcases h with h | h
  · simp; omega
  · simp [h]
theorem shiftDown_go (hj : 0 < j) (hp : lt d[j]! d[j - 1]! = true) : shiftDown lt (j - 1) (swp d j (j - 1)) = shiftDown lt j d := by
  obtain ⟨k, rfl⟩ : ∃ k, j = k + 1 := ⟨j - 1, by omega⟩
  conv => { rhs; rw [shiftDown] }
  simp only [Nat.add_sub_cancel] at hp ⊢
  rw [if_neg (by rw [hp]; decide)]
theorem shiftDown_stop (h : ¬ 0 < j ∨ lt d[j]! d[j - 1]! = false) : shiftDown lt j d = d := by
  cases j with
  | zero => rfl
  | succ k =>
    rw [shiftDown, if_pos]
    rcases h with h | h
    · omega
    · simp only [Nat.add_sub_cancel] at h; rw [h]; rfl
theorem shiftUp_go (h : j < e) (hp : lt d[j]! d[j - 1]! = true) : shiftUp lt e (j + 1) (swp d j (j - 1)) = shiftUp lt e j d := by
  conv => { rhs; rw [shiftUp] }
  rw [if_pos h, if_neg (by rw [hp]; decide)]
theorem shiftUp_stop (h : ¬ j < e ∨ lt d[j]! d[j - 1]! = false) : shiftUp lt e j d = d := by
  rw [shiftUp]
  rcases h with h | h
  · rw [if_neg h]
  · split
    · rw [if_pos (by rw [h]; rfl)]
    · rfl
theorem pins_eq (lt : α → α → Bool) (a b s i : Nat) (d : Array α) {I1 : Nat} {d3 d4 : Array α} (h1 : scanSorted lt d b i = I1) (h3 : d3 = if I1 - a ≥ 2 then shiftDown lt (I1 - 1) (swp d I1 (I1 - 1)) else swp d I1 (I1 - 1)) (h4 : d4 = if b - I1 ≥ 2 then shiftUp lt b (I1 + 1) d3 else d3) :
    partialIns lt a b (s + 1) i d = if I1 = b then (d, true) else if b - a < 50 then (d, false) else partialIns lt a b s I1 d4 := by
  subst h1 h3 h4; rfl
end plain

theorem partialInsU (b off n c : Nat) (d : Array Nat) (x e : Nat) (hn : d.size = n) (hx : x < e) (he : e ≤ n) (hs : n ≤ 1099511627776) :
    FSpec Tryz.prog 113 [.slice (some ⟨b, off, none⟩) n c, .int .i64 x, .int .i64 e] [rowU b off n c d] (fun v B => v = .bool (partialInsertionSort ltU d x e).2 ∧ B = [rowU b off n c (partialInsertionSort ltU d x e).1]) := by
  refine FSpec.of Tryz.func113 rfl Tryz.ntmps113 rfl fun W0 F => ?_
  refine J.seq <| J.region <| J.p rfl (Q.asg rfl) <| J.nil <| J.then_n <| J.seq <| J.region <| J.m rfl <| J.p rfl (Q.add64 rfl rfl (by omega)) <| J.p rfl (Q.asg rfl) <| J.nil <| J.then_n <| J.seq <| J.seq <| J.region <| J.p rfl (Q.asg rfl) <| J.nil <| J.then_n <| J.block ?_
  refine J.loop3 (fun (k i : Nat) (d1 : Array Nat) => d1.size = n ∧ k ≤ 5 ∧ x + 1 ≤ i ∧ i ≤ e ∧ partialIns ltU x e (5 - k) i d1 = partialInsertionSort ltU d x e) (fun k _ _ => 5 - k) (fun k i _ => [(0, .slice (some ⟨b, off, none⟩) n c), (1, .int .i64 x), (2, .int .i64 e), (7, .int .i64 i), (8, .int .i64 k)]) (fun _ _ d1 => [rowU b off n c d1, F]) 0 (x + 1) d ⟨hn, Nat.zero_le _, Nat.le_refl _, by omega, rfl⟩ ⟨rfl, rfl, rfl, rfl, rfl, trivial⟩ rfl fun k i d1 hz => ?_
  obtain ⟨k1, k2, k3, k4, k5⟩ := hz
  refine J.seq <| J.seq <| J.region <| J.m rfl <| J.p rfl (Q.lss rfl rfl) <| J.nil <| J.then_n ?_
  refine J.cases 14 rfl (fun hc14 => ?_) (fun hc14 => ?_)
  ·
   replace hc14 := X.nm hc14
   try (first | (cases hc14; done) | (exfalso; simp at hc14; done))
   all_goals
    refine J.cond_t rfl <| J.cskip <| J.then_n <| J.seq <| J.block ?_
    obtain ⟨I1, hI1⟩ : ∃ I1, I1 = scanSorted ltU d1 e i := ⟨_, rfl⟩
    refine J.cut (fun _ : Unit => I1 ≤ e ∧ x + 1 ≤ I1) (fun _ => [(0, .slice (some ⟨b, off, none⟩) n c), (1, .int .i64 x), (2, .int .i64 e), (7, .int .i64 I1), (8, .int .i64 k)]) (fun _ => [rowU b off n c d1, F]) ?_ fun _ hIe => ?_
    ·
     refine J.block ?_
     refine J.loop (fun i' : Nat => i' ≤ e ∧ x + 1 ≤ i' ∧ scanSorted ltU d1 e i' = I1) (fun i' => e - i') (fun i' => [(0, .slice (some ⟨b, off, none⟩) n c), (1, .int .i64 x), (2, .int .i64 e), (7, .int .i64 i'), (8, .int .i64 k)]) (fun _ => [rowU b off n c d1, F]) i ⟨k4, k3, hI1.symm⟩ ⟨rfl, rfl, rfl, rfl, rfl, trivial⟩ rfl fun i' hz => ?_
     obtain ⟨g1, g0, g2⟩ := hz
     refine J.seq <| J.seq ?_
     refine J.draw [13] Tryz.mixed (by kernel_rfl) fun hR => ?_
     refine RG.p 0 hR rfl (Q.mv rfl) <| RG.p 1 hR rfl (Q.mv rfl) <| RG.p 2 hR rfl (Q.lss rfl rfl) <| RG.p 3 hR rfl (Q.mv rfl) ?_
     refine RG.cases 20 rfl (fun hb20 => ?_) (fun hb20 => ?_)
     ·
      replace hb20 := X.nm hb20
      try (first | (cases hb20; done) | (exfalso; simp at hb20; done))
      all_goals
       refine RG.p 4 hR rfl (Q.mv rfl) <| RG.p 5 hR rfl (Q.mv rfl) <| RG.p 6 hR rfl (Q.ia Tryz.runUnderlying60 Tryz.sizeOf23 rfl rfl (by omega) (by omega)) <| RG.p 7 hR rfl (Q.ld Tryz.isAgg23 rfl (rdU (k := 0) rfl (by omega))) <| RG.p 8 hR rfl (Q.mv rfl) <| RG.p 9 hR rfl (Q.mv rfl) <| RG.p 10 hR rfl (Q.sub64 rfl rfl (by omega)) ?_
       refine RG.p 11 hR rfl (Q.ia Tryz.runUnderlying60 Tryz.sizeOf23 rfl rfl (by omega) (by omega)) <| RG.p 12 hR rfl (Q.ld Tryz.isAgg23 rfl (rdU (k := 0) rfl (by omega))) ?_
       refine RG.call 13 hR rfl rfl rfl rfl rfl rfl Tryz.call114 (lessU _ _) [] rfl rfl ?_
       rintro _ _ ⟨rfl, rfl⟩
       refine RG.norm rfl <| RG.p 14 hR rfl (Q.not rfl) <| RG.p 15 hR rfl (Q.pick_t rfl rfl) ?_
       refine RG.fin hR rfl ?_
       refine J.norm rfl <| J.then_n ?_
       refine J.cases 32 rfl (fun hc32 => ?_) (fun hc32 => ?_)
       ·
        replace hc32 := X.nm hc32
        try (first | (cases hc32; done) | (exfalso; simp at hc32; done))
        all_goals
         refine J.cond_t rfl <| J.cskip <| J.then_n <| J.block <| J.region <| J.m rfl <| J.p rfl (Q.add64 rfl rfl (by omega)) <| J.p rfl (Q.asg rfl) <| J.nil <| J.blk_n ?_
         have e1 : ((i' : Int) - 1).toNat = i' - 1 := by omega
         rw [Int.toNat_natCast, e1] at hc32
         refine J.again (i' + 1) ⟨by show i' + 1 ≤ e; omega, by show x + 1 ≤ i' + 1; omega, by rw [← g2]; exact scanSorted_go (by omega) (by simpa using hc32)⟩ (by show e - (i' + 1) < e - i'; omega) ⟨rfl, rfl, rfl, rfl, rfl, trivial⟩ rfl
       replace hc32 := X.nm hc32
       try (first | (cases hc32; done) | (exfalso; simp at hc32; done))
       all_goals
        refine J.cond_f rfl <| J.exit <| J.then_x <| J.lp_x <| J.blk_x ?_
        have e1 : ((i' : Int) - 1).toNat = i' - 1 := by omega
        have hst : I1 = i' := by
          rw [← g2]
          refine scanSorted_stop ?_
          first
            | (left; omega)
            | (right; rw [Int.toNat_natCast, e1] at hc32; simpa using hc32)
        refine J.meet () (by rw [hst]; exact ⟨g1, g0⟩) ⟨rfl, rfl, rfl, (by rw [hst]; rfl), rfl, trivial⟩ rfl
     replace hb20 := X.nm hb20
     try (first | (cases hb20; done) | (exfalso; simp at hb20; done))
     all_goals
      refine RG.skip 4 hR rfl rfl rfl rfl rfl rfl <| RG.skip 5 hR rfl rfl rfl rfl rfl rfl <| RG.skip 6 hR rfl rfl rfl rfl rfl rfl <| RG.skip 7 hR rfl rfl rfl rfl rfl rfl <| RG.skip 8 hR rfl rfl rfl rfl rfl rfl <| RG.skip 9 hR rfl rfl rfl rfl rfl rfl <| RG.skip 10 hR rfl rfl rfl rfl rfl rfl <| RG.skip 11 hR rfl rfl rfl rfl rfl rfl <| RG.skip 12 hR rfl rfl rfl rfl rfl rfl ?_
      refine RG.pass 13 hR rfl rfl rfl rfl rfl ?_
      refine RG.skip 14 hR rfl rfl rfl rfl rfl rfl <| RG.p 15 hR rfl (Q.pick_f rfl rfl) ?_
      refine RG.fin hR rfl ?_
      refine J.norm rfl <| J.then_n <| J.cond_f rfl <| J.exit <| J.then_x <| J.lp_x <| J.blk_x ?_
      have e1 : ((i' : Int) - 1).toNat = i' - 1 := by omega
      have hst : I1 = i' := by
        rw [← g2]
        refine scanSorted_stop ?_
        first
          | (left; omega)
          | (right; rw [Int.toNat_natCast, e1] at hc32; simpa using hc32)
      refine J.meet () (by rw [hst]; exact ⟨g1, g0⟩) ⟨rfl, rfl, rfl, (by rw [hst]; rfl), rfl, trivial⟩ rfl
    obtain ⟨hI2, hI3⟩ := hIe
    obtain ⟨s, hs5⟩ : ∃ s, 5 - k = s + 1 := ⟨4 - k, by omega⟩
    have hq := fun d3 d4 => pins_eq ltU x e s i d1 (I1 := I1) (d3 := d3) (d4 := d4) hI1.symm
    rw [hs5] at k5
    refine J.seq <| J.seq <| J.region <| J.m rfl <| J.m rfl <| J.p rfl (Q.eql rfl rfl) <| J.nil <| J.then_n ?_
    refine J.cases 37 rfl (fun hc37 => ?_) (fun hc37 => ?_)
    ·
     replace hc37 := X.nm hc37
     try (first | (cases hc37; done) | (exfalso; simp at hc37; done))
     all_goals
      refine J.cond_t rfl <| J.seq <| J.region <| J.p rfl (Q.asg rfl) <| J.nil <| J.then_n <| J.cret <| J.then_r <| J.blk_r <| J.then_r <| J.lp_r <| J.blk_r <| J.then_r ?_
      have hfin := hq _ _ rfl rfl
      rw [if_pos (by omega)] at hfin
      rw [← k5, hfin]
      refine J.ret1 (B := [_]) rfl rfl ⟨rfl, rfl⟩ rfl
    replace hc37 := X.nm hc37
    try (first | (cases hc37; done) | (exfalso; simp at hc37; done))
    all_goals
     refine J.cond_f rfl <| J.cskip <| J.then_n <| J.seq <| J.seq <| J.region <| J.m rfl <| J.m rfl <| J.p rfl (Q.sub64 rfl rfl (by omega)) <| J.p rfl (Q.lss rfl rfl) <| J.nil <| J.then_n ?_
     refine J.cases 41 rfl (fun hc41 => ?_) (fun hc41 => ?_)
     ·
      replace hc41 := X.nm hc41
      try (first | (cases hc41; done) | (exfalso; simp at hc41; done))
      all_goals
       refine J.cond_t rfl <| J.seq <| J.region <| J.p rfl (Q.asg rfl) <| J.nil <| J.then_n <| J.cret <| J.then_r <| J.blk_r <| J.then_r <| J.lp_r <| J.blk_r <| J.then_r ?_
       have hfin := hq _ _ rfl rfl
       rw [if_neg (by omega), if_pos (by omega)] at hfin
       rw [← k5, hfin]
       refine J.ret1 (B := [_]) rfl rfl ⟨rfl, rfl⟩ rfl
     replace hc41 := X.nm hc41
     try (first | (cases hc41; done) | (exfalso; simp at hc41; done))
     all_goals
      refine J.cond_f rfl <| J.cskip <| J.then_n <| J.seq ?_
      refine J.draw [15, 17] Tryz.mixed (by kernel_rfl) fun hR => ?_
      refine RG.p 0 hR rfl (Q.mv rfl) <| RG.p 1 hR rfl (Q.mv rfl) <| RG.p 2 hR rfl (Q.mv rfl) <| RG.p 3 hR rfl (Q.mv rfl) <| RG.p 4 hR rfl (Q.sub64 rfl rfl (by omega)) <| RG.p 5 hR rfl (Q.mv rfl) <| RG.p 6 hR rfl (Q.mv rfl) <| RG.p 7 hR rfl (Q.sub64 rfl rfl (by omega)) ?_
      refine RG.p 8 hR rfl (Q.ia Tryz.runUnderlying60 Tryz.sizeOf23 rfl rfl (by omega) (by omega)) <| RG.p 9 hR rfl (Q.ld Tryz.isAgg23 rfl (rdU (k := 0) rfl (by omega))) <| RG.p 10 hR rfl (Q.mv rfl) <| RG.p 11 hR rfl (Q.mv rfl) <| RG.p 12 hR rfl (Q.ia Tryz.runUnderlying60 Tryz.sizeOf23 rfl rfl (by omega) (by omega)) ?_
      refine RG.p 13 hR rfl (Q.ld Tryz.isAgg23 rfl (rdU (k := 0) rfl (by omega))) <| RG.p 14 hR rfl (Q.ia Tryz.runUnderlying60 Tryz.sizeOf23 rfl rfl (by omega) (by omega)) ?_
      refine RG.barP 15 [2, 3, 4] hR rfl rfl rfl rfl rfl (by kernel_rfl) ⟨Free.q rfl rfl rfl (Q.mv rfl), ⟨Free.q rfl rfl rfl (Q.mv rfl), ⟨Free.q rfl rfl rfl (Q.sub64 rfl rfl (by omega)), trivial⟩⟩⟩ (C.stO 0 Tryz.sizeOf23 rfl rfl rfl rfl rfl (by first | (rw [avU_len]; omega) | (rw [List.length_set, avU_len]; omega))) ?_
      rintro _ _ ⟨rfl, rfl⟩
      refine RG.norm rfl <| RG.p 16 hR rfl (Q.ia Tryz.runUnderlying60 Tryz.sizeOf23 rfl rfl (by omega) (by omega)) ?_
      refine RG.barP 17 [] hR rfl rfl rfl rfl rfl (by kernel_rfl) trivial (C.stO 0 Tryz.sizeOf23 rfl rfl rfl rfl rfl (by first | (rw [avU_len]; omega) | (rw [List.length_set, avU_len]; omega))) ?_
      rintro _ _ ⟨rfl, rfl⟩
      refine RG.norm rfl ?_
      refine RG.fin hR rfl ?_
      refine J.norm rfl <| J.then_n ?_
      refine J.cut (fun d3 : Array Nat => d3.size = n ∧ d3 = if I1 - x ≥ 2 then shiftDown ltU (I1 - 1) (swp d1 I1 (I1 - 1)) else swp d1 I1 (I1 - 1)) (fun _ => [(0, .slice (some ⟨b, off, none⟩) n c), (1, .int .i64 x), (2, .int .i64 e), (7, .int .i64 I1), (8, .int .i64 k)]) (fun d3 => [rowU b off n c d3, F]) ?_ fun d3 hd3 => ?_
      ·
       refine J.seq ?_
       refine J.conv (Y := rowU b off n c (swp d1 I1 (I1 - 1))) 0 rfl (swrU (by omega) (by omega)) ?_
       obtain ⟨d2, hd2⟩ : ∃ d2, d2 = swp d1 I1 (I1 - 1) := ⟨_, rfl⟩
       have h2 : d2.size = n := by rw [hd2, szU_swp, k1]
       rw [← hd2]
       refine J.region <| J.m rfl <| J.m rfl <| J.p rfl (Q.sub64 rfl rfl (by omega)) <| J.p rfl (Q.geq rfl rfl) <| J.nil <| J.then_n ?_
       refine J.cases 61 rfl (fun hc61 => ?_) (fun hc61 => ?_)
       ·
        replace hc61 := X.nm hc61
        try (first | (cases hc61; done) | (exfalso; simp at hc61; done))
        all_goals
         refine J.cond_t rfl <| J.seq <| J.region <| J.m rfl <| J.p rfl (Q.sub64 rfl rfl (by omega)) <| J.p rfl (Q.asg rfl) <| J.nil <| J.then_n <| J.block ?_
         refine J.loop2 (fun (j : Nat) (d3 : Array Nat) => d3.size = n ∧ j < n ∧ shiftDown ltU j d3 = shiftDown ltU (I1 - 1) d2) (fun j _ => j) (fun j _ => [(0, .slice (some ⟨b, off, none⟩) n c), (1, .int .i64 x), (2, .int .i64 e), (7, .int .i64 I1), (8, .int .i64 k), (9, .int .i64 j)]) (fun _ d3 => [rowU b off n c d3, F]) (I1 - 1) d2 ⟨h2, by omega, rfl⟩ ⟨rfl, rfl, rfl, rfl, rfl, (by show some (Value.int .i64 ((I1 : Int) - 1)) = some (Value.int .i64 ((I1 - 1 : Nat) : Int)); congr 2; omega), trivial⟩ rfl fun j d3 hz => ?_
         obtain ⟨g1, g0, g2⟩ := hz
         refine J.seq <| J.seq <| J.region <| J.m rfl <| J.p rfl (Q.geq rfl rfl) <| J.nil <| J.then_n ?_
         refine J.cases 65 rfl (fun hc65 => ?_) (fun hc65 => ?_)
         ·
          replace hc65 := X.nm hc65
          try (first | (cases hc65; done) | (exfalso; simp at hc65; done))
          all_goals
           refine J.cond_t rfl <| J.cskip <| J.then_n <| J.seq <| J.block <| J.seq <| J.seq ?_
           refine J.draw [9] Tryz.mixed (by kernel_rfl) fun hR => ?_
           refine RG.p 0 hR rfl (Q.mv rfl) <| RG.p 1 hR rfl (Q.mv rfl) <| RG.p 2 hR rfl (Q.ia Tryz.runUnderlying60 Tryz.sizeOf23 rfl rfl (by omega) (by omega)) <| RG.p 3 hR rfl (Q.ld Tryz.isAgg23 rfl (rdU (k := 0) rfl (by omega))) <| RG.p 4 hR rfl (Q.mv rfl) <| RG.p 5 hR rfl (Q.mv rfl) <| RG.p 6 hR rfl (Q.sub64 rfl rfl (by omega)) ?_
           refine RG.p 7 hR rfl (Q.ia Tryz.runUnderlying60 Tryz.sizeOf23 rfl rfl (by omega) (by omega)) <| RG.p 8 hR rfl (Q.ld Tryz.isAgg23 rfl (rdU (k := 0) rfl (by omega))) ?_
           refine RG.call 9 hR rfl rfl rfl rfl rfl rfl Tryz.call114 (lessU _ _) [] rfl rfl ?_
           rintro _ _ ⟨rfl, rfl⟩
           refine RG.norm rfl <| RG.p 10 hR rfl (Q.not rfl) ?_
           refine RG.fin hR rfl ?_
           refine J.norm rfl <| J.then_n ?_
           refine J.cases 78 rfl (fun hc78 => ?_) (fun hc78 => ?_)
           ·
            replace hc78 := X.nm hc78
            try (first | (cases hc78; done) | (exfalso; simp at hc78; done))
            all_goals
             refine J.cond_t rfl <| J.exit <| J.then_x <| J.blk_o rfl <| J.then_x <| J.lp_x <| J.blk_x ?_
             first
               | (have hst : d3 = shiftDown ltU (I1 - 1) d2 := by
                    rw [← g2]
                    refine (shiftDown_stop ?_).symm
                    first
                      | (left; omega)
                      | (right; have e1 : ((j : Int) - 1).toNat = j - 1 := by omega
                         rw [Int.toNat_natCast, e1] at hc78; simpa using hc78)
                  refine J.meet d3 ⟨g1, by rw [if_pos (by omega), hst, hd2]⟩ ⟨rfl, rfl, rfl, rfl, rfl, trivial⟩ rfl)
               | refine J.meet d2 ⟨h2, by rw [if_neg (by omega), hd2]⟩ ⟨rfl, rfl, rfl, rfl, rfl, trivial⟩ rfl
           replace hc78 := X.nm hc78
           try (first | (cases hc78; done) | (exfalso; simp at hc78; done))
           all_goals
            refine J.cond_f rfl <| J.cskip <| J.then_n ?_
            refine J.draw [15, 17] Tryz.mixed (by kernel_rfl) fun hR => ?_
            refine RG.p 0 hR rfl (Q.mv rfl) <| RG.p 1 hR rfl (Q.mv rfl) <| RG.p 2 hR rfl (Q.mv rfl) <| RG.p 3 hR rfl (Q.mv rfl) <| RG.p 4 hR rfl (Q.sub64 rfl rfl (by omega)) <| RG.p 5 hR rfl (Q.mv rfl) <| RG.p 6 hR rfl (Q.mv rfl) <| RG.p 7 hR rfl (Q.sub64 rfl rfl (by omega)) ?_
            refine RG.p 8 hR rfl (Q.ia Tryz.runUnderlying60 Tryz.sizeOf23 rfl rfl (by omega) (by omega)) <| RG.p 9 hR rfl (Q.ld Tryz.isAgg23 rfl (rdU (k := 0) rfl (by omega))) <| RG.p 10 hR rfl (Q.mv rfl) <| RG.p 11 hR rfl (Q.mv rfl) <| RG.p 12 hR rfl (Q.ia Tryz.runUnderlying60 Tryz.sizeOf23 rfl rfl (by omega) (by omega)) ?_
            refine RG.p 13 hR rfl (Q.ld Tryz.isAgg23 rfl (rdU (k := 0) rfl (by omega))) <| RG.p 14 hR rfl (Q.ia Tryz.runUnderlying60 Tryz.sizeOf23 rfl rfl (by omega) (by omega)) ?_
            refine RG.barP 15 [2, 3, 4] hR rfl rfl rfl rfl rfl (by kernel_rfl) ⟨Free.q rfl rfl rfl (Q.mv rfl), ⟨Free.q rfl rfl rfl (Q.mv rfl), ⟨Free.q rfl rfl rfl (Q.sub64 rfl rfl (by omega)), trivial⟩⟩⟩ (C.stO 0 Tryz.sizeOf23 rfl rfl rfl rfl rfl (by first | (rw [avU_len]; omega) | (rw [List.length_set, avU_len]; omega))) ?_
            rintro _ _ ⟨rfl, rfl⟩
            refine RG.norm rfl <| RG.p 16 hR rfl (Q.ia Tryz.runUnderlying60 Tryz.sizeOf23 rfl rfl (by omega) (by omega)) ?_
            refine RG.barP 17 [] hR rfl rfl rfl rfl rfl (by kernel_rfl) trivial (C.stO 0 Tryz.sizeOf23 rfl rfl rfl rfl rfl (by first | (rw [avU_len]; omega) | (rw [List.length_set, avU_len]; omega))) ?_
            rintro _ _ ⟨rfl, rfl⟩
            refine RG.norm rfl ?_
            refine RG.fin hR rfl ?_
            refine J.norm rfl <| J.blk_n <| J.then_n <| J.region <| J.m rfl <| J.p rfl (Q.sub64 rfl rfl (by omega)) <| J.p rfl (Q.asg rfl) <| J.nil ?_
            have e1 : ((j : Int) - 1).toNat = j - 1 := by omega
            rw [Int.toNat_natCast, e1] at hc78
            refine J.conv (Y := rowU b off n c (swp d3 j (j - 1))) 0 rfl (swrU (by omega) (by omega)) ?_
            refine J.again (j - 1, swp d3 j (j - 1)) ⟨by show (swp d3 j (j - 1)).size = n; rw [szU_swp, g1], by show j - 1 < n; omega, by rw [← g2]; exact shiftDown_go (by omega) (by simpa using hc78)⟩ (by show j - 1 < j; omega) ⟨rfl, rfl, rfl, rfl, rfl, (by show some (Value.int .i64 ((j : Int) - 1)) = some (Value.int .i64 ((j - 1 : Nat) : Int)); congr 2; omega), trivial⟩ rfl
         replace hc65 := X.nm hc65
         try (first | (cases hc65; done) | (exfalso; simp at hc65; done))
         all_goals
          refine J.cond_f rfl <| J.exit <| J.then_x <| J.lp_x <| J.blk_x ?_
          first
            | (have hst : d3 = shiftDown ltU (I1 - 1) d2 := by
                 rw [← g2]
                 refine (shiftDown_stop ?_).symm
                 first
                   | (left; omega)
                   | (right; have e1 : ((j : Int) - 1).toNat = j - 1 := by omega
                      rw [Int.toNat_natCast, e1] at hc78; simpa using hc78)
               refine J.meet d3 ⟨g1, by rw [if_pos (by omega), hst, hd2]⟩ ⟨rfl, rfl, rfl, rfl, rfl, trivial⟩ rfl)
            | refine J.meet d2 ⟨h2, by rw [if_neg (by omega), hd2]⟩ ⟨rfl, rfl, rfl, rfl, rfl, trivial⟩ rfl
       replace hc61 := X.nm hc61
       try (first | (cases hc61; done) | (exfalso; simp at hc61; done))
       all_goals
        refine J.cond_f rfl <| J.cskip ?_
        first
          | (have hst : d3 = shiftDown ltU (I1 - 1) d2 := by
               rw [← g2]
               refine (shiftDown_stop ?_).symm
               first
                 | (left; omega)
                 | (right; have e1 : ((j : Int) - 1).toNat = j - 1 := by omega
                    rw [Int.toNat_natCast, e1] at hc78; simpa using hc78)
             refine J.meet d3 ⟨g1, by rw [if_pos (by omega), hst, hd2]⟩ ⟨rfl, rfl, rfl, rfl, rfl, trivial⟩ rfl)
          | refine J.meet d2 ⟨h2, by rw [if_neg (by omega), hd2]⟩ ⟨rfl, rfl, rfl, rfl, rfl, trivial⟩ rfl
      obtain ⟨h3, hd3'⟩ := hd3
      refine J.seq <| J.region <| J.m rfl <| J.m rfl <| J.p rfl (Q.sub64 rfl rfl (by omega)) <| J.p rfl (Q.geq rfl rfl) <| J.nil <| J.then_n ?_
      refine J.cases 98 rfl (fun hc98 => ?_) (fun hc98 => ?_)
      ·
       replace hc98 := X.nm hc98
       try (first | (cases hc98; done) | (exfalso; simp at hc98; done))
       all_goals
        refine J.cond_t rfl <| J.seq <| J.region <| J.m rfl <| J.p rfl (Q.add64 rfl rfl (by omega)) <| J.p rfl (Q.asg rfl) <| J.nil <| J.then_n <| J.block ?_
        refine J.loop2 (fun (j : Nat) (d4 : Array Nat) => d4.size = n ∧ j ≤ e ∧ 1 ≤ j ∧ shiftUp ltU e j d4 = shiftUp ltU e (I1 + 1) d3) (fun j _ => e - j) (fun j _ => [(0, .slice (some ⟨b, off, none⟩) n c), (1, .int .i64 x), (2, .int .i64 e), (7, .int .i64 I1), (8, .int .i64 k), (10, .int .i64 j)]) (fun _ d4 => [rowU b off n c d4, F]) (I1 + 1) d3 ⟨h3, by omega, by omega, rfl⟩ ⟨rfl, rfl, rfl, rfl, rfl, rfl, trivial⟩ rfl fun j d4 hz => ?_
        obtain ⟨g1, g0, g00, g2⟩ := hz
        refine J.seq <| J.seq <| J.region <| J.m rfl <| J.m rfl <| J.p rfl (Q.lss rfl rfl) <| J.nil <| J.then_n ?_
        refine J.cases 103 rfl (fun hc103 => ?_) (fun hc103 => ?_)
        ·
         replace hc103 := X.nm hc103
         try (first | (cases hc103; done) | (exfalso; simp at hc103; done))
         all_goals
          refine J.cond_t rfl <| J.cskip <| J.then_n <| J.seq <| J.block <| J.seq <| J.seq ?_
          refine J.draw [9] Tryz.mixed (by kernel_rfl) fun hR => ?_
          refine RG.p 0 hR rfl (Q.mv rfl) <| RG.p 1 hR rfl (Q.mv rfl) <| RG.p 2 hR rfl (Q.ia Tryz.runUnderlying60 Tryz.sizeOf23 rfl rfl (by omega) (by omega)) <| RG.p 3 hR rfl (Q.ld Tryz.isAgg23 rfl (rdU (k := 0) rfl (by omega))) <| RG.p 4 hR rfl (Q.mv rfl) <| RG.p 5 hR rfl (Q.mv rfl) <| RG.p 6 hR rfl (Q.sub64 rfl rfl (by omega)) ?_
          refine RG.p 7 hR rfl (Q.ia Tryz.runUnderlying60 Tryz.sizeOf23 rfl rfl (by omega) (by omega)) <| RG.p 8 hR rfl (Q.ld Tryz.isAgg23 rfl (rdU (k := 0) rfl (by omega))) ?_
          refine RG.call 9 hR rfl rfl rfl rfl rfl rfl Tryz.call114 (lessU _ _) [] rfl rfl ?_
          rintro _ _ ⟨rfl, rfl⟩
          refine RG.norm rfl <| RG.p 10 hR rfl (Q.not rfl) ?_
          refine RG.fin hR rfl ?_
          refine J.norm rfl <| J.then_n ?_
          refine J.cases 116 rfl (fun hc116 => ?_) (fun hc116 => ?_)
          ·
           replace hc116 := X.nm hc116
           try (first | (cases hc116; done) | (exfalso; simp at hc116; done))
           all_goals
            refine J.cond_t rfl <| J.exit <| J.then_x <| J.blk_o rfl <| J.then_x <| J.lp_x <| J.blk_x <| J.blk_n <| J.then_n <| J.region <| J.m rfl <| J.p rfl (Q.add64 rfl rfl (by omega)) <| J.p rfl (Q.asg rfl) <| J.nil ?_
            first
              | (have hst : d4 = shiftUp ltU e (I1 + 1) d3 := by
                   rw [← g2]
                   refine (shiftUp_stop ?_).symm
                   first
                     | (left; omega)
                     | (right; have e1 : ((j : Int) - 1).toNat = j - 1 := by omega
                        rw [Int.toNat_natCast, e1] at hc116; simpa using hc116)
                 have hfin := hq d3 d4 hd3' (by rw [if_pos (by omega), hst])
                 rw [if_neg (by omega), if_neg (by omega)] at hfin
                 refine J.again (k + 1, I1, d4) ⟨g1, by show k + 1 ≤ 5; omega, hI3, hI2, by show partialIns ltU x e (5 - (k + 1)) I1 d4 = _; rw [← k5, hfin, show 5 - (k + 1) = s from by omega]⟩ (by show 5 - (k + 1) < 5 - k; omega) ⟨rfl, rfl, rfl, rfl, rfl, trivial⟩ rfl)
              | (have hfin := hq d3 d3 hd3' (by rw [if_neg (by omega)])
                 rw [if_neg (by omega), if_neg (by omega)] at hfin
                 refine J.again (k + 1, I1, d3) ⟨h3, by show k + 1 ≤ 5; omega, hI3, hI2, by show partialIns ltU x e (5 - (k + 1)) I1 d3 = _; rw [← k5, hfin, show 5 - (k + 1) = s from by omega]⟩ (by show 5 - (k + 1) < 5 - k; omega) ⟨rfl, rfl, rfl, rfl, rfl, trivial⟩ rfl)
          replace hc116 := X.nm hc116
          try (first | (cases hc116; done) | (exfalso; simp at hc116; done))
          all_goals
           refine J.cond_f rfl <| J.cskip <| J.then_n ?_
           refine J.draw [15, 17] Tryz.mixed (by kernel_rfl) fun hR => ?_
           refine RG.p 0 hR rfl (Q.mv rfl) <| RG.p 1 hR rfl (Q.mv rfl) <| RG.p 2 hR rfl (Q.mv rfl) <| RG.p 3 hR rfl (Q.mv rfl) <| RG.p 4 hR rfl (Q.sub64 rfl rfl (by omega)) <| RG.p 5 hR rfl (Q.mv rfl) <| RG.p 6 hR rfl (Q.mv rfl) <| RG.p 7 hR rfl (Q.sub64 rfl rfl (by omega)) ?_
           refine RG.p 8 hR rfl (Q.ia Tryz.runUnderlying60 Tryz.sizeOf23 rfl rfl (by omega) (by omega)) <| RG.p 9 hR rfl (Q.ld Tryz.isAgg23 rfl (rdU (k := 0) rfl (by omega))) <| RG.p 10 hR rfl (Q.mv rfl) <| RG.p 11 hR rfl (Q.mv rfl) <| RG.p 12 hR rfl (Q.ia Tryz.runUnderlying60 Tryz.sizeOf23 rfl rfl (by omega) (by omega)) ?_
           refine RG.p 13 hR rfl (Q.ld Tryz.isAgg23 rfl (rdU (k := 0) rfl (by omega))) <| RG.p 14 hR rfl (Q.ia Tryz.runUnderlying60 Tryz.sizeOf23 rfl rfl (by omega) (by omega)) ?_
           refine RG.barP 15 [2, 3, 4] hR rfl rfl rfl rfl rfl (by kernel_rfl) ⟨Free.q rfl rfl rfl (Q.mv rfl), ⟨Free.q rfl rfl rfl (Q.mv rfl), ⟨Free.q rfl rfl rfl (Q.sub64 rfl rfl (by omega)), trivial⟩⟩⟩ (C.stO 0 Tryz.sizeOf23 rfl rfl rfl rfl rfl (by first | (rw [avU_len]; omega) | (rw [List.length_set, avU_len]; omega))) ?_
           rintro _ _ ⟨rfl, rfl⟩
           refine RG.norm rfl <| RG.p 16 hR rfl (Q.ia Tryz.runUnderlying60 Tryz.sizeOf23 rfl rfl (by omega) (by omega)) ?_
           refine RG.barP 17 [] hR rfl rfl rfl rfl rfl (by kernel_rfl) trivial (C.stO 0 Tryz.sizeOf23 rfl rfl rfl rfl rfl (by first | (rw [avU_len]; omega) | (rw [List.length_set, avU_len]; omega))) ?_
           rintro _ _ ⟨rfl, rfl⟩
           refine RG.norm rfl ?_
           refine RG.fin hR rfl ?_
           refine J.norm rfl <| J.blk_n <| J.then_n <| J.region <| J.m rfl <| J.p rfl (Q.add64 rfl rfl (by omega)) <| J.p rfl (Q.asg rfl) <| J.nil ?_
           have e1 : ((j : Int) - 1).toNat = j - 1 := by omega
           rw [Int.toNat_natCast, e1] at hc116
           refine J.conv (Y := rowU b off n c (swp d4 j (j - 1))) 0 rfl (swrU (by omega) (by omega)) ?_
           refine J.again (j + 1, swp d4 j (j - 1)) ⟨by show (swp d4 j (j - 1)).size = n; rw [szU_swp, g1], by show j + 1 ≤ e; omega, by show 1 ≤ j + 1; omega, by rw [← g2]; exact shiftUp_go (by omega) (by simpa using hc116)⟩ (by show e - (j + 1) < e - j; omega) ⟨rfl, rfl, rfl, rfl, rfl, rfl, trivial⟩ rfl
        replace hc103 := X.nm hc103
        try (first | (cases hc103; done) | (exfalso; simp at hc103; done))
        all_goals
         refine J.cond_f rfl <| J.exit <| J.then_x <| J.lp_x <| J.blk_x <| J.blk_n <| J.then_n <| J.region <| J.m rfl <| J.p rfl (Q.add64 rfl rfl (by omega)) <| J.p rfl (Q.asg rfl) <| J.nil ?_
         first
           | (have hst : d4 = shiftUp ltU e (I1 + 1) d3 := by
                rw [← g2]
                refine (shiftUp_stop ?_).symm
                first
                  | (left; omega)
                  | (right; have e1 : ((j : Int) - 1).toNat = j - 1 := by omega
                     rw [Int.toNat_natCast, e1] at hc116; simpa using hc116)
              have hfin := hq d3 d4 hd3' (by rw [if_pos (by omega), hst])
              rw [if_neg (by omega), if_neg (by omega)] at hfin
              refine J.again (k + 1, I1, d4) ⟨g1, by show k + 1 ≤ 5; omega, hI3, hI2, by show partialIns ltU x e (5 - (k + 1)) I1 d4 = _; rw [← k5, hfin, show 5 - (k + 1) = s from by omega]⟩ (by show 5 - (k + 1) < 5 - k; omega) ⟨rfl, rfl, rfl, rfl, rfl, trivial⟩ rfl)
           | (have hfin := hq d3 d3 hd3' (by rw [if_neg (by omega)])
              rw [if_neg (by omega), if_neg (by omega)] at hfin
              refine J.again (k + 1, I1, d3) ⟨h3, by show k + 1 ≤ 5; omega, hI3, hI2, by show partialIns ltU x e (5 - (k + 1)) I1 d3 = _; rw [← k5, hfin, show 5 - (k + 1) = s from by omega]⟩ (by show 5 - (k + 1) < 5 - k; omega) ⟨rfl, rfl, rfl, rfl, rfl, trivial⟩ rfl)
      replace hc98 := X.nm hc98
      try (first | (cases hc98; done) | (exfalso; simp at hc98; done))
      all_goals
       refine J.cond_f rfl <| J.cskip <| J.blk_n <| J.then_n <| J.region <| J.m rfl <| J.p rfl (Q.add64 rfl rfl (by omega)) <| J.p rfl (Q.asg rfl) <| J.nil ?_
       first
         | (have hst : d4 = shiftUp ltU e (I1 + 1) d3 := by
              rw [← g2]
              refine (shiftUp_stop ?_).symm
              first
                | (left; omega)
                | (right; have e1 : ((j : Int) - 1).toNat = j - 1 := by omega
                   rw [Int.toNat_natCast, e1] at hc116; simpa using hc116)
            have hfin := hq d3 d4 hd3' (by rw [if_pos (by omega), hst])
            rw [if_neg (by omega), if_neg (by omega)] at hfin
            refine J.again (k + 1, I1, d4) ⟨g1, by show k + 1 ≤ 5; omega, hI3, hI2, by show partialIns ltU x e (5 - (k + 1)) I1 d4 = _; rw [← k5, hfin, show 5 - (k + 1) = s from by omega]⟩ (by show 5 - (k + 1) < 5 - k; omega) ⟨rfl, rfl, rfl, rfl, rfl, trivial⟩ rfl)
         | (have hfin := hq d3 d3 hd3' (by rw [if_neg (by omega)])
            rw [if_neg (by omega), if_neg (by omega)] at hfin
            refine J.again (k + 1, I1, d3) ⟨h3, by show k + 1 ≤ 5; omega, hI3, hI2, by show partialIns ltU x e (5 - (k + 1)) I1 d3 = _; rw [← k5, hfin, show 5 - (k + 1) = s from by omega]⟩ (by show 5 - (k + 1) < 5 - k; omega) ⟨rfl, rfl, rfl, rfl, rfl, trivial⟩ rfl)
  replace hc14 := X.nm hc14
  try (first | (cases hc14; done) | (exfalso; simp at hc14; done))
  all_goals
   refine J.cond_f rfl <| J.exit <| J.then_x <| J.lp_x <| J.blk_x <| J.then_n <| J.seq <| J.region <| J.p rfl (Q.asg rfl) <| J.nil <| J.then_n <| J.cret ?_
   have hk5 : k = 5 := by omega
   subst hk5
   have hfin : partialInsertionSort ltU d x e = (d1, false) := by rw [← k5]; rfl
   rw [hfin]
   refine J.ret1 (B := [_]) rfl rfl ⟨rfl, rfl⟩ rfl
end Go.Proofs.YtdancegklkifaaaGreat
namespace Go.Proofs.YtdancegklkifaaaGreat
set_option linter.unusedSectionVars false
set_option linter.unusedSimpArgs false
set_option linter.unusedVariables false
open Go.X
open Go.Sort (bitsLen)

def bitsTab : List UInt8 := (List.range 256).map fun i => UInt8.ofNat (bitsLen i)
theorem bitsLen_256 {i : Nat} (h : i < 256) : bitsLen i ≤ 8 := (Go.Sort.bitsLen_le_iff i 8).2 (by omega)
theorem idx256 {s : ByteArray} (h : s.data.toList = bitsTab) {i : Int} (h0 : 0 ≤ i) (h1 : i < 256) : s.data.toList[i.toNat]? = some (UInt8.ofNat (bitsLen i.toNat)) := by
  rw [h]; unfold bitsTab
  rw [List.getElem?_map, List.getElem?_range (by omega)]; rfl
theorem u8_bits {i : Nat} (h : i < 256) : (UInt8.ofNat (bitsLen i)).toNat = bitsLen i := by
  have := bitsLen_256 h
  simp; omega
theorem bitsLen_iff2 {n k : Nat} : n < 2 ^ k ↔ bitsLen n ≤ k := (Go.Sort.bitsLen_le_iff n k).symm
theorem bitsLen_shift {n c : Nat} (h : 2 ^ c ≤ n) : bitsLen n = c + bitsLen (n / 2 ^ c) := by
  have key : ∀ k, bitsLen n ≤ c + k ↔ bitsLen (n / 2 ^ c) ≤ k := fun k => by
    rw [← bitsLen_iff2, ← bitsLen_iff2, Nat.pow_add, Nat.div_lt_iff_lt_mul (Nat.two_pow_pos c), Nat.mul_comm]
  have h1 := (key (bitsLen (n / 2 ^ c))).2 (Nat.le_refl _)
  have h2 : c ≤ bitsLen n := by
    rcases Nat.lt_or_ge (bitsLen n) c with q | q
    · have := bitsLen_iff2.2 (Nat.le_of_lt q); omega
    · exact q
  have h3 := (key (bitsLen n - c)).1 (by omega)
  omega

theorem andLe (z : Int) (M : Nat) (h0 : 0 < M) (h1 : M < 18446744073709551616) : ∃ r : Nat, r < M ∧ IntKind.u64.wrap ((BitVec.ofInt IntKind.u64.bits z &&& BitVec.ofInt IntKind.u64.bits (IntKind.u64.wrap ((M : Int) - 1))).toNat : Int) = (r : Int) := by
  have e1 : (M : Int) - 1 = ((M - 1 : Nat) : Int) := by omega
  have ew : IntKind.u64.wrap ((M - 1 : Nat) : Int) = ((M - 1 : Nat) : Int) := wrap64 (by omega)
  rw [e1, ew]
  have e2 : (BitVec.ofInt IntKind.u64.bits ((M - 1 : Nat) : Int)).toNat = M - 1 := by
    rw [BitVec.ofInt_natCast, BitVec.toNat_ofNat]
    exact Nat.mod_eq_of_lt (by show M - 1 < 2 ^ 64; omega)
  have h2 : (BitVec.ofInt IntKind.u64.bits z &&& BitVec.ofInt IntKind.u64.bits ((M - 1 : Nat) : Int)).toNat ≤ M - 1 := by
    rw [BitVec.toNat_and, e2]; exact Nat.and_le_right
  exact ⟨_, by omega, wrap64 (by omega)⟩

theorem len64 (n : Nat) (hn : n < 65536) : FSpec Tryz.prog 107 [.int .u64 n] [] (fun v B => v = .int .i64 (bitsLen n : Nat) ∧ B = []) := by
  refine FSpec.of Tryz.func107 rfl Tryz.ntmps107 rfl fun W0 F => ?_
  refine J.seq ?_
  refine J.region ?_
  refine J.p rfl (Q.asg rfl) ?_
  refine J.nil ?_
  refine J.then_n ?_
  refine J.seq ?_
  refine J.seq ?_
  refine J.region ?_
  refine J.m rfl ?_
  refine J.p rfl (Q.geq rfl rfl) ?_
  refine J.nil ?_
  refine J.then_n ?_
  refine J.cases 4 rfl (fun hc4 => ?_) (fun hc4 => ?_)
  ·
    exfalso; simp at hc4; omega
  ·
    first | replace hc4 := X.tt_dec hc4 | replace hc4 := X.tt_not hc4 | replace hc4 := X.ff_dec hc4 | replace hc4 := X.ff_not hc4 | skip
    try (first | (cases hc4; done) | (exfalso; simp at hc4; done))
    all_goals
      refine J.cond_f rfl ?_
      refine J.cskip ?_
      refine J.then_n ?_
      refine J.seq ?_
      refine J.seq ?_
      refine J.region ?_
      refine J.m rfl ?_
      refine J.p rfl (Q.geq rfl rfl) ?_
      refine J.nil ?_
      refine J.then_n ?_
      refine J.cases 8 rfl (fun hc8 => ?_) (fun hc8 => ?_)
      ·
        exfalso; simp at hc8; omega
      ·
        first | replace hc8 := X.tt_dec hc8 | replace hc8 := X.tt_not hc8 | replace hc8 := X.ff_dec hc8 | replace hc8 := X.ff_not hc8 | skip
        try (first | (cases hc8; done) | (exfalso; simp at hc8; done))
        all_goals
          refine J.cond_f rfl ?_
          refine J.cskip ?_
          refine J.then_n ?_
          refine J.cut (fun z : Nat × Nat => z.1 < 256 ∧ z.2 ≤ 8 ∧ bitsLen n = z.2 + bitsLen z.1) (fun z => [(0, .int .u64 z.1), (2, .int .i64 z.2)]) (fun _ => [F]) ?_ fun z hz => ?_
          ·
            refine J.seq ?_
            refine J.region ?_
            refine J.m rfl ?_
            refine J.p rfl (Q.geq rfl rfl) ?_
            refine J.nil ?_
            refine J.then_n ?_
            refine J.cases 14 rfl (fun hc14 => ?_) (fun hc14 => ?_)
            ·
              first | replace hc14 := X.tt_dec hc14 | replace hc14 := X.tt_not hc14 | replace hc14 := X.ff_dec hc14 | replace hc14 := X.ff_not hc14 | skip
              try (first | (cases hc14; done) | (exfalso; simp at hc14; done))
              all_goals
                refine J.cond_t rfl ?_
                refine J.seq ?_
                refine J.region ?_
                refine J.m rfl ?_
                refine J.p rfl (Q.shr rfl rfl (by omega)) ?_
                refine J.slot 16 (.int .u64 ((n / 256 : Nat) : Int)) rfl (by congr 1; rw [Int.fdiv_eq_ediv_of_nonneg _ (by decide)]; show (n : Int) / 2 ^ 8 = _; omega) ?_
                refine J.p rfl (Q.asg rfl) ?_
                refine J.nil ?_
                refine J.then_n ?_
                refine J.region ?_
                refine J.m rfl ?_
                refine J.p rfl (Q.add64 rfl rfl (by omega)) ?_
                refine J.p rfl (Q.asg rfl) ?_
                refine J.nil ?_
                first
                  | refine J.meet (n / 256, 8) ⟨by show n / 256 < 256; omega, Nat.le_refl _, bitsLen_shift (c := 8) (by omega)⟩ ⟨rfl, rfl, trivial⟩ rfl
                  | refine J.meet (n, 0) ⟨by show n < 256; omega, Nat.zero_le _, (Nat.zero_add _).symm⟩ ⟨rfl, rfl, trivial⟩ rfl
            ·
              first | replace hc14 := X.tt_dec hc14 | replace hc14 := X.tt_not hc14 | replace hc14 := X.ff_dec hc14 | replace hc14 := X.ff_not hc14 | skip
              try (first | (cases hc14; done) | (exfalso; simp at hc14; done))
              all_goals
                refine J.cond_f rfl ?_
                refine J.cskip ?_
                first
                  | refine J.meet (n / 256, 8) ⟨by show n / 256 < 256; omega, Nat.le_refl _, bitsLen_shift (c := 8) (by omega)⟩ ⟨rfl, rfl, trivial⟩ rfl
                  | refine J.meet (n, 0) ⟨by show n < 256; omega, Nat.zero_le _, (Nat.zero_add _).symm⟩ ⟨rfl, rfl, trivial⟩ rfl
          ·
            obtain ⟨m, c⟩ := z
            obtain ⟨hm, hc, hb⟩ := hz
            dsimp only at hm hc hb
            have hb8 := bitsLen_256 hm
            refine J.seq ?_
            refine J.region ?_
            refine J.m rfl ?_
            refine J.m rfl ?_
            refine J.p rfl (Q.conv Tryz.runUnderlying23 Tryz.runUnderlying5 rfl) ?_
            refine J.slot 21 (.int .u8 (m : Int)) rfl (by congr 1; show IntKind.u8.wrap (m : Int) = m; rw [wrap8, Nat.mod_eq_of_lt hm]) ?_
            refine J.p rfl (Q.idxs Tryz.runUnderlying9 rfl rfl (by omega) (idx256 (by kernel_rfl) (by omega) (by omega))) ?_
            refine J.slot 22 (.int .u8 (bitsLen m : Nat)) rfl (by congr 1; rw [Int.toNat_natCast, u8_bits hm]) ?_
            refine J.p rfl (Q.conv64 Tryz.runUnderlying5 Tryz.runUnderlying3 rfl (by omega)) ?_
            refine J.p rfl (Q.add64 rfl rfl (by omega)) ?_
            refine J.p rfl (Q.asg rfl) ?_
            refine J.nil ?_
            refine J.then_n ?_
            refine J.cret ?_
            refine J.ret1 (B := []) rfl rfl ⟨?_, rfl⟩ rfl
            rw [hb]; congr 1
theorem len (n : Nat) (hn : n < 65536) : FSpec Tryz.prog 88 [.int .u64 n] [] (fun v B => v = .int .i64 (bitsLen n : Nat) ∧ B = []) := by
  refine FSpec.of Tryz.func88 rfl Tryz.ntmps88 rfl fun W0 F => ?_
  refine J.seq ?_
  refine J.region ?_
  refine J.p rfl (Q.asg rfl) ?_
  refine J.nil ?_
  refine J.then_n ?_
  refine J.seq ?_
  refine J.cond_f rfl ?_
  refine J.cskip ?_
  refine J.then_n ?_
  refine J.seq ?_
  refine J.region ?_
  refine J.m rfl ?_
  refine J.call Tryz.call107 (len64 n hn) [] rfl rfl rfl rfl ?_
  rintro _ _ ⟨rfl, rfl⟩
  refine J.norm rfl ?_
  refine J.p rfl (Q.asg rfl) ?_
  refine J.nil ?_
  refine J.then_n ?_
  refine J.cret ?_
  refine J.keep [0] rfl ?_
  refine J.ret1 (B := []) rfl rfl ⟨rfl, rfl⟩ rfl
theorem npow (n : Nat) (hn : n < 65536) : FSpec Tryz.prog 128 [.int .i64 n] [] (fun v B => v = .int .u64 ((2 ^ bitsLen n : Nat) : Int) ∧ B = []) := by
  refine FSpec.of Tryz.func128 rfl Tryz.ntmps128 rfl fun W0 F => ?_
  refine J.seq ?_
  refine J.region ?_
  refine J.p rfl (Q.asg rfl) ?_
  refine J.nil ?_
  refine J.then_n ?_
  refine J.seq ?_
  refine J.region ?_
  refine J.m rfl ?_
  refine J.p rfl (Q.conv Tryz.runUnderlying3 Tryz.runUnderlying110 rfl) ?_
  rw [show IntKind.u64.wrap (n : Int) = (n : Int) from wrap64 (by omega)]
  refine J.call Tryz.call88 (len n hn) [] rfl rfl rfl rfl ?_
  rintro _ _ ⟨rfl, rfl⟩
  refine J.norm rfl ?_
  refine J.p rfl (Q.shl rfl rfl (by omega)) ?_
  refine J.p rfl (Q.asg rfl) ?_
  refine J.nil ?_
  refine J.then_n ?_
  refine J.cret ?_
  refine J.keep [0] rfl ?_
  refine J.ret1 (B := []) rfl rfl ⟨?_, rfl⟩ rfl
  have hb : bitsLen n ≤ 16 := (Go.Sort.bitsLen_le_iff n 16).2 (by omega)
  congr 1
  rw [Int.toNat_natCast, show min (bitsLen n) IntKind.u64.bits = bitsLen n from Nat.min_eq_left (by show bitsLen n ≤ 64; omega)]
  have h2 : (2 : Nat) ^ bitsLen n ≤ 2 ^ 16 := Nat.pow_le_pow_right (by decide) hb
  rw [Int.one_mul, ← wrap64 (n := 2 ^ bitsLen n) (by omega)]
  push_cast
  rfl
theorem xor_next (b : Nat) (z : Int) : FSpec Tryz.prog 129 [.pointer (some ⟨b, 0, none⟩)] [pt b (.cells [.int .u64 z].toArray 160 (0, 0))] (fun v B => ∃ z' : Int, v = .int .u64 z' ∧ B = [pt b (.cells [.int .u64 z'].toArray 160 (0, 0))]) := by
  refine FSpec.of Tryz.func129 rfl Tryz.ntmps129 rfl fun W0 F => ?_
  refine J.seq ?_
  refine J.region ?_
  refine J.p rfl (Q.asg rfl) ?_
  refine J.nil ?_
  refine J.then_n ?_
  refine J.seq ?_
  refine J.draw [9] Tryz.mixed (by kernel_rfl) fun hR => ?_
  refine RG.p 0 hR rfl (Q.mv rfl) ?_
  refine RG.p 1 hR rfl (Q.nil_ rfl) ?_
  refine RG.p 2 hR rfl (Q.ld Tryz.isAgg160 rfl (by first | exact Reads.pt 0 rfl rfl | exact Reads.pt 1 rfl rfl | exact Reads.pt 2 rfl rfl | exact Reads.pt 3 rfl rfl | exact Reads.pt 4 rfl rfl | exact Reads.pt 5 rfl rfl | exact Reads.pt 6 rfl rfl | exact Reads.pt 7 rfl rfl | exact Reads.pt 8 rfl rfl | exact Reads.pt 9 rfl rfl | exact Reads.pt 10 rfl rfl | exact Reads.pt 11 rfl rfl | exact Reads.pt 12 rfl rfl | exact Reads.pt 13 rfl rfl)) ?_
  refine RG.p 3 hR rfl (Q.mv rfl) ?_
  refine RG.p 4 hR rfl (Q.nil_ rfl) ?_
  refine RG.p 5 hR rfl (Q.ld Tryz.isAgg160 rfl (by first | exact Reads.pt 0 rfl rfl | exact Reads.pt 1 rfl rfl | exact Reads.pt 2 rfl rfl | exact Reads.pt 3 rfl rfl | exact Reads.pt 4 rfl rfl | exact Reads.pt 5 rfl rfl | exact Reads.pt 6 rfl rfl | exact Reads.pt 7 rfl rfl | exact Reads.pt 8 rfl rfl | exact Reads.pt 9 rfl rfl | exact Reads.pt 10 rfl rfl | exact Reads.pt 11 rfl rfl | exact Reads.pt 12 rfl rfl | exact Reads.pt 13 rfl rfl)) ?_
  refine RG.p 6 hR rfl (Q.shl rfl rfl (by omega)) ?_
  refine RG.p 7 hR rfl (Q.xor rfl rfl) ?_
  refine RG.p 8 hR rfl (Q.nil_ rfl) ?_
  first | refine RG.st 9 (j := 0) hR rfl rfl rfl rfl rfl Tryz.sizeOf160 rfl rfl rfl rfl rfl rfl rfl ?_ | refine RG.st 9 (j := 1) hR rfl rfl rfl rfl rfl Tryz.sizeOf160 rfl rfl rfl rfl rfl rfl rfl ?_ | refine RG.st 9 (j := 2) hR rfl rfl rfl rfl rfl Tryz.sizeOf160 rfl rfl rfl rfl rfl rfl rfl ?_ | refine RG.st 9 (j := 3) hR rfl rfl rfl rfl rfl Tryz.sizeOf160 rfl rfl rfl rfl rfl rfl rfl ?_ | refine RG.st 9 (j := 4) hR rfl rfl rfl rfl rfl Tryz.sizeOf160 rfl rfl rfl rfl rfl rfl rfl ?_ | refine RG.st 9 (j := 5) hR rfl rfl rfl rfl rfl Tryz.sizeOf160 rfl rfl rfl rfl rfl rfl rfl ?_ | refine RG.st 9 (j := 6) hR rfl rfl rfl rfl rfl Tryz.sizeOf160 rfl rfl rfl rfl rfl rfl rfl ?_ | refine RG.st 9 (j := 7) hR rfl rfl rfl rfl rfl Tryz.sizeOf160 rfl rfl rfl rfl rfl rfl rfl ?_ | refine RG.st 9 (j := 8) hR rfl rfl rfl rfl rfl Tryz.sizeOf160 rfl rfl rfl rfl rfl rfl rfl ?_ | refine RG.st 9 (j := 9) hR rfl rfl rfl rfl rfl Tryz.sizeOf160 rfl rfl rfl rfl rfl rfl rfl ?_ | refine RG.st 9 (j := 10) hR rfl rfl rfl rfl rfl Tryz.sizeOf160 rfl rfl rfl rfl rfl rfl rfl ?_ | refine RG.st 9 (j := 11) hR rfl rfl rfl rfl rfl Tryz.sizeOf160 rfl rfl rfl rfl rfl rfl rfl ?_ | refine RG.st 9 (j := 12) hR rfl rfl rfl rfl rfl Tryz.sizeOf160 rfl rfl rfl rfl rfl rfl rfl ?_ | refine RG.st 9 (j := 13) hR rfl rfl rfl rfl rfl Tryz.sizeOf160 rfl rfl rfl rfl rfl rfl rfl ?_ | refine RG.st 9 (j := 14) hR rfl rfl rfl rfl rfl Tryz.sizeOf160 rfl rfl rfl rfl rfl rfl rfl ?_ | refine RG.st 9 (j := 15) hR rfl rfl rfl rfl rfl Tryz.sizeOf160 rfl rfl rfl rfl rfl rfl rfl ?_
  refine RG.fin hR rfl ?_
  refine J.norm rfl ?_
  refine J.then_n ?_
  refine J.seq ?_
  refine J.draw [9] Tryz.mixed (by kernel_rfl) fun hR => ?_
  refine RG.p 0 hR rfl (Q.mv rfl) ?_
  refine RG.p 1 hR rfl (Q.nil_ rfl) ?_
  refine RG.p 2 hR rfl (Q.ld Tryz.isAgg160 rfl (by first | exact Reads.pt 0 rfl rfl | exact Reads.pt 1 rfl rfl | exact Reads.pt 2 rfl rfl | exact Reads.pt 3 rfl rfl | exact Reads.pt 4 rfl rfl | exact Reads.pt 5 rfl rfl | exact Reads.pt 6 rfl rfl | exact Reads.pt 7 rfl rfl | exact Reads.pt 8 rfl rfl | exact Reads.pt 9 rfl rfl | exact Reads.pt 10 rfl rfl | exact Reads.pt 11 rfl rfl | exact Reads.pt 12 rfl rfl | exact Reads.pt 13 rfl rfl)) ?_
  refine RG.p 3 hR rfl (Q.mv rfl) ?_
  refine RG.p 4 hR rfl (Q.nil_ rfl) ?_
  refine RG.p 5 hR rfl (Q.ld Tryz.isAgg160 rfl (by first | exact Reads.pt 0 rfl rfl | exact Reads.pt 1 rfl rfl | exact Reads.pt 2 rfl rfl | exact Reads.pt 3 rfl rfl | exact Reads.pt 4 rfl rfl | exact Reads.pt 5 rfl rfl | exact Reads.pt 6 rfl rfl | exact Reads.pt 7 rfl rfl | exact Reads.pt 8 rfl rfl | exact Reads.pt 9 rfl rfl | exact Reads.pt 10 rfl rfl | exact Reads.pt 11 rfl rfl | exact Reads.pt 12 rfl rfl | exact Reads.pt 13 rfl rfl)) ?_
  refine RG.p 6 hR rfl (Q.shr rfl rfl (by omega)) ?_
  refine RG.p 7 hR rfl (Q.xor rfl rfl) ?_
  refine RG.p 8 hR rfl (Q.nil_ rfl) ?_
  first | refine RG.st 9 (j := 0) hR rfl rfl rfl rfl rfl Tryz.sizeOf160 rfl rfl rfl rfl rfl rfl rfl ?_ | refine RG.st 9 (j := 1) hR rfl rfl rfl rfl rfl Tryz.sizeOf160 rfl rfl rfl rfl rfl rfl rfl ?_ | refine RG.st 9 (j := 2) hR rfl rfl rfl rfl rfl Tryz.sizeOf160 rfl rfl rfl rfl rfl rfl rfl ?_ | refine RG.st 9 (j := 3) hR rfl rfl rfl rfl rfl Tryz.sizeOf160 rfl rfl rfl rfl rfl rfl rfl ?_ | refine RG.st 9 (j := 4) hR rfl rfl rfl rfl rfl Tryz.sizeOf160 rfl rfl rfl rfl rfl rfl rfl ?_ | refine RG.st 9 (j := 5) hR rfl rfl rfl rfl rfl Tryz.sizeOf160 rfl rfl rfl rfl rfl rfl rfl ?_ | refine RG.st 9 (j := 6) hR rfl rfl rfl rfl rfl Tryz.sizeOf160 rfl rfl rfl rfl rfl rfl rfl ?_ | refine RG.st 9 (j := 7) hR rfl rfl rfl rfl rfl Tryz.sizeOf160 rfl rfl rfl rfl rfl rfl rfl ?_ | refine RG.st 9 (j := 8) hR rfl rfl rfl rfl rfl Tryz.sizeOf160 rfl rfl rfl rfl rfl rfl rfl ?_ | refine RG.st 9 (j := 9) hR rfl rfl rfl rfl rfl Tryz.sizeOf160 rfl rfl rfl rfl rfl rfl rfl ?_ | refine RG.st 9 (j := 10) hR rfl rfl rfl rfl rfl Tryz.sizeOf160 rfl rfl rfl rfl rfl rfl rfl ?_ | refine RG.st 9 (j := 11) hR rfl rfl rfl rfl rfl Tryz.sizeOf160 rfl rfl rfl rfl rfl rfl rfl ?_ | refine RG.st 9 (j := 12) hR rfl rfl rfl rfl rfl Tryz.sizeOf160 rfl rfl rfl rfl rfl rfl rfl ?_ | refine RG.st 9 (j := 13) hR rfl rfl rfl rfl rfl Tryz.sizeOf160 rfl rfl rfl rfl rfl rfl rfl ?_ | refine RG.st 9 (j := 14) hR rfl rfl rfl rfl rfl Tryz.sizeOf160 rfl rfl rfl rfl rfl rfl rfl ?_ | refine RG.st 9 (j := 15) hR rfl rfl rfl rfl rfl Tryz.sizeOf160 rfl rfl rfl rfl rfl rfl rfl ?_
  refine RG.fin hR rfl ?_
  refine J.norm rfl ?_
  refine J.then_n ?_
  refine J.seq ?_
  refine J.draw [9] Tryz.mixed (by kernel_rfl) fun hR => ?_
  refine RG.p 0 hR rfl (Q.mv rfl) ?_
  refine RG.p 1 hR rfl (Q.nil_ rfl) ?_
  refine RG.p 2 hR rfl (Q.ld Tryz.isAgg160 rfl (by first | exact Reads.pt 0 rfl rfl | exact Reads.pt 1 rfl rfl | exact Reads.pt 2 rfl rfl | exact Reads.pt 3 rfl rfl | exact Reads.pt 4 rfl rfl | exact Reads.pt 5 rfl rfl | exact Reads.pt 6 rfl rfl | exact Reads.pt 7 rfl rfl | exact Reads.pt 8 rfl rfl | exact Reads.pt 9 rfl rfl | exact Reads.pt 10 rfl rfl | exact Reads.pt 11 rfl rfl | exact Reads.pt 12 rfl rfl | exact Reads.pt 13 rfl rfl)) ?_
  refine RG.p 3 hR rfl (Q.mv rfl) ?_
  refine RG.p 4 hR rfl (Q.nil_ rfl) ?_
  refine RG.p 5 hR rfl (Q.ld Tryz.isAgg160 rfl (by first | exact Reads.pt 0 rfl rfl | exact Reads.pt 1 rfl rfl | exact Reads.pt 2 rfl rfl | exact Reads.pt 3 rfl rfl | exact Reads.pt 4 rfl rfl | exact Reads.pt 5 rfl rfl | exact Reads.pt 6 rfl rfl | exact Reads.pt 7 rfl rfl | exact Reads.pt 8 rfl rfl | exact Reads.pt 9 rfl rfl | exact Reads.pt 10 rfl rfl | exact Reads.pt 11 rfl rfl | exact Reads.pt 12 rfl rfl | exact Reads.pt 13 rfl rfl)) ?_
  refine RG.p 6 hR rfl (Q.shl rfl rfl (by omega)) ?_
  refine RG.p 7 hR rfl (Q.xor rfl rfl) ?_
  refine RG.p 8 hR rfl (Q.nil_ rfl) ?_
  first | refine RG.st 9 (j := 0) hR rfl rfl rfl rfl rfl Tryz.sizeOf160 rfl rfl rfl rfl rfl rfl rfl ?_ | refine RG.st 9 (j := 1) hR rfl rfl rfl rfl rfl Tryz.sizeOf160 rfl rfl rfl rfl rfl rfl rfl ?_ | refine RG.st 9 (j := 2) hR rfl rfl rfl rfl rfl Tryz.sizeOf160 rfl rfl rfl rfl rfl rfl rfl ?_ | refine RG.st 9 (j := 3) hR rfl rfl rfl rfl rfl Tryz.sizeOf160 rfl rfl rfl rfl rfl rfl rfl ?_ | refine RG.st 9 (j := 4) hR rfl rfl rfl rfl rfl Tryz.sizeOf160 rfl rfl rfl rfl rfl rfl rfl ?_ | refine RG.st 9 (j := 5) hR rfl rfl rfl rfl rfl Tryz.sizeOf160 rfl rfl rfl rfl rfl rfl rfl ?_ | refine RG.st 9 (j := 6) hR rfl rfl rfl rfl rfl Tryz.sizeOf160 rfl rfl rfl rfl rfl rfl rfl ?_ | refine RG.st 9 (j := 7) hR rfl rfl rfl rfl rfl Tryz.sizeOf160 rfl rfl rfl rfl rfl rfl rfl ?_ | refine RG.st 9 (j := 8) hR rfl rfl rfl rfl rfl Tryz.sizeOf160 rfl rfl rfl rfl rfl rfl rfl ?_ | refine RG.st 9 (j := 9) hR rfl rfl rfl rfl rfl Tryz.sizeOf160 rfl rfl rfl rfl rfl rfl rfl ?_ | refine RG.st 9 (j := 10) hR rfl rfl rfl rfl rfl Tryz.sizeOf160 rfl rfl rfl rfl rfl rfl rfl ?_ | refine RG.st 9 (j := 11) hR rfl rfl rfl rfl rfl Tryz.sizeOf160 rfl rfl rfl rfl rfl rfl rfl ?_ | refine RG.st 9 (j := 12) hR rfl rfl rfl rfl rfl Tryz.sizeOf160 rfl rfl rfl rfl rfl rfl rfl ?_ | refine RG.st 9 (j := 13) hR rfl rfl rfl rfl rfl Tryz.sizeOf160 rfl rfl rfl rfl rfl rfl rfl ?_ | refine RG.st 9 (j := 14) hR rfl rfl rfl rfl rfl Tryz.sizeOf160 rfl rfl rfl rfl rfl rfl rfl ?_ | refine RG.st 9 (j := 15) hR rfl rfl rfl rfl rfl Tryz.sizeOf160 rfl rfl rfl rfl rfl rfl rfl ?_
  refine RG.fin hR rfl ?_
  refine J.norm rfl ?_
  refine J.then_n ?_
  refine J.seq ?_
  refine J.region ?_
  refine J.m rfl ?_
  refine J.p rfl (Q.nil_ rfl) ?_
  refine J.p rfl (Q.ld Tryz.isAgg160 rfl (by first | exact Reads.pt 0 rfl rfl | exact Reads.pt 1 rfl rfl | exact Reads.pt 2 rfl rfl | exact Reads.pt 3 rfl rfl | exact Reads.pt 4 rfl rfl | exact Reads.pt 5 rfl rfl | exact Reads.pt 6 rfl rfl | exact Reads.pt 7 rfl rfl | exact Reads.pt 8 rfl rfl | exact Reads.pt 9 rfl rfl | exact Reads.pt 10 rfl rfl | exact Reads.pt 11 rfl rfl | exact Reads.pt 12 rfl rfl | exact Reads.pt 13 rfl rfl)) ?_
  refine J.p rfl (Q.asg rfl) ?_
  refine J.nil ?_
  refine J.then_n ?_
  refine J.cret ?_
  refine J.ret1 (B := [_]) rfl rfl ⟨_, rfl, rfl⟩ rfl
end Go.Proofs.YtdancegklkifaaaGreat
namespace Go.Proofs.YtdancegklkifaaaGreat
set_option linter.unusedSectionVars false
set_option linter.unusedSimpArgs false
set_option linter.unusedVariables false
open Go.X

def boxOwnU (b : Nat) (xs : List Nat) : Assn := fun h => ∃ z : Option Addr × Nat, HSat h [pt b (.cells [.slice z.1 xs.length z.2].toArray 60 (0, 0)), own 23 1 (.slice z.1 xs.length z.2) (xs.map encU)]

theorem appendSeqU (gf : FuncId) (lb : List Value) (G : Assn) (S : List Nat → Prop) (ok : List Nat → Nat → Prop) (eg : ∀ (args : Array Value) (w : World), (callFunc gf args).run Tryz.prog w = .ok (.enter gf args) w)
    (hit : ItSpec Tryz.prog gf lb (fun x : Nat => [encU x]) [G] S ok) (hok : ∀ pre x, ok pre x → pre.length < 1099511627776) :
    FSpec Tryz.prog 90 [.slice none 0 0, .func (.func gf) #[] lb.toArray] [G] (fun v B => ∃ (xs : List Nat) (p : Option Addr) (c : Nat), S xs ∧ v = .slice p xs.length c ∧ B = [own 23 1 (.slice p xs.length c) (xs.map encU), G]) := by
  refine FSpec.ofM Tryz.func90 rfl Tryz.ntmps90 rfl fun W0 F => ?_
  refine JI.seq ?_
  refine JI.region ?_
  refine JI.c rfl rfl (fun _ e => nomatch e) (C.box (l := [_]) rfl rfl) ?_
  rintro _ _ ⟨b2, rfl, rfl⟩
  refine J.norm rfl ?_
  refine JI.q rfl rfl (fun _ e => nomatch e) (Q.asg rfl) ?_
  refine JI.nil ?_
  refine JI.then_n ?_
  refine JI.seq ?_
  refine JI.seq ?_
  refine JI.region ?_
  refine JI.q rfl rfl (fun _ e => nomatch e) (Q.mv rfl) ?_
  refine JI.nil ?_
  refine JI.then_n ?_
  refine JI.block ?_
  refine J.give (own.nil 23 1 _) ?_
  refine J.shut [1, 0] (boxOwnU b2 []) rfl (fun h s => ⟨(none, 0), s⟩) ?_
  refine J.sub [(2, .pointer (some ⟨b2, 0, none⟩)), (6, .func (.func gf) #[] lb.toArray)] ⟨rfl, rfl, trivial⟩ ?_
  refine JI.rangeFunc gf lb (fun x : Nat => [encU x]) S ok (fun pre => [boxOwnU b2 pre]) (fun x => [(5, encU x), (2, .pointer (some ⟨b2, 0, none⟩))]) rfl eg hit (by decide) (fun _ => rfl) [0, 1] rfl ?_ ?_ ?_
  · intro l W1 F1 pre x _
    refine JI.region ?_
    refine JI.q rfl rfl (fun _ e => nomatch e) (Q.asg rfl) ?_
    refine JI.nil ?_
    exact JI.asgEnd ⟨rfl, rfl, trivial⟩ rfl
  · intro l W1 F1 pre x hk
    have hlen := hok pre x hk
    refine JI.block ?_
    refine JI.region ?_
    refine J.open_ 0 (p := fun _ => True) rfl rfl (fun h hh => by obtain ⟨z, hz⟩ := hh; exact ⟨z, trivial, hz⟩) fun z _ => ?_
    refine J.norm rfl ?_
    refine JI.q rfl rfl (fun _ e => nomatch e) (Q.ld Tryz.isAgg60 rfl (Reads.pt 0 rfl rfl)) ?_
    refine JI.q rfl rfl (fun _ e => nomatch e) (Q.mv rfl) ?_
    refine JI.c rfl rfl (fun _ e => nomatch e) (C.bslG (l := [_]) Tryz.runUnderlying60 Tryz.sizeOf23 Tryz.zeroValue23 (by decide) rfl rfl rfl rfl rfl) ?_
    rintro _ _ ⟨b10, rfl, rfl⟩
    refine J.norm rfl ?_
    refine JI.c rfl rfl (fun _ e => nomatch e) (C.app (i := 2) Tryz.runUnderlying60 Tryz.runUnderlying60 Tryz.typeInfo23 Tryz.sizeOf23 Tryz.zeroValue23 rfl rfl rfl (SlR.pt 0 rfl rfl (xs := [encU x]) (fun j u h => by rw [Nat.zero_add]; exact h)) (by intro v hv; obtain rfl := List.mem_singleton.1 hv; rfl) (by simp [Tryz.t23]; omega) (by decide)) ?_
    rintro _ _ ⟨p11, c11, rfl, rfl⟩
    refine J.norm rfl ?_
    refine JI.c0 rfl (fun _ e => nomatch e) (C.stl (i := 1) Tryz.sizeOf60 rfl rfl rfl rfl rfl rfl rfl) ?_
    rintro _ _ ⟨rfl, rfl⟩
    refine JI.nil ?_
    refine JI.blk_n ?_
    refine J.shut [1, 2] (boxOwnU b2 (pre ++ [x])) rfl (fun h s => ⟨(p11, c11), by simpa [List.length_append] using s⟩) ?_
    refine J.keep [0, 2] rfl ?_
    exact JI.bodyEnd rfl
  · intro D xs hS
    refine J.norm rfl ?_
    refine JI.blk_n ?_
    refine JI.then_n ?_
    refine JI.seq ?_
    refine JI.region ?_
    refine J.open_ 1 (p := fun _ => True) rfl rfl (fun h hh => by obtain ⟨z, hz⟩ := hh; exact ⟨z, trivial, hz⟩) fun z _ => ?_
    refine J.norm rfl ?_
    refine JI.q rfl rfl (fun _ e => nomatch e) (Q.ld Tryz.isAgg60 rfl (Reads.pt 0 rfl rfl)) ?_
    refine JI.q rfl rfl (fun _ e => nomatch e) (Q.asg rfl) ?_
    refine JI.nil ?_
    refine JI.then_n ?_
    refine JI.ret ?_
    refine J.keep [2, 1, 3, 4] rfl ?_
    exact JI.ret1 rfl rfl ⟨xs, z.1, z.2, hS, rfl, rfl⟩ rfl

theorem collectU (gf : FuncId) (lb : List Value) (G : Assn) (S : List Nat → Prop) (ok : List Nat → Nat → Prop) (eg : ∀ (args : Array Value) (w : World), (callFunc gf args).run Tryz.prog w = .ok (.enter gf args) w)
    (hit : ItSpec Tryz.prog gf lb (fun x : Nat => [encU x]) [G] S ok) (hok : ∀ pre x, ok pre x → pre.length < 1099511627776) :
    FSpec Tryz.prog 54 [.func (.func gf) #[] lb.toArray] [G] (fun v B => ∃ (xs : List Nat) (p : Option Addr) (c : Nat), S xs ∧ v = .slice p xs.length c ∧ B = [own 23 1 (.slice p xs.length c) (xs.map encU), G]) := by
  refine FSpec.of Tryz.func54 rfl Tryz.ntmps54 rfl fun W0 F => ?_
  refine J.seq <| J.region <| J.p rfl (Q.asg rfl) <| J.nil <| J.then_n <| J.seq <| J.region <| J.m rfl ?_
  refine J.call Tryz.call90 (appendSeqU gf lb G S ok eg hit hok) [0] rfl rfl rfl rfl ?_
  rintro _ _ ⟨xs, p, c, hS, rfl, rfl⟩
  refine J.norm rfl <| J.p rfl (Q.asg rfl) <| J.nil <| J.then_n <| J.cret ?_
  refine J.ret1 (B := [_, G]) rfl rfl ⟨xs, p, c, hS, rfl, rfl⟩ rfl
end Go.Proofs.YtdancegklkifaaaGreat
namespace Go.Proofs.YtdancegklkifaaaGreat
set_option linter.unusedSectionVars false
set_option linter.unusedSimpArgs false
set_option linter.unusedVariables false
open Go.X
open Go.Sort (swp bitsLen reverseRange insertionSort heapSort partition partitionEqual partialInsertionSort PermIn SortedIn SWO)

abbrev cellU (b : Nat) (z : Int) : Assn := pt b (.cells [.int .i64 z].toArray 3 (0, 0))

section
variable (b off n c : Nat) (d : Array Nat) (hn : d.size = n) (hs : n ≤ 32768)
include hn hs
theorem order2U (x y : Nat) (hx : x < n) (hy : y < n) (w : Nat) (z : Int) :
    FSpec Tryz.prog 142 [.slice (some ⟨b, off, none⟩) n c, .int .i64 x, .int .i64 y, .pointer (some ⟨w, 0, none⟩)] [rowU b off n c d, cellU w z] (fun v B => ∃ (x' y' : Nat) (z' : Int), (x' = x ∧ y' = y ∨ x' = y ∧ y' = x) ∧ v = .tuple #[.int .i64 x', .int .i64 y'] ∧ B = [rowU b off n c d, cellU w z']) := by
  refine FSpec.of Tryz.func142 rfl Tryz.ntmps142 rfl fun W0 F => ?_
  refine J.seq <| J.region <| J.p rfl (Q.asg rfl) <| J.p rfl (Q.asg rfl) <| J.nil <| J.then_n <| J.seq <| J.seq ?_
  refine J.draw [8] Tryz.mixed (by kernel_rfl) fun hR => ?_
  refine RG.p 0 hR rfl (Q.mv rfl) <| RG.p 1 hR rfl (Q.mv rfl) <| RG.p 2 hR rfl (Q.ia Tryz.runUnderlying60 Tryz.sizeOf23 rfl rfl (by omega) (by omega)) <| RG.p 3 hR rfl (Q.ld Tryz.isAgg23 rfl (rdU (k := 0) rfl (by omega))) <| RG.p 4 hR rfl (Q.mv rfl) <| RG.p 5 hR rfl (Q.mv rfl) <| RG.p 6 hR rfl (Q.ia Tryz.runUnderlying60 Tryz.sizeOf23 rfl rfl (by omega) (by omega)) ?_
  refine RG.p 7 hR rfl (Q.ld Tryz.isAgg23 rfl (rdU (k := 0) rfl (by omega))) ?_
  refine RG.call 8 hR rfl rfl rfl rfl rfl rfl Tryz.call114 (lessU _ _) [] rfl rfl ?_
  rintro _ _ ⟨rfl, rfl⟩
  refine RG.norm rfl ?_
  refine RG.fin hR rfl ?_
  refine J.norm rfl <| J.then_n ?_
  refine J.cases 18 rfl (fun hc18 => ?_) (fun hc18 => ?_)
  ·
   replace hc18 := X.nm hc18
   refine J.cond_t rfl <| J.seq <| J.region <| J.m rfl <| J.p rfl (Q.nil_ rfl) ?_
   refine J.p rfl (Q.ld Tryz.isAgg3 rfl (rdI (by exact rfl))) ?_
   refine J.p rfl (Q.add rfl rfl) <| J.p rfl (Q.nil_ rfl) ?_
   refine J.stI rfl Tryz.sizeOf3 rfl rfl rfl (by exact rfl) (by exact rfl) (by exact rfl) ?_
   refine J.nil <| J.then_n <| J.seq <| J.region <| J.m rfl <| J.m rfl <| J.p rfl (Q.asg rfl) <| J.p rfl (Q.asg rfl) <| J.nil <| J.then_n <| J.cret <| J.then_r ?_
   refine J.ret2 (B := [_, _]) rfl rfl rfl ⟨y, x, _, .inr ⟨rfl, rfl⟩, rfl, rfl⟩ rfl
  replace hc18 := X.nm hc18
  refine J.cond_f rfl <| J.cskip <| J.then_n <| J.seq <| J.region <| J.m rfl <| J.m rfl <| J.p rfl (Q.asg rfl) <| J.p rfl (Q.asg rfl) <| J.nil <| J.then_n <| J.cret ?_
  refine J.ret2 (B := [_, _]) rfl rfl rfl ⟨x, y, _, .inl ⟨rfl, rfl⟩, rfl, rfl⟩ rfl
theorem medianU (x y y2 : Nat) (hx : x < n) (hy : y < n) (hy2 : y2 < n) (w : Nat) (z : Int) :
    FSpec Tryz.prog 135 [.slice (some ⟨b, off, none⟩) n c, .int .i64 x, .int .i64 y, .int .i64 y2, .pointer (some ⟨w, 0, none⟩)] [rowU b off n c d, cellU w z] (fun v B => ∃ (m : Nat) (z' : Int), (m = x ∨ m = y ∨ m = y2) ∧ v = .int .i64 m ∧ B = [rowU b off n c d, cellU w z']) := by
  refine FSpec.of Tryz.func135 rfl Tryz.ntmps135 rfl fun W0 F => ?_
  refine J.seq <| J.region <| J.p rfl (Q.asg rfl) <| J.nil <| J.then_n <| J.seq <| J.region <| J.m rfl <| J.m rfl <| J.m rfl <| J.m rfl ?_
  refine J.call Tryz.call142 (order2U b off n c d hn hs x y hx hy w z) [0, 1] rfl rfl rfl rfl ?_
  rintro _ _ ⟨x1, y1, z1, h1, rfl, rfl⟩
  refine J.norm rfl <| J.m rfl <| J.p rfl (Q.ext rfl rfl) <| J.p rfl (Q.ext rfl rfl) <| J.p rfl (Q.asg rfl) <| J.p rfl (Q.asg rfl) <| J.nil <| J.then_n <| J.seq <| J.region <| J.m rfl <| J.m rfl <| J.m rfl <| J.m rfl ?_
  refine J.call Tryz.call142 (order2U b off n c d hn hs y1 y2 (by omega) (by omega) w z1) [0, 1] rfl rfl rfl rfl ?_
  rintro _ _ ⟨x2, y3, z2, h2, rfl, rfl⟩
  refine J.norm rfl <| J.m rfl <| J.p rfl (Q.ext rfl rfl) <| J.p rfl (Q.ext rfl rfl) <| J.p rfl (Q.asg rfl) <| J.p rfl (Q.asg rfl) <| J.nil <| J.then_n <| J.seq <| J.region <| J.m rfl <| J.m rfl <| J.m rfl <| J.m rfl ?_
  refine J.call Tryz.call142 (order2U b off n c d hn hs x1 x2 (by omega) (by omega) w z2) [0, 1] rfl rfl rfl rfl ?_
  rintro _ _ ⟨x4, y4, z3, h3, rfl, rfl⟩
  refine J.norm rfl <| J.m rfl <| J.p rfl (Q.ext rfl rfl) <| J.p rfl (Q.ext rfl rfl) <| J.p rfl (Q.asg rfl) <| J.p rfl (Q.asg rfl) <| J.nil <| J.then_n <| J.seq <| J.region <| J.m rfl <| J.p rfl (Q.asg rfl) <| J.nil <| J.then_n <| J.cret ?_
  refine J.ret1 (B := [_, _]) rfl rfl ⟨y4, z3, by omega, rfl, rfl⟩ rfl
theorem medAdjU (x : Nat) (h0 : 0 < x) (hx : x + 1 < n) (w : Nat) (z : Int) :
    FSpec Tryz.prog 134 [.slice (some ⟨b, off, none⟩) n c, .int .i64 x, .pointer (some ⟨w, 0, none⟩)] [rowU b off n c d, cellU w z] (fun v B => ∃ (m : Nat) (z' : Int), (x ≤ m + 1 ∧ m ≤ x + 1) ∧ v = .int .i64 m ∧ B = [rowU b off n c d, cellU w z']) := by
  refine FSpec.of Tryz.func134 rfl Tryz.ntmps134 rfl fun W0 F => ?_
  refine J.seq <| J.region <| J.p rfl (Q.asg rfl) <| J.nil <| J.then_n <| J.seq <| J.region <| J.m rfl <| J.m rfl <| J.p rfl (Q.sub64 rfl rfl (by omega)) ?_
  refine J.slot 9 (.int .i64 ((x - 1 : Nat) : Int)) rfl (by congr 1; omega) ?_
  refine J.m rfl <| J.m rfl <| J.p rfl (Q.add64 rfl rfl (by omega)) <| J.m rfl ?_
  refine J.call Tryz.call135 (medianU b off n c d hn hs (x - 1) x (x + 1) (by omega) (by omega) (by omega) w z) [0, 1] rfl rfl rfl rfl ?_
  rintro _ _ ⟨m, z', hm, rfl, rfl⟩
  refine J.norm rfl <| J.p rfl (Q.asg rfl) <| J.nil <| J.then_n <| J.cret ?_
  refine J.ret1 (B := [_, _]) rfl rfl ⟨m, z', by omega, rfl, rfl⟩ rfl
theorem pivotU (x e : Nat) (hx : x + 12 < e) (he : e ≤ n) :
    FSpec Tryz.prog 111 [.slice (some ⟨b, off, none⟩) n c, .int .i64 x, .int .i64 e] [rowU b off n c d] (fun v B => ∃ (p : Nat) (h : Int), (x ≤ p ∧ p < e) ∧ v = .tuple #[.int .i64 p, .int .i64 h] ∧ B = [rowU b off n c d]) := by
  refine FSpec.of Tryz.func111 rfl Tryz.ntmps111 rfl fun W0 F => ?_
  refine J.seq <| J.region <| J.p rfl (Q.asg rfl) <| J.p rfl (Q.asg rfl) <| J.nil <| J.then_n <| J.seq <| J.region <| J.m rfl <| J.m rfl <| J.p rfl (Q.sub64 rfl rfl (by omega)) <| J.p rfl (Q.asg rfl) <| J.nil <| J.then_n <| J.seq <| J.region ?_
  refine J.c rfl rfl (C.alloc (l := [_]) Tryz.zeroValue3 rfl) ?_
  rintro _ _ ⟨b9, rfl, rfl⟩
  refine J.norm rfl <| J.nil <| J.then_n <| J.seq <| J.region <| J.m rfl <| J.m rfl <| J.p rfl (Q.quo64 rfl rfl (by omega) (by omega) (by omega)) <| J.p rfl (Q.mul64 rfl rfl (by omega)) <| J.p rfl (Q.add64 rfl rfl (by omega)) <| J.p rfl (Q.asg rfl) <| J.nil <| J.then_n <| J.seq <| J.region <| J.m rfl <| J.m rfl <| J.p rfl (Q.quo64 rfl rfl (by omega) (by omega) (by omega)) ?_
  refine J.p rfl (Q.mul64 rfl rfl (by omega)) <| J.p rfl (Q.add64 rfl rfl (by omega)) <| J.p rfl (Q.asg rfl) <| J.nil <| J.then_n <| J.seq <| J.region <| J.m rfl <| J.m rfl <| J.p rfl (Q.quo64 rfl rfl (by omega) (by omega) (by omega)) <| J.p rfl (Q.mul64 rfl rfl (by omega)) <| J.p rfl (Q.add64 rfl rfl (by omega)) <| J.p rfl (Q.asg rfl) <| J.nil <| J.then_n ?_
  refine J.seq <| J.seq ?_
  obtain ⟨l, hl⟩ : ∃ l, l = e - x := ⟨_, rfl⟩
  refine J.sub [(0, .slice (some ⟨b, off, none⟩) n c), (8, .int .i64 (l : Int)), (9, .pointer (some ⟨b9, 0, none⟩)), (10, .int .i64 ((x + l / 4 * 1 : Nat) : Int)), (11, .int .i64 ((x + l / 4 * 2 : Nat) : Int)), (12, .int .i64 ((x + l / 4 * 3 : Nat) : Int))] ⟨rfl, (by show some (Value.int .i64 _) = some (Value.int .i64 _); congr 2; omega), rfl, (by show some (Value.int .i64 _) = some (Value.int .i64 _); congr 2; omega), (by show some (Value.int .i64 _) = some (Value.int .i64 _); congr 2; omega), (by show some (Value.int .i64 _) = some (Value.int .i64 _); congr 2; omega), trivial⟩ ?_
  refine J.region <| J.m rfl <| J.p rfl (Q.geq rfl rfl) <| J.nil <| J.then_n ?_
  refine J.cases 32 rfl (fun hc32 => ?_) (fun hc32 => ?_)
  ·
   replace hc32 := X.nm hc32
   skip
   refine J.cond_t rfl ?_
   refine J.cut (fun q : Nat × Nat × Nat × Int => (x ≤ q.1 ∧ q.1 < e) ∧ (x ≤ q.2.1 ∧ q.2.1 < e) ∧ (x ≤ q.2.2.1 ∧ q.2.2.1 < e)) (fun q => [(0, .slice (some ⟨b, off, none⟩) n c), (9, .pointer (some ⟨b9, 0, none⟩)), (10, .int .i64 q.1), (11, .int .i64 q.2.1), (12, .int .i64 q.2.2.1)]) (fun q => [cellU b9 q.2.2.2, rowU b off n c d, F]) ?_ fun q hq => ?_
   ·
    refine J.seq <| J.region <| J.m rfl <| J.p rfl (Q.geq rfl rfl) <| J.nil <| J.then_n ?_
    refine J.cases 34 rfl (fun hc34 => ?_) (fun hc34 => ?_)
    ·
     replace hc34 := X.nm hc34
     refine J.cond_t rfl <| J.seq <| J.region <| J.m rfl <| J.m rfl ?_
     refine J.call Tryz.call134 (medAdjU b off n c d hn hs (x + l / 4 * 1) (by omega) (by omega) b9 0) [1, 0] rfl rfl rfl rfl ?_
     rintro _ _ ⟨m1, z1, hm1, rfl, rfl⟩
     refine J.norm rfl <| J.p rfl (Q.asg rfl) <| J.nil <| J.then_n <| J.seq <| J.region <| J.m rfl <| J.m rfl ?_
     refine J.call Tryz.call134 (medAdjU b off n c d hn hs (x + l / 4 * 2) (by omega) (by omega) b9 z1) [0, 1] rfl rfl rfl rfl ?_
     rintro _ _ ⟨m2, z2, hm2, rfl, rfl⟩
     refine J.norm rfl <| J.p rfl (Q.asg rfl) <| J.nil <| J.then_n <| J.region <| J.m rfl <| J.m rfl ?_
     refine J.call Tryz.call134 (medAdjU b off n c d hn hs (x + l / 4 * 3) (by omega) (by omega) b9 z2) [0, 1] rfl rfl rfl rfl ?_
     rintro _ _ ⟨m3, z3, hm3, rfl, rfl⟩
     refine J.norm rfl <| J.p rfl (Q.asg rfl) <| J.nil ?_
     first
       | (refine J.pick [1, 0, 2] rfl ?_
          refine J.meet (m1, m2, m3, z3) ⟨⟨by show x ≤ m1; omega, by show m1 < e; omega⟩, ⟨by show x ≤ m2; omega, by show m2 < e; omega⟩, ⟨by show x ≤ m3; omega, by show m3 < e; omega⟩⟩ ⟨rfl, rfl, rfl, rfl, rfl, trivial⟩ rfl)
       | refine J.meet (x + l / 4 * 1, x + l / 4 * 2, x + l / 4 * 3, 0) ⟨⟨by show x ≤ x + l / 4 * 1; omega, by show x + l / 4 * 1 < e; omega⟩, ⟨by show x ≤ x + l / 4 * 2; omega, by show x + l / 4 * 2 < e; omega⟩, ⟨by show x ≤ x + l / 4 * 3; omega, by show x + l / 4 * 3 < e; omega⟩⟩ ⟨rfl, rfl, rfl, rfl, rfl, trivial⟩ rfl
    replace hc34 := X.nm hc34
    refine J.cond_f rfl <| J.cskip ?_
    first
      | (refine J.pick [1, 0, 2] rfl ?_
         refine J.meet (m1, m2, m3, z3) ⟨⟨by show x ≤ m1; omega, by show m1 < e; omega⟩, ⟨by show x ≤ m2; omega, by show m2 < e; omega⟩, ⟨by show x ≤ m3; omega, by show m3 < e; omega⟩⟩ ⟨rfl, rfl, rfl, rfl, rfl, trivial⟩ rfl)
      | refine J.meet (x + l / 4 * 1, x + l / 4 * 2, x + l / 4 * 3, 0) ⟨⟨by show x ≤ x + l / 4 * 1; omega, by show x + l / 4 * 1 < e; omega⟩, ⟨by show x ≤ x + l / 4 * 2; omega, by show x + l / 4 * 2 < e; omega⟩, ⟨by show x ≤ x + l / 4 * 3; omega, by show x + l / 4 * 3 < e; omega⟩⟩ ⟨rfl, rfl, rfl, rfl, rfl, trivial⟩ rfl
   obtain ⟨q1, q2, q3, zq⟩ := q
   obtain ⟨g1, g2, g3⟩ := hq
   dsimp only at g1 g2 g3
   refine J.region <| J.m rfl <| J.m rfl <| J.m rfl <| J.m rfl ?_
   refine J.call Tryz.call135 (medianU b off n c d hn hs q1 q2 q3 (by omega) (by omega) (by omega) b9 zq) [1, 0] rfl rfl rfl rfl ?_
   rintro _ _ ⟨m, z', hm, rfl, rfl⟩
   refine J.norm rfl <| J.p rfl (Q.asg rfl) <| J.nil <| J.then_n <| J.seq <| J.region ?_
   refine J.p rfl (Q.ld Tryz.isAgg3 rfl (rdI (by exact rfl))) ?_
   refine J.nil <| J.then_n <| J.block <| J.seq <| J.region <| J.p rfl (Q.eql rfl rfl) <| J.p rfl (Q.asg rfl) <| J.nil <| J.then_n ?_
   refine J.cases 51 rfl (fun hc51 => ?_) (fun hc51 => ?_)
   ·
    replace hc51 := X.nm hc51
    refine J.cond_t rfl <| J.seq <| J.region <| J.m rfl <| J.p rfl (Q.asg rfl) <| J.p rfl (Q.asg rfl) <| J.nil <| J.then_n <| J.cret <| J.blk_r ?_
    refine J.keep [0, 2] rfl ?_
    refine J.ret2 (B := [_]) rfl rfl rfl ⟨m, _, ⟨by omega, by omega⟩, rfl, rfl⟩ rfl
   replace hc51 := X.nm hc51
   refine J.cond_f rfl <| J.seq <| J.region <| J.p rfl (Q.eql rfl rfl) <| J.p rfl (Q.asg rfl) <| J.nil <| J.then_n ?_
   refine J.cases 54 rfl (fun hc54 => ?_) (fun hc54 => ?_)
   ·
    replace hc54 := X.nm hc54
    refine J.cond_t rfl <| J.seq <| J.region <| J.m rfl <| J.p rfl (Q.asg rfl) <| J.p rfl (Q.asg rfl) <| J.nil <| J.then_n <| J.cret <| J.blk_r ?_
    refine J.keep [0, 2] rfl ?_
    refine J.ret2 (B := [_]) rfl rfl rfl ⟨m, _, ⟨by omega, by omega⟩, rfl, rfl⟩ rfl
   replace hc54 := X.nm hc54
   refine J.cond_f rfl <| J.seq <| J.region <| J.m rfl <| J.p rfl (Q.asg rfl) <| J.p rfl (Q.asg rfl) <| J.nil <| J.then_n <| J.cret <| J.blk_r ?_
   refine J.keep [0, 2] rfl ?_
   refine J.ret2 (B := [_]) rfl rfl rfl ⟨m, _, ⟨by omega, by omega⟩, rfl, rfl⟩ rfl
  exfalso; simp at hc32; omega
theorem breakpU (x e : Nat) (hx : x + 12 < e) (he : e ≤ n) :
    FSpec Tryz.prog 110 [.slice (some ⟨b, off, none⟩) n c, .int .i64 x, .int .i64 e] [rowU b off n c d] (fun v B => ∃ d', PermIn x e d d' ∧ v = .tuple #[] ∧ B = [rowU b off n c d']) := by
  refine FSpec.of Tryz.func110 rfl Tryz.ntmps110 rfl fun W0 F => ?_
  refine J.seq <| J.region <| J.m rfl <| J.m rfl <| J.p rfl (Q.sub64 rfl rfl (by omega)) <| J.p rfl (Q.asg rfl) <| J.nil <| J.then_n <| J.seq <| J.region <| J.m rfl <| J.p rfl (Q.geq rfl rfl) <| J.nil <| J.then_n ?_
  refine J.cases 15 rfl (fun hc15 => ?_) (fun hc15 => ?_)
  ·
   replace hc15 := X.nm hc15
   skip
   try (first | (cases hc15; done) | (exfalso; simp at hc15; done))
   all_goals
    refine J.cond_t rfl <| J.seq ?_
    obtain ⟨l, hl⟩ : ∃ l, l = e - x := ⟨_, rfl⟩
    refine J.sub [(0, .slice (some ⟨b, off, none⟩) n c), (1, .int .i64 x), (6, .int .i64 (l : Int))] ⟨rfl, rfl, (by show some (Value.int .i64 _) = some (Value.int .i64 _); congr 2; omega), trivial⟩ ?_
    refine J.region <| J.m rfl <| J.p rfl (Q.conv Tryz.runUnderlying3 Tryz.runUnderlying160 rfl) ?_
    refine J.c rfl rfl (C.alloc (l := [_]) Tryz.zeroValue160 rfl) ?_
    rintro _ _ ⟨b7, rfl, rfl⟩
    refine J.norm rfl ?_
    refine J.stI rfl Tryz.sizeOf160 rfl rfl rfl (by exact rfl) (by exact rfl) (by exact rfl) ?_
    refine J.nil <| J.then_n <| J.seq <| J.region <| J.m rfl ?_
    refine J.call Tryz.call128 (npow l (by omega)) [] rfl rfl rfl rfl ?_
    rintro _ _ ⟨rfl, rfl⟩
    refine J.norm rfl <| J.p rfl (Q.asg rfl) <| J.nil <| J.then_n <| J.seq <| J.region <| J.m rfl <| J.m rfl <| J.p rfl (Q.quo64 rfl rfl (by omega) (by omega) (by omega)) <| J.p rfl (Q.mul64 rfl rfl (by omega)) <| J.p rfl (Q.add64 rfl rfl (by omega)) <| J.p rfl (Q.sub64 rfl rfl (by omega)) <| J.p rfl (Q.asg rfl) <| J.nil <| J.then_n <| J.block ?_
    obtain ⟨M, hM⟩ : ∃ M, M = 2 ^ bitsLen l := ⟨_, rfl⟩
    have hM2 : M ≤ 2 * l := by rw [hM]; exact Go.Sort.two_pow_bitsLen_le (by omega)
    have hM0 : 0 < M := by rw [hM]; exact Nat.two_pow_pos _
    refine J.pick [1, 0, 2] rfl ?_
    refine J.loop3 (fun (i : Nat) (_ : Int) (d1 : Array Nat) => PermIn x e d d1 ∧ x ≤ i ∧ i ≤ x + l / 4 * 2 + 2) (fun i _ _ => x + l / 4 * 2 + 2 - i) (fun i _ _ => [(0, .slice (some ⟨b, off, none⟩) n c), (1, .int .i64 x), (6, .int .i64 (l : Int)), (7, .pointer (some ⟨b7, 0, none⟩)), (8, .int .u64 (M : Int)), (9, .int .i64 i)]) (fun _ z d1 => [rowU b off n c d1, pt b7 (.cells [.int .u64 z].toArray 160 (0, 0)), F]) (x + l / 4 * 2 - 1) _ d ⟨Go.Sort.permIn_refl d x e, by omega, by omega⟩ ⟨rfl, rfl, rfl, rfl, (by rw [hM]; rfl), (by show some (Value.int .i64 _) = some (Value.int .i64 _); congr 2; omega), trivial⟩ rfl fun i z d1 hz => ?_
    obtain ⟨k1, k2, k3⟩ := hz
    have hd1 : d1.size = n := by rw [k1.1, hn]
    refine J.seq <| J.seq <| J.region <| J.m rfl <| J.m rfl <| J.m rfl <| J.p rfl (Q.quo64 rfl rfl (by omega) (by omega) (by omega)) <| J.p rfl (Q.mul64 rfl rfl (by omega)) <| J.p rfl (Q.add64 rfl rfl (by omega)) <| J.p rfl (Q.add64 rfl rfl (by omega)) <| J.p rfl (Q.leq rfl rfl) <| J.nil <| J.then_n ?_
    refine J.cases 33 rfl (fun hc33 => ?_) (fun hc33 => ?_)
    ·
     replace hc33 := X.nm hc33
     try (first | (cases hc33; done) | (exfalso; simp at hc33; done))
     all_goals
      refine J.cond_t rfl <| J.cskip <| J.then_n <| J.seq <| J.block <| J.seq <| J.region ?_
      refine J.call Tryz.call129 (xor_next b7 z) [1] rfl rfl rfl rfl ?_
      rintro _ _ ⟨z', rfl, rfl⟩
      refine J.norm rfl <| J.m rfl <| J.p rfl (Q.sub rfl rfl) <| J.p rfl (Q.and rfl rfl) ?_
      obtain ⟨r, hr, hre⟩ := andLe z' M hM0 (by omega)
      refine J.slot 39 (.int .u64 (r : Int)) rfl (by congr 1) ?_
      refine J.p rfl (Q.conv64 Tryz.runUnderlying110 Tryz.runUnderlying3 rfl (by omega)) <| J.p rfl (Q.asg rfl) <| J.nil <| J.then_n ?_
      refine J.cut (fun o : Nat => o < l) (fun o => [(0, .slice (some ⟨b, off, none⟩) n c), (1, .int .i64 x), (6, .int .i64 (l : Int)), (7, .pointer (some ⟨b7, 0, none⟩)), (8, .int .u64 (M : Int)), (9, .int .i64 i), (10, .int .i64 o)]) (fun _ => [rowU b off n c d1, pt b7 (.cells [.int .u64 z'].toArray 160 (0, 0)), F]) ?_ fun o ho => ?_
      ·
       refine J.seq <| J.region <| J.m rfl <| J.m rfl <| J.p rfl (Q.geq rfl rfl) <| J.nil <| J.then_n ?_
       refine J.cases 43 rfl (fun hc43 => ?_) (fun hc43 => ?_)
       ·
        replace hc43 := X.nm hc43
        try (first | (cases hc43; done) | (exfalso; simp at hc43; done))
        all_goals
         refine J.cond_t rfl <| J.region <| J.m rfl <| J.m rfl <| J.p rfl (Q.sub64 rfl rfl (by omega)) <| J.p rfl (Q.asg rfl) <| J.nil ?_
         refine J.pick [1, 0, 2] rfl ?_
         first
           | refine J.meet (r - l) (by omega) ⟨rfl, rfl, rfl, rfl, rfl, rfl, (by show some (Value.int .i64 _) = some (Value.int .i64 _); congr 2; omega), trivial⟩ rfl
           | refine J.meet r (by omega) ⟨rfl, rfl, rfl, rfl, rfl, rfl, rfl, trivial⟩ rfl
       replace hc43 := X.nm hc43
       try (first | (cases hc43; done) | (exfalso; simp at hc43; done))
       all_goals
        refine J.cond_f rfl <| J.cskip ?_
        refine J.pick [1, 0, 2] rfl ?_
        first
          | refine J.meet (r - l) (by omega) ⟨rfl, rfl, rfl, rfl, rfl, rfl, (by show some (Value.int .i64 _) = some (Value.int .i64 _); congr 2; omega), trivial⟩ rfl
          | refine J.meet r (by omega) ⟨rfl, rfl, rfl, rfl, rfl, rfl, rfl, trivial⟩ rfl
      refine J.draw [17, 19] Tryz.mixed (by kernel_rfl) fun hR => ?_
      refine RG.p 0 hR rfl (Q.mv rfl) <| RG.p 1 hR rfl (Q.mv rfl) <| RG.p 2 hR rfl (Q.mv rfl) <| RG.p 3 hR rfl (Q.mv rfl) <| RG.p 4 hR rfl (Q.mv rfl) <| RG.p 5 hR rfl (Q.add64 rfl rfl (by omega)) <| RG.p 6 hR rfl (Q.mv rfl) <| RG.p 7 hR rfl (Q.mv rfl) <| RG.p 8 hR rfl (Q.mv rfl) ?_
      refine RG.p 9 hR rfl (Q.add64 rfl rfl (by omega)) <| RG.p 10 hR rfl (Q.ia Tryz.runUnderlying60 Tryz.sizeOf23 rfl rfl (by omega) (by omega)) <| RG.p 11 hR rfl (Q.ld Tryz.isAgg23 rfl (rdU (k := 0) rfl (by omega))) <| RG.p 12 hR rfl (Q.mv rfl) <| RG.p 13 hR rfl (Q.mv rfl) <| RG.p 14 hR rfl (Q.ia Tryz.runUnderlying60 Tryz.sizeOf23 rfl rfl (by omega) (by omega)) ?_
      refine RG.p 15 hR rfl (Q.ld Tryz.isAgg23 rfl (rdU (k := 0) rfl (by omega))) <| RG.p 16 hR rfl (Q.ia Tryz.runUnderlying60 Tryz.sizeOf23 rfl rfl (by omega) (by omega)) ?_
      refine RG.barP 17 [2, 3, 4, 5] hR rfl rfl rfl rfl rfl (by kernel_rfl) ⟨Free.q rfl rfl rfl (Q.mv rfl), ⟨Free.q rfl rfl rfl (Q.mv rfl), ⟨Free.q rfl rfl rfl (Q.mv rfl), ⟨Free.q rfl rfl rfl (Q.add64 rfl rfl (by omega)), trivial⟩⟩⟩⟩ (C.stO 0 Tryz.sizeOf23 rfl rfl rfl rfl rfl (by first | (rw [avU_len]; omega) | (rw [List.length_set, avU_len]; omega))) ?_
      rintro _ _ ⟨rfl, rfl⟩
      refine RG.norm rfl <| RG.p 18 hR rfl (Q.ia Tryz.runUnderlying60 Tryz.sizeOf23 rfl rfl (by omega) (by omega)) ?_
      refine RG.barP 19 [] hR rfl rfl rfl rfl rfl (by kernel_rfl) trivial (C.stO 0 Tryz.sizeOf23 rfl rfl rfl rfl rfl (by first | (rw [avU_len]; omega) | (rw [List.length_set, avU_len]; omega))) ?_
      rintro _ _ ⟨rfl, rfl⟩
      refine RG.norm rfl ?_
      refine RG.fin hR rfl ?_
      refine J.norm rfl <| J.blk_n <| J.then_n <| J.region <| J.m rfl <| J.p rfl (Q.add64 rfl rfl (by omega)) <| J.p rfl (Q.asg rfl) <| J.nil ?_
      refine J.conv (Y := rowU b off n c (swp d1 i (x + o))) 0 rfl (swrU (by omega) (by omega)) ?_
      refine J.again (i + 1, z', swp d1 i (x + o)) ⟨Go.Sort.permIn_trans _ _ _ x e k1 (Go.Sort.swp_permIn d1 x e i (x + o) k2 (by omega) (by omega) (by omega) (by omega)), by show x ≤ i + 1; omega, by show i + 1 ≤ x + l / 4 * 2 + 2; omega⟩ (by show x + l / 4 * 2 + 2 - (i + 1) < x + l / 4 * 2 + 2 - i; omega) ⟨rfl, rfl, rfl, rfl, rfl, rfl, trivial⟩ rfl
    replace hc33 := X.nm hc33
    try (first | (cases hc33; done) | (exfalso; simp at hc33; done))
    all_goals
     refine J.cond_f rfl <| J.exit <| J.then_x <| J.lp_x <| J.blk_x ?_
     refine J.keep [0, 2] rfl ?_
     refine J.end0 (B := [_]) rfl ⟨d1, k1, rfl, rfl⟩ rfl
  exfalso; simp at hc15; omega
end
end Go.Proofs.YtdancegklkifaaaGreat
namespace Go.Proofs.YtdancegklkifaaaGreat
set_option linter.unusedSectionVars false
set_option linter.unusedSimpArgs false
set_option linter.unusedVariables false
open Go.X
open Go.Sort (swp bitsLen reverseRange insertionSort heapSort partition partitionEqual partialInsertionSort PermIn SortedIn SWO round_eq round_part permIn_trans)

structure RdU (n x e : Nat) (d : Array Nat) (x' e' : Nat) (d1 : Array Nat) : Prop where
  size : d1.size = n
  le : x' ≤ e'
  top : e' ≤ n
  less : e' - x' ≤ e - x
  below : Go.Sort.Below ltU x' e' d1
  fin : ∀ R, PermIn x' e' d1 R → SortedIn ltU x' e' R → PermIn x e d R ∧ SortedIn ltU x e R
theorem RdU.perm {n x e : Nat} {d : Array Nat} {x' e' : Nat} {d1 d2 : Array Nat} (h : RdU n x e d x' e' d1) (hp : PermIn x' e' d1 d2) : RdU n x e d x' e' d2 :=
  ⟨by rw [hp.1, h.size], h.le, h.top, h.less, h.below.perm (by rw [h.size]; exact h.top) hp, fun R hR hS => h.fin R (permIn_trans _ _ _ x' e' hp hR) hS⟩

structure PSU where
  x : Nat
  e : Nat
  lim : Nat
  wb : Bool
  wp : Bool
  d : Array Nat

theorem pdqU (b off n c : Nat) (hs : n ≤ 32768) : ∀ (k x e lim : Nat) (d : Array Nat), e - x = k → lim ≤ 64 → d.size = n → x ≤ e → e ≤ n → Go.Sort.Below ltU x e d →
    FSpec Tryz.prog 91 [.slice (some ⟨b, off, none⟩) n c, .int .i64 x, .int .i64 e, .int .i64 lim] [rowU b off n c d] (fun v B => ∃ d', (PermIn x e d d' ∧ SortedIn ltU x e d') ∧ v = .tuple #[] ∧ B = [rowU b off n c d']) := by
  intro k
  induction k using Nat.strongRecOn with
  | _ k ih =>
  intro x e lim d hk hl hn hx he hB
  refine FSpec.of Tryz.func91 rfl Tryz.ntmps91 rfl fun W0 F => ?_
  refine J.seq <| J.region <| J.p rfl (Q.asg rfl) <| J.nil <| J.then_n <| J.seq <| J.region <| J.p rfl (Q.asg rfl) <| J.nil <| J.then_n <| J.block ?_
  refine J.loop (fun z : PSU => RdU n x e d z.x z.e z.d ∧ z.lim ≤ 64) (fun z => z.e - z.x) (fun z => [(0, .slice (some ⟨b, off, none⟩) n c), (1, .int .i64 z.x), (2, .int .i64 z.e), (3, .int .i64 z.lim), (8, .bool z.wb), (9, .bool z.wp)]) (fun z => [rowU b off n c z.d, F]) ⟨x, e, lim, true, true, d⟩ ⟨⟨hn, hx, he, Nat.le_refl _, hB, fun R h1 h2 => ⟨h1, h2⟩⟩, hl⟩ ⟨rfl, rfl, rfl, rfl, rfl, rfl, trivial⟩ rfl fun z hz => ?_
  obtain ⟨x', e', lim', wb, wp, d1⟩ := z
  have hR : RdU n x e d x' e' d1 := hz.1
  have hl' : lim' ≤ 64 := hz.2
  have r1 := hR.le
  have r2 := hR.top
  have r3 := hR.less
  have hn1 := hR.size
  refine J.sub [(0, .slice (some ⟨b, off, none⟩) n c), (1, .int .i64 x'), (2, .int .i64 e'), (3, .int .i64 lim'), (8, .bool wb), (9, .bool wp)] ⟨rfl, rfl, rfl, rfl, rfl, rfl, trivial⟩ ?_
  refine J.same (B := [rowU b off n c d1, F]) rfl ?_
  refine J.block <| J.seq <| J.region <| J.m rfl <| J.m rfl <| J.p rfl (Q.sub64 rfl rfl (by omega)) <| J.p rfl (Q.asg rfl) <| J.nil <| J.then_n <| J.seq <| J.seq <| J.region <| J.m rfl <| J.p rfl (Q.leq rfl rfl) <| J.nil <| J.then_n ?_
  refine J.cases 23 rfl (fun hc23 => ?_) (fun hc23 => ?_)
  ·
   replace hc23 := X.nm hc23
   try (first | (cases hc23; done) | (exfalso; simp at hc23; done))
   all_goals
    refine J.cond_t rfl <| J.seq <| J.region <| J.m rfl <| J.m rfl <| J.m rfl ?_
    refine J.call Tryz.call108 (insertionU b off n c d1 x' e' hn1 r1 r2 (by omega)) [0] rfl rfl rfl rfl ?_
    rintro _ _ ⟨rfl, rfl⟩
    refine J.norm rfl <| J.nil <| J.then_n <| J.cret <| J.then_r <| J.blk_r <| J.lp_r <| J.blk_r ?_
    have hi := Go.Sort.insertionSort_holds swoU d1 x' e' r1 (by omega)
    refine J.ret0 (B := [_]) rfl ⟨_, hR.fin _ hi.1 hi.2, rfl, rfl⟩ rfl
  replace hc23 := X.nm hc23
  try (first | (cases hc23; done) | (exfalso; simp at hc23; done))
  all_goals
   refine J.cond_f rfl <| J.cskip <| J.then_n <| J.seq <| J.seq <| J.region <| J.m rfl <| J.p rfl (Q.eql rfl rfl) <| J.nil <| J.then_n ?_
   refine J.cases 29 rfl (fun hc29 => ?_) (fun hc29 => ?_)
   ·
    replace hc29 := X.nm hc29
    try (first | (cases hc29; done) | (exfalso; simp at hc29; done))
    all_goals
     refine J.cond_t rfl <| J.seq <| J.region <| J.m rfl <| J.m rfl <| J.m rfl ?_
     refine J.call Tryz.call109 (heapU b off n c d1 x' e' hn1 (by omega) r2 (by omega)) [0] rfl rfl rfl rfl ?_
     rintro _ _ ⟨rfl, rfl⟩
     refine J.norm rfl <| J.nil <| J.then_n <| J.cret <| J.then_r <| J.blk_r <| J.lp_r <| J.blk_r ?_
     have hi := Go.Sort.heapSort_holds swoU d1 x' e' r1 (by omega)
     refine J.ret0 (B := [_]) rfl ⟨_, hR.fin _ hi.1 hi.2, rfl, rfl⟩ rfl
   replace hc29 := X.nm hc29
   try (first | (cases hc29; done) | (exfalso; simp at hc29; done))
   all_goals
    refine J.cond_f rfl <| J.cskip <| J.then_n ?_
    refine J.cut (fun z : Nat × Array Nat => RdU n x e d x' e' z.2 ∧ z.1 ≤ 64) (fun z => [(0, .slice (some ⟨b, off, none⟩) n c), (1, .int .i64 x'), (2, .int .i64 e'), (3, .int .i64 z.1), (8, .bool wb), (9, .bool wp), (10, .int .i64 ((e' : Int) - x'))]) (fun z => [rowU b off n c z.2, F]) ?_ fun z hz2 => ?_
    ·
     refine J.seq <| J.region <| J.m rfl <| J.p rfl (Q.not rfl) <| J.nil <| J.then_n ?_
     refine J.cases 35 rfl (fun hc35 => ?_) (fun hc35 => ?_)
     ·
      replace hc35 := X.nm hc35
      try (first | (cases hc35; done) | (exfalso; simp at hc35; done))
      all_goals
       refine J.cond_t rfl <| J.seq <| J.region <| J.m rfl <| J.m rfl <| J.m rfl ?_
       refine J.call Tryz.call110 (breakpU b off n c d1 hn1 hs x' e' (by omega) r2) [0] rfl rfl rfl rfl ?_
       rintro _ _ ⟨d2, hp2, rfl, rfl⟩
       refine J.norm rfl <| J.nil <| J.then_n <| J.region <| J.m rfl <| J.p rfl (Q.sub64 rfl rfl (by omega)) <| J.p rfl (Q.asg rfl) <| J.nil ?_
       first
         | refine J.meet (lim' - 1, d2) ⟨hR.perm hp2, by show lim' - 1 ≤ 64; omega⟩ ⟨rfl, rfl, rfl, (by show some (Value.int .i64 _) = some (Value.int .i64 _); congr 2; show (lim' : Int) - 1 = ((lim' - 1 : Nat) : Int); omega), rfl, rfl, rfl, trivial⟩ rfl
         | refine J.meet (lim', d1) ⟨hR, hl'⟩ ⟨rfl, rfl, rfl, rfl, rfl, rfl, rfl, trivial⟩ rfl
     replace hc35 := X.nm hc35
     try (first | (cases hc35; done) | (exfalso; simp at hc35; done))
     all_goals
      refine J.cond_f rfl <| J.cskip ?_
      first
        | refine J.meet (lim' - 1, d2) ⟨hR.perm hp2, by show lim' - 1 ≤ 64; omega⟩ ⟨rfl, rfl, rfl, (by show some (Value.int .i64 _) = some (Value.int .i64 _); congr 2; show (lim' : Int) - 1 = ((lim' - 1 : Nat) : Int); omega), rfl, rfl, rfl, trivial⟩ rfl
        | refine J.meet (lim', d1) ⟨hR, hl'⟩ ⟨rfl, rfl, rfl, rfl, rfl, rfl, rfl, trivial⟩ rfl
    obtain ⟨lim2, d2⟩ := z
    have hR2 : RdU n x e d x' e' d2 := hz2.1
    have hl2 : lim2 ≤ 64 := hz2.2
    have hn2 := hR2.size
    refine J.sub [(0, .slice (some ⟨b, off, none⟩) n c), (1, .int .i64 x'), (2, .int .i64 e'), (3, .int .i64 lim2), (8, .bool wb), (9, .bool wp), (10, .int .i64 ((e' : Int) - x'))] ⟨rfl, rfl, rfl, rfl, rfl, rfl, rfl, trivial⟩ ?_
    refine J.same (B := [rowU b off n c d2, F]) rfl ?_
    refine J.seq <| J.region <| J.m rfl <| J.m rfl <| J.m rfl ?_
    refine J.call Tryz.call111 (pivotU b off n c d2 hn2 hs x' e' (by omega) r2) [0] rfl rfl rfl rfl ?_
    rintro _ _ ⟨p, h, hp, rfl, rfl⟩
    refine J.norm rfl <| J.m rfl <| J.p rfl (Q.ext rfl rfl) <| J.p rfl (Q.ext rfl rfl) <| J.p rfl (Q.asg rfl) <| J.p rfl (Q.asg rfl) <| J.nil <| J.then_n ?_
    refine J.cut (fun z : Nat × Int × Array Nat => (x' ≤ z.1 ∧ z.1 < e') ∧ RdU n x e d x' e' z.2.2) (fun z => [(0, .slice (some ⟨b, off, none⟩) n c), (1, .int .i64 x'), (2, .int .i64 e'), (3, .int .i64 lim2), (8, .bool wb), (9, .bool wp), (10, .int .i64 ((e' : Int) - x')), (11, .int .i64 z.1), (12, .int .i64 z.2.1)]) (fun z => [rowU b off n c z.2.2, F]) ?_ fun z hz3 => ?_
    ·
     refine J.seq <| J.region <| J.m rfl <| J.p rfl (Q.eql rfl rfl) <| J.nil <| J.then_n ?_
     refine J.cases 50 rfl (fun hc50 => ?_) (fun hc50 => ?_)
     ·
      replace hc50 := X.nm hc50
      try (first | (cases hc50; done) | (exfalso; simp at hc50; done))
      all_goals
       refine J.cond_t rfl <| J.seq <| J.region <| J.m rfl <| J.m rfl <| J.m rfl ?_
       refine J.call Tryz.call112 (reverseU b off n c d2 x' e' hn2 (by omega) r2 (by omega)) [0] rfl rfl rfl rfl ?_
       rintro _ _ ⟨rfl, rfl⟩
       refine J.norm rfl <| J.nil <| J.then_n <| J.seq <| J.region <| J.m rfl <| J.p rfl (Q.sub64 rfl rfl (by omega)) <| J.m rfl <| J.m rfl <| J.p rfl (Q.sub64 rfl rfl (by omega)) <| J.p rfl (Q.sub64 rfl rfl (by omega)) <| J.p rfl (Q.asg rfl) <| J.nil <| J.then_n <| J.region <| J.p rfl (Q.asg rfl) <| J.nil ?_
       first
         | refine J.meet (e' - 1 - (p - x'), 1, reverseRange d2 x' e') ⟨⟨by show x' ≤ e' - 1 - (p - x'); omega, by show e' - 1 - (p - x') < e'; omega⟩, hR2.perm (Go.Sort.reverseRange_holds d2 x' e' r1 (by omega))⟩ ⟨rfl, rfl, rfl, rfl, rfl, rfl, rfl, (by show some (Value.int .i64 _) = some (Value.int .i64 _); congr 2; show (e' : Int) - 1 - (p - x') = ((e' - 1 - (p - x') : Nat) : Int); omega), rfl, trivial⟩ rfl
         | refine J.meet (p, h, d2) ⟨hp, hR2⟩ ⟨rfl, rfl, rfl, rfl, rfl, rfl, rfl, rfl, rfl, trivial⟩ rfl
     replace hc50 := X.nm hc50
     try (first | (cases hc50; done) | (exfalso; simp at hc50; done))
     all_goals
      refine J.cond_f rfl <| J.cskip ?_
      first
        | refine J.meet (e' - 1 - (p - x'), 1, reverseRange d2 x' e') ⟨⟨by show x' ≤ e' - 1 - (p - x'); omega, by show e' - 1 - (p - x') < e'; omega⟩, hR2.perm (Go.Sort.reverseRange_holds d2 x' e' r1 (by omega))⟩ ⟨rfl, rfl, rfl, rfl, rfl, rfl, rfl, (by show some (Value.int .i64 _) = some (Value.int .i64 _); congr 2; show (e' : Int) - 1 - (p - x') = ((e' - 1 - (p - x') : Nat) : Int); omega), rfl, trivial⟩ rfl
        | refine J.meet (p, h, d2) ⟨hp, hR2⟩ ⟨rfl, rfl, rfl, rfl, rfl, rfl, rfl, rfl, rfl, trivial⟩ rfl
    obtain ⟨p2, h2, d3⟩ := z
    obtain ⟨⟨hp1, hp2⟩, hz3⟩ := hz3
    dsimp only at hp1 hp2
    have hR3 : RdU n x e d x' e' d3 := hz3
    have hn3 := hR3.size
    refine J.sub [(0, .slice (some ⟨b, off, none⟩) n c), (1, .int .i64 x'), (2, .int .i64 e'), (3, .int .i64 lim2), (8, .bool wb), (9, .bool wp), (10, .int .i64 ((e' : Int) - x')), (11, .int .i64 p2), (12, .int .i64 h2)] ⟨rfl, rfl, rfl, rfl, rfl, rfl, rfl, rfl, rfl, trivial⟩ ?_
    refine J.same (B := [rowU b off n c d3, F]) rfl ?_
    refine J.cut (fun d4 : Array Nat => RdU n x e d x' e' d4) (fun _ => [(0, .slice (some ⟨b, off, none⟩) n c), (1, .int .i64 x'), (2, .int .i64 e'), (3, .int .i64 lim2), (8, .bool wb), (9, .bool wp), (10, .int .i64 ((e' : Int) - x')), (11, .int .i64 p2)]) (fun d4 => [rowU b off n c d4, F]) ?_ fun d4 hR4 => ?_
    ·
     refine J.seq <| J.region <| J.m rfl <| J.m rfl ?_
     refine J.cases 62 rfl (fun hb62 => ?_) (fun hb62 => ?_)
     ·
      replace hb62 := X.nm hb62
      try (first | (cases hb62; done) | (exfalso; simp at hb62; done))
      all_goals
       refine J.m rfl <| J.p rfl (Q.pick_t rfl rfl) <| J.m rfl ?_
       refine J.cases 65 rfl (fun hb65 => ?_) (fun hb65 => ?_)
       ·
        replace hb65 := X.nm hb65
        try (first | (cases hb65; done) | (exfalso; simp at hb65; done))
        all_goals
         refine J.m rfl <| J.p rfl (Q.eql rfl rfl) <| J.p rfl (Q.pick_t rfl rfl) <| J.nil <| J.then_n ?_
         refine J.cases 68 rfl (fun hc68 => ?_) (fun hc68 => ?_)
         ·
          replace hc68 := X.nm hc68
          try (first | (cases hc68; done) | (exfalso; simp at hc68; done))
          all_goals
           refine J.cond_t rfl <| J.seq <| J.region <| J.m rfl <| J.m rfl <| J.m rfl ?_
           refine J.call Tryz.call113 (partialInsU b off n c d3 x' e' hn3 (by omega) r2 (by omega)) [0] rfl rfl rfl rfl ?_
           rintro _ _ ⟨rfl, rfl⟩
           refine J.norm rfl ?_
           have hpi := Go.Sort.partialInsertionSort_holds swoU d3 x' e' (by omega) (by omega) hR3.below
           refine J.nil <| J.then_n ?_
           refine J.cases 72 rfl (fun hc72 => ?_) (fun hc72 => ?_)
           ·
            replace hc72 := X.nm hc72
            try (first | (cases hc72; done) | (exfalso; simp at hc72; done))
            all_goals
             refine J.cond_t rfl <| J.cret <| J.cut_r <| J.blk_r <| J.lp_r <| J.blk_r ?_
             refine J.ret0 (B := [_]) rfl ⟨_, hR3.fin _ hpi.1 (hpi.2 hc72), rfl, rfl⟩ rfl
           replace hc72 := X.nm hc72
           try (first | (cases hc72; done) | (exfalso; simp at hc72; done))
           all_goals
            refine J.cond_f rfl <| J.cskip ?_
            first
              | refine J.meet _ (hR3.perm hpi.1) ⟨rfl, rfl, rfl, rfl, rfl, rfl, rfl, rfl, trivial⟩ rfl
              | refine J.meet d3 hR3 ⟨rfl, rfl, rfl, rfl, rfl, rfl, rfl, rfl, trivial⟩ rfl
         replace hc68 := X.nm hc68
         try (first | (cases hc68; done) | (exfalso; simp at hc68; done))
         all_goals
          refine J.cond_f rfl <| J.cskip ?_
          first
            | refine J.meet _ (hR3.perm hpi.1) ⟨rfl, rfl, rfl, rfl, rfl, rfl, rfl, rfl, trivial⟩ rfl
            | refine J.meet d3 hR3 ⟨rfl, rfl, rfl, rfl, rfl, rfl, rfl, rfl, trivial⟩ rfl
       replace hb65 := X.nm hb65
       try (first | (cases hb65; done) | (exfalso; simp at hb65; done))
       all_goals
        refine J.skip rfl rfl <| J.skip rfl rfl <| J.p rfl (Q.pick_f rfl rfl) <| J.nil <| J.then_n <| J.cond_f rfl <| J.cskip ?_
        first
          | refine J.meet _ (hR3.perm hpi.1) ⟨rfl, rfl, rfl, rfl, rfl, rfl, rfl, rfl, trivial⟩ rfl
          | refine J.meet d3 hR3 ⟨rfl, rfl, rfl, rfl, rfl, rfl, rfl, rfl, trivial⟩ rfl
     replace hb62 := X.nm hb62
     try (first | (cases hb62; done) | (exfalso; simp at hb62; done))
     all_goals
      refine J.skip rfl rfl <| J.p rfl (Q.pick_f rfl rfl) <| J.m rfl <| J.skip rfl rfl <| J.skip rfl rfl <| J.p rfl (Q.pick_f rfl rfl) <| J.nil <| J.then_n <| J.cond_f rfl <| J.cskip ?_
      first
        | refine J.meet _ (hR3.perm hpi.1) ⟨rfl, rfl, rfl, rfl, rfl, rfl, rfl, rfl, trivial⟩ rfl
        | refine J.meet d3 hR3 ⟨rfl, rfl, rfl, rfl, rfl, rfl, rfl, rfl, trivial⟩ rfl
    have hn4 := hR4.size
    refine J.seq <| J.seq ?_
    refine J.draw [12] Tryz.mixed (by kernel_rfl) fun hR => ?_
    refine RG.p 0 hR rfl (Q.mv rfl) <| RG.p 1 hR rfl (Q.gtr rfl rfl) <| RG.p 2 hR rfl (Q.mv rfl) ?_
    refine RG.cases 75 rfl (fun hb75 => ?_) (fun hb75 => ?_)
    ·
     replace hb75 := X.nm hb75
     try (first | (cases hb75; done) | (exfalso; simp at hb75; done))
     all_goals
      refine RG.p 3 hR rfl (Q.mv rfl) <| RG.p 4 hR rfl (Q.mv rfl) <| RG.p 5 hR rfl (Q.sub64 rfl rfl (by omega)) <| RG.p 6 hR rfl (Q.ia Tryz.runUnderlying60 Tryz.sizeOf23 rfl rfl (by omega) (by omega)) <| RG.p 7 hR rfl (Q.ld Tryz.isAgg23 rfl (rdU (k := 0) rfl (by omega))) <| RG.p 8 hR rfl (Q.mv rfl) ?_
      refine RG.p 9 hR rfl (Q.mv rfl) <| RG.p 10 hR rfl (Q.ia Tryz.runUnderlying60 Tryz.sizeOf23 rfl rfl (by omega) (by omega)) <| RG.p 11 hR rfl (Q.ld Tryz.isAgg23 rfl (rdU (k := 0) rfl (by omega))) ?_
      refine RG.call 12 hR rfl rfl rfl rfl rfl rfl Tryz.call114 (lessU _ _) [] rfl rfl ?_
      rintro _ _ ⟨rfl, rfl⟩
      refine RG.norm rfl <| RG.p 13 hR rfl (Q.not rfl) <| RG.p 14 hR rfl (Q.pick_t rfl rfl) ?_
      refine RG.fin hR rfl ?_
      refine J.norm rfl <| J.then_n ?_
      refine J.cases 87 rfl (fun hc87 => ?_) (fun hc87 => ?_)
      ·
       replace hc87 := X.nm hc87
       try (first | (cases hc87; done) | (exfalso; simp at hc87; done))
       all_goals
        refine J.cond_t rfl <| J.seq <| J.region <| J.m rfl <| J.m rfl <| J.m rfl <| J.m rfl ?_
        refine J.call Tryz.call115 (partEqU b off n c d4 x' e' p2 hn4 hp1 hp2 r2 (by omega)) [0] rfl rfl rfl rfl ?_
        rintro _ _ ⟨rfl, rfl⟩
        refine J.norm rfl ?_
        have e1 : ((x' : Int) - 1).toNat = x' - 1 := by omega
        rw [Int.toNat_natCast, e1] at hc87
        obtain ⟨s1, s2, s3, s4, s5⟩ := round_eq (mid := (partitionEqual ltU d4 x' e' p2).1) (d4 := (partitionEqual ltU d4 x' e' p2).2) swoU (Go.Sort.partitionEqual_holds ltU) (by omega) hp1 hp2 (by omega) hR4.below (by simpa using hc87) rfl
        refine J.p rfl (Q.asg rfl) <| J.nil <| J.then_n <| J.seq <| J.region <| J.m rfl <| J.p rfl (Q.asg rfl) <| J.nil <| J.then_n <| J.exit <| J.then_x <| J.blk_x ?_
        refine J.again ⟨(partitionEqual ltU d4 x' e' p2).1, e', lim2, wb, wp, (partitionEqual ltU d4 x' e' p2).2⟩ ⟨⟨by rw [s3, hn4], s2, r2, by show e' - (partitionEqual ltU d4 x' e' p2).1 ≤ e - x; omega, s4, fun R h1 h2 => by obtain ⟨t1, t2⟩ := s5 R h1 h2; exact hR4.fin R t1 t2⟩, hl2⟩ (by show e' - (partitionEqual ltU d4 x' e' p2).1 < e' - x'; omega) ⟨rfl, rfl, rfl, rfl, rfl, rfl, trivial⟩ rfl
      replace hc87 := X.nm hc87
      try (first | (cases hc87; done) | (exfalso; simp at hc87; done))
      all_goals
       refine J.cond_f rfl <| J.cskip <| J.then_n <| J.seq <| J.region <| J.m rfl <| J.m rfl <| J.m rfl <| J.m rfl ?_
       refine J.call Tryz.call116 (partitionU b off n c d4 x' e' p2 hn4 hp1 hp2 r2 (by omega)) [0] rfl rfl rfl rfl ?_
       rintro _ _ ⟨rfl, rfl⟩
       refine J.norm rfl ?_
       obtain ⟨q, hq⟩ : ∃ q, partition ltU d4 x' e' p2 = q := ⟨_, rfl⟩
       rw [hq]
       obtain ⟨mid, ap, d5⟩ := q
       obtain ⟨s1, s2, s3, s4, s5, s6, s7⟩ := round_part swoU (Go.Sort.partition_holds ltU) hp1 hp2 (by omega) hR4.below hq
       refine J.slot 99 (.tuple ([.int .i64 (mid : Int), .bool ap] : List Value).toArray) rfl rfl ?_
       refine J.conv (Y := rowU b off n c d5) 0 rfl (fun h hh => hh) ?_
       refine J.m rfl <| J.p rfl (Q.ext rfl rfl) <| J.p rfl (Q.ext rfl rfl) <| J.p rfl (Q.asg rfl) <| J.p rfl (Q.asg rfl) <| J.nil <| J.then_n <| J.seq <| J.region <| J.m rfl <| J.p rfl (Q.asg rfl) <| J.nil <| J.then_n <| J.seq <| J.region <| J.m rfl <| J.m rfl <| J.p rfl (Q.sub64 rfl rfl (by omega)) <| J.m rfl <| J.m rfl ?_
       refine J.p rfl (Q.sub64 rfl rfl (by omega)) <| J.p rfl (Q.asg rfl) <| J.p rfl (Q.asg rfl) <| J.nil <| J.then_n <| J.seq <| J.region <| J.m rfl <| J.p rfl (Q.quo64 rfl rfl (by omega) (by omega) (by omega)) <| J.p rfl (Q.asg rfl) <| J.nil <| J.then_n <| J.seq <| J.region <| J.m rfl <| J.m rfl <| J.p rfl (Q.lss rfl rfl) <| J.nil <| J.then_n ?_
       refine J.cases 113 rfl (fun hc113 => ?_) (fun hc113 => ?_)
       ·
        replace hc113 := X.nm hc113
        try (first | (cases hc113; done) | (exfalso; simp at hc113; done))
        all_goals
         refine J.cond_t rfl <| J.seq <| J.region <| J.m rfl <| J.m rfl <| J.p rfl (Q.geq rfl rfl) <| J.p rfl (Q.asg rfl) <| J.nil <| J.then_n <| J.seq <| J.region <| J.m rfl <| J.m rfl <| J.m rfl <| J.m rfl ?_
         refine J.call Tryz.call91 (ih (mid - x') (by omega) x' mid lim2 d5 rfl hl2 (by omega) (by omega) (by omega) s4) [0] rfl rfl rfl rfl ?_
         rintro _ _ ⟨d6, hd6, rfl, rfl⟩
         refine J.norm rfl ?_
         obtain ⟨u1, u2⟩ := s6 d6 hd6.1 hd6.2
         refine J.nil <| J.then_n <| J.region <| J.m rfl <| J.p rfl (Q.add64 rfl rfl (by omega)) <| J.p rfl (Q.asg rfl) <| J.nil <| J.blk_n ?_
         first
           | refine J.again ⟨x', mid, lim2, _, ap, d6⟩ ⟨⟨by rw [hd6.1.1, s3, hn4], s1, by show mid ≤ n; omega, by show mid - x' ≤ e - x; omega, u1, fun R h1 h2 => by obtain ⟨t1, t2⟩ := u2 R h1 h2; exact hR4.fin R t1 t2⟩, hl2⟩ (by show mid - x' < e' - x'; omega) ⟨rfl, rfl, rfl, rfl, rfl, rfl, trivial⟩ rfl
           | refine J.again ⟨mid + 1, e', lim2, _, ap, d6⟩ ⟨⟨by rw [hd6.1.1, s3, hn4], by show mid + 1 ≤ e'; omega, r2, by show e' - (mid + 1) ≤ e - x; omega, u1, fun R h1 h2 => by obtain ⟨t1, t2⟩ := u2 R h1 h2; exact hR4.fin R t1 t2⟩, hl2⟩ (by show e' - (mid + 1) < e' - x'; omega) ⟨rfl, rfl, rfl, rfl, rfl, rfl, trivial⟩ rfl
       replace hc113 := X.nm hc113
       try (first | (cases hc113; done) | (exfalso; simp at hc113; done))
       all_goals
        refine J.cond_f rfl <| J.seq <| J.region <| J.m rfl <| J.m rfl <| J.p rfl (Q.geq rfl rfl) <| J.p rfl (Q.asg rfl) <| J.nil <| J.then_n <| J.seq <| J.region <| J.m rfl <| J.m rfl <| J.p rfl (Q.add64 rfl rfl (by omega)) <| J.m rfl <| J.m rfl ?_
        refine J.call Tryz.call91 (ih (e' - (mid + 1)) (by omega) (mid + 1) e' lim2 d5 rfl hl2 (by omega) (by omega) (by omega) s5) [0] rfl rfl rfl rfl ?_
        rintro _ _ ⟨d6, hd6, rfl, rfl⟩
        refine J.norm rfl ?_
        obtain ⟨u1, u2⟩ := s7 d6 hd6.1 hd6.2
        refine J.nil <| J.then_n <| J.region <| J.m rfl <| J.p rfl (Q.asg rfl) <| J.nil <| J.blk_n ?_
        first
          | refine J.again ⟨x', mid, lim2, _, ap, d6⟩ ⟨⟨by rw [hd6.1.1, s3, hn4], s1, by show mid ≤ n; omega, by show mid - x' ≤ e - x; omega, u1, fun R h1 h2 => by obtain ⟨t1, t2⟩ := u2 R h1 h2; exact hR4.fin R t1 t2⟩, hl2⟩ (by show mid - x' < e' - x'; omega) ⟨rfl, rfl, rfl, rfl, rfl, rfl, trivial⟩ rfl
          | refine J.again ⟨mid + 1, e', lim2, _, ap, d6⟩ ⟨⟨by rw [hd6.1.1, s3, hn4], by show mid + 1 ≤ e'; omega, r2, by show e' - (mid + 1) ≤ e - x; omega, u1, fun R h1 h2 => by obtain ⟨t1, t2⟩ := u2 R h1 h2; exact hR4.fin R t1 t2⟩, hl2⟩ (by show e' - (mid + 1) < e' - x'; omega) ⟨rfl, rfl, rfl, rfl, rfl, rfl, trivial⟩ rfl
    replace hb75 := X.nm hb75
    try (first | (cases hb75; done) | (exfalso; simp at hb75; done))
    all_goals
     refine RG.skip 3 hR rfl rfl rfl rfl rfl rfl <| RG.skip 4 hR rfl rfl rfl rfl rfl rfl <| RG.skip 5 hR rfl rfl rfl rfl rfl rfl <| RG.skip 6 hR rfl rfl rfl rfl rfl rfl <| RG.skip 7 hR rfl rfl rfl rfl rfl rfl <| RG.skip 8 hR rfl rfl rfl rfl rfl rfl <| RG.skip 9 hR rfl rfl rfl rfl rfl rfl <| RG.skip 10 hR rfl rfl rfl rfl rfl rfl <| RG.skip 11 hR rfl rfl rfl rfl rfl rfl ?_
     refine RG.pass 12 hR rfl rfl rfl rfl rfl ?_
     refine RG.skip 13 hR rfl rfl rfl rfl rfl rfl <| RG.p 14 hR rfl (Q.pick_f rfl rfl) ?_
     refine RG.fin hR rfl ?_
     refine J.norm rfl <| J.then_n <| J.cond_f rfl <| J.cskip <| J.then_n <| J.seq <| J.region <| J.m rfl <| J.m rfl <| J.m rfl <| J.m rfl ?_
     refine J.call Tryz.call116 (partitionU b off n c d4 x' e' p2 hn4 hp1 hp2 r2 (by omega)) [0] rfl rfl rfl rfl ?_
     rintro _ _ ⟨rfl, rfl⟩
     refine J.norm rfl ?_
     obtain ⟨q, hq⟩ : ∃ q, partition ltU d4 x' e' p2 = q := ⟨_, rfl⟩
     rw [hq]
     obtain ⟨mid, ap, d5⟩ := q
     obtain ⟨s1, s2, s3, s4, s5, s6, s7⟩ := round_part swoU (Go.Sort.partition_holds ltU) hp1 hp2 (by omega) hR4.below hq
     refine J.slot 99 (.tuple ([.int .i64 (mid : Int), .bool ap] : List Value).toArray) rfl rfl ?_
     refine J.conv (Y := rowU b off n c d5) 0 rfl (fun h hh => hh) ?_
     refine J.m rfl <| J.p rfl (Q.ext rfl rfl) <| J.p rfl (Q.ext rfl rfl) <| J.p rfl (Q.asg rfl) <| J.p rfl (Q.asg rfl) <| J.nil <| J.then_n <| J.seq <| J.region <| J.m rfl <| J.p rfl (Q.asg rfl) <| J.nil <| J.then_n <| J.seq <| J.region <| J.m rfl <| J.m rfl <| J.p rfl (Q.sub64 rfl rfl (by omega)) <| J.m rfl <| J.m rfl ?_
     refine J.p rfl (Q.sub64 rfl rfl (by omega)) <| J.p rfl (Q.asg rfl) <| J.p rfl (Q.asg rfl) <| J.nil <| J.then_n <| J.seq <| J.region <| J.m rfl <| J.p rfl (Q.quo64 rfl rfl (by omega) (by omega) (by omega)) <| J.p rfl (Q.asg rfl) <| J.nil <| J.then_n <| J.seq <| J.region <| J.m rfl <| J.m rfl <| J.p rfl (Q.lss rfl rfl) <| J.nil <| J.then_n ?_
     refine J.cases 113 rfl (fun hc113 => ?_) (fun hc113 => ?_)
     ·
      replace hc113 := X.nm hc113
      try (first | (cases hc113; done) | (exfalso; simp at hc113; done))
      all_goals
       refine J.cond_t rfl <| J.seq <| J.region <| J.m rfl <| J.m rfl <| J.p rfl (Q.geq rfl rfl) <| J.p rfl (Q.asg rfl) <| J.nil <| J.then_n <| J.seq <| J.region <| J.m rfl <| J.m rfl <| J.m rfl <| J.m rfl ?_
       refine J.call Tryz.call91 (ih (mid - x') (by omega) x' mid lim2 d5 rfl hl2 (by omega) (by omega) (by omega) s4) [0] rfl rfl rfl rfl ?_
       rintro _ _ ⟨d6, hd6, rfl, rfl⟩
       refine J.norm rfl ?_
       obtain ⟨u1, u2⟩ := s6 d6 hd6.1 hd6.2
       refine J.nil <| J.then_n <| J.region <| J.m rfl <| J.p rfl (Q.add64 rfl rfl (by omega)) <| J.p rfl (Q.asg rfl) <| J.nil <| J.blk_n ?_
       first
         | refine J.again ⟨x', mid, lim2, _, ap, d6⟩ ⟨⟨by rw [hd6.1.1, s3, hn4], s1, by show mid ≤ n; omega, by show mid - x' ≤ e - x; omega, u1, fun R h1 h2 => by obtain ⟨t1, t2⟩ := u2 R h1 h2; exact hR4.fin R t1 t2⟩, hl2⟩ (by show mid - x' < e' - x'; omega) ⟨rfl, rfl, rfl, rfl, rfl, rfl, trivial⟩ rfl
         | refine J.again ⟨mid + 1, e', lim2, _, ap, d6⟩ ⟨⟨by rw [hd6.1.1, s3, hn4], by show mid + 1 ≤ e'; omega, r2, by show e' - (mid + 1) ≤ e - x; omega, u1, fun R h1 h2 => by obtain ⟨t1, t2⟩ := u2 R h1 h2; exact hR4.fin R t1 t2⟩, hl2⟩ (by show e' - (mid + 1) < e' - x'; omega) ⟨rfl, rfl, rfl, rfl, rfl, rfl, trivial⟩ rfl
     replace hc113 := X.nm hc113
     try (first | (cases hc113; done) | (exfalso; simp at hc113; done))
     all_goals
      refine J.cond_f rfl <| J.seq <| J.region <| J.m rfl <| J.m rfl <| J.p rfl (Q.geq rfl rfl) <| J.p rfl (Q.asg rfl) <| J.nil <| J.then_n <| J.seq <| J.region <| J.m rfl <| J.m rfl <| J.p rfl (Q.add64 rfl rfl (by omega)) <| J.m rfl <| J.m rfl ?_
      refine J.call Tryz.call91 (ih (e' - (mid + 1)) (by omega) (mid + 1) e' lim2 d5 rfl hl2 (by omega) (by omega) (by omega) s5) [0] rfl rfl rfl rfl ?_
      rintro _ _ ⟨d6, hd6, rfl, rfl⟩
      refine J.norm rfl ?_
      obtain ⟨u1, u2⟩ := s7 d6 hd6.1 hd6.2
      refine J.nil <| J.then_n <| J.region <| J.m rfl <| J.p rfl (Q.asg rfl) <| J.nil <| J.blk_n ?_
      first
        | refine J.again ⟨x', mid, lim2, _, ap, d6⟩ ⟨⟨by rw [hd6.1.1, s3, hn4], s1, by show mid ≤ n; omega, by show mid - x' ≤ e - x; omega, u1, fun R h1 h2 => by obtain ⟨t1, t2⟩ := u2 R h1 h2; exact hR4.fin R t1 t2⟩, hl2⟩ (by show mid - x' < e' - x'; omega) ⟨rfl, rfl, rfl, rfl, rfl, rfl, trivial⟩ rfl
        | refine J.again ⟨mid + 1, e', lim2, _, ap, d6⟩ ⟨⟨by rw [hd6.1.1, s3, hn4], by show mid + 1 ≤ e'; omega, r2, by show e' - (mid + 1) ≤ e - x; omega, u1, fun R h1 h2 => by obtain ⟨t1, t2⟩ := u2 R h1 h2; exact hR4.fin R t1 t2⟩, hl2⟩ (by show e' - (mid + 1) < e' - x'; omega) ⟨rfl, rfl, rfl, rfl, rfl, rfl, trivial⟩ rfl

theorem insertion0U (p : Option Addr) (c : Nat) (G : Assn) : FSpec Tryz.prog 108 [.slice p 0 c, .int .i64 0, .int .i64 0] [G] (fun v B => v = .tuple #[] ∧ B = [G]) := by
  refine FSpec.of Tryz.func108 rfl Tryz.ntmps108 rfl fun W0 F => ?_
  refine J.seq <| J.region <| J.m rfl <| J.p rfl (Q.add64 rfl rfl (by omega)) <| J.p rfl (Q.asg rfl) <| J.nil <| J.then_n <| J.block ?_
  refine J.loop (fun _ : Unit => True) (fun _ => 0) (fun _ => [(2, .int .i64 0), (6, .int .i64 1)]) (fun _ => [G, F]) () trivial ⟨rfl, rfl, trivial⟩ rfl fun _ _ => ?_
  refine J.seq <| J.seq <| J.region <| J.m rfl <| J.m rfl <| J.p rfl (Q.lss rfl rfl) <| J.nil <| J.then_n ?_
  refine J.cases 12 rfl (fun hc12 => ?_) (fun hc12 => ?_)
  ·
   exfalso; simp at hc12
  replace hc12 := X.nm hc12
  refine J.cond_f rfl <| J.exit <| J.then_x <| J.lp_x <| J.blk_x ?_
  refine J.end0 (B := [_]) rfl ⟨rfl, rfl⟩ rfl
theorem pdq0U (p : Option Addr) (c lim : Nat) (G : Assn) : FSpec Tryz.prog 91 [.slice p 0 c, .int .i64 0, .int .i64 0, .int .i64 lim] [G] (fun v B => v = .tuple #[] ∧ B = [G]) := by
  refine FSpec.of Tryz.func91 rfl Tryz.ntmps91 rfl fun W0 F => ?_
  refine J.seq <| J.region <| J.p rfl (Q.asg rfl) <| J.nil <| J.then_n <| J.seq <| J.region <| J.p rfl (Q.asg rfl) <| J.nil <| J.then_n <| J.block ?_
  refine J.loop (fun _ : Unit => True) (fun _ => 0) (fun _ => [(0, .slice p 0 c), (1, .int .i64 0), (2, .int .i64 0)]) (fun _ => [G, F]) () trivial ⟨rfl, rfl, rfl, trivial⟩ rfl fun _ _ => ?_
  refine J.block <| J.seq <| J.region <| J.m rfl <| J.m rfl <| J.p rfl (Q.sub64 rfl rfl (by omega)) <| J.p rfl (Q.asg rfl) <| J.nil <| J.then_n <| J.seq <| J.seq <| J.region <| J.m rfl <| J.p rfl (Q.leq rfl rfl) <| J.nil <| J.then_n ?_
  refine J.cases 23 rfl (fun hc23 => ?_) (fun hc23 => ?_)
  ·
   replace hc23 := X.nm hc23
   skip
   refine J.cond_t rfl <| J.seq <| J.region <| J.m rfl <| J.m rfl <| J.m rfl ?_
   refine J.call Tryz.call108 (insertion0U p c G) [0] rfl rfl rfl rfl ?_
   rintro _ _ ⟨rfl, rfl⟩
   refine J.norm rfl <| J.nil <| J.then_n <| J.cret <| J.then_r <| J.blk_r <| J.lp_r <| J.blk_r ?_
   refine J.ret0 (B := [_]) rfl ⟨rfl, rfl⟩ rfl
  exfalso; simp at hc23

theorem sortU (b off n c : Nat) (hs : n ≤ 32768) (d : Array Nat) (hn : d.size = n) :
    FSpec Tryz.prog 55 [.slice (some ⟨b, off, none⟩) n c] [rowU b off n c d] (fun v B => ∃ d', (PermIn 0 n d d' ∧ SortedIn ltU 0 n d') ∧ v = .tuple #[] ∧ B = [rowU b off n c d']) := by
  refine FSpec.of Tryz.func55 rfl Tryz.ntmps55 rfl fun W0 F => ?_
  refine J.seq <| J.region <| J.m rfl <| J.p rfl (Q.lenSl Tryz.runUnderlying60 rfl) <| J.p rfl (Q.asg rfl) <| J.nil <| J.then_n <| J.region <| J.m rfl <| J.m rfl <| J.m rfl <| J.p rfl (Q.conv Tryz.runUnderlying3 Tryz.runUnderlying110 rfl) ?_
  rw [show IntKind.u64.wrap (n : Int) = (n : Int) from wrap64 (by omega)]
  refine J.call Tryz.call88 (len n (by omega)) [] rfl rfl rfl rfl ?_
  rintro _ _ ⟨rfl, rfl⟩
  refine J.norm rfl ?_
  refine J.call Tryz.call91 (pdqU b off n c hs _ 0 n (bitsLen n) d rfl ((Go.Sort.bitsLen_le_iff n 64).2 (by omega)) hn (Nat.zero_le _) (Nat.le_refl _) (.inl rfl)) [0] rfl rfl rfl rfl ?_
  rintro _ _ ⟨d', hd', rfl, rfl⟩
  refine J.norm rfl <| J.nil ?_
  refine J.end0 (B := [_]) rfl ⟨d', hd', rfl, rfl⟩ rfl
theorem sort0U (p : Option Addr) (c : Nat) (G : Assn) :
    FSpec Tryz.prog 55 [.slice p 0 c] [G] (fun v B => v = .tuple #[] ∧ B = [G]) := by
  refine FSpec.of Tryz.func55 rfl Tryz.ntmps55 rfl fun W0 F => ?_
  refine J.seq <| J.region <| J.m rfl <| J.p rfl (Q.lenSl Tryz.runUnderlying60 rfl) <| J.p rfl (Q.asg rfl) <| J.nil <| J.then_n <| J.region <| J.m rfl <| J.m rfl <| J.m rfl <| J.p rfl (Q.conv Tryz.runUnderlying3 Tryz.runUnderlying110 rfl) ?_
  refine J.call Tryz.call88 (len 0 (by decide)) [] rfl rfl rfl rfl ?_
  rintro _ _ ⟨rfl, rfl⟩
  refine J.norm rfl ?_
  refine J.call Tryz.call91 (pdq0U p c (bitsLen 0) G) [0] rfl rfl rfl rfl ?_
  rintro _ _ ⟨rfl, rfl⟩
  refine J.norm rfl <| J.nil ?_
  refine J.end0 (B := [_]) rfl ⟨rfl, rfl⟩ rfl

def ordU (l : List Nat) : List Nat := l.mergeSort fun a b => !ltU b a
theorem ordU_perm {l m : List Nat} (h : l.Perm m) : ordU l = ordU m := by
  unfold ordU
  have t1 : ∀ a b c : Nat, (!ltU b a) = true → (!ltU c b) = true → (!ltU c a) = true := fun a b c h1 h2 => by simp [ltU] at *; omega
  have t2 : ∀ a b : Nat, ((!ltU b a) || (!ltU a b)) = true := fun a b => by simp [ltU]; omega
  refine List.Perm.eq_of_pairwise (le := fun a b => (!ltU b a) = true) ?_ (List.pairwise_mergeSort t1 t2 l) (List.pairwise_mergeSort t1 t2 m) (((List.mergeSort_perm l _).trans h).trans (List.mergeSort_perm m _).symm)
  intro a b _ _ h1 h2
  exact by simp [ltU] at h1 h2; omega

theorem sortAnyU (p : Option Addr) (c : Nat) (l : List Nat) (hs : l.length ≤ 32768) :
    FSpec Tryz.prog 55 [.slice p l.length c] [own 23 1 (.slice p l.length c) (l.map encU)] (fun v B => v = .tuple #[] ∧ B = [own 23 1 (.slice p l.length c) ((ordU l).map encU)]) := by
  cases l with
  | nil => exact (sort0U p c _).mono fun v B h => by simpa [ordU] using h
  | cons y l =>
    cases p with
    | none =>
      refine ⟨fun W0 w F s => ?_⟩
      exfalso
      obtain ⟨k, hk, _⟩ := s.heap.at_ (i := 0) rfl
      rcases hk with ⟨h1, h2⟩ | ⟨o, ho, _⟩
      · simp at h2
      · have := ho.val; simp at this
    | some a =>
      refine ⟨fun W0 w F s => ?_⟩
      obtain ⟨k, hk, _⟩ := s.heap.at_ (i := 0) rfl
      obtain ⟨b, off, rfl⟩ : ∃ b off, a = ⟨b, off, none⟩ := by
        rcases hk with ⟨h1, h2⟩ | ⟨o, ho, _⟩
        · simp at h2
        · have := ho.val; simp at this; exact ⟨_, _, this.1⟩
      have hc := (sortU b off (y :: l).length c hs (y :: l).toArray (by simp)).call W0 w F s
      refine hc.mono ?_
      rintro e w' ⟨v, B, rfl, ⟨d', ⟨h1, h2⟩, rfl, rfl⟩, t⟩
      have hu := Go.Sort.sorted_unique_holds swoU (fun x z h1 h2 => by simp [ltU] at h1 h2; omega) (y :: l).toArray d' h1 h2
      refine ⟨_, _, rfl, ⟨rfl, rfl⟩, ?_⟩
      have e2 : ordU (y :: l) = d'.toList := hu.symm
      rw [e2]; exact t

theorem sortedU (gf : FuncId) (lb : List Value) (G : Assn) (M : List Nat) (ok : List Nat → Nat → Prop) (eg : ∀ (args : Array Value) (w : World), (callFunc gf args).run Tryz.prog w = .ok (.enter gf args) w)
    (hit : ItSpec Tryz.prog gf lb (fun x : Nat => [encU x]) [G] (fun xs => xs.Perm M) ok) (hok : ∀ pre x, ok pre x → pre.length < 1099511627776) (hs : M.length ≤ 32768) :
    FSpec Tryz.prog 23 [.func (.func gf) #[] lb.toArray] [G] (fun v B => ∃ (p : Option Addr) (c : Nat), v = .slice p M.length c ∧ B = [own 23 1 (.slice p M.length c) ((ordU M).map encU), G]) := by
  refine FSpec.of Tryz.func23 rfl Tryz.ntmps23 rfl fun W0 F => ?_
  refine J.seq <| J.region <| J.p rfl (Q.asg rfl) <| J.nil <| J.then_n <| J.seq <| J.region <| J.m rfl ?_
  refine J.call Tryz.call54 (collectU gf lb G (fun xs => xs.Perm M) ok eg hit hok) [0] rfl rfl rfl rfl ?_
  rintro _ _ ⟨xs, p, c, hS, rfl, rfl⟩
  refine J.norm rfl ?_
  have hlen : xs.length = M.length := hS.length_eq
  refine J.p rfl (Q.asg rfl) <| J.nil <| J.then_n <| J.seq <| J.region <| J.m rfl ?_
  refine J.call Tryz.call55 (sortAnyU p c xs (by omega)) [0] rfl rfl rfl rfl ?_
  rintro _ _ ⟨rfl, rfl⟩
  refine J.norm rfl <| J.nil <| J.then_n <| J.seq <| J.region <| J.m rfl <| J.p rfl (Q.asg rfl) <| J.nil <| J.then_n <| J.cret ?_
  rw [ordU_perm hS, hlen]
  refine J.ret1 (B := [_, G]) rfl rfl ⟨p, c, rfl, rfl⟩ rfl
end Go.Proofs.YtdancegklkifaaaGreat
namespace Go.Proofs.YtdancegklkifaaaGreat
set_option linter.unusedSectionVars false
set_option linter.unusedSimpArgs false
set_option linter.unusedVariables false
open Go.X
open Go.X.G (Ord3 ord3_nat ord3_int ord3_str ltB sget sput sdel Srtd MapAt MapHole Ent Ents)

theorem srtU {ν : Type} {S : List (Nat × ν)} (h : Srtd (fun a b : Nat => decide (a < b)) S) : ordU (S.map (·.1)) = S.map (·.1) := by
  refine List.mergeSort_of_pairwise ?_
  rw [List.pairwise_map]
  refine h.imp fun {a b} h => ?_
  simp [ltU] at h ⊢; omega
theorem srtI {ν : Type} {S : List (Int × ν)} (h : Srtd (fun a b : Int => decide (a < b)) S) : ordI (S.map (·.1)) = S.map (·.1) := by
  refine List.mergeSort_of_pairwise ?_
  rw [List.pairwise_map]
  refine h.imp fun {a b} h => ?_
  simp at h ⊢; omega
theorem srtS {ν : Type} {S : List (ByteArray × ν)} (h : Srtd ltB S) : ordS (S.map (·.1)) = S.map (·.1) := by
  refine List.mergeSort_of_pairwise ?_
  rw [List.pairwise_map]
  refine h.imp fun {a b} h => ?_
  simp only [ltB, leBy, decide_eq_true_eq] at h ⊢
  exact List.le_of_lt h
end Go.Proofs.YtdancegklkifaaaGreat
namespace Go.Proofs.YtdancegklkifaaaGreat
set_option linter.unusedSectionVars false
set_option linter.unusedSimpArgs false
set_option linter.unusedVariables false
open Go.X
open Go.X.G (Ord3 ord3_nat ord3_int ord3_str ltB sget sput sdel Srtd MapAt MapHole Ent Ents edone eleft)

theorem keysItOb (bm r : Nat) (S0 : List (ByteArray × (List UInt8))) : ItSpec Tryz.prog 89 [.pointer (some ⟨bm, 0, none⟩)] (fun x : ByteArray => [Value.string x]) [star [pt bm (.cells [.map (some r)].toArray 57 (0, 0)), MapAt Value.string datRep r S0]]
    (fun xs => xs.Perm (S0.map (·.1))) (fun pre _ => pre.length < S0.length) := by
  intro l Inv hY
  refine FSpec.of Tryz.func89 rfl Tryz.ntmps89 rfl fun W0 F => ?_
  refine J.seq ?_
  refine J.unpack 1 rfl rfl ?_
  refine J.open_ 1 rfl rfl (fun _ h => h) fun q hq => ?_
  refine J.norm rfl <| J.region ?_
  refine J.p rfl (Q.ld Tryz.isAgg57 rfl (rdI (by exact rfl))) ?_
  refine J.c rfl rfl (X.G.C.range (i := 0) Tryz.runUnderlying57 rfl rfl) ?_
  rintro _ _ ⟨b5, rfl, rfl⟩
  refine J.norm rfl <| J.nil <| J.then_n <| J.block ?_
  refine J.pick [0, 1, 2, 3, 4, 5] rfl ?_
  refine J.loop (fun z : List Nat × List ByteArray => z.2.Perm ((edone q.1 z.1).map (·.key))) (fun z => (eleft q.1 z.1).length) (fun z => [(0, .func (.yield l) #[] #[]), (5, .pointer (some ⟨b5, 0, none⟩))])
    (fun z => [pt b5 (X.G.miter r q.2 z.1), pt r (X.G.mobj Value.string (q.1.map Ent.m) q.2), star (q.1.map (Ent.asn datRep)), pt bm (.cells [.map (some r)].toArray 57 (0, 0)), Inv z.2, F])
    ([], []) (by simp [X.G.edone_nil]) ⟨rfl, rfl, trivial⟩ rfl fun z hz => ?_
  obtain ⟨seen, pre⟩ := z
  dsimp only at hz
  refine J.seq <| J.region ?_
  refine J.c rfl rfl (X.G.C.nextE (i := 0) (j := 1) hq rfl rfl rfl) ?_
  rintro _ _ ⟨t, rest, seen', rfl, rfl, hst⟩
  refine J.norm rfl <| J.p rfl (Q.ext rfl rfl) <| J.nil <| J.then_n <| J.seq ?_
  refine J.cases 7 rfl (fun hc7 => ?_) (fun hc7 => ?_)
  ·
   replace hc7 := X.nm hc7
   obtain ⟨e, he, rfl⟩ : ∃ e, e ∈ eleft q.1 seen ∧ seen' = seen ++ [e.born] := by rcases hst with ⟨h, _⟩ | ⟨_, h⟩; exact absurd hc7 (by rw [h]; decide); exact h
   refine J.cond_t rfl <| J.cskip <| J.then_n <| J.block <| J.seq <| J.region ?_
   have hstep := X.G.estep hq.born he
   have hlt : pre.length < S0.length := by
     have h1 := hstep.1.length_eq
     have h2 : (edone q.1 (seen ++ [e.born])).length ≤ q.1.length := List.length_filter_le _ _
     have h3 := hz.length_eq
     have h4 := hq.len
     simp only [List.length_cons, List.length_map] at h1 h3
     omega
   have hnx : (pre ++ [e.key]).Perm ((edone q.1 (seen ++ [e.born])).map (·.key)) := by
     refine (List.perm_append_singleton _ _).trans ?_
     refine (hz.cons e.key).trans ?_
     exact (hstep.1.map (·.key)).symm
   refine J.p rfl (X.G.Q.entryE (i := 0) (j := 1) hq he rfl rfl rfl) ?_
   refine J.p rfl (Q.ext rfl rfl) <| J.p rfl (Q.asg rfl) <| J.nil <| J.then_n <| J.seq ?_
   refine J.regionY ?_
   refine JI.q rfl rfl (fun _ e => nomatch e) (Q.mv rfl) ?_
   refine JI.q rfl rfl (fun _ e => nomatch e) (Q.mv rfl) ?_
   refine JI.yield (hY pre e.key hlt) [4] rfl rfl rfl rfl rfl ?_
   rintro _ _ ⟨rfl, rfl⟩
   refine J.norm rfl ?_
   refine JI.q rfl rfl (fun _ e => nomatch e) (Q.not rfl) ?_
   refine JI.nil ?_
   refine JI.out ?_
   refine J.then_n ?_
   refine J.cases 13 rfl (fun hc13 => ?_) (fun hc13 => ?_)
   ·
    cases hc13
   replace hc13 := X.nm hc13
   refine J.cond_f rfl <| J.cskip <| J.blk_n ?_
   refine J.pick [1, 2, 3, 4, 0, 5] rfl ?_
   refine J.again (seen ++ [e.born], pre ++ [e.key]) hnx hstep.2 ⟨rfl, rfl, trivial⟩ rfl
  replace hc7 := X.nm hc7
  obtain ⟨hall, rfl⟩ : edone q.1 seen = q.1 ∧ seen' = seen := by rcases hst with ⟨_, h⟩ | ⟨h, _⟩; exact h; exact absurd hc7 (by rw [h]; decide)
  refine J.cond_f rfl <| J.exit <| J.then_x <| J.lp_x <| J.blk_x ?_
  rw [hall] at hz
  have hfin : pre.Perm (S0.map (·.1)) := by
    refine hz.trans ?_
    have := hq.perm.map (·.1)
    rw [List.map_map] at this
    exact this
  refine J.shut [1, 2] (MapAt Value.string datRep r S0) rfl (fun h s => ⟨q, hq, s⟩) ?_
  refine J.pick [2, 0, 1, 3, 4] rfl ?_
  refine J.pack [0, 1] rfl ?_
  refine J.keep [2, 0, 3] rfl ?_
  refine J.end0 (B := [Inv pre, _]) rfl ⟨pre, hfin, rfl⟩ rfl

theorem keysOb (r : Option Nat) : FSpec Tryz.prog 53 [.map r] [] (fun v B => ∃ bm, v = .func (.func 89) #[] #[.pointer (some ⟨bm, 0, none⟩)] ∧ B = [pt bm (.cells [.map r].toArray 57 (0, 0))]) := by
  refine FSpec.of Tryz.func53 rfl Tryz.ntmps53 rfl fun W0 F => ?_
  refine J.seq <| J.region ?_
  refine J.c rfl rfl (C.box (l := [_]) rfl rfl) ?_
  rintro _ _ ⟨b1, rfl, rfl⟩
  refine J.norm rfl <| J.p rfl (Q.asg rfl) <| J.nil <| J.then_n <| J.seq <| J.region <| J.p rfl (Q.func rfl rfl) <| J.p rfl (Q.asg rfl) <| J.nil <| J.then_n <| J.cret ?_
  refine J.keep [0, 1] rfl ?_
  refine J.ret1 (B := [_]) rfl rfl ⟨_, rfl, rfl⟩ rfl

theorem sortedOb (bm r : Nat) (S0 : List (ByteArray × (List UInt8))) (hS : Srtd ltB S0) (hl : S0.length ≤ 32768) : FSpec Tryz.prog 19 [.func (.func 89) #[] #[.pointer (some ⟨bm, 0, none⟩)]] [pt bm (.cells [.map (some r)].toArray 57 (0, 0)), MapAt Value.string datRep r S0]
    (fun v B => ∃ (p : Option Addr) (c : Nat), v = .slice p S0.length c ∧ B = [own 9 1 (.slice p S0.length c) ((S0.map (·.1)).map Value.string), pt bm (.cells [.map (some r)].toArray 57 (0, 0)), MapAt Value.string datRep r S0]) := by
  have h := sortedS 89 [.pointer (some ⟨bm, 0, none⟩)] _ (S0.map (·.1)) _ Tryz.call89 (keysItOb bm r S0) (fun pre _ h => by omega) (by rw [List.length_map]; omega)
  refine h.conv (fun k s => HSat.pack (Bs := []) (by simpa using s)) ?_
  rintro v B' ⟨p, c, rfl, rfl⟩
  rw [List.length_map, srtS hS]
  refine ⟨_, ⟨p, c, rfl, rfl⟩, fun k s => ?_⟩
  exact HSat.under s fun _ s => HSat.unpack (Bs := []) s
end Go.Proofs.YtdancegklkifaaaGreat
namespace Go.Proofs.YtdancegklkifaaaGreat
set_option linter.unusedSectionVars false
set_option linter.unusedSimpArgs false
set_option linter.unusedVariables false
open Go.X
open Go.X.G (Ord3 ord3_nat ord3_int ord3_str ltB sget sput sdel Srtd MapAt MapHole Ent Ents mobj)

theorem leqs {P : Program} {L : Slots} {D : List Assn} {ty T T' : TypeId} {x y : Operand} {s t : ByteArray} (ex : ev L x = some (.string s)) (ey : ev L y = some (.string t)) : OpQ P (.binOp .leq T x y T') ty L D (.bool (!ltB t s)) :=
  Q.bin ex ey fun w => by
    have h : (Op.bytesLess s.data.toList t.data.toList || decide (s.data.toList = t.data.toList)) = !ltB t s := by
      rw [Bool.eq_iff_iff]
      simp only [Bool.or_eq_true, less_iff, decide_eq_true_eq, Bool.not_eq_true', ltB, decide_eq_false_iff_not, List.not_lt]
      exact ⟨fun h => h.elim List.le_of_lt (fun e => by rw [e]; exact List.le_refl _), fun h => by
        rcases List.le_total t.data.toList s.data.toList with h' | h'
        · exact .inr (List.le_antisymm h h')
        · rcases Classical.em (s.data.toList = t.data.toList) with e | e
          · exact .inr e
          · exact .inl (by
              rcases Classical.em (s.data.toList < t.data.toList) with g | g
              · exact g
              · exact absurd (List.le_antisymm h (List.not_lt.1 g)) e)⟩
    simp only [Sem.run_bind, guard_str, Result.andThen_ok, binOp, Op.stringOp, ByteArray.toList_eq, list_beq, ← h]; rfl

structure BM.kok (M : BM) : Prop where
  ob : ∀ n o, sget n M.buckets = some o → ∀ p, p ∈ o → p.1.size ≤ 1024
  up : ∀ n u, sget n M.uploads = some u → u.key.size ≤ 1024

def keysM (M : BM) (name : ByteArray) : List ByteArray := match sget name M.buckets with | none => [] | some o => o.map (·.1)

theorem keysNil (bm : Nat) : ItSpec Tryz.prog 89 [.pointer (some ⟨bm, 0, none⟩)] (fun x : ByteArray => [Value.string x]) [pt bm (.cells [.map none].toArray 57 (0, 0))]
    (fun xs => xs.Perm []) (fun _ _ => False) := by
  intro l Inv hY
  refine FSpec.of Tryz.func89 rfl Tryz.ntmps89 rfl fun W0 F => ?_
  refine J.seq <| J.region ?_
  refine J.p rfl (Q.ld Tryz.isAgg57 rfl (rdI (by exact rfl))) ?_
  refine J.c rfl rfl (X.G.C.rangeNil Tryz.runUnderlying57 rfl) ?_
  rintro _ _ ⟨b5, rfl, rfl⟩
  refine J.norm rfl <| J.nil <| J.then_n <| J.block ?_
  refine J.loop (fun _ : Unit => True) (fun _ => 0) (fun _ => [(5, .pointer (some ⟨b5, 0, none⟩))]) (fun _ => [pt b5 X.G.miterNil, Inv [], pt bm (.cells [.map none].toArray 57 (0, 0)), F]) () trivial ⟨rfl, trivial⟩ rfl fun _ _ => ?_
  refine J.seq <| J.region ?_
  refine J.p rfl (X.G.Q.nextNil (i := 0) rfl rfl) ?_
  refine J.p rfl (Q.ext rfl rfl) <| J.nil <| J.then_n <| J.seq ?_
  refine J.cases 7 rfl (fun hc7 => ?_) (fun hc7 => ?_)
  ·
   exfalso; cases hc7
  replace hc7 := X.nm hc7
  refine J.cond_f rfl <| J.exit <| J.then_x <| J.lp_x <| J.blk_x ?_
  refine J.keep [1, 2, 3] rfl ?_
  refine J.end0 (B := [_, _]) rfl ⟨[], List.Perm.refl _, rfl⟩ rfl

section
variable {k : Nat} (m : Nat) (M : BM) (hM : M.ok k) (hK : M.kok) (hk : k ≤ 32768) (name : ByteArray)
include hM hK hk
theorem objects_no (hB : sget name M.buckets = none) : FSpec Tryz.prog 22 [.pointer (some ⟨m, 0, none⟩), .string name] [BktAt m M] (fun v B => ∃ p c, v = .slice p (keysM M name).length c ∧ B = [own 9 1 (.slice p (keysM M name).length c) ((keysM M name).map Value.string), BktAt m M]) := by
  have hke : keysM M name = [] := by unfold keysM; rw [hB]
  rw [hke]
  refine FSpec.of Tryz.func22 rfl Tryz.ntmps22 rfl fun W0 F => ?_
  refine J.seq <| J.region <| J.p rfl (Q.asg rfl) <| J.nil <| J.then_n <| J.seq ?_
  refine J.open1 0 rfl (fun _ h => h) fun z => ?_
  refine J.norm rfl <| J.region <| J.m rfl <| J.p rfl (Q.nil_ rfl) <| J.p rfl (Q.fa (n := 0) Tryz.runUnderlying51 rfl rfl Tryz.sizeOf47 rfl) ?_
  refine J.p rfl (Q.ld Tryz.isAgg47 rfl (rdI (by exact rfl))) ?_
  refine J.m rfl ?_
  refine J.p rfl (X.G.Q.lkNo (i := 1) Tryz.runUnderlying47 keyS Tryz.zeroValue57 rfl rfl rfl hB) ?_
  refine J.call Tryz.call53 (keysOb none) [] rfl rfl rfl rfl ?_
  rintro _ _ ⟨bk, rfl, rfl⟩
  refine J.norm rfl ?_
  refine J.call Tryz.call19 (sortedS 89 [.pointer (some ⟨bk, 0, none⟩)] _ [] (fun _ _ => False) Tryz.call89 (keysNil bk) (fun _ _ h => h.elim) (by decide)) [0] rfl rfl rfl rfl ?_
  rintro _ _ ⟨p12, c12, rfl, rfl⟩
  refine J.norm rfl ?_
  have e0 : ordS [] = [] := by simp [ordS]
  rw [e0]
  refine J.p rfl (Q.asg rfl) <| J.nil <| J.then_n <| J.cret ?_
  refine J.shut [2, 3, 4, 5] (BktAt m M) rfl (fun h s => ⟨z, s⟩) ?_
  refine J.keep [1, 0, 3] rfl ?_
  refine J.ret1 (B := [own 9 1 (.slice p12 0 c12) [], BktAt m M]) rfl rfl ⟨p12, c12, rfl, rfl⟩ rfl
theorem objects_yes {objs : Objs} (hB : sget name M.buckets = some objs) : FSpec Tryz.prog 22 [.pointer (some ⟨m, 0, none⟩), .string name] [BktAt m M] (fun v B => ∃ p c, v = .slice p (keysM M name).length c ∧ B = [own 9 1 (.slice p (keysM M name).length c) ((keysM M name).map Value.string), BktAt m M]) := by
  have hke : keysM M name = objs.map (·.1) := by unfold keysM; rw [hB]
  have hO := hM.os _ _ hB
  have hob := hK.ob _ _ hB
  rw [hke, List.length_map]
  refine FSpec.of Tryz.func22 rfl Tryz.ntmps22 rfl fun W0 F => ?_
  refine J.seq <| J.region <| J.p rfl (Q.asg rfl) <| J.nil <| J.then_n <| J.seq ?_
  refine J.open1 0 rfl (fun _ h => h) fun z => ?_
  refine J.norm rfl ?_
  refine J.mapFocus 1 hB rfl fun val => ?_
  refine J.norm rfl ?_
  refine J.open_ 0 rfl rfl (fun _ h => h) fun r hr => ?_
  subst hr
  refine J.norm rfl <| J.region <| J.m rfl <| J.p rfl (Q.nil_ rfl) <| J.p rfl (Q.fa (n := 0) Tryz.runUnderlying51 rfl rfl Tryz.sizeOf47 rfl) ?_
  refine J.p rfl (Q.ld Tryz.isAgg47 rfl (rdI (by exact rfl))) ?_
  refine J.m rfl ?_
  refine J.p rfl (X.G.Q.lkYes (i := 1) Tryz.runUnderlying47 keyS Tryz.zeroValue57 rfl rfl rfl) ?_
  refine J.call Tryz.call53 (keysOb (some r)) [] rfl rfl rfl rfl ?_
  rintro _ _ ⟨bk, rfl, rfl⟩
  refine J.norm rfl ?_
  refine J.call Tryz.call19 (sortedOb bk r objs hO.1 (by omega)) [0, 1] rfl rfl rfl rfl ?_
  rintro _ _ ⟨p12, c12, rfl, rfl⟩
  refine J.norm rfl <| J.p rfl (Q.asg rfl) <| J.nil <| J.then_n <| J.cret ?_
  refine J.shut [2] (bRep name objs (.map (some r))) rfl (fun h s => ⟨r, rfl, s⟩) ?_
  refine J.mapSame 0 3 ord3_str hM.bs hB rfl ?_
  refine J.shut [3, 0, 4, 5] (BktAt m M) rfl (fun h s => ⟨z, s⟩) ?_
  refine J.keep [1, 0, 3] rfl ?_
  refine J.ret1 (B := [own 9 1 (.slice p12 objs.length c12) ((objs.map (·.1)).map Value.string), BktAt m M]) rfl rfl ⟨p12, c12, rfl, rfl⟩ rfl
theorem objects_spec : FSpec Tryz.prog 22 [.pointer (some ⟨m, 0, none⟩), .string name] [BktAt m M] (fun v B => ∃ p c, v = .slice p (keysM M name).length c ∧ B = [own 9 1 (.slice p (keysM M name).length c) ((keysM M name).map Value.string), BktAt m M]) := by
  cases hB : sget name M.buckets with
  | none => exact objects_no m M hM hK hk name hB
  | some objs => exact objects_yes m M hM hK hk name hB
end
end Go.Proofs.YtdancegklkifaaaGreat
namespace Go.Proofs.YtdancegklkifaaaGreat
set_option linter.unusedSectionVars false
set_option linter.unusedSimpArgs false
set_option linter.unusedVariables false
open Go.X
open Go.X.G (Ord3 ord3_nat ord3_int ord3_str ltB sget sput sdel Srtd MapAt MapHole Ent Ents mobj)

theorem prefix_spec (s p : ByteArray) : FSpec Tryz.prog 126 [.string s, .string p] [] (fun v B => v = .bool (beg s p) ∧ B = []) := by
  refine FSpec.of Tryz.func126 rfl Tryz.ntmps126 rfl fun W0 F => ?_
  refine J.seq <| J.region <| J.p rfl (Q.asg rfl) <| J.nil <| J.then_n <| J.seq <| J.region <| J.m rfl <| J.p rfl (Q.lenS Tryz.runUnderlying9 rfl) <| J.m rfl <| J.p rfl (Q.lenS Tryz.runUnderlying9 rfl) <| J.p rfl (Q.geq rfl rfl) <| J.m rfl ?_
  refine J.cases 10 rfl (fun hb10 => ?_) (fun hb10 => ?_)
  ·
   replace hb10 := X.nm hb10
   refine J.m rfl <| J.m rfl <| J.p rfl (Q.lenS Tryz.runUnderlying9 rfl) <| J.p rfl (Q.strH Tryz.runUnderlying9 rfl rfl (by omega) (by omega)) <| J.m rfl <| J.p rfl (Q.eqls rfl rfl) <| J.p rfl (Q.pick_t rfl rfl) <| J.p rfl (Q.asg rfl) <| J.nil <| J.then_n <| J.cret ?_
   refine J.ret1 (B := []) rfl rfl ⟨?_, rfl⟩ rfl
   unfold beg
   first
     | (rw [decide_eq_true (show p.size ≤ s.size by omega)]; simp only [Bool.true_and, Int.toNat_natCast]; done)
     | (rw [decide_eq_true (show p.size ≤ s.size by omega)]; rfl)
     | (rw [decide_eq_false (show ¬ p.size ≤ s.size by omega)]; rfl)
  replace hb10 := X.nm hb10
  refine J.skip rfl rfl <| J.skip rfl rfl <| J.skip rfl rfl <| J.skip rfl rfl <| J.skip rfl rfl <| J.skip rfl rfl <| J.p rfl (Q.pick_f rfl rfl) <| J.p rfl (Q.asg rfl) <| J.nil <| J.then_n <| J.cret ?_
  refine J.ret1 (B := []) rfl rfl ⟨?_, rfl⟩ rfl
  unfold beg
  first
    | (rw [decide_eq_true (show p.size ≤ s.size by omega)]; simp only [Bool.true_and, Int.toNat_natCast]; done)
    | (rw [decide_eq_true (show p.size ≤ s.size by omega)]; rfl)
    | (rw [decide_eq_false (show ¬ p.size ≤ s.size by omega)]; rfl)
theorem hasPrefix_spec (s p : ByteArray) : FSpec Tryz.prog 95 [.string s, .string p] [] (fun v B => v = .bool (beg s p) ∧ B = []) := by
  refine FSpec.of Tryz.func95 rfl Tryz.ntmps95 rfl fun W0 F => ?_
  refine J.seq <| J.region <| J.p rfl (Q.asg rfl) <| J.nil <| J.then_n <| J.seq <| J.region <| J.m rfl <| J.m rfl ?_
  refine J.call Tryz.call126 (prefix_spec s p) [] rfl rfl rfl rfl ?_
  rintro _ _ ⟨rfl, rfl⟩
  refine J.norm rfl <| J.p rfl (Q.asg rfl) <| J.nil <| J.then_n <| J.cret ?_
  refine J.ret1 (B := []) rfl rfl ⟨rfl, rfl⟩ rfl

def lsel (o : OM) (a : ByteArray) : Bool := beg a o.key && ltB o.after a
theorem filter_take {p : ByteArray → Bool} {l : List ByteArray} {j : Nat} {a : ByteArray} (h : l[j]? = some a) : (l.take (j + 1)).filter p = (l.take j).filter p ++ (if p a then [a] else []) := by
  obtain ⟨h1, h2⟩ := List.getElem?_eq_some_iff.1 h
  rw [List.take_succ_eq_append_getElem h1, List.filter_append, h2]
  cases hp : p a <;> simp [List.filter, hp]
theorem filter_more {p : ByteArray → Bool} {l : List ByteArray} {j : Nat} {a : ByteArray} (h : l[j]? = some a) (hp : p a = true) : ∃ r, l.filter p = (l.take j).filter p ++ a :: r := by
  obtain ⟨h1, h2⟩ := List.getElem?_eq_some_iff.1 h
  refine ⟨(l.drop (j + 1)).filter p, ?_⟩
  conv => lhs; rw [← List.take_append_drop j l, List.filter_append, List.drop_eq_getElem_cons h1, h2]
  rw [List.filter_cons, if_pos hp]

section
variable {k : Nat} (m : Nat) (M : BM) (hM : M.ok k) (hK : M.kok) (hk : k ≤ 32768) (x : OW) (G : Assn) (hx : x.ok G) (hc : x.o.chkB = true) (h6 : x.o.kind = 6)
include hM hK hk hx hc h6
theorem list_no_all : (∀ (hB : sget x.o.bucket M.buckets = none), FSpec Tryz.prog 67 [.pointer (some ⟨m, 0, none⟩), .agg x.cells.toArray] [BktAt m M, G] (ActR m G (st 404, M))) ∧ (∀ {objs : Objs} (hB : sget x.o.bucket M.buckets = some objs), FSpec Tryz.prog 67 [.pointer (some ⟨m, 0, none⟩), .agg x.cells.toArray] [BktAt m M, G] (ActR m G (⟨200, 0, (listed x.o objs).take x.o.n.toNat, decide (x.o.n.toNat < (listed x.o objs).length), []⟩, M))) := by
  refine ⟨fun hB => ?_, fun {objs} hB => ?_⟩
  all_goals
   have hn := chk_6 hc h6
   try have hO := hM.os _ _ hB
   try have hke : keysM M x.o.bucket = objs.map (·.1) := by unfold keysM; rw [hB]
   refine FSpec.of Tryz.func67 rfl Tryz.ntmps67 rfl fun W0 F => ?_
   refine J.seq <| J.region ?_
   refine J.c rfl rfl (C.box (l := [_, _, _, _, _, _, _, _, _]) rfl rfl) ?_
   rintro _ _ ⟨b3, rfl, rfl⟩
   refine J.norm rfl ?_
   refine J.c rfl rfl (C.alloc (l := [_, _, _, _, _]) Tryz.zeroValue37 rfl) ?_
   rintro _ _ ⟨b4, rfl, rfl⟩
   refine J.norm rfl <| J.nil <| J.then_n <| J.seq <| J.seq <| J.region <| J.m rfl ?_
   refine J.p rfl (Q.ldN (vs := [_, _, _, _, _, _, _, _, _]) Tryz.isAgg27 Tryz.sizeOf27 rfl rnI) ?_
   refine J.call Tryz.call94 ((by first | exact known_no m M x hB | exact known_yes m M hM x hB)) [2] rfl rfl rfl rfl ?_
   rintro _ _ ⟨rfl, rfl⟩
   refine J.norm rfl <| J.p rfl (Q.not rfl) <| J.nil <| J.then_n ?_
   refine J.cases 11 rfl (fun hc11 => ?_) (fun hc11 => ?_)
   ·
    replace hc11 := X.nm hc11
    try (first | (cases hc11; done) | (exfalso; simp at hc11; done))
    all_goals
     refine J.cond_t rfl <| J.seq <| J.region ?_
     refine J.call Tryz.call28 (status_spec 404) [] rfl rfl rfl rfl ?_
     rintro _ _ ⟨y, rfl, hy, rfl⟩
     refine J.norm rfl ?_
     refine J.stAI (vs := [_, _, _, _, _]) rfl Tryz.sizeOf37 rfl rfl (by exact rfl) (by exact rfl) (by exact rfl) ?_
     refine J.nil <| J.then_n <| J.cret <| J.then_r ?_
     refine J.retC [1, 0, 4, 5] (vs := [_, _, _, _, _]) rfl rfl Tryz.isAgg37 Tryz.sizeOf37 (ReadsN.pt 2 rfl) rfl (B := [_, _, _]) ⟨_, rfl, hy, rfl⟩
   replace hc11 := X.nm hc11
   try (first | (cases hc11; done) | (exfalso; simp at hc11; done))
   all_goals
    refine J.cond_f rfl <| J.cskip <| J.then_n <| J.seq <| J.region ?_
    refine J.call Tryz.call28 (status_spec 200) [] rfl rfl rfl rfl ?_
    rintro _ _ ⟨y, rfl, hy, rfl⟩
    refine J.norm rfl ?_
    obtain ⟨yr, kp, kc, dp, dc⟩ := y
    dsimp only at hy
    subst hy
    refine J.c rfl rfl (C.alloc (l := [_, _, _, _, _]) Tryz.zeroValue37 rfl) ?_
    rintro _ _ ⟨b5, rfl, rfl⟩
    refine J.norm rfl ?_
    refine J.stAI (vs := [_, _, _, _, _]) rfl Tryz.sizeOf37 rfl rfl (by exact rfl) (by exact rfl) (by exact rfl) ?_
    refine J.nil <| J.then_n ?_
    refine J.cut (fun w : List ByteArray × Option Addr × Nat × Bool => w.1 = (listed x.o objs).take x.o.n.toNat ∧ w.2.2.2 = decide (x.o.n.toNat < (listed x.o objs).length)) (fun w => [(4, .pointer (some ⟨b4, 0, none⟩)), (5, .pointer (some ⟨b5, 0, none⟩))]) (fun w => [own 9 1 (.slice w.2.1 w.1.length w.2.2.1) (w.1.map Value.string), own 5 1 (.slice dp 0 dc) [], BktAt m M, pt b5 (.cells [Value.int .i64 200, .int .u64 0, .slice w.2.1 w.1.length w.2.2.1, .bool w.2.2.2, .slice dp 0 dc].toArray 37 (0, 0)), pt b4 (.cells [Value.int .i64 0, .int .u64 0, .slice none 0 0, .bool false, .slice none 0 0].toArray 37 (0, 0)), G, F]) ?_ fun w hw => ?_
    ·
     refine J.seq <| J.region <| J.m rfl <| J.p rfl (Q.fa (n := 2) Tryz.runUnderlying27 rfl rfl Tryz.sizeOf9 rfl) ?_
     refine J.p rfl (Q.ld Tryz.isAgg9 rfl (rdI (by exact rfl))) ?_
     refine J.call Tryz.call22 (objects_spec m M hM hK hk x.o.bucket) [2] rfl rfl rfl rfl ?_
     rintro _ _ ⟨p17, c17, rfl, rfl⟩
     refine J.norm rfl ?_
     obtain ⟨ks, hks⟩ : ∃ ks, ks = keysM M x.o.bucket := ⟨_, rfl⟩
     rw [← hks]
     have hkl : ks.length ≤ 1048576 := by rw [hks, hke, List.length_map]; omega
     have hlst : listed x.o objs = ks.filter (lsel x.o) := by rw [hks, hke]; rfl
     refine J.unpack 3 rfl rfl ?_
     refine J.norm rfl ?_
     refine J.slr1 2 rfl fun hs17 => ?_
     refine J.p rfl (Q.lenSl Tryz.runUnderlying35 rfl) <| J.m rfl <| J.nil <| J.then_n <| J.block ?_
     refine J.loop (fun w : Nat × Option Addr × Nat => w.1 ≤ ks.length ∧ ((ks.take w.1).filter (lsel x.o)).length ≤ x.o.n.toNat) (fun w => ks.length - w.1) (fun w => [(3, .pointer (some ⟨b3, 0, none⟩)), (4, .pointer (some ⟨b4, 0, none⟩)), (5, .pointer (some ⟨b5, 0, none⟩)), (17, .slice p17 ks.length c17), (18, .int .i64 ks.length), (19, .int .i64 w.1)])
       (fun w => [own 9 1 (.slice w.2.1 ((ks.take w.1).filter (lsel x.o)).length w.2.2) (((ks.take w.1).filter (lsel x.o)).map Value.string), own 5 1 (.slice dp 0 dc) [], own 9 1 (.slice p17 ks.length c17) (ks.map Value.string), BktAt m M, pt b5 (.cells [Value.int .i64 200, .int .u64 0, .slice w.2.1 ((ks.take w.1).filter (lsel x.o)).length w.2.2, .bool false, .slice dp 0 dc].toArray 37 (0, 0)), pt b4 (.cells [Value.int .i64 0, .int .u64 0, .slice none 0 0, .bool false, .slice none 0 0].toArray 37 (0, 0)), pt b3 (.cells x.cells.toArray 27 (0, 0)), G, F]) (0, kp, kc) ⟨Nat.zero_le _, Nat.zero_le _⟩ ⟨rfl, rfl, rfl, rfl, rfl, rfl, trivial⟩ rfl fun w hw => ?_
     obtain ⟨j, pa, ca⟩ := w
     obtain ⟨hj, ha⟩ := hw
     dsimp only at hj ha
     refine J.seq <| J.region <| J.p rfl (Q.lss rfl rfl) <| J.nil <| J.then_n <| J.seq ?_
     refine J.cases 20 rfl (fun hc20 => ?_) (fun hc20 => ?_)
     ·
      replace hc20 := X.nm hc20
      try (first | (cases hc20; done) | (exfalso; simp at hc20; done))
      all_goals
       refine J.cond_t rfl <| J.cskip <| J.then_n <| J.seq <| J.block <| J.seq ?_
       obtain ⟨bb, ob, hpp, hrd⟩ := hs17.some_ (by omega)
       obtain ⟨a, hka⟩ : ∃ a, ks[j]? = some a := ⟨_, List.getElem?_eq_getElem (by omega)⟩
       have hft := filter_take (p := lsel x.o) hka
       refine J.slot 17 (.slice (some ⟨bb, ob, none⟩) ks.length c17) rfl (by rw [hpp]) ?_
       refine J.region <| J.p rfl (Q.ia Tryz.runUnderlying35 Tryz.sizeOf9 rfl rfl (by omega) (by omega)) ?_
       refine J.p rfl (Q.ld Tryz.isAgg9 rfl (((hrd j (.string a) (by simp [hka])).within (i := 2) rfl).cast (by simp))) ?_
       refine J.p rfl (Q.asg rfl) <| J.nil <| J.then_n <| J.seq <| J.seq <| J.region <| J.m rfl <| J.p rfl (Q.fa (n := 3) Tryz.runUnderlying27 rfl rfl Tryz.sizeOf9 rfl) ?_
       refine J.p rfl (Q.ld Tryz.isAgg9 rfl (rdI (by exact rfl))) ?_
       refine J.call Tryz.call95 (hasPrefix_spec a x.o.key) [] rfl rfl rfl rfl ?_
       rintro _ _ ⟨rfl, rfl⟩
       refine J.norm rfl <| J.p rfl (Q.not rfl) <| J.m rfl ?_
       refine J.cases 28 rfl (fun hb28 => ?_) (fun hb28 => ?_)
       ·
        replace hb28 := X.nm hb28
        try (first | (cases hb28; done) | (exfalso; simp at hb28; done))
        all_goals
         refine J.skip rfl rfl <| J.skip rfl rfl <| J.skip rfl rfl <| J.skip rfl rfl <| J.p rfl (Q.pick_t rfl rfl) <| J.nil <| J.then_n <| J.cond_t rfl <| J.exit <| J.then_x <| J.blk_x <| J.then_n <| J.region <| J.p rfl (Q.add64 rfl rfl (by omega)) <| J.m rfl <| J.nil ?_
         have hsel : lsel x.o a = false := by unfold lsel; first | (have h1 := hb28; have h2 : ltB x.o.after a = false := (by simpa using hc33); revert h1 h2; cases beg a x.o.key <;> cases ltB x.o.after a <;> decide) | (have h1 := hb28; revert h1; cases beg a x.o.key <;> cases ltB x.o.after a <;> decide)
         rw [hsel] at hft
         simp only [Bool.false_eq_true, if_false, List.append_nil] at hft
         refine J.again (j + 1, pa, ca) ⟨by show j + 1 ≤ _; omega, by show ((ks.take (j + 1)).filter (lsel x.o)).length ≤ _; rw [hft]; exact ha⟩ (by show ks.length - (j + 1) < ks.length - j; omega) ⟨rfl, rfl, rfl, (by show _ = some (Value.slice p17 _ _); rw [hpp]; rfl), rfl, rfl, trivial⟩ ?_
         show _ = [own 9 1 (.slice pa ((ks.take (j + 1)).filter (lsel x.o)).length ca) (((ks.take (j + 1)).filter (lsel x.o)).map Value.string), _, _, _, pt b5 (.cells [Value.int .i64 200, .int .u64 0, .slice pa ((ks.take (j + 1)).filter (lsel x.o)).length ca, .bool false, .slice dp 0 dc].toArray 37 (0, 0)), _, _, _, _]
         rw [hft]
       replace hb28 := X.nm hb28
       try (first | (cases hb28; done) | (exfalso; simp at hb28; done))
       all_goals
        refine J.m rfl <| J.p rfl (Q.fa (n := 4) Tryz.runUnderlying27 rfl rfl Tryz.sizeOf9 rfl) ?_
        refine J.p rfl (Q.ld Tryz.isAgg9 rfl (rdI (by exact rfl))) ?_
        refine J.p rfl (leqs rfl rfl) ?_
        refine J.p rfl (Q.pick_f rfl rfl) <| J.nil <| J.then_n ?_
        refine J.cases 33 rfl (fun hc33 => ?_) (fun hc33 => ?_)
        ·
         replace hc33 := X.nm hc33
         try (first | (cases hc33; done) | (exfalso; simp at hc33; done))
         all_goals
          refine J.cond_t rfl <| J.exit <| J.then_x <| J.blk_x <| J.then_n <| J.region <| J.p rfl (Q.add64 rfl rfl (by omega)) <| J.m rfl <| J.nil ?_
          have hsel : lsel x.o a = false := by unfold lsel; first | (have h1 := hb28; have h2 : ltB x.o.after a = false := (by simpa using hc33); revert h1 h2; cases beg a x.o.key <;> cases ltB x.o.after a <;> decide) | (have h1 := hb28; revert h1; cases beg a x.o.key <;> cases ltB x.o.after a <;> decide)
          rw [hsel] at hft
          simp only [Bool.false_eq_true, if_false, List.append_nil] at hft
          refine J.again (j + 1, pa, ca) ⟨by show j + 1 ≤ _; omega, by show ((ks.take (j + 1)).filter (lsel x.o)).length ≤ _; rw [hft]; exact ha⟩ (by show ks.length - (j + 1) < ks.length - j; omega) ⟨rfl, rfl, rfl, (by show _ = some (Value.slice p17 _ _); rw [hpp]; rfl), rfl, rfl, trivial⟩ ?_
          show _ = [own 9 1 (.slice pa ((ks.take (j + 1)).filter (lsel x.o)).length ca) (((ks.take (j + 1)).filter (lsel x.o)).map Value.string), _, _, _, pt b5 (.cells [Value.int .i64 200, .int .u64 0, .slice pa ((ks.take (j + 1)).filter (lsel x.o)).length ca, .bool false, .slice dp 0 dc].toArray 37 (0, 0)), _, _, _, _]
          rw [hft]
        replace hc33 := X.nm hc33
        try (first | (cases hc33; done) | (exfalso; simp at hc33; done))
        all_goals
         refine J.cond_f rfl <| J.cskip <| J.then_n <| J.seq <| J.seq <| J.region <| J.p rfl (Q.fa (n := 2) Tryz.runUnderlying37 rfl rfl Tryz.sizeOf35 rfl) ?_
         refine J.p rfl (Q.ld Tryz.isAgg35 rfl (rdI (by exact rfl))) ?_
         refine J.p rfl (Q.lenSl Tryz.runUnderlying35 rfl) <| J.p rfl (Q.fa (n := 5) Tryz.runUnderlying27 rfl rfl Tryz.sizeOf3 rfl) ?_
         refine J.p rfl (Q.ld Tryz.isAgg3 rfl (rdI (by exact rfl))) ?_
         refine J.p rfl (Q.eql rfl rfl) <| J.p rfl (Q.fa (n := 3) Tryz.runUnderlying37 rfl rfl Tryz.sizeOf4 rfl) ?_
         refine J.stI rfl Tryz.sizeOf4 rfl rfl rfl (by exact rfl) (by exact rfl) (by exact rfl) ?_
         refine J.nil <| J.then_n <| J.seq <| J.region <| J.p rfl (Q.fa (n := 3) Tryz.runUnderlying37 rfl rfl Tryz.sizeOf4 rfl) ?_
         refine J.p rfl (Q.ld Tryz.isAgg4 rfl (rdI (by exact rfl))) ?_
         refine J.nil <| J.then_n ?_
         refine J.cases 42 rfl (fun hc42 => ?_) (fun hc42 => ?_)
         ·
          replace hc42 := X.nm hc42
          try (first | (cases hc42; done) | (exfalso; simp at hc42; done))
          all_goals
           refine J.cond_t rfl <| J.exit <| J.then_x <| J.blk_o rfl <| J.then_x <| J.lp_x <| J.blk_x ?_
           have hsel : lsel x.o a = true := by unfold lsel; first | (have h1 := hb28; have h2 : ltB x.o.after a = true := (by simpa using hc33); revert h1 h2; cases beg a x.o.key <;> cases ltB x.o.after a <;> decide) | (have h1 := hb28; revert h1; cases beg a x.o.key <;> cases ltB x.o.after a <;> decide)
           obtain ⟨r, hr⟩ := filter_more hka hsel
           have hdt := decide_eq_true hc42
           dsimp only at hc42
           have hal : ((ks.take j).filter (lsel x.o)).length = x.o.n.toNat := by omega
           refine J.keep [0, 1, 3, 4, 5, 7, 8] rfl ?_
           refine J.meet ((ks.take j).filter (lsel x.o), pa, ca, true) ⟨?_, ?_⟩ ⟨rfl, rfl, trivial⟩ ?_
           · show _ = List.take _ _
             rw [hlst, hr, ← hal, List.take_left]
           · show true = _
             rw [hlst, hr, ← hal, List.length_append, List.length_cons]
             simp
           · rw [hdt]
         replace hc42 := X.nm hc42
         try (first | (cases hc42; done) | (exfalso; simp at hc42; done))
         all_goals
          refine J.cond_f rfl <| J.cskip <| J.then_n <| J.region <| J.p rfl (Q.fa (n := 2) Tryz.runUnderlying37 rfl rfl Tryz.sizeOf35 rfl) ?_
          refine J.p rfl (Q.ld Tryz.isAgg35 rfl (rdI (by exact rfl))) ?_
          refine J.m rfl ?_
          refine J.c rfl rfl (C.bslG (l := [_]) Tryz.runUnderlying35 Tryz.sizeOf9 Tryz.zeroValue9 (by decide) rfl rfl rfl rfl rfl) ?_
          rintro _ _ ⟨b46, rfl, rfl⟩
          refine J.norm rfl ?_
          refine J.conv (Y := own 9 1 (.slice (some ⟨b46, 0, none⟩) 1 1) [.string a]) 0 rfl (own_of_block rfl) ?_
          refine J.slr1 0 rfl fun hs46 => ?_
          refine J.c rfl rfl (C.app (i := 1) Tryz.runUnderlying35 Tryz.runUnderlying35 Tryz.typeInfo9 Tryz.sizeOf9 Tryz.zeroValue9 rfl rfl rfl (hs46.within (i := 0) rfl) (by intro v hv; simp at hv; subst hv; rfl) (by rw [show Tryz.t9.bytes = 16 from rfl]; show (_ + 1) * 16 ≤ _; dsimp only; omega) (by decide)) ?_
          rintro _ _ ⟨p47, c47, rfl, rfl⟩
          refine J.norm rfl <| J.p rfl (Q.fa (n := 2) Tryz.runUnderlying37 rfl rfl Tryz.sizeOf35 rfl) ?_
          refine J.stI rfl Tryz.sizeOf35 rfl rfl rfl (by exact rfl) (by exact rfl) (by exact rfl) ?_
          refine J.nil <| J.blk_n <| J.then_n <| J.region <| J.p rfl (Q.add64 rfl rfl (by omega)) <| J.m rfl <| J.nil ?_
          have hsel : lsel x.o a = true := by unfold lsel; first | (have h1 := hb28; have h2 : ltB x.o.after a = true := (by simpa using hc33); revert h1 h2; cases beg a x.o.key <;> cases ltB x.o.after a <;> decide) | (have h1 := hb28; revert h1; cases beg a x.o.key <;> cases ltB x.o.after a <;> decide)
          have e1 : (ks.take (j + 1)).filter (lsel x.o) = (ks.take j).filter (lsel x.o) ++ [a] := by rw [hft, hsel]; rfl
          have hdf := decide_eq_false hc42
          refine J.keep [1, 2, 3, 4, 5, 6, 7, 8, 9] rfl ?_
          refine J.again (j + 1, p47, c47) ⟨by show j + 1 ≤ _; omega, by show ((ks.take (j + 1)).filter (lsel x.o)).length ≤ _; rw [e1, List.length_append]; dsimp only at hc42; simp only [List.length_cons, List.length_nil]; omega⟩ (by show ks.length - (j + 1) < ks.length - j; omega) ⟨rfl, rfl, rfl, (by show _ = some (Value.slice p17 _ _); rw [hpp]; rfl), rfl, rfl, trivial⟩ ?_
          show _ = [own 9 1 (.slice p47 ((ks.take (j + 1)).filter (lsel x.o)).length c47) (((ks.take (j + 1)).filter (lsel x.o)).map Value.string), _, _, _, pt b5 (.cells [Value.int .i64 200, .int .u64 0, .slice p47 ((ks.take (j + 1)).filter (lsel x.o)).length c47, .bool false, .slice dp 0 dc].toArray 37 (0, 0)), _, _, _, _]
          rw [e1, List.length_append, List.map_append, hdf]
          rfl
     replace hc20 := X.nm hc20
     try (first | (cases hc20; done) | (exfalso; simp at hc20; done))
     all_goals
      refine J.cond_f rfl <| J.exit <| J.then_x <| J.lp_x <| J.blk_x ?_
      have hjn : j = ks.length := by omega
      subst hjn
      rw [List.take_length] at ha ⊢
      refine J.keep [0, 1, 3, 4, 5, 7, 8] rfl ?_
      refine J.meet (ks.filter (lsel x.o), pa, ca, false) ⟨?_, ?_⟩ ⟨rfl, rfl, trivial⟩ rfl
      · show _ = List.take _ _
        rw [hlst, List.take_of_length_le ha]
      · show false = _
        rw [hlst]
        simp; omega
    obtain ⟨kl, pk, ck, more⟩ := w
    obtain ⟨h1, h2⟩ := hw
    dsimp only at h1 h2
    refine J.seq <| J.region ?_
    refine J.p rfl (Q.ldN (vs := [_, _, _, _, _]) Tryz.isAgg37 Tryz.sizeOf37 rfl rnI) ?_
    refine J.stAI (vs := [_, _, _, _, _]) rfl Tryz.sizeOf37 rfl rfl (by exact rfl) (by exact rfl) (by exact rfl) ?_
    refine J.nil <| J.then_n <| J.cret ?_
    refine J.pack [0, 1] rfl ?_
    refine J.retC [1, 0, 4, 5] (vs := [_, _, _, _, _]) rfl rfl Tryz.isAgg37 Tryz.sizeOf37 (ReadsN.pt 3 rfl) rfl (B := [_, _, _]) ⟨⟨⟨200, 0, kl, more, []⟩, pk, ck, dp, dc⟩, rfl, ?_, rfl⟩
    rw [h1, h2]
theorem list_no (hB : sget x.o.bucket M.buckets = none) : FSpec Tryz.prog 67 [.pointer (some ⟨m, 0, none⟩), .agg x.cells.toArray] [BktAt m M, G] (ActR m G (st 404, M)) := (list_no_all m M hM hK hk x G hx hc h6).1 hB
theorem list_yes {objs : Objs} (hB : sget x.o.bucket M.buckets = some objs) : FSpec Tryz.prog 67 [.pointer (some ⟨m, 0, none⟩), .agg x.cells.toArray] [BktAt m M, G] (ActR m G (⟨200, 0, (listed x.o objs).take x.o.n.toNat, decide (x.o.n.toNat < (listed x.o objs).length), []⟩, M)) := (list_no_all m M hM hK hk x G hx hc h6).2 hB
theorem list_spec : FSpec Tryz.prog 67 [.pointer (some ⟨m, 0, none⟩), .agg x.cells.toArray] [BktAt m M, G] (ActR m G (M.list x.o)) := by
  unfold BM.list
  cases hB : sget x.o.bucket M.buckets with
  | none => exact list_no m M hM hK hk x G hx hc h6 hB
  | some objs => exact list_yes m M hM hK hk x G hx hc h6 hB
end

theorem do_all {k : Nat} (m : Nat) (M : BM) (hM : M.ok k) (hK : M.kok) (hk : k ≤ 32768) (x : OW) (G : Assn) (hx : x.ok G) : FSpec Tryz.prog 10 [.pointer (some ⟨m, 0, none⟩), .agg x.cells.toArray] [BktAt m M, G] (ActR m G (M.run x.o)) :=
  do_spec m M hM x G hx fun hc => hasAct m M hM x G hx hc fun h6 => list_spec m M hM hK hk x G hx hc h6
end Go.Proofs.YtdancegklkifaaaGreat

