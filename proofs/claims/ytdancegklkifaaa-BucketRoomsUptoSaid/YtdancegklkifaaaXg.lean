/-
  Regions whose order Go leaves open: operations that leave memory as it was may be walked in one order; the others, in whatever order they may come. No program in sight.
-/
import Derived.Test.YtdancegklkifaaaXf
namespace Go.X
set_option linter.unusedSectionVars false
set_option linter.unusedSimpArgs false
set_option linter.unusedVariables false

def dirs (o : Oper) : List Nat := o.after.toList.filterMap fun e => if Region.binds .any e then some e.on else none

def mask1 (acc : List Nat) : List Nat → Nat
  | [] => 0
  | k :: ks => (1 <<< k) ||| ((acc[k]?).getD 0) ||| mask1 acc ks

def masks : List Nat → List Oper → List Nat
  | acc, [] => acc
  | acc, o :: r => masks (acc ++ [mask1 acc (dirs o)]) r

def memN (n : Nat) : List Nat → Bool
  | [] => false
  | k :: l => bif Nat.beq n k then true else memN n l

theorem memN_iff {n : Nat} : ∀ {l : List Nat}, memN n l = true ↔ n ∈ l
  | [] => by simp [memN]
  | k :: l => by
    simp only [memN, List.mem_cons]
    cases h : Nat.beq n k with
    | true => rw [beq_iff] at h; simp [h]
    | false =>
      have : n ≠ k := by rintro rfl; rw [Nat.beq_refl] at h; cases h
      simp [this, memN_iff (l := l)]

def allN (S : List Nat) : List Nat → Bool
  | [] => true
  | k :: l => bif memN k S then allN S l else false

theorem allN_iff {S : List Nat} : ∀ {l : List Nat}, allN S l = true ↔ ∀ k, k ∈ l → k ∈ S
  | [] => by simp [allN]
  | k :: l => by
    simp only [allN]
    cases h : memN k S with
    | true => simp [allN_iff (l := l), memN_iff.1 h]
    | false =>
      have : k ∉ S := fun e => by rw [memN_iff.2 e] at h; cases h
      simp [this]

/-- What a region must be like: edges go back; a quiet operation's slot is written once and read behind it alone; another's slot is not touched beside it. -/
def regOK (l : List Oper) (NQ : List Nat) : Bool :=
  let ms := masks [] l
  l.zipIdx.all fun (o, i) =>
    (match o.op with | .select .. => false | _ => true) && (dirs o).all (fun k => Nat.blt k i) &&
    (if memN i NQ then
      match o.dst with
      | none => true
      | some d => l.zipIdx.all fun (p, k) => Nat.beq k i || !((p.looksAt l.toArray).contains d || p.dst == some d) || ((ms[k]?).getD 0).testBit i || ((ms[i]?).getD 0).testBit k
    else
      match o.dst with
      | none => false
      | some d => !(o.looksAt l.toArray).contains d && l.zipIdx.all fun (p, k) => Nat.beq k i || ((!(p.looksAt l.toArray).contains d || ((ms[k]?).getD 0).testBit i) && !(p.dst == some d)))

/-! ### Ancestors -/

theorem mask1_bit (acc : List Nat) (j : Nat) : ∀ ks : List Nat, (mask1 acc ks).testBit j = true → ∃ k, k ∈ ks ∧ (k = j ∨ ((acc[k]?).getD 0).testBit j = true)
  | [], h => by simp [mask1] at h
  | k :: ks, h => by
    simp only [mask1, Nat.testBit_or, Bool.or_eq_true] at h
    rcases h with (h | h) | h
    · refine ⟨k, by simp, .inl ?_⟩
      rw [Nat.one_shiftLeft, Nat.testBit_two_pow] at h
      simpa using h
    · exact ⟨k, by simp, .inr h⟩
    · obtain ⟨k', h1, h2⟩ := mask1_bit acc j ks h
      exact ⟨k', by simp [h1], h2⟩

theorem masks_prefix : ∀ (l : List Oper) (acc : List Nat) (i : Nat), i < acc.length → (masks acc l)[i]? = acc[i]?
  | [], acc, i, _ => rfl
  | o :: r, acc, i, h => by
    rw [masks, masks_prefix r _ i (by simp; omega), List.getElem?_append_left h]

theorem masks_at : ∀ (l : List Oper) (acc : List Nat) (i : Nat) (o : Oper), l[i]? = some o → ∃ acc', (masks acc l)[acc.length + i]? = some (mask1 acc' (dirs o)) ∧ (∀ k, k < acc.length + i → acc'[k]? = (masks acc l)[k]?) ∧ acc'.length = acc.length + i
  | [], _, _, _, h => by simp at h
  | o :: r, acc, 0, p, h => by
    simp at h; subst h
    refine ⟨acc, ?_, ?_, by simp⟩
    · rw [masks, masks_prefix r _ _ (by simp)]; simp
    · intro k hk
      rw [masks, masks_prefix r _ k (by simp; omega), List.getElem?_append_left (by omega)]
  | o :: r, acc, i + 1, p, h => by
    obtain ⟨acc', h1, h2, h3⟩ := masks_at r (acc ++ [mask1 acc (dirs o)]) i p (by simpa using h)
    refine ⟨acc', ?_, ?_, by simp at h3; omega⟩
    · rw [masks, ← h1]; congr 1; simp; omega
    · intro k hk; rw [masks]; exact h2 k (by simp; omega)

theorem anc_closed {l : List Oper} {T : Nat → Prop} (hT : ∀ i o, l[i]? = some o → T i → ∀ k, k ∈ dirs o → T k) (hb : ∀ i o, l[i]? = some o → ∀ k, k ∈ dirs o → k < i) :
    ∀ (i j : Nat) (o : Oper), l[i]? = some o → (∀ k, k ∈ dirs o → T k) → (((masks [] l)[i]?).getD 0).testBit j = true → T j := by
  intro i
  induction i using Nat.strongRecOn with
  | _ i ih =>
    intro j o ho hd hbit
    obtain ⟨acc', h1, h2, h3⟩ := masks_at l [] i o ho
    simp only [List.length_nil, Nat.zero_add] at h1 h2 h3
    rw [h1] at hbit
    simp only [Option.getD_some] at hbit
    obtain ⟨k, hk, hk'⟩ := mask1_bit acc' j (dirs o) hbit
    have hki := hb i o ho k hk
    rcases hk' with rfl | hk'
    · exact hd k hk
    · rw [h2 k hki] at hk'
      have hkl : k < l.length := by
        have := (List.getElem?_eq_some_iff.1 ho).1; omega
      exact ih k hki j l[k] (List.getElem?_eq_getElem hkl) (fun q hq => hT k l[k] (List.getElem?_eq_getElem hkl) (hd k hk) q hq) hk'

/-! ### What the check gives -/
structure RegOK (l : List Oper) (NQ : List Nat) : Prop where
  sel : ∀ (i : Nat) (o : Oper) (cs : Array SelectCase) (b : Bool), l[i]? = some o → o.op ≠ .select cs b
  back : ∀ i o, l[i]? = some o → ∀ k, k ∈ dirs o → k < i
  chain : ∀ i o d, l[i]? = some o → i ∈ NQ → o.dst = some d → ∀ k p, l[k]? = some p → k ≠ i → (d ∈ p.looksAt l.toArray ∨ p.dst = some d) → (((masks [] l)[k]?).getD 0).testBit i = true ∨ (((masks [] l)[i]?).getD 0).testBit k = true
  quiet : ∀ i o, l[i]? = some o → i ∉ NQ → ∃ d, o.dst = some d ∧ d ∉ o.looksAt l.toArray ∧ ∀ k p, l[k]? = some p → k ≠ i → (d ∈ p.looksAt l.toArray → (((masks [] l)[k]?).getD 0).testBit i = true) ∧ p.dst ≠ some d

theorem zipIdx_all {l : List Oper} {f : Oper × Nat → Bool} (h : l.zipIdx.all f = true) {i : Nat} {o : Oper} (ho : l[i]? = some o) : f (o, i) = true := by
  rw [List.all_eq_true] at h
  refine h (o, i) ?_
  rw [List.mem_iff_getElem?]
  exact ⟨i, by rw [List.getElem?_zipIdx, ho]; simp⟩

theorem regOK_spec {l : List Oper} {NQ : List Nat} (h : regOK l NQ = true) : RegOK l NQ := by
  unfold regOK at h
  simp only at h
  have hh : ∀ i o, l[i]? = some o → _ := fun i o ho => zipIdx_all h ho
  refine ⟨?_, ?_, ?_, ?_⟩
  · intro i o cs b ho e
    have := hh i o ho
    simp [e] at this
  · intro i o ho k hk
    have := hh i o ho
    simp only [Bool.and_eq_true, List.all_eq_true] at this
    have := this.1.2 k hk
    simpa [Nat.blt_eq] using this
  · intro i o d ho hi hd k p hp hk ht
    have := hh i o ho
    simp only [Bool.and_eq_true, memN_iff.2 hi, if_true, hd] at this
    have := zipIdx_all this.2 hp
    have hkb : Nat.beq k i = false := by
      cases hb : Nat.beq k i with
      | true => exact absurd ((beq_iff _ _).1 hb) hk
      | false => rfl
    simp only [hkb, Bool.false_or, Bool.or_eq_true, Bool.not_eq_true'] at this
    rcases this with (h1 | h1) | h1
    · exfalso
      rcases ht with ht | ht
      · have : (p.looksAt l.toArray).contains d = true := by simpa using ht
        rw [this] at h1; simp at h1
      · rw [ht] at h1; simp at h1
    · exact .inl h1
    · exact .inr h1
  · intro i o ho hi
    have := hh i o ho
    have hm : memN i NQ = false := by
      cases hb : memN i NQ with
      | true => exact absurd (memN_iff.1 hb) hi
      | false => rfl
    simp only [Bool.and_eq_true, hm] at this
    cases hd : o.dst with
    | none => rw [hd] at this; simp at this
    | some d =>
      rw [hd] at this
      simp only [Bool.false_eq_true, if_false, Bool.and_eq_true] at this
      refine ⟨d, rfl, fun hm => ?_, ?_⟩
      · have h1 : (o.looksAt l.toArray).contains d = true := by simpa using hm
        rw [h1] at this; simp at this
      intro k p hp hk
      have := zipIdx_all this.2.2 hp
      have hkb : Nat.beq k i = false := by
        cases hb : Nat.beq k i with
        | true => exact absurd ((beq_iff _ _).1 hb) hk
        | false => rfl
      simp only [hkb, Bool.false_or, Bool.and_eq_true, Bool.or_eq_true, Bool.not_eq_true'] at this
      refine ⟨fun ht => ?_, fun e => ?_⟩
      · rcases this.1 with h1 | h1
        · have : (p.looksAt l.toArray).contains d = true := by simpa using ht
          rw [this] at h1; cases h1
        · exact h1
      · rw [e] at this; simp at this

/-! ### The game -/
section
variable (P : Program) (W0 : World) (N : Nat) (l : List Oper) (NQ : List Nat) (Q : Exit → Act → World → Prop)

/-- An operation's value is known, though it may not have run. -/
def Pend (o : Oper) (L : Slots) (D : List Assn) (v : Value) : Prop :=
  (guardL l.toArray o.guard L = some true ∧ OpQ P o.op o.type L D v) ∨ (guardL l.toArray o.guard L = some false ∧ v = undef)

structure Inv (S : List Nat) (L : Slots) (D E : List Assn) (listed : Array Bool) (a : Act) (w : World) : Prop where
  size : listed.size = l.length
  tsz : a.tmps.size = N
  defs : a.defers = []
  sat : Sat W0 w (D ++ E)
  sub : ∀ i, listed.getD i false = true → i ∈ S
  closed : ∀ i o, l[i]? = some o → listed.getD i false = true → ∀ k, k ∈ dirs o → listed.getD k false = true
  scl : ∀ i o, l[i]? = some o → i ∈ S → ∀ k, k ∈ dirs o → k ∈ S
  slots : ∀ s v, find s L = some v → (∀ i o, i ∈ S → l[i]? = some o → listed.getD i false = false → o.dst ≠ some s) → a.tmps[s]? = some v
  pend : ∀ i, i ∈ S → listed.getD i false = false → ∃ o d v, l[i]? = some o ∧ i ∉ NQ ∧ o.dst = some d ∧ d < N ∧ find d L = some v ∧ Pend P l o L D v

def unl (listed : Array Bool) : Nat := ((List.range l.length).filter fun i => !listed.getD i true).length

structure RG (S : List Nat) (L : Slots) (D E : List Assn) : Prop where
  run : ∀ m listed a w, Inv P W0 N l NQ S L D E listed a w → unl l listed ≤ m → wpAny P .any l.toArray Q m listed a w
end

section
variable {P : Program} {W0 : World} {N : Nat} {l : List Oper} {NQ : List Nat} {Q : Exit → Act → World → Prop} {S : List Nat} {L : Slots} {D E : List Assn} {listed : Array Bool} {a : Act} {w : World}

theorem filter_lt {f g : Nat → Bool} : ∀ {r : List Nat} {i : Nat}, i ∈ r → f i = true → g i = false → (∀ j, g j = true → f j = true) → (r.filter g).length < (r.filter f).length
  | [], i, h, _, _, _ => by simp at h
  | j :: r, i, h, hf, hg, hs => by
    have hle : (r.filter g).length ≤ (r.filter f).length := by
      clear h
      induction r with
      | nil => simp
      | cons q r ih =>
        simp only [List.filter_cons]
        cases hq : g q with
        | true => simp [hs q hq, ih]
        | false =>
          cases f q <;> simp <;> omega
    rcases List.mem_cons.1 h with rfl | h
    · simp [List.filter_cons, hf, hg]; omega
    · have ih := filter_lt (r := r) h hf hg hs
      simp only [List.filter_cons]
      cases hq : g j with
      | true => simp [hs j hq, ih]
      | false => cases f j <;> simp <;> omega

theorem unl_set {i : Nat} (hs : listed.size = l.length) (hi : i < l.length) (h : listed.getD i true = false) : unl l (listed.setIfInBounds i true) < unl l listed := by
  refine filter_lt (i := i) (by simpa using hi) (by simp [h]) ?_ ?_
  · simp [hs, hi]
  · intro j hj
    by_cases hij : i = j
    · subst hij; simp [hs, hi] at hj
    · rw [getD_set_ne true hij] at hj; exact hj

theorem getD_set_self {i : Nat} (hi : i < listed.size) (d : Bool) : (listed.setIfInBounds i true).getD i d = true := by simp [hi]

/-- Operands of a ready operation are known. -/
theorem Inv.known (hR : RegOK l NQ) (inv : Inv P W0 N l NQ S L D E listed a w) {i : Nat} {o : Oper} (ho : l[i]? = some o) (hr : ∀ k, k ∈ dirs o → listed.getD k false = true) {s : Nat} (hs : s ∈ o.looksAt l.toArray) (v : Value) (e : find s L = some v)
    (hself : o.dst ≠ some s ∨ i ∉ S) : a.tmps[s]? = some v := by
  refine inv.slots s v e ?_
  intro j p hj hp hl hd
  by_cases hij : j = i
  · subst hij
    rw [ho] at hp; cases hp
    rcases hself with h | h
    · exact h hd
    · exact h hj
  · obtain ⟨p', d', v', h1, h2, h3, _, _, _⟩ := inv.pend j hj hl
    rw [hp] at h1; cases h1
    obtain ⟨d2, h4, _, h5⟩ := hR.quiet j p hp h2
    rw [hd] at h4; cases h4
    have hbit := (h5 i o ho (fun e => hij e.symm)).1 hs
    have := anc_closed (T := fun k => listed.getD k false = true) inv.closed hR.back i j o ho hr hbit
    rw [hl] at this; cases this

theorem looksAt_op {o : Oper} {s : Nat} (h : Operand.tmp s ∈ o.op.operands.toList) : s ∈ o.looksAt l.toArray :=
  List.mem_append_left _ (List.mem_filterMap.2 ⟨_, h, rfl⟩)

theorem agree_of {o : Oper} (h : ∀ s v, s ∈ o.looksAt l.toArray → find s L = some v → a.tmps[s]? = some v) : Agree a L o.op := by
  intro x hx u e
  cases x with
  | tmp t =>
    have := h t u (looksAt_op hx) e
    simp [Act.eval, Array.getD_eq_getD_getElem?, this]
  | const u => simpa [ev, Act.eval] using e
  | global g => simpa [ev, Act.eval] using e
  | func g => simpa [ev, Act.eval] using e

theorem wanted_of {o : Oper} {b : Bool} (h : ∀ s v, s ∈ o.looksAt l.toArray → find s L = some v → a.tmps[s]? = some v) (e : guardL l.toArray o.guard L = some b) : Region.wanted o (yielded l.toArray a.tmps) = b := by
  unfold guardL at e
  unfold Region.wanted
  cases hg : o.guard with
  | none => rw [hg] at e; simpa using e
  | some p =>
    obtain ⟨j, want⟩ := p
    rw [hg] at e
    simp only at e ⊢
    unfold yielded
    cases hd : (l.toArray[j]?).bind (·.dst) with
    | none => rw [hd] at e; cases e
    | some d =>
      rw [hd] at e
      simp only at e
      cases hf : find d L with
      | none => rw [hf] at e; cases e
      | some v =>
        rw [hf] at e
        have ht := h d v (List.mem_append_right _ (by rw [hg]; simp only; rw [hd]; simp)) hf
        simp only [Option.bind_some, ht]
        cases v <;> simp at e ⊢ <;> first | exact e | (rw [← e]; cases want <;> rename_i q <;> cases q <;> rfl) | exact e.symm

/-- More slots known: what hung on none of them stays. -/
theorem Pend.more {o : Oper} {v u : Value} {d : Nat} (h : Pend P l o L D v) (hd : d ∉ o.looksAt l.toArray) : Pend P l o ((d, u) :: L) D v := by
  have hfind : ∀ s, s ∈ o.looksAt l.toArray → find s ((d, u) :: L) = find s L := by
    intro s hs
    simp only [find]
    cases hb : Nat.beq s d with
    | true => rw [beq_iff] at hb; subst hb; exact absurd hs hd
    | false => rfl
  have hg : guardL l.toArray o.guard ((d, u) :: L) = guardL l.toArray o.guard L := by
    unfold guardL
    cases hg : o.guard with
    | none => rfl
    | some p =>
      obtain ⟨j, want⟩ := p
      simp only
      cases hd : (l.toArray[j]?).bind (·.dst) with
      | none => rfl
      | some e =>
        simp only
        rw [hfind e (List.mem_append_right _ (by rw [hg]; simp only; rw [hd]; simp))]
  rcases h with ⟨h1, h2⟩ | ⟨h1, h2⟩
  · refine .inl ⟨by rw [hg]; exact h1, ⟨fun dst pos aft g a W0 w F ag s => h2.run dst pos aft g a W0 w F ?_ s⟩⟩
    intro x hx u' e
    refine ag x hx u' ?_
    cases x with
    | tmp t => simp only [ev] at e ⊢; rw [hfind t (looksAt_op hx)]; exact e
    | _ => exact e
  · exact .inr ⟨by rw [hg]; exact h1, h2⟩

theorem get_of_toArray {i : Nat} {o : Oper} : l.toArray[i]? = some o ↔ l[i]? = some o := by simp

/-- One that was derived runs. -/
theorem Inv.exec (hR : RegOK l NQ) (inv : Inv P W0 N l NQ S L D E listed a w) {i : Nat} {o : Oper} (ho : l[i]? = some o) (hi : i ∈ S) (hn : listed.getD i false = false) (hr : ∀ k, k ∈ dirs o → listed.getD k false = true)
    {K : Act → World → Prop} (k : ∀ a' w', Inv P W0 N l NQ S L D E (listed.setIfInBounds i true) a' w' → K a' w') : wpOp P l.toArray Q i K a w := by
  obtain ⟨o', d, v, h1, h2, h3, h4, h5, h6⟩ := inv.pend i hi hn
  rw [ho] at h1; cases h1
  have hil : i < listed.size := by rw [inv.size]; exact (List.getElem?_eq_some_iff.1 ho).1
  obtain ⟨d', hd', hdn, _⟩ := hR.quiet i o ho h2
  rw [h3] at hd'; cases hd'
  have hkn : ∀ s v, s ∈ o.looksAt l.toArray → find s L = some v → a.tmps[s]? = some v := fun s v hs e => inv.known hR ho hr hs v e (.inl (by rw [h3]; simp only [ne_eq, Option.some.injEq]; rintro rfl; exact hdn hs))
  have next : ∀ w', Sat W0 w' (D ++ E) → Inv P W0 N l NQ S L D E (listed.setIfInBounds i true) (a.put o.dst v) w' := by
    intro w' hs'
    refine ⟨by simp [inv.size], by rw [h3]; simp [Act.put, inv.tsz], by rw [h3]; exact inv.defs, hs', ?_, ?_, inv.scl, ?_, ?_⟩
    · intro j hj
      by_cases hij : i = j
      · subst hij; exact hi
      · rw [getD_set_ne false hij] at hj; exact inv.sub j hj
    · intro j p hp hj q hq'
      by_cases hij : i = j
      · subst hij; rw [ho] at hp; cases hp; exact getD_set_true (hr q hq')
      · rw [getD_set_ne false hij] at hj; exact getD_set_true (inv.closed j p hp hj q hq')
    · intro s u e hp
      rw [h3]
      simp only [Act.put, Array.getElem?_setIfInBounds]
      by_cases hsd : d = s
      · subst hsd; rw [h5] at e; cases e; simp [inv.tsz, h4]
      · rw [if_neg hsd]
        refine inv.slots s u e ?_
        intro j p hj hp' hl
        by_cases hij : i = j
        · subst hij; rw [ho] at hp'; cases hp'; rw [h3]; simpa using hsd
        · exact hp j p hj hp' (by rw [getD_set_ne false hij]; exact hl)
    · intro j hj hl
      by_cases hij : i = j
      · subst hij; rw [getD_set_self hil] at hl; cases hl
      · rw [getD_set_ne false hij] at hl; exact inv.pend j hj hl
  unfold wpOp
  rw [get_of_toArray.2 ho]
  simp only
  rcases h6 with ⟨g1, q⟩ | ⟨g1, rfl⟩
  · rw [if_pos (wanted_of hkn g1)]
    obtain ⟨dst, op, ty, pos, aft, g⟩ := o
    obtain ⟨w', r, s'⟩ := q.run dst pos aft g a W0 w E (agree_of hkn) inv.sat
    left
    unfold Oper.wp
    rw [r, Oper.upon_value]
    exact k _ _ (next w' s')
  · rw [if_neg (by rw [wanted_of hkn g1]; exact Bool.false_ne_true)]
    exact k _ _ (next w inv.sat)

theorem getD_both {i : Nat} (h : listed.getD i true = false) : listed.getD i false = false := by
  rcases Nat.lt_or_ge i listed.size with h' | h'
  · simp [h'] at h ⊢; exact h
  · simp [Array.getElem?_eq_none h'] at h
theorem getD_in {i : Nat} (hi : i < listed.size) (h : listed.getD i false = false) : listed.getD i true = false := by
  simp [hi] at h ⊢; exact h
theorem getD_replicate_false (m j : Nat) : (Array.replicate m false).getD j false = false := by
  rcases Nat.lt_or_ge j m with h | h
  · simp [h]
  · simp [h]

theorem mem_ready' {i : Nat} : i ∈ Region.ready .any l.toArray listed ↔ listed.getD i true = false ∧ ∃ o, l[i]? = some o ∧ ∀ k, k ∈ dirs o → listed.getD k false = true := by
  rw [mem_ready]
  constructor
  · rintro ⟨h0, o, ho, h⟩
    refine ⟨h0, o, by simpa using ho, fun k hk => ?_⟩
    simp only [dirs, List.mem_filterMap] at hk
    obtain ⟨e, he, hk⟩ := hk
    split at hk
    · simp only [Option.some.injEq] at hk; subst hk; exact h e (by simpa using he) (by assumption)
    · cases hk
  · rintro ⟨h0, o, ho, h⟩
    refine ⟨h0, o, by simpa using ho, fun e he hb => h e.on ?_⟩
    simp only [dirs, List.mem_filterMap]
    exact ⟨e, by simpa using he, by simp [hb]⟩

/-- While something is not listed, something is ready. -/
theorem ready_ne (hR : RegOK l NQ) (hs : listed.size = l.length) : ∀ (i : Nat), i < l.length → listed.getD i false = false → Region.ready .any l.toArray listed ≠ [] := by
  intro i
  induction i using Nat.strongRecOn with
  | _ i ih =>
    intro hi hn
    by_cases h : ∀ k, k ∈ dirs l[i] → listed.getD k false = true
    · have : i ∈ Region.ready .any l.toArray listed := mem_ready'.2 ⟨getD_in (by omega) hn, l[i], List.getElem?_eq_getElem hi, h⟩
      intro e; rw [e] at this; cases this
    · simp only [Classical.not_forall] at h
      obtain ⟨k, hk, hf⟩ := h
      have hki := hR.back i l[i] (List.getElem?_eq_getElem hi) k hk
      exact ih k hki (by omega) (by simpa using hf)

theorem unl_pos {i : Nat} (hi : i < l.length) (h : listed.getD i true = false) : 0 < unl l listed := by
  unfold unl
  apply List.length_pos_of_mem (a := i)
  rw [List.mem_filter]
  exact ⟨by simpa using hi, by simp [h]⟩

/-- The rule behind all: what is derived may run; of the others, those that may come next go on. -/
theorem RG.step (hR : RegOK l NQ) (hsome : ∃ i, i < l.length ∧ i ∉ S)
    (h : ∀ i o listed a w, l[i]? = some o → i ∉ S → (∀ k, k ∈ dirs o → listed.getD k false = true) → listed.getD i false = false → Inv P W0 N l NQ S L D E listed a w →
      ∀ m, (∀ a' w', (∃ S' L' D' E', RG P W0 N l NQ Q S' L' D' E' ∧ Inv P W0 N l NQ S' L' D' E' (listed.setIfInBounds i true) a' w') → wpAny P .any l.toArray Q m (listed.setIfInBounds i true) a' w') → wpOp P l.toArray Q i (wpAny P .any l.toArray Q m (listed.setIfInBounds i true)) a w) :
    RG P W0 N l NQ Q S L D E := by
  refine ⟨?_⟩
  intro m
  induction m with
  | zero =>
    intro listed a w inv hu
    obtain ⟨i, hi, hS⟩ := hsome
    have hn : listed.getD i false = false := by
      cases hb : listed.getD i false with
      | true => exact absurd (inv.sub i hb) hS
      | false => rfl
    have := unl_pos hi (getD_in (by rw [inv.size]; exact hi) hn)
    omega
  | succ m ih =>
    intro listed a w inv hu
    refine ⟨fun hr => ?_, fun i hi => ?_⟩
    · obtain ⟨i, hi, hS⟩ := hsome
      have hn : listed.getD i false = false := by
        cases hb : listed.getD i false with
        | true => exact absurd (inv.sub i hb) hS
        | false => rfl
      exact absurd hr (ready_ne hR inv.size i hi hn)
    · obtain ⟨h0, o, ho, hd⟩ := mem_ready'.1 hi
      have hil : i < l.length := (List.getElem?_eq_some_iff.1 ho).1
      have hlt := unl_set inv.size hil h0
      by_cases hS : i ∈ S
      · exact inv.exec hR ho hS (getD_both h0) hd (fun a' w' inv' => ih _ a' w' inv' (by omega))
      · refine h i o listed a w ho hS hd (getD_both h0) inv m ?_
        rintro a' w' ⟨S', L', D', E', hG, inv'⟩
        exact hG.run m _ a' w' inv' (by omega)

/-- All is derived. -/
theorem RG.done (hR : RegOK l NQ) (hall : ∀ i, i < l.length → i ∈ S) (k : J W0 N L (D ++ E) (Q .normal)) : RG P W0 N l NQ Q S L D E := by
  refine ⟨?_⟩
  have fin : ∀ listed a w, Inv P W0 N l NQ S L D E listed a w → Region.ready .any l.toArray listed = [] → Q .normal a w := by
    intro listed a w inv hr
    refine k.run a w ⟨inv.tsz, fun s v e => inv.slots s v e ?_, inv.defs⟩ inv.sat
    intro i o hi ho hn
    exact absurd hr (ready_ne hR inv.size i (List.getElem?_eq_some_iff.1 ho).1 hn)
  intro m
  induction m with
  | zero =>
    intro listed a w inv hu
    have hr : Region.ready .any l.toArray listed = [] := by
      apply List.eq_nil_iff_forall_not_mem.2
      intro i hi
      obtain ⟨h0, o, ho, _⟩ := mem_ready'.1 hi
      have := unl_pos (List.getElem?_eq_some_iff.1 ho).1 h0
      omega
    exact ⟨hr, fin listed a w inv hr⟩
  | succ m ih =>
    intro listed a w inv hu
    refine ⟨fin listed a w inv, fun i hi => ?_⟩
    obtain ⟨h0, o, ho, hd⟩ := mem_ready'.1 hi
    have hil : i < l.length := (List.getElem?_eq_some_iff.1 ho).1
    have hlt := unl_set inv.size hil h0
    exact inv.exec hR ho (hall i hil) (getD_both h0) hd (fun a' w' inv' => ih _ a' w' inv' (by omega))

/-- An operation that leaves memory as it was is derived. -/
theorem RG.pend (hR : RegOK l NQ) {i d : Nat} {o : Oper} {v : Value} (ho : l[i]? = some o) (hd : o.dst = some d) (hS : allN S (dirs o) = true) (hi : memN i NQ = false) (hn : memN i S = false) (hN : Nat.blt d N = true)
    (hp : Pend P l o L D v) (k : RG P W0 N l NQ Q (i :: S) ((d, v) :: L) D E) : RG P W0 N l NQ Q S L D E := by
  have hiQ : i ∉ NQ := fun e => by rw [memN_iff.2 e] at hi; cases hi
  have hiS : i ∉ S := fun e => by rw [memN_iff.2 e] at hn; cases hn
  refine ⟨fun m listed a w inv hu => k.run m listed a w ?_ hu⟩
  obtain ⟨d', hd', hdn, hq⟩ := hR.quiet i o ho hiQ
  rw [hd] at hd'; cases hd'
  have hl : listed.getD i false = false := by
    cases hb : listed.getD i false with
    | true => exact absurd (inv.sub i hb) hiS
    | false => rfl
  have hfind : ∀ s, s ≠ d → find s ((d, v) :: L) = find s L := by
    intro s hs
    simp only [find]
    cases hb : Nat.beq s d with
    | true => rw [beq_iff] at hb; exact absurd hb hs
    | false => rfl
  refine ⟨inv.size, inv.tsz, inv.defs, inv.sat, fun j hj => List.mem_cons_of_mem _ (inv.sub j hj), inv.closed, ?_, ?_, ?_⟩
  · intro j p hp hj q hq'
    rcases List.mem_cons.1 hj with rfl | hj
    · rw [ho] at hp; cases hp; exact List.mem_cons_of_mem _ (allN_iff.1 hS q hq')
    · exact List.mem_cons_of_mem _ (inv.scl j p hp hj q hq')
  · intro s u e hp
    have hsd : s ≠ d := by rintro rfl; exact hp i o (by simp) ho hl hd
    rw [hfind s hsd] at e
    exact inv.slots s u e (fun j p hj => hp j p (List.mem_cons_of_mem _ hj))
  · intro j hj hjl
    rcases List.mem_cons.1 hj with rfl | hj
    · exact ⟨o, d, v, ho, hiQ, hd, by simpa [Nat.blt_eq] using hN, by simp [find], hp.more hdn⟩
    · obtain ⟨o', d', v', h1, h2, h3, h4, h5, h6⟩ := inv.pend j hj hjl
      have hji : j ≠ i := fun e => hiS (e ▸ hj)
      have hqj := hq j o' h1 hji
      have hdd : d' ≠ d := by rintro rfl; exact hqj.2 h3
      refine ⟨o', d', v', h1, h2, h3, h4, by rw [hfind d' hdd]; exact h5, h6.more fun hm => ?_⟩
      have hbit := hqj.1 hm
      exact hiS (anc_closed (T := fun k => k ∈ S) (fun i o h1 h2 => inv.scl i o h1 h2) hR.back j i o' h1 (fun q hq' => inv.scl j o' h1 hj q hq') hbit)

def addL : Option Nat → Value → Slots → Slots
  | some d, v, L => (d, v) :: L
  | none, _, L => L

/-- Those that may come next, of those that were not derived. -/
def front (l : List Oper) (S : List Nat) : List Nat := (List.range l.length).filter fun i => !memN i S && (match l[i]? with | some o => allN S (dirs o) | none => false)

/-- What one operation may come to, at the place where it is met. 'bar': nothing that was derived waits. -/
theorem RG.next (hR : RegOK l NQ) (hne : front l S ≠ [])
    (h : ∀ i, i ∈ front l S → ∃ o, l[i]? = some o ∧ i ∈ NQ ∧ (∀ d, o.dst = some d → d < N) ∧
      ((guardL l.toArray o.guard L = some false ∧ RG P W0 N l NQ Q (i :: S) (addL o.dst undef L) D E) ∨
       (guardL l.toArray o.guard L = some true ∧ ∃ R, OpC P o.op o.type L (D ++ E) R ∧
        ((∀ v B, R v B → ∃ E', B.Perm (D ++ E') ∧ RG P W0 N l NQ Q (i :: S) (addL o.dst v L) D E') ∨
         ((∀ j, j ∈ S → (((masks [] l)[i]?).getD 0).testBit j = true) ∧ ∀ v B, R v B → ∃ D' E', B.Perm (D' ++ E') ∧ RG P W0 N l NQ Q (i :: S) (addL o.dst v L) D' E'))))) :
    RG P W0 N l NQ Q S L D E := by
  have hsome : ∃ i, i < l.length ∧ i ∉ S := by
    obtain ⟨i, hi⟩ := List.exists_mem_of_ne_nil _ hne
    simp only [front, List.mem_filter, List.mem_range, Bool.and_eq_true, Bool.not_eq_true'] at hi
    exact ⟨i, hi.1, fun e => by rw [memN_iff.2 e] at hi; simp at hi⟩
  refine RG.step hR hsome ?_
  intro i o listed a w ho hS hd hn inv m K
  have hil : i < l.length := (List.getElem?_eq_some_iff.1 ho).1
  have hlsz : i < listed.size := by rw [inv.size]; exact hil
  have hf : i ∈ front l S := by
    simp only [front, List.mem_filter, List.mem_range, Bool.and_eq_true, Bool.not_eq_true']
    refine ⟨hil, ?_, ?_⟩
    · cases hb : memN i S with
      | true => exact absurd (memN_iff.1 hb) hS
      | false => rfl
    · rw [ho]; exact allN_iff.2 fun k hk => inv.sub k (hd k hk)
  obtain ⟨o', ho', hNQ, hdN, hcase⟩ := h i hf
  rw [ho] at ho'; cases ho'
  have hkn : ∀ s v, s ∈ o.looksAt l.toArray → find s L = some v → a.tmps[s]? = some v := fun s v hs e => inv.known hR ho hd hs v e (.inr hS)
  -- who waits has nothing to do with the slot
  have hpd : ∀ j, j ∈ S → listed.getD j false = false → ∀ d, o.dst = some d → ∀ p, l[j]? = some p → d ∉ p.looksAt l.toArray ∧ p.dst ≠ some d := by
    intro j hj hjl d hod p hp
    have hji : j ≠ i := by rintro rfl; exact hS hj
    have key : ¬ (d ∈ p.looksAt l.toArray ∨ p.dst = some d) := by
      intro ht
      rcases hR.chain i o d ho hNQ hod j p hp hji ht with hb | hb
      · exact hS (anc_closed (T := fun k => k ∈ S) (fun i o h1 h2 => inv.scl i o h1 h2) hR.back j i p hp (fun q hq' => inv.scl j p hp hj q hq') hb)
      · have := anc_closed (T := fun k => listed.getD k false = true) inv.closed hR.back i j o ho hd hb
        rw [hjl] at this; cases this
    exact ⟨fun x => key (.inl x), fun x => key (.inr x)⟩
  have next : ∀ (v : Value) (D' E' : List Assn) w', Sat W0 w' (D' ++ E') → (D' = D ∨ ∀ j, j ∈ S → listed.getD j false = true) →
      Inv P W0 N l NQ (i :: S) (addL o.dst v L) D' E' (listed.setIfInBounds i true) (a.put o.dst v) w' := by
    intro v D' E' w' s' hD
    have hlist : ∀ j, (listed.setIfInBounds i true).getD j false = false → j ≠ i ∧ listed.getD j false = false := by
      intro j hj
      by_cases hij : i = j
      · subst hij; rw [getD_set_self hlsz] at hj; cases hj
      · rw [getD_set_ne false hij] at hj; exact ⟨fun e => hij e.symm, hj⟩
    refine ⟨by simp [inv.size], by cases o.dst <;> simp [Act.put, inv.tsz], by cases o.dst <;> exact inv.defs, s', ?_, ?_, ?_, ?_, ?_⟩
    · intro j hj
      by_cases hij : i = j
      · subst hij; simp
      · rw [getD_set_ne false hij] at hj; exact List.mem_cons_of_mem _ (inv.sub j hj)
    · intro j p hp hj q hq'
      by_cases hij : i = j
      · subst hij; rw [ho] at hp; cases hp; exact getD_set_true (hd q hq')
      · rw [getD_set_ne false hij] at hj; exact getD_set_true (inv.closed j p hp hj q hq')
    · intro j p hp hj q hq'
      rcases List.mem_cons.1 hj with rfl | hj
      · rw [ho] at hp; cases hp; exact List.mem_cons_of_mem _ (inv.sub q (hd q hq'))
      · exact List.mem_cons_of_mem _ (inv.scl j p hp hj q hq')
    · intro s u e hp
      have hp' : ∀ j p, j ∈ S → l[j]? = some p → listed.getD j false = false → p.dst ≠ some s := by
        intro j p hj hpj hjl
        have hji : j ≠ i := by rintro rfl; exact hS hj
        exact hp j p (List.mem_cons_of_mem _ hj) hpj (by rw [getD_set_ne false (fun e => hji e.symm)]; exact hjl)
      cases hod : o.dst with
      | none => rw [hod] at e; simp only [addL] at e; exact inv.slots s u e hp'
      | some d =>
        rw [hod] at e
        simp only [addL, find] at e
        simp only [Act.put, Array.getElem?_setIfInBounds]
        cases hb : Nat.beq s d with
        | true =>
          rw [hb] at e; simp at e
          rw [beq_iff] at hb
          subst hb; subst e
          simp [inv.tsz, hdN s hod]
        | false =>
          rw [hb] at e; simp at e
          have : d ≠ s := by rintro rfl; rw [Nat.beq_refl] at hb; cases hb
          rw [if_neg this]; exact inv.slots s u e hp'
    · intro j hj hjl
      obtain ⟨hji, hjl'⟩ := hlist j hjl
      have hj' : j ∈ S := by rcases List.mem_cons.1 hj with e | e; exact absurd e hji; exact e
      rcases hD with rfl | hD
      · obtain ⟨p, d', v', h1, h2, h3, h4, h5, h6⟩ := inv.pend j hj' hjl'
        cases hod : o.dst with
        | none => exact ⟨p, d', v', h1, h2, h3, h4, h5, h6⟩
        | some d =>
          obtain ⟨x1, x2⟩ := hpd j hj' hjl' d hod p h1
          refine ⟨p, d', v', h1, h2, h3, h4, ?_, h6.more x1⟩
          simp only [addL, find]
          cases hb : Nat.beq d' d with
          | true => rw [beq_iff] at hb; subst hb; exact absurd h3 x2
          | false => simpa using h5
      · rw [hD j hj'] at hjl'; cases hjl'
  unfold wpOp
  rw [get_of_toArray.2 ho]
  simp only
  rcases hcase with ⟨g1, k⟩ | ⟨g1, R, hC, k⟩
  · rw [if_neg (by rw [wanted_of hkn g1]; exact Bool.false_ne_true)]
    exact K _ _ ⟨_, _, _, _, k, next undef D E w inv.sat (.inl rfl)⟩
  · rw [if_pos (wanted_of hkn g1)]
    left
    obtain ⟨dst, op, ty, pos, aft, g⟩ := o
    refine hC.wp dst pos aft g a W0 w (agree_of hkn) inv.sat _ _ ?_
    intro v B w' r s'
    rcases k with k | ⟨hbar, k⟩
    · obtain ⟨E', hp, hG⟩ := k v B r
      exact K _ _ ⟨_, _, _, _, hG, next v D E' w' (s'.perm hp) (.inl rfl)⟩
    · obtain ⟨D', E', hp, hG⟩ := k v B r
      refine K _ _ ⟨_, _, _, _, hG, next v D' E' w' (s'.perm hp) (.inr fun j hj => ?_)⟩
      exact anc_closed (T := fun k => listed.getD k false = true) inv.closed hR.back i j _ ho hd (hbar j hj)

end

/-! ### The rules as they are used -/
section
variable {P : Program} {W0 : World} {N : Nat} {l : List Oper} {NQ : List Nat} {Q : Exit → Act → World → Prop} {S : List Nat} {L : Slots} {D E A : List Assn}

/-- A region that draws its order: 'NQ' are the places of the operations that do not leave memory (or a variable) as it was. -/
theorem J.draw (NQ : List Nat) {id : Nat} (hm : P.follows .mixedOrders = true) (hR : regOK l NQ = true) (h : RegOK l NQ → RG P W0 N l NQ Q [] L A []) : J W0 N L A ((Code.region id l.toArray true).wp P Q) := by
  refine ⟨fun a w f s => wp_region_any hm ?_⟩
  have hl : ∀ i, (Array.replicate l.toArray.size false).getD i false = false := fun i => getD_replicate_false _ i
  refine (h (regOK_spec hR)).run _ _ a _ ⟨by simp, f.size, f.defers, ⟨s.os, s.tape, s.out, by rw [List.append_nil]; exact s.heap⟩, ?_, ?_, ?_, fun s v e _ => f.get s v e, ?_⟩ ?_
  · intro i hi; rw [hl] at hi; cases hi
  · intro i o _ hi; rw [hl] at hi; cases hi
  · intro i o _ hi; cases hi
  · intro i hi; cases hi
  · unfold unl
    exact Nat.le_trans (List.length_filter_le _ _) (by simp)

theorem RG.q (i : Nat) {d : Nat} {op : Op} {ty : TypeId} {pos : String} {aft : Array Edge} {g : Option (Nat × Bool)} {v : Value} (hR : RegOK l NQ) (ho : l[i]? = some ⟨some d, op, ty, pos, aft, g⟩)
    (hS : allN S (dirs ⟨some d, op, ty, pos, aft, g⟩) = true) (hi : memN i NQ = false) (hn : memN i S = false) (hN : Nat.blt d N = true) (hg : guardL l.toArray g L = some true) (h : OpQ P op ty L D v)
    (k : RG P W0 N l NQ Q (i :: S) ((d, v) :: L) D E) : RG P W0 N l NQ Q S L D E :=
  RG.pend hR ho rfl hS hi hn hN (.inl ⟨hg, h⟩) k

theorem RG.skip (i : Nat) {d : Nat} {op : Op} {ty : TypeId} {pos : String} {aft : Array Edge} {g : Option (Nat × Bool)} (hR : RegOK l NQ) (ho : l[i]? = some ⟨some d, op, ty, pos, aft, g⟩)
    (hS : allN S (dirs ⟨some d, op, ty, pos, aft, g⟩) = true) (hi : memN i NQ = false) (hn : memN i S = false) (hN : Nat.blt d N = true) (hg : guardL l.toArray g L = some false)
    (k : RG P W0 N l NQ Q (i :: S) ((d, undef) :: L) D E) : RG P W0 N l NQ Q S L D E :=
  RG.pend hR ho rfl hS hi hn hN (.inr ⟨hg, rfl⟩) k

/-- The one that must come next, behind all that was derived: memory may turn as it will. -/
theorem RG.bar (i : Nat) {dst : Option Nat} {op : Op} {ty : TypeId} {pos : String} {aft : Array Edge} {g : Option (Nat × Bool)} {R : Value → List Assn → Prop} (hR : RegOK l NQ) (hf : front l S = [i]) (ho : l[i]? = some ⟨dst, op, ty, pos, aft, g⟩)
    (hi : memN i NQ = true) (hN : (match dst with | some d => Nat.blt d N | none => true) = true) (hg : guardL l.toArray g L = some true) (hb : S.all (fun j => (((masks [] l)[i]?).getD 0).testBit j) = true)
    (h : OpC P op ty L (D ++ E) R) (k : ∀ v B, R v B → RG P W0 N l NQ Q (i :: S) (addL dst v L) B []) : RG P W0 N l NQ Q S L D E := by
  refine RG.next hR (by rw [hf]; simp) ?_
  intro j hj
  rw [hf] at hj
  obtain rfl : j = i := by simpa using hj
  refine ⟨_, ho, memN_iff.1 hi, ?_, .inr ⟨hg, R, h, .inr ⟨by simpa [List.all_eq_true] using hb, ?_⟩⟩⟩
  · intro d hd; simp only at hd; subst hd; simpa [Nat.blt_eq] using hN
  · intro v B r
    exact ⟨B, [], by simp, k v B r⟩

/-- The one that must come next; what the waiting ones read stays. -/
theorem RG.one (i : Nat) {dst : Option Nat} {op : Op} {ty : TypeId} {pos : String} {aft : Array Edge} {g : Option (Nat × Bool)} {R : Value → List Assn → Prop} (hR : RegOK l NQ) (hf : front l S = [i]) (ho : l[i]? = some ⟨dst, op, ty, pos, aft, g⟩)
    (hi : memN i NQ = true) (hN : (match dst with | some d => Nat.blt d N | none => true) = true) (hg : guardL l.toArray g L = some true)
    (h : OpC P op ty L (D ++ E) R) (k : ∀ v B, R v B → ∃ E', B.Perm (D ++ E') ∧ RG P W0 N l NQ Q (i :: S) (addL dst v L) D E') : RG P W0 N l NQ Q S L D E := by
  refine RG.next hR (by rw [hf]; simp) ?_
  intro j hj
  rw [hf] at hj
  obtain rfl : j = i := by simpa using hj
  refine ⟨_, ho, memN_iff.1 hi, ?_, .inr ⟨hg, R, h, .inl k⟩⟩
  intro d hd; simp only at hd; subst hd; simpa [Nat.blt_eq] using hN

/-- The one that must come next is passed over. -/
theorem RG.pass (i : Nat) {dst : Option Nat} {op : Op} {ty : TypeId} {pos : String} {aft : Array Edge} {g : Option (Nat × Bool)} (hR : RegOK l NQ) (hf : front l S = [i]) (ho : l[i]? = some ⟨dst, op, ty, pos, aft, g⟩)
    (hi : memN i NQ = true) (hN : (match dst with | some d => Nat.blt d N | none => true) = true) (hg : guardL l.toArray g L = some false)
    (k : RG P W0 N l NQ Q (i :: S) (addL dst undef L) D E) : RG P W0 N l NQ Q S L D E := by
  refine RG.next hR (by rw [hf]; simp) ?_
  intro j hj
  rw [hf] at hj
  obtain rfl : j = i := by simpa using hj
  refine ⟨_, ho, memN_iff.1 hi, ?_, .inl ⟨hg, k⟩⟩
  intro d hd; simp only at hd; subst hd; simpa [Nat.blt_eq] using hN

theorem guardL_ext {L L' : Slots} (h : ∀ s, find s L = find s L') (ops : Array Oper) (g : Option (Nat × Bool)) : guardL ops g L = guardL ops g L' := by
  unfold guardL
  cases g with
  | none => rfl
  | some p =>
    obtain ⟨j, want⟩ := p
    simp only
    cases (ops[j]?).bind (·.dst) with
    | none => rfl
    | some d => simp only [h d]

theorem ev_ext {L L' : Slots} (h : ∀ s, find s L = find s L') (x : Operand) : ev L x = ev L' x := by cases x <;> simp [ev, h]

/-- The slots in another list. -/
theorem RG.ext (L' : Slots) (h : ∀ s, find s L = find s L') (k : RG P W0 N l NQ Q S L' D E) : RG P W0 N l NQ Q S L D E := by
  refine ⟨fun m listed a w inv hu => k.run m listed a w ⟨inv.size, inv.tsz, inv.defs, inv.sat, inv.sub, inv.closed, inv.scl, fun s v e => inv.slots s v (by rw [h s]; exact e), ?_⟩ hu⟩
  intro i hi hl
  obtain ⟨o, d, v, h1, h2, h3, h4, h5, h6⟩ := inv.pend i hi hl
  refine ⟨o, d, v, h1, h2, h3, h4, by rw [← h d]; exact h5, ?_⟩
  rcases h6 with ⟨g1, q⟩ | ⟨g1, q⟩
  · exact .inl ⟨by rw [← guardL_ext h]; exact g1, ⟨fun dst pos aft g a W0 w F ag s => q.run dst pos aft g a W0 w F (fun x hx u e => ag x hx u (by rw [← ev_ext h]; exact e)) s⟩⟩
  · exact .inr ⟨by rw [← guardL_ext h]; exact g1, q⟩

theorem find_same {s : Nat} {u : Value} (e : find s L = some u) : ∀ t, find t L = find t ((s, u) :: L) := by
  intro t
  simp only [find]
  cases hb : Nat.beq t s with
  | true => rw [beq_iff] at hb; subst hb; simpa using e
  | false => rfl

/-- A truth value among the slots: both ways. -/
theorem RG.cases (s : Nat) {b : Bool} (e : find s L = some (.bool b)) (ht : b = true → RG P W0 N l NQ Q S ((s, .bool true) :: L) D E) (hf : b = false → RG P W0 N l NQ Q S ((s, .bool false) :: L) D E) : RG P W0 N l NQ Q S L D E := by
  cases hb : b with
  | true => exact RG.ext _ (find_same (by rw [← hb]; exact e)) (ht hb)
  | false => exact RG.ext _ (find_same (by rw [← hb]; exact e)) (hf hb)

/-- A slot's value is another that equals it. -/
theorem RG.slot (s : Nat) (v : Value) {u : Value} (e : find s L = some u) (huv : u = v) (k : RG P W0 N l NQ Q S ((s, v) :: L) D E) : RG P W0 N l NQ Q S L D E := by
  subst huv; exact RG.ext _ (find_same e) k

theorem RG.fin (hR : RegOK l NQ) (hall : (List.range l.length).all (fun i => memN i S) = true) (k : J W0 N L (D ++ E) (Q .normal)) : RG P W0 N l NQ Q S L D E :=
  RG.done hR (fun i hi => memN_iff.1 (by rw [List.all_eq_true] at hall; exact hall i (by simpa using hi))) k
end
end Go.X
