/-
  A small separation logic over the model's heap, and judgements that step through code with the frame's known slots and a list of assertions on memory. No program in sight.
-/
import Derived.Orders
import Derived.Scope
import Derived.WalkKit
namespace Go.X
set_option linter.unusedSectionVars false
set_option linter.unusedSimpArgs false
set_option linter.unusedVariables false

/-! ### Partial heaps and assertions -/

abbrev Hp := Nat → Option Obj
abbrev Assn := Hp → Prop

def Sub (h k : Hp) : Prop := ∀ b o, h b = some o → k b = some o
def Dis (h k : Hp) : Prop := ∀ b, h b = none ∨ k b = none

theorem Sub.refl (h : Hp) : Sub h h := fun _ _ e => e
theorem Sub.trans {h k l : Hp} (a : Sub h k) (b : Sub k l) : Sub h l := fun x o e => b x o (a x o e)
theorem Dis.symm {h k : Hp} (a : Dis h k) : Dis k h := fun b => (a b).symm
theorem Dis.mono {h k h' k' : Hp} (a : Dis h k) (s : Sub h' h) (t : Sub k' k) : Dis h' k' := by
  intro b
  rcases a b with e | e
  · left
    cases x : h' b with
    | none => rfl
    | some o => have := s b o x; rw [e] at this; cases this
  · right
    cases x : k' b with
    | none => rfl
    | some o => have := t b o x; rw [e] at this; cases this

def join (h k : Hp) : Hp := fun b => match h b with | some o => some o | none => k b

theorem join_left (h k : Hp) : Sub h (join h k) := by intro b o e; simp [join, e]
theorem join_right {h k : Hp} (d : Dis h k) : Sub k (join h k) := by
  intro b o e
  rcases d b with x | x
  · simp [join, x, e]
  · rw [e] at x; cases x
theorem join_sub {h k l : Hp} (a : Sub h l) (b : Sub k l) : Sub (join h k) l := by
  intro x o e
  simp only [join] at e
  cases y : h x with
  | some p => rw [y] at e; cases e; exact a x _ y
  | none => rw [y] at e; exact b x o e
theorem join_dis {h k l : Hp} (a : Dis h l) (b : Dis k l) : Dis (join h k) l := by
  intro x
  rcases a x with e | e
  · rcases b x with f | f
    · left; simp [join, e, f]
    · right; exact f
  · right; exact e

/-- The heap holds all of a list of assertions, each on a part of its own. -/
def HSat (h : Hp) : List Assn → Prop
  | [] => True
  | A :: As => ∃ h1 h2 : Hp, A h1 ∧ HSat h2 As ∧ Dis h1 h2 ∧ Sub h1 h ∧ Sub h2 h

theorem HSat.mono {h k : Hp} : ∀ {As : List Assn}, HSat h As → Sub h k → HSat k As
  | [], _, _ => trivial
  | _ :: _, ⟨h1, h2, a, b, d, s, t⟩, u => ⟨h1, h2, a, b, d, s.trans u, t.trans u⟩

theorem HSat.tail {h : Hp} {A : Assn} {As : List Assn} (s : HSat h (A :: As)) : HSat h As := by
  obtain ⟨h1, h2, a, b, d, x, y⟩ := s
  exact b.mono y

theorem HSat.cons {h h1 h2 : Hp} {A : Assn} {As : List Assn} (a : A h1) (b : HSat h2 As) (d : Dis h1 h2) (s : Sub h1 h) (t : Sub h2 h) : HSat h (A :: As) :=
  ⟨h1, h2, a, b, d, s, t⟩

theorem HSat.swap {h : Hp} {A B : Assn} {As : List Assn} (s : HSat h (A :: B :: As)) : HSat h (B :: A :: As) := by
  obtain ⟨h1, h2, a, ⟨k1, k2, b, c, d', s', t'⟩, d, s, t⟩ := s
  refine ⟨k1, join h1 k2, b, ⟨h1, k2, a, c, d.mono (Sub.refl _) t', join_left _ _, join_right (d.mono (Sub.refl _) t')⟩, ?_, s'.trans t, join_sub s (t'.trans t)⟩
  exact (join_dis (d.mono (Sub.refl _) s') d'.symm).symm

theorem HSat.under {h : Hp} {A : Assn} {As Bs : List Assn} (s : HSat h (A :: As)) (f : ∀ k, HSat k As → HSat k Bs) : HSat h (A :: Bs) := by
  obtain ⟨h1, h2, a, b, d, x, y⟩ := s
  exact ⟨h1, h2, a, f _ b, d, x, y⟩

theorem HSat.perm {As Bs : List Assn} (p : As.Perm Bs) : ∀ {h : Hp}, HSat h As → HSat h Bs := by
  induction p with
  | nil => exact fun s => s
  | cons x _ ih => exact fun s => s.under (fun _ => ih)
  | swap x y l => exact fun s => s.swap
  | trans _ _ ih1 ih2 => exact fun s => ih2 (ih1 s)

theorem HSat.append {h : Hp} : ∀ {As Bs : List Assn}, HSat h (As ++ Bs) → ∃ h1 h2, HSat h1 As ∧ HSat h2 Bs ∧ Dis h1 h2 ∧ Sub h1 h ∧ Sub h2 h
  | [], _, s => ⟨fun _ => none, h, trivial, s, fun _ => Or.inl rfl, (fun _ _ e => nomatch e), Sub.refl _⟩
  | A :: As, Bs, ⟨h1, h2, a, b, d, x, y⟩ => by
    obtain ⟨k1, k2, c, e, f, g, i⟩ := HSat.append b
    refine ⟨join h1 k1, k2, ⟨h1, k1, a, c, d.mono (Sub.refl _) g, join_left _ _, join_right (d.mono (Sub.refl _) g)⟩, e, join_dis (d.mono (Sub.refl _) i) f, join_sub x (g.trans y), i.trans y⟩

theorem HSat.of_append {h h1 h2 : Hp} : ∀ {As Bs : List Assn}, HSat h1 As → HSat h2 Bs → Dis h1 h2 → Sub h1 h → Sub h2 h → HSat h (As ++ Bs)
  | [], _, _, b, _, _, t => b.mono t
  | A :: As, Bs, ⟨k1, k2, a, c, e, f, g⟩, b, d, s, t => by
    refine ⟨k1, join k2 h2, a, HSat.of_append c b (d.mono g (Sub.refl _)) (join_left _ _) (join_right (d.mono g (Sub.refl _))), ?_, f.trans s, join_sub (g.trans s) t⟩
    exact (join_dis e.symm (d.mono f (Sub.refl _)).symm).symm

/-- Several assertions as one. -/
def star (As : List Assn) : Assn := fun h => HSat h As

theorem HSat.pack {h : Hp} {As Bs : List Assn} (s : HSat h (As ++ Bs)) : HSat h (star As :: Bs) := by
  obtain ⟨h1, h2, a, b, d, x, y⟩ := s.append
  exact ⟨h1, h2, a, b, d, x, y⟩

theorem HSat.unpack {h : Hp} {As Bs : List Assn} (s : HSat h (star As :: Bs)) : HSat h (As ++ Bs) := by
  obtain ⟨h1, h2, a, b, d, x, y⟩ := s
  exact HSat.of_append a b d x y

theorem HSat.imp {h : Hp} {A B : Assn} {As : List Assn} (s : HSat h (A :: As)) (f : ∀ k, A k → B k) : HSat h (B :: As) := by
  obtain ⟨h1, h2, a, b, d, x, y⟩ := s
  exact ⟨h1, h2, f _ a, b, d, x, y⟩

/-! ### Taking assertions out of a list by their places -/

def compact : List (Option Assn) → List Assn
  | [] => []
  | none :: l => compact l
  | some A :: l => A :: compact l

def pulls : List Nat → List (Option Assn) → Option (List Assn × List (Option Assn))
  | [], l => some ([], l)
  | i :: is, l =>
    match l[i]? with
    | some (some A) =>
      match pulls is (l.set i none) with
      | some (Bs, r) => some (A :: Bs, r)
      | none => none
    | _ => none

def normA : List Assn → Option (List Assn)
  | [] => some []
  | a :: l => match normA l with | some r => some (a :: r) | none => none
theorem normA_eq : ∀ {l m : List Assn}, normA l = some m → l = m
  | [], m, e => by simpa [normA] using e
  | a :: l, m, e => by
    simp only [normA] at e
    split at e
    · rename_i r hr
      simp only [Option.some.injEq] at e
      rw [normA_eq hr, e]
    · cases e

/-- The assertions at the places 'is', and the others. -/
def pick (is : List Nat) (As : List Assn) : Option (List Assn × List Assn) :=
  match pulls is (As.map some) with
  | some (Bs, r) => match normA (compact r) with | some m => some (Bs, m) | none => none
  | none => none

theorem compact_set : ∀ {l : List (Option Assn)} {i : Nat} {A : Assn}, l[i]? = some (some A) → (compact l).Perm (A :: compact (l.set i none))
  | [], _, _, e => by simp at e
  | none :: l, 0, _, e => by simp at e
  | some B :: l, 0, A, e => by
    simp at e; subst e; exact List.Perm.refl _
  | none :: l, i + 1, A, e => by
    simp only [compact, List.set_cons_succ]
    exact compact_set (by simpa using e)
  | some B :: l, i + 1, A, e => by
    simp only [compact, List.set_cons_succ]
    exact ((compact_set (l := l) (i := i) (A := A) (by simpa using e)).cons B).trans (List.Perm.swap _ _ _)

theorem pulls_perm : ∀ {is : List Nat} {l : List (Option Assn)} {Bs : List Assn} {r : List (Option Assn)}, pulls is l = some (Bs, r) → (compact l).Perm (Bs ++ compact r)
  | [], l, Bs, r, e => by simp only [pulls, Option.some.injEq, Prod.mk.injEq] at e; obtain ⟨rfl, rfl⟩ := e; exact List.Perm.refl _
  | i :: is, l, Bs, r, e => by
    simp only [pulls] at e
    split at e
    · rename_i A hA
      split at e
      · rename_i Cs s hs
        simp only [Option.some.injEq, Prod.mk.injEq] at e
        obtain ⟨rfl, rfl⟩ := e
        exact (compact_set hA).trans ((pulls_perm hs).cons A)
      · cases e
    · cases e

theorem compact_some : ∀ As : List Assn, compact (As.map some) = As
  | [] => rfl
  | A :: As => by simp [compact, compact_some As]

theorem pick_perm {is : List Nat} {As Bs Cs : List Assn} (e : pick is As = some (Bs, Cs)) : As.Perm (Bs ++ Cs) := by
  simp only [pick] at e
  split at e
  · rename_i Ds r hr
    split at e
    · rename_i m hm
      simp only [Option.some.injEq, Prod.mk.injEq] at e
      obtain ⟨rfl, rfl⟩ := e
      have := pulls_perm hr
      rwa [compact_some, normA_eq hm] at this
    · cases e
  · cases e

theorem HSat.pick {h : Hp} {is : List Nat} {As Bs Cs : List Assn} (s : HSat h As) (e : pick is As = some (Bs, Cs)) : HSat h (Bs ++ Cs) := s.perm (pick_perm e)

theorem HSat.at_ {h : Hp} : ∀ {As : List Assn} {i : Nat} {A : Assn}, HSat h As → As[i]? = some A → ∃ k, A k ∧ Sub k h
  | [], _, _, _, e => by simp at e
  | B :: As, 0, A, ⟨h1, h2, a, b, d, x, y⟩, e => by simp at e; subst e; exact ⟨h1, a, x⟩
  | B :: As, i + 1, A, ⟨h1, h2, a, b, d, x, y⟩, e => by
    obtain ⟨k, p, q⟩ := HSat.at_ (i := i) (A := A) b (by simpa using e)
    exact ⟨k, p, q.trans y⟩

/-- One block with all that it holds. -/
def pt (b : Nat) (o : Obj) : Assn := fun h => h b = some o
/-- A fact. -/
def fact (p : Prop) : Assn := fun _ => p

def upd (h : Hp) (b : Nat) (o : Obj) : Hp := fun x => if x = b then some o else h x

/-- A block's content is changed: the part that owns it holds the new one. -/
theorem HSat.update {h : Hp} : ∀ {As : List Assn} {i b : Nat} {o : Obj} {A B : Assn}, HSat h As → As[i]? = some A → (∀ k, A k → (∃ p, k b = some p) ∧ B (upd k b o)) → HSat (upd h b o) (As.set i B)
  | [], _, _, _, _, _, _, e, _ => by simp at e
  | C :: As, 0, b, o, A, B, ⟨h1, h2, a, c, d, x, y⟩, e, f => by
    simp at e; subst e
    obtain ⟨⟨p, hp⟩, hB⟩ := f h1 a
    refine ⟨upd h1 b o, h2, hB, c, ?_, ?_, ?_⟩
    · intro z
      rcases d z with q | q
      · by_cases hz : z = b
        · subst hz; rw [hp] at q; cases q
        · left; simp [upd, hz, q]
      · right; exact q
    · intro z u hu
      by_cases hz : z = b
      · simp [upd, hz] at hu ⊢; exact hu
      · simp [upd, hz] at hu ⊢; exact x z u hu
    · intro z u hu
      by_cases hz : z = b
      · subst hz
        rcases d z with q | q
        · rw [hp] at q; cases q
        · rw [hu] at q; cases q
      · simp [upd, hz]; exact y z u hu
  | C :: As, i + 1, b, o, A, B, ⟨h1, h2, a, c, d, x, y⟩, e, f => by
    have ih := HSat.update (i := i) (b := b) (o := o) (A := A) (B := B) c (by simpa using e) f
    obtain ⟨k, hk, hs⟩ := HSat.at_ (i := i) (A := A) c (by simpa using e)
    obtain ⟨⟨p, hp⟩, _⟩ := f k hk
    have hb : h1 b = none := by
      rcases d b with q | q
      · exact q
      · rw [hs b p hp] at q; cases q
    refine ⟨h1, upd h2 b o, a, ih, ?_, ?_, ?_⟩
    · intro z
      by_cases hz : z = b
      · subst hz; left; exact hb
      · rcases d z with q | q
        · left; exact q
        · right; simp [upd, hz, q]
    · intro z u hu
      by_cases hz : z = b
      · subst hz; rw [hb] at hu; cases hu
      · simp [upd, hz]; exact x z u hu
    · intro z u hu
      by_cases hz : z = b
      · simp [upd, hz] at hu ⊢; exact hu
      · simp [upd, hz] at hu ⊢; exact y z u hu

/-- A new block. -/
theorem HSat.fresh {h : Hp} {As : List Assn} {b : Nat} (o : Obj) (s : HSat h As) (e : h b = none) : HSat (upd h b o) (pt b o :: As) := by
  refine ⟨fun x => if x = b then some o else none, h, by simp [pt], s, ?_, ?_, ?_⟩
  · intro x
    by_cases hx : x = b
    · right; rw [hx]; exact e
    · left; simp [hx]
  · intro x u hu
    by_cases hx : x = b
    · simp [upd, hx] at hu ⊢; exact hu
    · simp [hx] at hu
  · intro x u hu
    by_cases hx : x = b
    · subst hx; rw [e] at hu; cases hu
    · simp [upd, hx]; exact hu

/-- Blocks of two places of the list are two. -/
theorem HSat.ne {h : Hp} {b c : Nat} {o p : Obj} {As : List Assn} (s : HSat h (pt b o :: pt c p :: As)) : b ≠ c := by
  rintro rfl
  obtain ⟨h1, h2, a, ⟨k1, k2, c, _, _, u, _⟩, d, _, _⟩ := s
  rcases d b with q | q
  · simp [pt] at a; rw [a] at q; cases q
  · simp [pt] at c; rw [u b p c] at q; cases q

/-! ### Worlds -/

def hp (w : World) : Hp := fun b => w.heap[b]?

structure Sat (W0 w : World) (As : List Assn) : Prop where
  os : w.os = W0.os
  tape : w.tape = W0.tape
  out : w.output = W0.output
  heap : HSat (hp w) As

theorem Sat.perm {W0 w : World} {As Bs : List Assn} (s : Sat W0 w As) (p : As.Perm Bs) : Sat W0 w Bs := ⟨s.os, s.tape, s.out, s.heap.perm p⟩
theorem Sat.imp {W0 w : World} {As Bs : List Assn} (s : Sat W0 w As) (f : ∀ h, HSat h As → HSat h Bs) : Sat W0 w Bs := ⟨s.os, s.tape, s.out, f _ s.heap⟩
theorem Sat.drew {W0 w : World} {As : List Assn} (s : Sat W0 w As) (n : Nat) : Sat W0 { w with drawn := n } As := ⟨s.os, s.tape, s.out, s.heap⟩

theorem hp_push (w : World) (o : Obj) : hp { w with heap := w.heap.push o } = upd (hp w) w.heap.size o := by
  funext b
  simp only [hp, upd, Array.getElem?_push]

theorem hp_modify (w : World) (b : Nat) (f : Obj → Obj) (o : Obj) (h : hp w b = some o) : hp { w with heap := w.heap.modify b f } = upd (hp w) b (f o) := by
  funext x
  simp only [hp, upd, Array.getElem?_modify]
  by_cases hx : x = b
  · subst hx; simp only [hp] at h; simp [h]
  · rw [if_neg hx, if_neg (fun e => hx e.symm)]

theorem hp_set (w : World) (b : Nat) (o p : Obj) (h : hp w b = some p) : hp { w with heap := w.heap.setIfInBounds b o } = upd (hp w) b o := by
  funext x
  simp only [hp] at h
  have hb : b < w.heap.size := by
    rcases Nat.lt_or_ge b w.heap.size with q | q
    · exact q
    · rw [Array.getElem?_eq_none q] at h; cases h
  simp only [hp, upd, Array.getElem?_setIfInBounds]
  by_cases hx : x = b
  · subst hx; simp [hb]
  · rw [if_neg hx, if_neg (fun e => hx e.symm)]

theorem Sat.new {W0 w : World} {As : List Assn} (s : Sat W0 w As) (o : Obj) : Sat W0 { w with heap := w.heap.push o } (pt w.heap.size o :: As) :=
  ⟨s.os, s.tape, s.out, by rw [hp_push]; exact HSat.fresh o s.heap (by simp [hp])⟩

/-! ### The frame's known slots -/

abbrev Slots := List (Nat × Value)

def find : Nat → Slots → Option Value
  | _, [] => none
  | s, (d, v) :: l => bif Nat.beq s d then some v else find s l

structure Fr (N : Nat) (a : Act) (L : Slots) : Prop where
  size : a.tmps.size = N
  get : ∀ s v, find s L = some v → a.tmps[s]? = some v
  defers : a.defers = []

def ev (L : Slots) : Operand → Option Value
  | .tmp t => find t L
  | .const v => some v
  | .global g => some (.pointer (some ⟨g, 0, none⟩))
  | .func f => some (.func (.func f) #[] #[])

theorem Fr.eval {N : Nat} {a : Act} {L : Slots} (f : Fr N a L) {x : Operand} {v : Value} (e : ev L x = some v) : a.eval x = v := by
  cases x with
  | tmp t => simp only [ev] at e; simp [Act.eval, Array.getD_eq_getD_getElem?, f.get t v e]
  | const u => simpa [ev, Act.eval] using e
  | global g => simpa [ev, Act.eval] using e
  | func g => simpa [ev, Act.eval] using e

theorem beq_iff (s d : Nat) : Nat.beq s d = true ↔ s = d := ⟨Nat.eq_of_beq_eq_true, fun e => by subst e; exact Nat.beq_refl s⟩

theorem Fr.put {N : Nat} {a : Act} {L : Slots} (f : Fr N a L) {d : Nat} (v : Value) (hd : Nat.blt d N = true) : Fr N (a.put (some d) v) ((d, v) :: L) := by
  have hd' : d < N := by simpa [Nat.blt_eq] using hd
  refine ⟨by simp [Act.put, f.size], ?_, f.defers⟩
  intro s u e
  simp only [find] at e
  simp only [Act.put, Array.getElem?_setIfInBounds]
  cases hb : Nat.beq s d with
  | true =>
    rw [hb] at e; simp at e
    rw [beq_iff] at hb
    subst hb; subst e
    simp [f.size, hd']
  | false =>
    rw [hb] at e; simp at e
    have : d ≠ s := by rintro rfl; rw [Nat.beq_refl] at hb; cases hb
    rw [if_neg this]; exact f.get s u e

theorem Fr.put_none {N : Nat} {a : Act} {L : Slots} (f : Fr N a L) (v : Value) : Fr N (a.put none v) L := f

/-- The slots of the second list are known by the first. -/
def Knows (L : Slots) : Slots → Prop
  | [] => True
  | (s, v) :: M => find s L = some v ∧ Knows L M

theorem Knows.get {L : Slots} : ∀ {M : Slots}, Knows L M → ∀ s v, find s M = some v → find s L = some v
  | [], _, s, v, e => by simp [find] at e
  | (d, u) :: M, ⟨h, k⟩, s, v, e => by
    simp only [find] at e
    cases hb : Nat.beq s d with
    | true => rw [hb] at e; simp at e; rw [beq_iff] at hb; subst hb; subst e; exact h
    | false => rw [hb] at e; simp at e; exact Knows.get k s v e

theorem Fr.weaken {N : Nat} {a : Act} {L M : Slots} (f : Fr N a L) (k : Knows L M) : Fr N a M := ⟨f.size, fun s v e => f.get s v (k.get s v e), f.defers⟩

end Go.X
