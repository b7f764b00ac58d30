/-
  Lists that are sorted by their keys, as what a map stands for; maps in memory with whatever their entries hold. No program in sight.
-/
import Derived.Test.YtdancegklkifaaaXq
import Derived.Test.YtdancegklkifaaaXo
namespace Go.X.G
set_option linter.unusedSectionVars false
set_option linter.unusedSimpArgs false
set_option linter.unusedVariables false

/-! ### Keys in an order -/
structure Ord3 {κ : Type} (lt : κ → κ → Bool) : Prop where
  irr : ∀ a, lt a a = false
  tr : ∀ a b c, lt a b = true → lt b c = true → lt a c = true
  tri : ∀ a b, lt a b = false → lt b a = false → a = b

theorem ord3_nat : Ord3 (fun a b : Nat => decide (a < b)) :=
  ⟨fun a => by simp, fun a b c h1 h2 => by simp at *; omega, fun a b h1 h2 => by simp at *; omega⟩
theorem ord3_int : Ord3 (fun a b : Int => decide (a < b)) :=
  ⟨fun a => by simp, fun a b c h1 h2 => by simp at *; omega, fun a b h1 h2 => by simp at *; omega⟩
def ltB (a b : ByteArray) : Bool := decide (a.data.toList < b.data.toList)
theorem ord3_str : Ord3 ltB :=
  ⟨fun a => by simp [ltB, List.lt_irrefl], fun a b c h1 h2 => by simp only [ltB, decide_eq_true_eq] at *; exact List.lt_trans h1 h2, fun a b h1 h2 => by
    simp only [ltB, decide_eq_false_iff_not, List.not_lt] at h1 h2
    have := List.le_antisymm h2 h1
    cases a; cases b; simp only [ByteArray.mk.injEq] at *; exact Array.toList_inj.1 this⟩

section sorted
variable {κ ν : Type} [DecidableEq κ]

def sget (k : κ) : List (κ × ν) → Option ν
  | [] => none
  | p :: l => if k = p.1 then some p.2 else sget k l
def sdel (k : κ) (l : List (κ × ν)) : List (κ × ν) := l.filter fun p => !decide (p.1 = k)
def sput (lt : κ → κ → Bool) (k : κ) (v : ν) (l : List (κ × ν)) : List (κ × ν) := l.filter (fun p => lt p.1 k) ++ (k, v) :: l.filter (fun p => lt k p.1)
def Srtd (lt : κ → κ → Bool) (l : List (κ × ν)) : Prop := l.Pairwise fun p q => lt p.1 q.1 = true

variable {lt : κ → κ → Bool}

theorem Srtd.nodup (o : Ord3 lt) {l : List (κ × ν)} (h : Srtd lt l) : (l.map (·.1)).Nodup := by
  rw [List.Nodup, List.pairwise_map]
  exact h.imp fun {a b} hab e => by rw [e, o.irr] at hab; cases hab

theorem sget_mem {k : κ} {v : ν} : ∀ {l : List (κ × ν)}, sget k l = some v → (k, v) ∈ l
  | [], h => by cases h
  | p :: l, h => by
    simp only [sget] at h
    split at h
    · rename_i e; cases h; subst e; exact List.mem_cons_self
    · exact List.mem_cons_of_mem _ (sget_mem h)
theorem sget_none {k : κ} : ∀ {l : List (κ × ν)}, sget k l = none ↔ ∀ p, p ∈ l → p.1 ≠ k
  | [] => by simp [sget]
  | p :: l => by
    simp only [sget, List.mem_cons, forall_eq_or_imp]
    by_cases h : k = p.1
    · simp [h]
    · rw [if_neg h, sget_none (l := l)]
      exact ⟨fun a => ⟨fun e => h e.symm, a⟩, fun a => a.2⟩
theorem sget_of_mem {k : κ} {v : ν} : ∀ {l : List (κ × ν)}, (l.map (·.1)).Nodup → (k, v) ∈ l → sget k l = some v
  | [], _, h => by cases h
  | p :: l, hn, h => by
    simp only [List.map_cons, List.nodup_cons] at hn
    simp only [sget]
    rcases List.mem_cons.1 h with rfl | h
    · simp
    · have : k ≠ p.1 := by
        rintro rfl
        exact hn.1 (List.mem_map_of_mem (f := (·.1)) h)
      rw [if_neg this]; exact sget_of_mem hn.2 h
theorem sget_perm {k : κ} {l m : List (κ × ν)} (h : l.Perm m) (hm : (m.map (·.1)).Nodup) : sget k l = sget k m := by
  have hl : (l.map (·.1)).Nodup := (h.map _).nodup_iff.2 hm
  cases e : sget k m with
  | some v => exact sget_of_mem hl (h.mem_iff.2 (sget_mem e))
  | none => rw [sget_none] at e ⊢; exact fun p hp => e p (h.mem_iff.1 hp)
theorem sget_append {k : κ} {l m : List (κ × ν)} : sget k (l ++ m) = (sget k l).or (sget k m) := by
  induction l with
  | nil => simp [sget]
  | cons p l ih =>
    simp only [List.cons_append, sget]
    split
    · rfl
    · exact ih
theorem sget_filter {k : κ} {q : κ → Bool} : ∀ {l : List (κ × ν)}, sget k (l.filter fun p => q p.1) = if q k then sget k l else none
  | [] => by simp [sget]
  | p :: l => by
    simp only [List.filter_cons]
    by_cases hp : q p.1 = true
    · rw [if_pos hp]
      simp only [sget]
      by_cases h : k = p.1
      · subst h; simp [hp]
      · rw [if_neg h, if_neg h, sget_filter]
    · rw [if_neg hp, sget_filter]
      simp only [sget]
      by_cases h : k = p.1
      · subst h; simp [hp]
      · rw [if_neg h]

theorem sget_put (o : Ord3 lt) (a k : κ) (v : ν) (l : List (κ × ν)) : sget a (sput lt k v l) = if a = k then some v else sget a l := by
  unfold sput
  rw [sget_append, sget_filter (q := fun x => lt x k)]
  simp only [sget]
  rw [sget_filter (q := fun x => lt k x)]
  by_cases h : a = k
  · subst h; simp [o.irr]
  · rw [if_neg h, if_neg h]
    by_cases h1 : lt a k = true
    · have h2 : lt k a = false := by
        cases e : lt k a with
        | false => rfl
        | true => have := o.tr _ _ _ h1 e; rw [o.irr] at this; cases this
      simp [h1, h2]
    · have h2 : lt k a = true := by
        cases e : lt k a with
        | true => rfl
        | false => exact absurd (o.tri _ _ (by simpa using h1) e) h
      simp [h1, h2]
theorem sget_del (a k : κ) (l : List (κ × ν)) : sget a (sdel k l) = if a = k then none else sget a l := by
  unfold sdel
  rw [sget_filter (q := fun x => !decide (x = k))]
  by_cases h : a = k <;> simp [h]

theorem srtd_put (o : Ord3 lt) {l : List (κ × ν)} (h : Srtd lt l) (k : κ) (v : ν) : Srtd lt (sput lt k v l) := by
  unfold sput Srtd
  rw [List.pairwise_append, List.pairwise_cons]
  refine ⟨h.filter _, ⟨fun q hq => (List.mem_filter.1 hq).2, h.filter _⟩, fun p hp q hq => ?_⟩
  have h1 := (List.mem_filter.1 hp).2
  rcases List.mem_cons.1 hq with rfl | hq
  · exact h1
  · exact o.tr _ _ _ h1 (List.mem_filter.1 hq).2
theorem srtd_del {l : List (κ × ν)} (h : Srtd lt l) (k : κ) : Srtd lt (sdel k l) := h.filter _

/-- Sorted lists with the same under every key are the same. -/
theorem srtd_ext (o : Ord3 lt) : ∀ {l m : List (κ × ν)}, Srtd lt l → Srtd lt m → (∀ k, sget k l = sget k m) → l = m
  | [], [], _, _, _ => rfl
  | [], q :: m, _, _, h => by have := h q.1; simp [sget] at this
  | p :: l, [], _, _, h => by have := h p.1; simp [sget] at this
  | p :: l, q :: m, hl, hm, h => by
    have hl2 := List.pairwise_cons.1 hl
    have hm2 := List.pairwise_cons.1 hm
    have hpq : p.1 = q.1 := by
      refine o.tri _ _ ?_ ?_
      · cases e : lt p.1 q.1 with
        | false => rfl
        | true =>
          have h1 := h p.1
          have : sget p.1 (q :: m) = none := sget_none.2 fun x hx => by
            rintro ex
            rcases List.mem_cons.1 hx with rfl | hx
            · rw [ex, o.irr] at e; cases e
            · have := o.tr _ _ _ e (hm2.1 x hx); rw [ex, o.irr] at this; cases this
          rw [this] at h1; simp [sget] at h1
      · cases e : lt q.1 p.1 with
        | false => rfl
        | true =>
          have h1 := h q.1
          have : sget q.1 (p :: l) = none := sget_none.2 fun x hx => by
            rintro ex
            rcases List.mem_cons.1 hx with rfl | hx
            · rw [ex, o.irr] at e; cases e
            · have := o.tr _ _ _ e (hl2.1 x hx); rw [ex, o.irr] at this; cases this
          rw [this] at h1; simp [sget] at h1
    have hv : p.2 = q.2 := by have := h p.1; rw [← hpq.symm] at this; simp [sget, hpq] at this; exact this
    have hp : p = q := Prod.ext hpq hv
    subst hp
    congr 1
    refine srtd_ext o hl2.2 hm2.2 fun k => ?_
    have := h k
    simp only [sget] at this
    by_cases hk : k = p.1
    · subst hk
      have a1 : sget p.1 l = none := sget_none.2 fun x hx ex => by have := hl2.1 x hx; rw [ex, o.irr] at this; cases this
      have a2 : sget p.1 m = none := sget_none.2 fun x hx ex => by have := hm2.1 x hx; rw [ex, o.irr] at this; cases this
      rw [a1, a2]
    · rwa [if_neg hk, if_neg hk] at this
theorem sput_same (o : Ord3 lt) {l : List (κ × ν)} (h : Srtd lt l) {k : κ} {v : ν} (hk : sget k l = some v) : sput lt k v l = l :=
  srtd_ext o (srtd_put o h k v) h fun a => by
    rw [sget_put o]
    by_cases e : a = k
    · subst e; rw [if_pos rfl, hk]
    · rw [if_neg e]
theorem sput_put (o : Ord3 lt) {l : List (κ × ν)} (h : Srtd lt l) (k : κ) (u v : ν) : sput lt k v (sput lt k u l) = sput lt k v l :=
  srtd_ext o (srtd_put o (srtd_put o h k u) k v) (srtd_put o h k v) fun a => by
    simp only [sget_put o]
    by_cases e : a = k <;> simp [e]
theorem sdel_none {k : κ} {l : List (κ × ν)} (h : sget k l = none) : sdel k l = l := by
  unfold sdel
  rw [List.filter_eq_self]
  intro p hp
  have := sget_none.1 h p hp
  simpa using this
theorem sput_perm (o : Ord3 lt) {l : List (κ × ν)} (h : (l.map (·.1)).Nodup) (k : κ) (v : ν) : (sput lt k v l).Perm ((k, v) :: sdel k l) := by
  unfold sput sdel
  refine List.perm_middle.trans (List.Perm.cons _ ?_)
  clear h
  induction l with
  | nil => exact List.Perm.refl _
  | cons p l ih =>
    simp only [List.filter_cons]
    by_cases h1 : lt p.1 k = true
    · have h2 : lt k p.1 = false := by
        cases e : lt k p.1 with
        | false => rfl
        | true => have := o.tr _ _ _ h1 e; rw [o.irr] at this; cases this
      have h3 : p.1 ≠ k := by rintro rfl; rw [o.irr] at h1; cases h1
      simp only [h1, h2, h3, if_true, List.cons_append]
      exact ih.cons p
    · by_cases h2 : lt k p.1 = true
      · have h3 : p.1 ≠ k := by rintro rfl; rw [o.irr] at h2; cases h2
        simp only [h1, h2, h3, if_true]
        exact List.perm_middle.trans (ih.cons p)
      · have h3 : p.1 = k := o.tri _ _ (by simpa using h1) (by simpa using h2)
        simp only [h3, o.irr]
        simpa using ih
end sorted
end Go.X.G
