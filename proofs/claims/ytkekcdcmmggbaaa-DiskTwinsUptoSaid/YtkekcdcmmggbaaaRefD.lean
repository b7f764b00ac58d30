/-
  Files in the order of their names: what the document's disk does with them, as plain data.
-/
import Derived.Test.YtkekcdcmmggbaaaRefC
namespace Go.Proofs.Ytkekcdcmmggbaaa
open Go.X

def Srt (l : List FM) : Prop := l.Pairwise fun a b => a.name.data.toList < b.name.data.toList

theorem ba_ext {a b : ByteArray} (h : a.data.toList = b.data.toList) : a = b := by
  cases a; cases b; congr 1; exact Array.ext' h

theorem less_irrefl (a : List UInt8) : ¬ a < a := List.lt_irrefl a
theorem less_trans {a b c : List UInt8} (h : a < b) (k : b < c) : a < c := List.lt_trans h k

theorem place_at {n : ByteArray} : ∀ {l : List FM}, Srt l → (∀ f, fget n l = some f → isAt n l = true ∧ l[place n l]? = some f) ∧ (fget n l = none → isAt n l = false)
  | [], _ => by simp [fget, isAt]
  | g :: l, h => by
    rw [Srt, List.pairwise_cons] at h
    obtain ⟨h1, h2⟩ := h
    obtain ⟨ih1, ih2⟩ := place_at (n := n) (l := l) h2
    have key : Op.bytesLess g.name.data.toList n.data.toList = true ↔ g.name.data.toList < n.data.toList := less_iff _ _
    by_cases hl : g.name.data.toList < n.data.toList
    · have hne : n ≠ g.name := by rintro rfl; exact less_irrefl _ hl
      have hp : place n (g :: l) = place n l + 1 := by simp only [place]; rw [if_pos (key.2 hl)]
      have hi : isAt n (g :: l) = isAt n l := by simp only [isAt, hp, List.getElem?_cons_succ]
      refine ⟨fun f hf => ?_, fun hf => ?_⟩
      · simp only [fget, if_neg hne] at hf
        rw [hi, hp]; simpa using ih1 f hf
      · simp only [fget, if_neg hne] at hf
        rw [hi]; exact ih2 hf
    · have hp : place n (g :: l) = 0 := by simp only [place]; rw [if_neg (fun e => hl (key.1 e))]
      have hi : isAt n (g :: l) = decide (g.name.data.toList = n.data.toList) := by simp only [isAt, hp, List.getElem?_cons_zero]
      by_cases hn : n = g.name
      · subst hn
        refine ⟨fun f hf => ?_, fun hf => ?_⟩
        · simp only [fget, if_true] at hf
          rw [hi, hp]; simp; simpa using hf
        · simp [fget] at hf
      · refine ⟨fun f hf => ?_, fun hf => ?_⟩
        · simp only [fget, if_neg hn] at hf
          have hm := h1 f (fget_mem hf)
          rw [fget_name hf] at hm
          exact absurd hm hl
        · rw [hi, decide_eq_false]; intro q; exact hn (ba_ext q.symm)

theorem isAt_eq {n : ByteArray} {l : List FM} (h : Srt l) : isAt n l = (fget n l).isSome := by
  cases e : fget n l with
  | some f => exact ((place_at h).1 f e).1
  | none => exact (place_at h).2 e

theorem place_lt_of {n : ByteArray} {l : List FM} (h : Srt l) : (∀ f, f ∈ l.take (place n l) → f.name.data.toList < n.data.toList) := by
  induction l with
  | nil => simp
  | cons g l ih =>
    rw [Srt, List.pairwise_cons] at h
    simp only [place]
    split
    · rename_i hl
      intro f hf
      rw [List.take_succ_cons] at hf
      rcases List.mem_cons.1 hf with rfl | hf
      · exact (less_iff _ _).1 hl
      · exact ih h.2 f hf
    · simp

theorem place_ge_of {n : ByteArray} {l : List FM} (h : Srt l) : (∀ f, f ∈ l.drop (place n l) → ¬ f.name.data.toList < n.data.toList) := by
  induction l with
  | nil => simp
  | cons g l ih =>
    rw [Srt, List.pairwise_cons] at h
    simp only [place]
    split
    · rw [List.drop_succ_cons]; exact ih h.2
    · rename_i hl
      intro f hf
      rw [List.drop_zero] at hf
      have hg : ¬ g.name.data.toList < n.data.toList := fun e => hl ((less_iff _ _).2 e)
      rcases List.mem_cons.1 hf with rfl | hf
      · exact hg
      · exact fun e => hg (less_trans (h.1 f hf) e)

theorem srt_nodup {l : List FM} (h : Srt l) : (l.map (·.name)).Nodup := by
  rw [List.Nodup, List.pairwise_map]
  refine h.imp fun {a b} hab e => ?_
  rw [e] at hab; exact less_irrefl _ hab

theorem srt_names {l m : List FM} (e : l.map (·.name) = m.map (·.name)) (h : Srt l) : Srt m := by
  have h1 : (l.map (·.name)).Pairwise fun a b => a.data.toList < b.data.toList := by rw [List.pairwise_map]; exact h
  rw [e, List.pairwise_map] at h1
  exact h1

theorem set_fset {f : FM} : ∀ {l : List FM}, Srt l → isAt f.name l = true → l.set (place f.name l) f = fset f l
  | [], _, _ => rfl
  | g :: l, h, hi => by
    have h' := h
    rw [Srt, List.pairwise_cons] at h
    simp only [place, fset]
    by_cases hl : Op.bytesLess g.name.data.toList f.name.data.toList = true
    · have hne : f.name ≠ g.name := by
        intro e; rw [e] at hl; exact less_irrefl _ ((less_iff _ _).1 hl)
      rw [if_pos hl, if_neg hne, List.set_cons_succ, set_fset h.2]
      have hp : place f.name (g :: l) = place f.name l + 1 := by simp only [place]; rw [if_pos hl]
      simpa only [isAt, hp, List.getElem?_cons_succ] using hi
    · have hp : place f.name (g :: l) = 0 := by simp only [place]; rw [if_neg hl]
      simp only [isAt, hp, List.getElem?_cons_zero, decide_eq_true_eq] at hi
      rw [if_neg hl, if_pos (ba_ext hi.symm)]; rfl

theorem erase_fdel {n : ByteArray} : ∀ {l : List FM}, Srt l → isAt n l = true → l.eraseIdx (place n l) = fdel n l
  | [], _, _ => rfl
  | g :: l, h, hi => by
    rw [Srt, List.pairwise_cons] at h
    simp only [place, fdel]
    by_cases hl : Op.bytesLess g.name.data.toList n.data.toList = true
    · have hne : n ≠ g.name := by
        intro e; rw [e] at hl; exact less_irrefl _ ((less_iff _ _).1 hl)
      rw [if_pos hl, if_neg hne, List.eraseIdx_cons_succ, erase_fdel h.2]
      have hp : place n (g :: l) = place n l + 1 := by simp only [place]; rw [if_pos hl]
      simpa only [isAt, hp, List.getElem?_cons_succ] using hi
    · have hp : place n (g :: l) = 0 := by simp only [place]; rw [if_neg hl]
      simp only [isAt, hp, List.getElem?_cons_zero, decide_eq_true_eq] at hi
      rw [if_neg hl, if_pos (ba_ext hi.symm)]; rfl

/-- A file at its place. -/
def rins (f : FM) (l : List FM) : List FM := match fget f.name l with | some _ => fset f l | none => l.take (place f.name l) ++ f :: l.drop (place f.name l)

theorem fms_rput {x : RFile} {fs : List RFile} (h : Srt (fms fs)) : fms (rput x fs) = rins x.f (fms fs) := by
  unfold rput rins
  have hi := isAt_eq (n := x.f.name) h
  cases e : fget x.f.name (fms fs) with
  | some g =>
    rw [e, Option.isSome_some] at hi
    rw [if_pos hi, ← set_fset h hi, fms, List.map_set]
  | none =>
    rw [e] at hi
    rw [if_neg (by rw [hi]; exact Bool.false_ne_true)]
    simp [fms, List.map_take, List.map_drop]

theorem fms_rdrop {n : ByteArray} {fs : List RFile} (h : Srt (fms fs)) : fms (rdrop n fs) = fdel n (fms fs) := by
  unfold rdrop
  have hi := isAt_eq (n := n) h
  cases e : fget n (fms fs) with
  | some g =>
    rw [e, Option.isSome_some] at hi
    rw [if_pos hi, ← erase_fdel h hi, fms, fms, ← eraseIdx_map']
  | none =>
    rw [e] at hi
    rw [if_neg (by rw [hi]; exact Bool.false_ne_true), fdel_none e]

theorem srt_fdel {n : ByteArray} {l : List FM} (h : Srt l) : Srt (fdel n l) := h.sublist (fdel_sub n l)
theorem srt_fset {f : FM} {l : List FM} (h : Srt l) : Srt (fset f l) := srt_names (names_fset f l).symm h

theorem less_of_not {a b : List UInt8} (h : ¬ a < b) (hn : a ≠ b) : b < a := by
  rcases List.le_iff_lt_or_eq.1 (List.not_lt.1 h) with q | q
  · exact q
  · exact absurd q.symm hn

theorem srt_rins {f : FM} {l : List FM} (h : Srt l) : Srt (rins f l) := by
  unfold rins
  split
  · exact srt_fset h
  · rename_i hn
    rw [Srt, List.pairwise_append]
    refine ⟨h.sublist (List.take_sublist _ _), ?_, ?_⟩
    · rw [List.pairwise_cons]
      refine ⟨fun g hg => ?_, h.sublist (List.drop_sublist _ _)⟩
      refine less_of_not (place_ge_of h g hg) fun e => ?_
      have := fget_none_iff.1 hn
      exact this (by rw [List.mem_map]; exact ⟨g, List.mem_of_mem_drop hg, ba_ext e⟩)
    · intro a ha b hb
      have h1 := place_lt_of h a ha
      rcases List.mem_cons.1 hb with rfl | hb
      · exact h1
      · have h2 := place_ge_of h b hb
        by_cases e : b.name.data.toList = f.name.data.toList
        · rw [e]; exact h1
        · exact less_trans h1 (less_of_not h2 e)

theorem fget_app (a : ByteArray) : ∀ l m : List FM, fget a (l ++ m) = match fget a l with | some f => some f | none => fget a m
  | [], m => rfl
  | x :: l, m => by
    simp only [List.cons_append, fget]
    by_cases hx : a = x.name
    · simp [hx]
    · simp only [if_neg hx]; exact fget_app a l m

theorem fget_rins {f : FM} {l : List FM} (a : ByteArray) : fget a (rins f l) = if a = f.name then some f else fget a l := by
  unfold rins
  cases hn : fget f.name l with
  | some g =>
    simp only [fget_set]
    by_cases ha : a = f.name
    · subst ha; simp [hn]
    · simp [ha]
  | none =>
    simp only [fget_app, fget]
    have hsplit : fget a l = match fget a (l.take (place f.name l)) with | some g => some g | none => fget a (l.drop (place f.name l)) := by
      rw [← fget_app, List.take_append_drop]
    by_cases ha : a = f.name
    · rw [← ha] at hn hsplit ⊢
      rw [hn] at hsplit
      simp only [if_true]
      cases h1 : fget a (l.take (place a l)) with
      | some g => rw [h1] at hsplit; cases hsplit
      | none => rfl
    · simp only [if_neg ha]; exact hsplit.symm

theorem sum_rins {f : FM} {l : List FM} : lenSum (rins f l) + (bytesOf f.name l).length = lenSum l + f.bs.length := by
  unfold rins bytesOf
  cases hn : fget f.name l with
  | some g => exact lenSum_fset hn rfl
  | none =>
    simp only [lenSum_append, lenSum, List.length_nil, Nat.add_zero]
    have := lenSum_append (l.take (place f.name l)) (l.drop (place f.name l))
    rw [List.take_append_drop] at this
    omega

