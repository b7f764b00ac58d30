/-
  What a disk holds under a name, after each of its functions; what they keep.
-/
import Derived.Test.YtkekcdcmmggbaaaDiskH
namespace Go.Proofs.Ytkekcdcmmggbaaa
open Go.X

theorem fget_set (a : ByteArray) (g : FM) : ∀ l : List FM, fget a (fset g l) = if a = g.name then (fget a l).map (fun _ => g) else fget a l
  | [] => by simp [fset, fget]
  | x :: l => by
    have ih := fget_set a g l
    simp only [fset]
    by_cases h : g.name = x.name
    · rw [if_pos h]
      by_cases ha : a = g.name
      · subst ha; simp [fget, h]
      · have : a ≠ x.name := by rw [← h]; exact ha
        simp [fget, ha, this]
    · rw [if_neg h]
      by_cases hx : a = x.name
      · have : a ≠ g.name := by rintro rfl; exact h hx
        rw [if_neg this]; simp only [fget, if_pos hx]
      · simp only [fget, if_neg hx, ih]

theorem fget_del (a n : ByteArray) : ∀ l : List FM, (l.map (·.name)).Nodup → fget a (fdel n l) = if a = n then none else fget a l
  | [], _ => by simp [fdel, fget]
  | x :: l, h => by
    simp only [List.map_cons, List.nodup_cons] at h
    have ih := fget_del a n l h.2
    simp only [fdel]
    by_cases hn : n = x.name
    · rw [if_pos hn]
      by_cases ha : a = n
      · rw [if_pos ha, ha, hn]; exact fget_none_iff.2 h.1
      · rw [if_neg ha]; simp only [fget]; rw [if_neg (by rw [← hn]; exact ha)]
    · rw [if_neg hn]
      by_cases hx : a = x.name
      · rw [if_neg (by rw [hx]; exact fun e => hn e.symm)]; simp [fget, hx]
      · simp only [fget, if_neg hx, ih]

theorem fget_snoc' (a : ByteArray) (g : FM) : ∀ l : List FM, fget a (l ++ [g]) = match fget a l with | some f => some f | none => if a = g.name then some g else none
  | [] => by simp [fget]
  | x :: l => by
    simp only [List.cons_append, fget]
    by_cases hx : a = x.name
    · simp [hx]
    · simp only [if_neg hx]; exact fget_snoc' a g l

def bytesOf (n : ByteArray) (l : List FM) : List UInt8 := match fget n l with | some f => f.bs | none => []
def syOf (n : ByteArray) (l : List FM) : Nat := match fget n l with | some f => f.sy | none => 0

theorem fget_ens (a n : ByteArray) (l : List FM) : fget a (fens n l) = if a = n then some ((fget n l).getD ⟨n, [], 0⟩) else fget a l := by
  unfold fens
  cases h : fget n l with
  | some f =>
    by_cases ha : a = n
    · simp [ha, h]
    · simp [ha]
  | none =>
    simp only [fget_snoc']
    by_cases ha : a = n
    · subst ha; simp [h]
    · simp only [if_neg ha]; cases fget a l <;> rfl

theorem fget_put (a n : ByteArray) (bs : List UInt8) (l : List FM) : fget a (fput n bs l) = if a = n then some ⟨n, bytesOf n l ++ bs, syOf n l⟩ else fget a l := by
  unfold fput
  rw [fget_ens, if_pos rfl]
  simp only [fget_set, fget_ens]
  by_cases ha : a = n
  · subst ha
    unfold bytesOf syOf
    cases h : fget a l <;> simp
  · simp [ha]

theorem fget_sync (a n : ByteArray) (l : List FM) : fget a (fsync n l) = if a = n then (fget n l).map (fun f => ⟨n, f.bs, f.bs.length⟩) else fget a l := by
  unfold fsync
  cases h : fget n l with
  | some f =>
    simp only [fget_set]
    by_cases ha : a = n
    · subst ha; simp [h]
    · simp [ha]
  | none =>
    by_cases ha : a = n
    · subst ha; simp [h]
    · simp [ha]

theorem fget_crash1 (a n : ByteArray) (pk : Option Int) (l : List FM) : fget a (fcrash n pk l) = if a = n then (fget n l).map (fun f => ⟨n, f.bs.take (keptOf f pk), keptOf f pk⟩) else fget a l := by
  unfold fcrash
  cases h : fget n l with
  | some f =>
    simp only [fget_set]
    by_cases ha : a = n
    · subst ha; simp [h]
    · simp [ha]
  | none =>
    by_cases ha : a = n
    · subst ha; simp [h]
    · simp [ha]

theorem nodup_snoc {l : List FM} {g : FM} (h : (l.map (·.name)).Nodup) (hg : fget g.name l = none) : ((l ++ [g]).map (·.name)).Nodup := by
  rw [List.map_append, List.nodup_append]
  refine ⟨h, by simp, ?_⟩
  intro a ha b hb
  simp only [List.map_cons, List.map_nil, List.mem_singleton] at hb
  subst hb
  rintro rfl
  exact fget_none_iff.1 hg ha

/-- The files once the one that is renamed lies under both names. -/
def fboth (b : ByteArray) (f : FM) (l : List FM) : List FM := match fget b l with | some _ => fset ⟨b, f.bs, f.sy⟩ l | none => l ++ [⟨b, f.bs, f.sy⟩]
theorem frename_eq (a b : ByteArray) (f : FM) (l : List FM) : frename a b f l = fdel a (fboth b f l) := rfl
theorem both_names {b : ByteArray} {f : FM} {l : List FM} (h : (l.map (·.name)).Nodup) : ((fboth b f l).map (·.name)).Nodup := by
  unfold fboth; split
  · rw [names_fset]; exact h
  · rename_i hn; exact nodup_snoc h hn
theorem both_get (a b : ByteArray) (f : FM) (l : List FM) : fget a (fboth b f l) = if a = b then some ⟨b, f.bs, f.sy⟩ else fget a l := by
  unfold fboth
  cases h : fget b l with
  | some g =>
    simp only [fget_set]
    by_cases ha : a = b
    · subst ha; simp [h]
    · simp [ha]
  | none =>
    simp only [fget_snoc']
    by_cases ha : a = b
    · subst ha; simp [h]
    · simp only [if_neg ha]; cases fget a l <;> rfl
theorem both_mem {b : ByteArray} {f g : FM} {l : List FM} (h : g ∈ fboth b f l) : g ∈ l ∨ g = ⟨b, f.bs, f.sy⟩ := by
  unfold fboth at h; split at h
  · rcases mem_fset h with h | h
    · exact .inr h
    · exact .inl h
  · rcases List.mem_append.1 h with h | h
    · exact .inl h
    · exact .inr (by simpa using h)
theorem both_sum (b : ByteArray) (f : FM) (l : List FM) : lenSum (fboth b f l) + (bytesOf b l).length = lenSum l + f.bs.length := by
  unfold fboth bytesOf
  cases h : fget b l with
  | some g => exact lenSum_fset h rfl
  | none => simp [lenSum_append, lenSum]

theorem fget_rename {a b : ByteArray} {f : FM} {l : List FM} (h : (l.map (·.name)).Nodup) (c : ByteArray) :
    fget c (frename a b f l) = if c = a then none else if c = b then some ⟨b, f.bs, f.sy⟩ else fget c l := by
  rw [frename_eq, fget_del _ _ _ (both_names h), both_get]

theorem sum_rename {a b : ByteArray} {f : FM} {l : List FM} (hab : a ≠ b) (hf : fget a l = some f) : lenSum (frename a b f l) + (bytesOf b l).length = lenSum l := by
  have h1 := both_sum b f l
  have h2 : fget a (fboth b f l) = some f := by rw [both_get, if_neg hab]; exact hf
  have h3 := lenSum_fdel h2
  rw [frename_eq]; omega

theorem wf_sync {d : DM} (hd : d.wf) (names : List ByteArray) : (d.sync names).2.wf := by
  have h : ∀ (names : List ByteArray) (l : List FM), (l.map (·.name)).Nodup → (∀ f, f ∈ l → f.sy ≤ f.bs.length) → ((fsyncs names l).map (·.name)).Nodup ∧ (∀ f, f ∈ fsyncs names l → f.sy ≤ f.bs.length) := by
    intro names
    induction names with
    | nil => exact fun l a b => ⟨a, b⟩
    | cons n ns ih =>
      intro l a b
      refine ih (fsync n l) ?_ ?_
      · unfold fsync; split
        · rw [names_fset]; exact a
        · exact a
      · unfold fsync; split
        · intro g hg
          rcases mem_fset hg with rfl | h
          · exact Nat.le_refl _
          · exact b g h
        · exact b
  obtain ⟨h1, h2⟩ := h names d.files hd.names hd.sy
  unfold DM.sync; split
  · exact ⟨h1, h2, by show lenSum _ ≤ _; rw [lenSum_fsyncs]; exact hd.used, hd.size, hd.born⟩
  · exact hd

theorem wf_rename {d : DM} (hd : d.wf) (a b : ByteArray) : (d.rename a b).2.wf := by
  unfold DM.rename
  split
  · exact hd
  · rename_i f hf
    split
    · exact hd
    · split
      · exact hd
      · rename_i hab
        refine ⟨(List.Sublist.map _ (fdel_sub _ _)).nodup (both_names hd.names), ?_, ?_, hd.size, hd.born⟩
        · intro g hg
          rcases both_mem ((fdel_sub _ _).mem hg) with h | rfl
          · exact hd.sy g h
          · exact hd.sy f (fget_mem hf)
        · have := sum_rename hab hf
          have := hd.used
          simp only [DM.used] at *; omega

theorem wf_crash {d : DM} (hd : d.wf) (picks : List Int) : (d.crash picks).wf := by
  obtain ⟨h1, h2, h3, _⟩ := crash_keeps (d.list []) picks d.files hd.sy (d.list []).length
  exact ⟨by show (List.map _ (crashN _ _ _ _)).Nodup; rw [h3]; exact hd.names, h1, Nat.le_trans h2 hd.used, hd.size, hd.born⟩

theorem wf_lose {d : DM} (hd : d.wf) (hb : d.born < 1000000) : d.lose.wf := ⟨by simp [DM.lose], by simp [DM.lose], by simp [DM.lose, DM.used, lenSum], hd.size, by show d.born + 1 ≤ _; omega⟩

/-! How many files -/
theorem len_fset (g : FM) (l : List FM) : (fset g l).length = l.length := by
  have := congrArg List.length (names_fset g l); simpa using this
theorem len_fens (n : ByteArray) (l : List FM) : (fens n l).length ≤ l.length + 1 := by unfold fens; split <;> simp
theorem len_fput (n : ByteArray) (bs : List UInt8) (l : List FM) : (fput n bs l).length ≤ l.length + 1 := by
  unfold fput; split
  · rw [len_fset]; exact len_fens n l
  · omega
theorem len_append (d : DM) (n : ByteArray) (bs : List UInt8) : (d.append n bs).2.files.length ≤ d.files.length + 1 := by
  unfold DM.append; split
  · exact Nat.le_succ _
  · split
    · exact Nat.le_succ _
    · exact len_fput _ _ _
theorem len_fsyncs : ∀ (names : List ByteArray) (l : List FM), (fsyncs names l).length = l.length
  | [], _ => rfl
  | n :: ns, l => by
    refine (len_fsyncs ns (fsync n l)).trans ?_
    unfold fsync; split
    · exact len_fset _ _
    · rfl
theorem len_sync (d : DM) (names : List ByteArray) : (d.sync names).2.files.length = d.files.length := by
  unfold DM.sync; split
  · exact len_fsyncs _ _
  · rfl
theorem len_delete (d : DM) (names : List ByteArray) : (d.delete names).2.files.length ≤ d.files.length := by
  unfold DM.delete; split
  · exact (fdels_sub _ _).length_le
  · exact Nat.le_refl _
theorem len_rename (d : DM) (a b : ByteArray) : (d.rename a b).2.files.length ≤ d.files.length + 1 := by
  unfold DM.rename; split
  · exact Nat.le_succ _
  · split
    · exact Nat.le_succ _
    · split
      · exact Nat.le_succ _
      · refine Nat.le_trans (fdel_sub _ _).length_le ?_
        split
        · rw [len_fset]; exact Nat.le_succ _
        · simp
theorem len_crash (d : DM) (picks : List Int) : (d.crash picks).files.length = d.files.length := by
  unfold DM.crash
  have : ∀ (names : List (List UInt8)) (k : Nat) (l : List FM), (crashN names picks k l).length = l.length := by
    intro names k l
    induction k with
    | zero => rfl
    | succ k ih =>
      simp only [crashN]; split
      · rw [fcrash]; split
        · rw [len_fset]; exact ih
        · exact ih
      · exact ih
  exact this _ _ _

/-- A file that is synced whole comes whole out of a crash. -/
theorem crash_synced {d : DM} {n : ByteArray} {bs : List UInt8} (h : fget n d.files = some ⟨n, bs, bs.length⟩) (picks : List Int) : fget n (d.crash picks).files = some ⟨n, bs, bs.length⟩ := by
  unfold DM.crash
  have : ∀ (names : List (List UInt8)) (k : Nat), fget n (crashN names picks k d.files) = some ⟨n, bs, bs.length⟩ := by
    intro names k
    induction k with
    | zero => exact h
    | succ k ih =>
      simp only [crashN]; split
      · rw [fget_crash1]
        split
        · rename_i hn
          rw [← hn, ih]
          have := keptOf_le ⟨n, bs, bs.length⟩ (Nat.le_refl _) picks[k]?
          have hk : keptOf ⟨n, bs, bs.length⟩ picks[k]? = bs.length := Nat.le_antisymm this.2 this.1
          simp only [Option.map_some, hk, List.take_length]
        · exact ih
      · exact ih
  exact this _ _

end Go.Proofs.Ytkekcdcmmggbaaa
