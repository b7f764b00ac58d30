/-
  What the disk's functions keep.
-/
import Derived.Test.YtkekcdcmmggbaaaDiskG
namespace Go.Proofs.Ytkekcdcmmggbaaa
open Go.X

theorem fget_none_iff {n : ByteArray} : ∀ {l : List FM}, fget n l = none ↔ n ∉ l.map (·.name)
  | [] => by simp [fget]
  | x :: l => by
    simp only [fget, List.map_cons, List.mem_cons]
    by_cases h : n = x.name
    · simp [h]
    · simp [h, fget_none_iff (l := l)]
theorem names_fens (n : ByteArray) (l : List FM) (h : (l.map (·.name)).Nodup) : ((fens n l).map (·.name)).Nodup := by
  unfold fens; split
  · exact h
  · rename_i hn
    rw [List.map_append, List.nodup_append]
    refine ⟨h, by simp, ?_⟩
    intro a ha b hb
    simp only [List.map_cons, List.map_nil, List.mem_singleton] at hb
    subst hb
    rintro rfl
    exact fget_none_iff.1 hn ha
theorem fget_snoc {n : ByteArray} : ∀ {l : List FM}, fget n l = none → fget n (l ++ [⟨n, [], 0⟩]) = some ⟨n, [], 0⟩
  | [], _ => by simp [fget]
  | x :: l, h => by
    simp only [fget] at h
    split at h
    · cases h
    · rename_i hx
      simp only [List.cons_append, fget, hx, if_false]
      exact fget_snoc h
theorem fget_fens (n : ByteArray) (l : List FM) : ∃ f, fget n (fens n l) = some f ∧ (f.bs.length = (match fget n l with | some g => g.bs.length | none => 0)) ∧ (fget n l = some f ∨ f = ⟨n, [], 0⟩) := by
  unfold fens
  cases h : fget n l with
  | some f => exact ⟨f, h, rfl, .inl rfl⟩
  | none => exact ⟨⟨n, [], 0⟩, fget_snoc h, rfl, .inr rfl⟩
theorem mem_fens {n : ByteArray} {l : List FM} {f : FM} (h : f ∈ fens n l) : f ∈ l ∨ f = ⟨n, [], 0⟩ := by
  unfold fens at h
  split at h
  · exact .inl h
  · rcases List.mem_append.1 h with h | h
    · exact .inl h
    · exact .inr (by simpa using h)

theorem fput_keeps {l : List FM} (hn : (l.map (·.name)).Nodup) (hs : ∀ f, f ∈ l → f.sy ≤ f.bs.length) (n : ByteArray) (bs : List UInt8) :
    ((fput n bs l).map (·.name)).Nodup ∧ (∀ f, f ∈ fput n bs l → f.sy ≤ f.bs.length) ∧ lenSum (fput n bs l) = lenSum l + bs.length := by
  obtain ⟨f, hf, _, _⟩ := fget_fens n l
  have he : fput n bs l = fset ⟨n, f.bs ++ bs, f.sy⟩ (fens n l) := by unfold fput; rw [hf]
  have hs' : ∀ g, g ∈ fens n l → g.sy ≤ g.bs.length := by
    intro g hg
    rcases mem_fens hg with h | rfl
    · exact hs g h
    · exact Nat.le_refl _
  rw [he]
  refine ⟨by rw [names_fset]; exact names_fens n l hn, ?_, ?_⟩
  · intro g hg
    rcases mem_fset hg with rfl | hg
    · have := hs' f (fget_mem hf); simp only [List.length_append]; omega
    · exact hs' g hg
  · have := lenSum_fset (g := ⟨n, f.bs ++ bs, f.sy⟩) hf rfl
    rw [lenSum_fens] at this
    simp only [List.length_append] at this
    omega

theorem append_full {d : DM} {n : ByteArray} {bs : List UInt8} (hn : nameOK n.data.toList = true) (h : d.size < d.used + bs.length) : d.append n bs = (5, d) := by
  unfold DM.append; rw [if_neg (by rw [hn]; exact fun e => by cases e), if_pos h]
theorem append_ok {d : DM} {n : ByteArray} {bs : List UInt8} (hn : nameOK n.data.toList = true) (h : d.used + bs.length ≤ d.size) : d.append n bs = (0, { d with files := fput n bs d.files }) := by
  unfold DM.append; rw [if_neg (by rw [hn]; exact fun e => by cases e), if_neg (by omega)]
theorem wf_put {d : DM} (hd : d.wf) (n : ByteArray) (bs : List UInt8) (h : d.used + bs.length ≤ d.size) : DM.wf { d with files := fput n bs d.files } ∧ DM.used { d with files := fput n bs d.files } = d.used + bs.length := by
  obtain ⟨h1, h2, h3⟩ := fput_keeps hd.names hd.sy n bs
  exact ⟨⟨h1, h2, by show lenSum _ ≤ _; rw [h3]; exact h, hd.size, hd.born⟩, h3⟩
theorem wf_append {d : DM} (hd : d.wf) (n : ByteArray) (bs : List UInt8) : (d.append n bs).2.wf := by
  unfold DM.append
  split
  · exact hd
  · split
    · exact hd
    · exact (wf_put hd n bs (by omega)).1

theorem fdel_sub (n : ByteArray) : ∀ l : List FM, (fdel n l).Sublist l
  | [] => List.Sublist.refl _
  | x :: l => by
    simp only [fdel]; split
    · exact List.sublist_cons_self _ _
    · exact (fdel_sub n l).cons_cons _
theorem fdels_sub : ∀ (names : List ByteArray) (l : List FM), (fdels names l).Sublist l
  | [], _ => List.Sublist.refl _
  | n :: ns, l => (fdels_sub ns (fdel n l)).trans (fdel_sub n l)
theorem wf_sub {d : DM} (hd : d.wf) {l : List FM} (h : l.Sublist d.files) (hu : lenSum l ≤ lenSum d.files) : DM.wf { d with files := l } :=
  ⟨(h.map _).nodup hd.names, fun f hf => hd.sy f (h.mem hf), Nat.le_trans hu hd.used, hd.size, hd.born⟩
theorem wf_delete {d : DM} (hd : d.wf) (names : List ByteArray) : (d.delete names).2.wf := by
  unfold DM.delete; split
  · exact wf_sub hd (fdels_sub _ _) (lenSum_fdels_le _ _)
  · exact hd

theorem delete_one {d : DM} {n : ByteArray} {f : FM} (h : fget n d.files = some f) : d.delete [n] = (0, { d with files := fdel n d.files }) ∧ (DM.used { d with files := fdel n d.files }) + f.bs.length = d.used := by
  refine ⟨?_, lenSum_fdel h⟩
  unfold DM.delete DM.hasAll
  rw [List.all_cons, h]; rfl

end Go.Proofs.Ytkekcdcmmggbaaa
