/-
  The plain law of the disk: a step on a disk and on the document's answers alike, and they stay alike.
-/
import Derived.Test.YtkekcdcmmggbaaaLawE
namespace Go.Proofs.Ytkekcdcmmggbaaa
open Go.X

def Fq (l m : List FM) : Prop := ∀ n, fget n l = fget n m

theorem Fq.bytesOf {l m : List FM} (h : Fq l m) (n : ByteArray) : bytesOf n l = bytesOf n m := by unfold Go.Proofs.Ytkekcdcmmggbaaa.bytesOf; rw [h]
theorem Fq.syOf {l m : List FM} (h : Fq l m) (n : ByteArray) : syOf n l = syOf n m := by unfold Go.Proofs.Ytkekcdcmmggbaaa.syOf; rw [h]

theorem Fq.put {l m : List FM} (h : Fq l m) (n : ByteArray) (bs : List UInt8) : Fq (fput n bs l) (rins ⟨n, Go.Proofs.Ytkekcdcmmggbaaa.bytesOf n m ++ bs, Go.Proofs.Ytkekcdcmmggbaaa.syOf n m⟩ m) := by
  intro a
  rw [fget_put, fget_rins, h.bytesOf, h.syOf, h]
theorem Fq.put2 {l m : List FM} (h : Fq l m) (n : ByteArray) (bs : List UInt8) : Fq (fput n bs l) (fput n bs m) := by
  intro a
  rw [fget_put, fget_put, h.bytesOf, h.syOf, h]
theorem Fq.sync {l m : List FM} (h : Fq l m) (n : ByteArray) : Fq (fsync n l) (fsync n m) := by
  intro a
  rw [fget_sync, fget_sync, h, h]
theorem Fq.syncs : ∀ (names : List ByteArray) {l m : List FM}, Fq l m → Fq (fsyncs names l) (fsyncs names m)
  | [], _, _, h => h
  | n :: ns, _, _, h => Fq.syncs ns (h.sync n)
theorem Fq.all {l m : List FM} (h : Fq l m) (names : List ByteArray) : (names.all fun s => (fget s l).isSome) = names.all fun s => (fget s m).isSome := by
  congr 1; funext n; rw [h]
theorem nodup_fdel {n : ByteArray} {l : List FM} (h : (l.map (·.name)).Nodup) : ((fdel n l).map (·.name)).Nodup := ((fdel_sub n l).map _).nodup h
theorem Fq.del {l m : List FM} (h : Fq l m) (hl : (l.map (·.name)).Nodup) (hm : (m.map (·.name)).Nodup) (n : ByteArray) : Fq (fdel n l) (fdel n m) := by
  intro a
  rw [fget_del _ _ _ hl, fget_del _ _ _ hm, h]
theorem Fq.dels : ∀ (names : List ByteArray) {l m : List FM}, Fq l m → (l.map (·.name)).Nodup → (m.map (·.name)).Nodup → Fq (fdels names l) (fdels names m)
  | [], _, _, h, _, _ => h
  | n :: ns, _, _, h, hl, hm => Fq.dels ns (h.del hl hm n) (nodup_fdel hl) (nodup_fdel hm)
theorem Fq.rename {l m : List FM} (h : Fq l m) (hl : (l.map (·.name)).Nodup) (hm : (m.map (·.name)).Nodup) {a b : ByteArray} (hab : a ≠ b) (f : FM) : Fq (frename a b f l) (rins ⟨b, f.bs, f.sy⟩ (fdel a m)) := by
  intro c
  rw [fget_rename hl, fget_rins, fget_del _ _ _ hm, h]
  by_cases h1 : c = a
  · subst h1; rw [if_pos rfl, if_neg hab, if_pos rfl]
  · rw [if_neg h1, if_neg h1]

theorem name_of_toList (n : ByteArray) : (⟨n.data.toList.toArray⟩ : ByteArray) = n := by cases n; rfl

/-- A crash under the names in their order: name by name. -/
theorem crash_at {l m : List FM} (h : Fq l m) (hm : (m.map (·.name)).Nodup) (picks : List Int) : ∀ k,
    (∀ (i : Nat) f, m[i]? = some f → fget f.name (crashN (m.map (·.name.data.toList)) picks k l) = some (if i < k then cr1 f picks[i]? else f)) ∧ (∀ n, fget n m = none → fget n (crashN (m.map (·.name.data.toList)) picks k l) = none)
  | 0 => ⟨fun i f hf => by
      simp only [crashN, Nat.not_lt_zero, if_false]
      rw [h]; exact (fget_iff hm f).1 (List.mem_of_getElem? hf), fun n hn => by simp only [crashN]; rw [h]; exact hn⟩
  | k + 1 => by
    obtain ⟨h1, h2⟩ := crash_at h hm picks k
    simp only [crashN, List.getElem?_map]
    cases hk : m[k]? with
    | none =>
      simp only [Option.map_none]
      refine ⟨fun i f hf => ?_, h2⟩
      have hi : i < k := by
        have a := (List.getElem?_eq_some_iff.1 hf).1
        rw [List.getElem?_eq_none_iff] at hk; omega
      rw [h1 i f hf, if_pos hi, if_pos (by omega)]
    | some g =>
      simp only [Option.map_some, name_of_toList]
      refine ⟨fun i f hf => ?_, fun n hn => ?_⟩
      · rw [fget_crash1]
        by_cases hi : i = k
        · subst hi
          rw [hk] at hf; cases hf
          rw [if_pos rfl, h1 i g hk, if_neg (by omega), if_pos (by omega)]; rfl
        · have hne : f.name ≠ g.name := by
            intro e
            have hl1 := (List.getElem?_eq_some_iff.1 hf).1
            exact hi ((List.getElem?_inj (by rw [List.length_map]; exact hl1) hm).1 (by rw [List.getElem?_map, List.getElem?_map, hf, hk]; exact congrArg some e))
          rw [if_neg hne, h1 i f hf]
          by_cases hlt : i < k
          · rw [if_pos hlt, if_pos (by omega)]
          · rw [if_neg hlt, if_neg (by omega)]
      · rw [fget_crash1]
        have hne : n ≠ g.name := by
          rintro rfl
          have := (fget_iff hm g).1 (List.mem_of_getElem? hk)
          rw [hn] at this; cases this
        rw [if_neg hne]; exact h2 n hn

theorem crashR_get {m : List FM} (hm : (m.map (·.name)).Nodup) (picks : List Int) : (∀ (i : Nat) f, m[i]? = some f → fget f.name (crashR picks m) = some (cr1 f picks[i]?)) ∧ (∀ n, fget n m = none → fget n (crashR picks m) = none) := by
  have hn : ((crashR picks m).map (·.name)).Nodup := by rw [crashR_names]; exact hm
  refine ⟨fun i f hf => ?_, fun n h => ?_⟩
  · have hm2 : cr1 f picks[i]? ∈ crashR picks m := by
      refine List.mem_of_getElem? (i := i) ?_
      unfold crashR; rw [List.getElem?_mapIdx, hf]; rfl
    exact (fget_iff hn _).1 hm2
  · rw [fget_none_iff, crashR_names]; exact fget_none_iff.1 h

theorem Fq.crash {l m : List FM} (h : Fq l m) (hm : (m.map (·.name)).Nodup) (picks : List Int) : Fq (crashN (m.map (·.name.data.toList)) picks (m.map (·.name.data.toList)).length l) (crashR picks m) := by
  obtain ⟨h1, h2⟩ := crash_at h hm picks (m.map (·.name.data.toList)).length
  obtain ⟨h3, h4⟩ := crashR_get hm picks
  intro n
  cases e : fget n m with
  | none => rw [h2 n e, h4 n e]
  | some f =>
    have hnm := fget_name e
    subst hnm
    obtain ⟨i, hi⟩ := List.getElem?_of_mem (fget_mem e)
    have hlt := (List.getElem?_eq_some_iff.1 hi).1
    rw [h1 i f hi, h3 i f hi, if_pos (by rw [List.length_map]; exact hlt)]

theorem Alk.fq {d r : DM} (h : Alk d r) : Fq d.files r.files := h.files

/-- A step on both: the answers are the same, and so is what they hold. -/
theorem step_alk {d r : DM} (h : Alk d r) (hd : d.wf) (hr : r.wf) (hs : Srt r.files) (x : AM) : stepV d r x = true ∧ Alk (stepD d x) (stepR r x) := by
  have hq := h.fq
  have hu := h.used hd hr
  by_cases h1 : x.op = 1
  · rw [stepV_1 h1]
    simp only [stepD, stepR, h1, if_true]
    unfold DM.append DM.rappend
    rw [h.size, hu]
    by_cases hk : nameOK x.name.data.toList = false
    · rw [if_pos hk, if_pos hk]; exact ⟨by simp, h⟩
    · rw [if_neg hk, if_neg hk]
      by_cases hf : r.size < r.used + x.bytes.length
      · rw [if_pos hf, if_pos hf]; exact ⟨by simp, h⟩
      · rw [if_neg hf, if_neg hf]; exact ⟨by simp, ⟨rfl, h.born, hq.put _ _⟩⟩
  by_cases h2 : x.op = 2
  · rw [stepV_2 h2]
    simp only [stepD, stepR, h2]
    unfold DM.sync DM.hasAll
    rw [hq.all]
    split
    · exact ⟨by simp, ⟨h.size, h.born, Fq.syncs _ hq⟩⟩
    · exact ⟨by simp, h⟩
  by_cases h3 : x.op = 3
  · rw [stepV_3 h3]
    simp only [stepD, stepR, h3]
    unfold DM.rename DM.rrename
    rw [hq x.name]
    cases hg : fget x.name r.files with
    | none => exact ⟨by simp, h⟩
    | some f =>
      by_cases hk : nameOK x.to_.data.toList = false
      · simp only [if_pos hk]; exact ⟨by simp, h⟩
      · simp only [if_neg hk]
        by_cases hab : x.name = x.to_
        · simp only [if_pos hab]; exact ⟨by simp, h⟩
        · simp only [if_neg hab]; exact ⟨by simp, ⟨h.size, h.born, hq.rename hd.names hr.names hab f⟩⟩
  by_cases h4 : x.op = 4
  · rw [stepV_4 h4]
    simp only [stepD, stepR, h4]
    unfold DM.delete DM.hasAll
    rw [hq.all]
    split
    · exact ⟨by simp, ⟨h.size, h.born, Fq.dels _ hq hd.names hr.names⟩⟩
    · exact ⟨by simp, h⟩
  by_cases h5 : x.op = 5
  · rw [stepV_5 h5]
    simp only [stepD, stepR, h5]
    refine ⟨trivial, ⟨h.size, h.born, ?_⟩⟩
    have hL : d.list [] = r.files.map (·.name.data.toList) := by rw [list_eq h hd hr hs, selN_nil, List.map_map]; rfl
    show Fq (crashN (d.list []) x.picks (d.list []).length d.files) (crashR x.picks r.files)
    rw [hL]
    exact hq.crash hr.names x.picks
  by_cases h6 : x.op = 6
  · rw [stepV_6 h6]
    simp only [stepD, stepR, h6]
    exact ⟨trivial, ⟨h.size, congrArg (· + 1) h.born, fun _ => rfl⟩⟩
  · have e1 : stepD d x = d := by simp [stepD, h1, h2, h3, h4, h5, h6]
    have e2 : stepR r x = r := by simp [stepR, h1, h2, h3, h4, h5, h6]
    have e3 : stepV d r x = true := by simp [stepV, h1, h2, h3, h4]
    rw [e1, e2, e3]; exact ⟨rfl, h⟩

end Go.Proofs.Ytkekcdcmmggbaaa
