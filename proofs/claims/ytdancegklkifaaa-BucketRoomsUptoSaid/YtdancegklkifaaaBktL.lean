/-
  The keys of a map of texts, in order: slices.Sorted(maps.Keys(m)).
-/
import Derived.Test.YtdancegklkifaaaKeys
import Derived.Test.YtdancegklkifaaaBktK
namespace Go.Proofs.Ytdancegklkifaaa
set_option linter.unusedSectionVars false
set_option linter.unusedSimpArgs false
set_option linter.unusedVariables false
open Go.RowKit Go.Maps Go.Shelf
open Go.X
open Go.X.G (Ord3 ord3_nat ord3_int ord3_str ltB sget sput sdel Srtd MapAt MapHole Ent Ents mobj)

/-- Behind a call that has turned nothing of what lay before, with a slice of its own. -/
theorem sat_behind {W0 w w' : World} {A : List Assn} {e n : Nat} {v : Value} {xs : List Value} (s : Sat W0 w A) (hb : Below w.heap.size w w') (hr : w'.ownsRow w.heap.size e 1 v n xs) : Sat W0 w' (own e 1 v xs :: A) := by
  have hsub : Sub (hp w) (hp w') := by
    intro b o h
    have hlt : b < w.heap.size := by
      rcases Nat.lt_or_ge b w.heap.size with q | q
      · exact q
      · simp only [hp] at h; rw [Array.getElem?_eq_none q] at h; cases h
    show w'.heap[b]? = some o
    rw [hb.block b hlt]; exact h
  refine ⟨hb.os.trans s.os, hb.tape.trans s.tape, hb.output.trans s.out, ?_⟩
  rcases hr.2 with ⟨rfl, hz⟩ | ⟨g, cap, cur, rfl, hg, hcell, r1, r2, r3, r4⟩
  · have hx : xs = [] := List.eq_nil_of_length_eq_zero (by rw [hr.1, hz])
    subst hx
    exact HSat.cons (own.nil _ _ (fun _ => none)) (s.heap.mono hsub) (fun _ => Or.inl rfl) (fun _ _ e => nomatch e) (Sub.refl _)
  · refine HSat.cons (h1 := fun x => if x = g then some (.cells cur e (0, 0)) else none) (h2 := hp w) (.inr ⟨⟨g, 0, n, cap, cur.toList, (0, 0)⟩, ⟨rfl, hr.1, r1, by simp; omega, ?_, by simp⟩, by simp [pt]⟩) s.heap ?_ ?_ hsub
    · intro j u hj
      have hlt := (List.getElem?_eq_some_iff.1 hj).1
      rw [← r4, List.getElem?_take] at hj
      rw [Nat.zero_add]
      split at hj
      · exact hj
      · cases hj
    · intro b
      by_cases hbg : b = g
      · right
        subst hbg
        show w.heap[b]? = none
        exact Array.getElem?_eq_none hg
      · left; simp [hbg]
    · intro b o h
      by_cases hbg : b = g
      · subst hbg
        simp only [if_true] at h
        show w'.heap[b]? = some o
        rw [hcell]; exact h
      · simp [hbg] at h

theorem keys_spec (mb : Option Nat) : FSpec Try.prog 30 [.map mb] [] (fun v B => ∃ b, v = .func (.func 45) #[] #[.pointer (some ⟨b, 0, none⟩)] ∧ B = [pt b (.cells #[.map mb] 74 (0, 0))]) := by
  refine ⟨fun W0 w F s => ?_⟩
  have c : CallsIn Fence.wide 5 Try.prog 30 #[.map mb] w fun e w' => e = .returned (.func (.func 45) #[] #[.pointer (some ⟨w.heap.size, 0, none⟩)]) ∧ w' = w.alloc (.cells #[.map mb] 74) :=
    AnyZ.keys_in Try.keys30 Fence.wide 5 trivial rfl mb w
  refine (callsIn_wide.1 c).mono ?_
  rintro e w' ⟨rfl, rfl⟩
  exact ⟨_, _, rfl, ⟨_, rfl, rfl⟩, s.new _⟩

theorem srt_bytes {ν : Type} {S : List (ByteArray × ν)} (hS : Srtd ltB S) : (S.map fun p => p.1.data.toList).mergeSort leB = S.map fun p => p.1.data.toList := by
  refine List.mergeSort_of_pairwise ?_
  rw [List.pairwise_map]
  refine hS.imp ?_
  intro a b h
  simp only [ltB, decide_eq_true_eq] at h
  simp only [decide_eq_true_eq]
  exact List.le_of_lt h

theorem kwf {s : ByteArray} (h : s.size ≤ maxLen) : keyOf Try.prog 9 (.string s) = some (.string s.data.toList) := by
  unfold keyOf mapKey
  simp only [Try.underlying9]
  rw [if_pos h]

/-- How an entry's value reads: it is not asked. -/
def cR : Value → Option (DataW Unit × List MemPlace) := fun _ => some (.lit (.bool true), [])
theorem rd_ent {e : X.G.MEnt ByteArray} (h : e.key.size ≤ maxLen) : WideElems.rd Try.prog 9 cR (X.G.MEnt.toEntry Value.string e) = some (.string e.key.data.toList, .lit (.bool true)) := by
  unfold WideElems.rd
  rw [show (X.G.MEnt.toEntry Value.string e).key = .string e.key from rfl, kwf h]; rfl
theorem rg_ent {e : X.G.MEnt ByteArray} (h : e.key.size ≤ maxLen) : WideElems.rg Try.prog 9 cR (X.G.MEnt.toEntry Value.string e) = (.string e.key.data.toList, .lit (.bool true)) := by
  unfold WideElems.rg; rw [rd_ent h]; rfl

section
variable {ν : Type} {rep : ByteArray → ν → Value → Assn} {r b : Nat} {S : List (ByteArray × ν)}

theorem owns_map {w : World} {es : List (Ent ByteArray ν)} {c : Nat} (hE : Ents S es c) (hr : w.heap[r]? = some (mobj Value.string (es.map Ent.m) c)) (hk : ∀ p, p ∈ S → p.1.size ≤ maxLen) (hl : S.length ≤ maxLen) :
    ∃ D0 : DataW Unit, w.ownsMap Try.prog 9 cR r S.length D0 ∧ Maps.size D0 = S.length ∧ (strKeys D0).Perm (S.map fun p => p.1.data.toList) := by
  have hke : ∀ x, x ∈ es.map Ent.m → x.key.size ≤ maxLen := by
    intro x hx
    obtain ⟨e, he, rfl⟩ := List.mem_map.1 hx
    exact hk e.kv (hE.perm.mem_iff.1 (List.mem_map.2 ⟨e, he, rfl⟩))
  have hlen := hE.len
  have hmap : (((es.map Ent.m).map (X.G.MEnt.toEntry Value.string)).map (WideElems.rg Try.prog 9 cR)) = es.map fun e => (Lit.string e.key.data.toList, DataW.lit (.bool true)) := by
    rw [List.map_map, List.map_map]
    refine List.map_congr_left fun e he => ?_
    have h := rg_ent (e := Ent.m e) (hke _ (List.mem_map.2 ⟨e, he, rfl⟩))
    simp only [Function.comp_apply]
    rw [h]
    rfl
  refine ⟨.map ((((es.map Ent.m).map (X.G.MEnt.toEntry Value.string)).map (WideElems.rg Try.prog 9 cR)).foldr DataW.insert []), ⟨_, c, hr, ⟨?_, ⟨?_, ?_, ?_⟩, ?_⟩, ?_, rfl⟩, ?_, ?_⟩
  · rw [List.size_toArray, List.length_map, List.length_map, hlen]; exact hl
  · intro x hx
    simp only [List.mem_map] at hx
    obtain ⟨_, ⟨e, he, rfl⟩, rfl⟩ := hx
    exact hE.old e he
  · have := hE.born
    simpa [List.map_map, Function.comp_def, X.G.MEnt.toEntry, Ent.m] using this
  · have h1 := hE.keys
    have h2 : (es.map fun e => Value.string e.key).Nodup := by
      rw [show (es.map fun e => Value.string e.key) = (es.map (·.key)).map Value.string by rw [List.map_map]; rfl]
      exact List.Pairwise.map _ (fun a b hne h => hne (by injection h)) h1
    simpa [List.map_map, Function.comp_def, X.G.MEnt.toEntry, Ent.m] using h2
  · intro x hx
    simp only [List.mem_map] at hx
    obtain ⟨_, ⟨e, he, rfl⟩, rfl⟩ := hx
    exact ⟨_, rd_ent (hke _ (List.mem_map.2 ⟨e, he, rfl⟩))⟩
  · rw [List.size_toArray, List.length_map, List.length_map, hlen]; exact Nat.le_refl _
  · rw [Maps.size_eq, (WideShapes.sorted_perm _).length_eq, List.length_map, List.length_map, List.length_map, hlen]
  · show (((((es.map Ent.m).map (X.G.MEnt.toEntry Value.string)).map (WideElems.rg Try.prog 9 cR)).foldr DataW.insert []).map fun p => strOf p.1).Perm _
    refine ((WideShapes.sorted_perm _).map _).trans ?_
    rw [hmap, List.map_map]
    have := hE.perm.map fun p : ByteArray × ν => p.1.data.toList
    rw [List.map_map] at this
    exact this

/-- Where no word is said of the order of the library's sort but its two contracts. -/
theorem sortedKeys_of (hsort : AnyZ.SortsIn Try.prog Try.sorted29_ren Fence.wide 4) (hS : Srtd ltB S) (hk : ∀ p, p ∈ S → p.1.size ≤ maxLen) (hl : S.length ≤ 1099511627776) :
    FSpec Try.prog 29 [.func (.func 45) #[] #[.pointer (some ⟨b, 0, none⟩)]] [pt b (.cells #[.map (some r)] 74 (0, 0)), MapAt Value.string rep r S]
      (fun v B => ∃ p c, v = .slice p S.length c ∧ B = [own 9 1 (.slice p S.length c) ((S.map (·.1)).map Value.string), pt b (.cells #[.map (some r)] 74 (0, 0)), MapAt Value.string rep r S]) := by
  refine ⟨fun W0 w F s => ?_⟩
  have hb : w.heap[b]? = some (.cells #[.map (some r)] 74 (0, 0)) := s.at_ (i := 0) rfl
  obtain ⟨k, hk1, hk2⟩ := s.heap.at_ (i := 1) rfl
  obtain ⟨⟨es, c⟩, hE, hh⟩ := hk1
  obtain ⟨k', hk3, hk4⟩ := HSat.at_ hh (i := 0) rfl
  have hr : w.heap[r]? = some (mobj Value.string (es.map Ent.m) c) := hk2 _ _ (hk4 _ _ hk3)
  have hbl : b < w.heap.size := (Array.getElem?_eq_some_iff.1 hb).1
  obtain ⟨D0, hown, hsz, hperm⟩ := owns_map hE hr hk (by have : maxLen = 9223372036854775807 := rfl; omega)
  have hseq : SeqGives Fence.wide 2 Try.prog 45 #[.pointer (some ⟨b, 0, none⟩)] encStr (fun ss => ss.Perm (strKeys D0)) (Maps.size D0) w :=
    AnyZ.keys_gives (ρ := Try.keys30_ren) { Try.keys30 with } Fence.wide _ trivial rfl (by omega) b r S.length D0 _ hbl (by simp [World.cell?, hb]) hown
  have hc := AnyZ.sorted_in Try.sorted29 Fence.wide 5 trivial trivial trivial trivial rfl (by omega) hsort (enters_of Try.func44 (by kernel_rfl) rfl) 45 #[.pointer (some ⟨b, 0, none⟩)] trivial (enters_of Try.func45 (by kernel_rfl) rfl) _ _ (by rw [hsz]; have : maxLen = 9223372036854775807 := rfl; omega) (by rw [hsz]; omega) _ hseq
  refine (callsIn_wide.1 hc).mono ?_
  rintro e w' ⟨v, ss, rfl, hss, hrow, _, hbel⟩
  have hms : (ss.mergeSort fun x y => decide (x ≤ y)) = S.map fun p => p.1.data.toList := by
    have := mergeSort_of_perm (hss.trans hperm)
    rw [srt_bytes hS] at this; exact this
  have hlen : ss.length = S.length := by rw [(hss.trans hperm).length_eq, List.length_map]
  rw [hms, hlen] at hrow
  have henc : (S.map fun p => p.1.data.toList).map encStr = (S.map (·.1)).map Value.string := by
    rw [List.map_map, List.map_map]
    refine List.map_congr_left fun p _ => ?_
    show Value.string ⟨p.1.data.toList.toArray⟩ = Value.string p.1
    rw [Array.toArray_toList]
  rw [henc] at hrow
  have hv : ∃ p c, v = .slice p S.length c := by
    rcases hrow.2 with ⟨rfl, hz⟩ | ⟨g, cap, cur, rfl, _⟩
    · exact ⟨none, 0, by rw [hz]⟩
    · exact ⟨_, _, rfl⟩
  obtain ⟨p, c', rfl⟩ := hv
  exact ⟨_, _, rfl, ⟨p, c', rfl, rfl⟩, sat_behind s hbel hrow⟩
end

theorem sorts (m : Nat) : AnyZ.SortsIn Try.prog Try.sorted29_ren Fence.wide m :=
  ⟨fun blk off cap ss W hH hblk hsz => callsIn_wide.2 (AnyM.slices_Sort_string Try.sort44 blk off cap ss W hH hblk hsz),
   fun p cap W => callsIn_wide.2 (AnyM.slices_Sort_string_none Try.sort44 p cap W)⟩
end Go.Proofs.Ytdancegklkifaaa
