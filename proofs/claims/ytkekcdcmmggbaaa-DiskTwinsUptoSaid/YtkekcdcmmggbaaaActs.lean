/-
  Acts that came in: what their reading and its bulk tell.
-/
import Derived.Test.YtkekcdcmmggbaaaLawB
import Derived.Test.YtkekcdcmmggbaaaXp
namespace Go.Proofs.Ytkekcdcmmggbaaa
open Go.X

theorem bulk_one {H : Type} (d : DataW H) : 1 ≤ Rows.uptoBulk d := by
  cases d with
  | lit l => cases l <;> simp [Rows.uptoBulk]
  | nil => simp [Rows.uptoBulk]
  | ptr d => simp [Rows.uptoBulk]
  | slice elems spare => simp [Rows.uptoBulk]
  | agg parts => simp [Rows.uptoBulk]
  | iface t d => simp [Rows.uptoBulk]
  | map entries => simp [Rows.uptoBulk]
  | held h => simp [Rows.uptoBulk]
theorem bulk_part {H : Type} {d : DataW H} {l : List (DataW H)} (h : d ∈ l) : Rows.uptoBulk d ≤ Rows.uptoBulkAll l := by
  induction l with
  | nil => cases h
  | cons x r ih =>
    simp only [Rows.uptoBulkAll]
    cases List.mem_cons.1 h with
    | inl e => subst e; omega
    | inr e => have := ih e; omega
theorem bulk_len {H : Type} (l : List (DataW H)) : l.length ≤ Rows.uptoBulkAll l := by
  induction l with
  | nil => simp [Rows.uptoBulkAll]
  | cons x r ih => have := bulk_one x; simp only [Rows.uptoBulkAll, List.length_cons]; omega

section
variable {H : Type} {enc : TypeId × Value → H} {W : World} {base : Nat} {spare : Nat → Bool} {held : Bool} {fuel : Nat} {v : Value} {x : DataW H × List MemPlace} {cs : List Value}

theorem cells3 : Try.prog.cellsOf 3 = 1 := by kernel_rfl
theorem cells5 : Try.prog.cellsOf 5 = 1 := by kernel_rfl
theorem cells9 : Try.prog.cellsOf 9 = 1 := by kernel_rfl
theorem cells22 : Try.prog.cellsOf 22 = 1 := by kernel_rfl
theorem cells28 : Try.prog.cellsOf 28 = 1 := by kernel_rfl
theorem cells30 : Try.prog.cellsOf 30 = 1 := by kernel_rfl
theorem cells46 : Try.prog.cellsOf 46 = 6 := by kernel_rfl

theorem names_in (h : DataW.trod enc Try.prog W base spare held fuel 28 [v] = some x) (hb : Rows.uptoBulk x.1 ≤ 1048576) :
    ∃ p cap, ∃ names : List ByteArray, v = .slice p names.length cap ∧ names.length ≤ 1048576 ∧ SlR [old W] 1 v (names.map Value.string) ∧ ∀ s ∈ names, s.size ≤ 1048576 := by
  rcases elems_in Try.underlying28 cells9 h with ⟨rfl, _⟩ | ⟨a, len, cap, n, es, rs, css, rfl, hl, hx, hle, hcl, hcs⟩
  · exact ⟨none, 0, [], rfl, by simp, .inl ⟨none, 0, rfl, rfl⟩, by simp⟩
  · rw [hx] at hb
    simp only [Rows.uptoBulk] at hb
    have hstr : ∀ i, i < len → ∃ s : ByteArray, css[i]? = some [.string s] ∧ s.size ≤ 1048576 := by
      intro i hi
      obtain ⟨c, hc⟩ : ∃ c, css[i]? = some c := ⟨_, List.getElem?_eq_getElem (by omega)⟩
      obtain ⟨y, hy⟩ : ∃ y, es[i]? = some y := ⟨_, List.getElem?_eq_getElem (by omega)⟩
      obtain ⟨_, _, h3⟩ := hcs i c hc
      rw [hy] at h3
      obtain ⟨s, rfl, rfl, _⟩ := DataW.trod_string Try.underlying9 h3
      refine ⟨s, hc, ?_⟩
      have hm : (DataW.lit (.string s.data.toList) : DataW H) ∈ es.map (·.1) := List.mem_of_getElem? (i := i) (by rw [List.getElem?_map, hy]; rfl)
      have := bulk_part hm
      simp only [Rows.uptoBulk] at this
      have hss : s.data.toList.length = s.size := by simp
      omega
    obtain ⟨names, hnl, hn⟩ : ∃ names : List ByteArray, names.length = len ∧ ∀ (i : Nat) s, names[i]? = some s → css[i]? = some [.string s] ∧ s.size ≤ 1048576 := by
      refine ⟨(List.range len).attach.map fun ⟨i, hi⟩ => Classical.choose (hstr i (by simpa using hi)), by simp, fun i s hi => ?_⟩
      simp only [List.getElem?_map, Option.map_eq_some_iff] at hi
      obtain ⟨⟨j, hj⟩, h1, rfl⟩ := hi
      have hji : j = i := by
        have := congrArg (Option.map Subtype.val) h1
        simp only [← List.getElem?_map, List.attach_map_subtype_val, Option.map_some] at this
        have hr := (List.getElem?_eq_some_iff.1 this).2
        simpa using hr.symm
      subst hji
      exact Classical.choose_spec (hstr j (by simpa using hj))
    have hbl := bulk_len (es.map (·.1))
    rw [List.length_map, hle] at hbl
    refine ⟨some a, cap, names, by rw [hnl], by omega, slr_old (by simp [hnl]) ?_ (by omega), ?_⟩
    · intro i u hu
      rw [List.getElem?_map] at hu
      cases hs : names[i]? with
      | none => rw [hs] at hu; cases hu
      | some s =>
        rw [hs] at hu
        have hu' : Value.string s = u := Option.some.inj hu
        obtain ⟨h1, _⟩ := hn i s hs
        obtain ⟨_, h2, _⟩ := hcs i _ h1
        have := h2 0 (.string s) rfl
        rw [← hu', ← this]; congr 2; omega
    · intro s hs
      obtain ⟨i, hi⟩ := List.getElem?_of_mem hs
      exact (hn i s hi).2

theorem six {α : Type} {l : List α} (h : l.length = 6) : ∃ c0 c1 c2 c3 c4 c5, l = [c0, c1, c2, c3, c4, c5] := by
  match l with
  | [a, b, c, d, e, f] => exact ⟨a, b, c, d, e, f, rfl⟩

set_option maxRecDepth 100000 in
theorem act_in (h : DataW.trod enc Try.prog W base spare held fuel 46 cs = some x) (hb : Rows.uptoBulk x.1 ≤ 1048576) : ∃ y : AW, cs = y.cells ∧ y.ok (old W) := by
  obtain ⟨xs, m, rfl, rfl, hl, hxl, hf⟩ := DataW.trod_struct Try.underlying46 h
  rw [cells46] at hl
  obtain ⟨c0, c1, c2, c3, c4, c5, rfl⟩ : ∃ c0 c1 c2 c3 c4 c5, cs = [c0, c1, c2, c3, c4, c5] := by
    exact six hl
  obtain ⟨x0, x1, x2, x3, x4, x5, rfl⟩ : ∃ x0 x1 x2 x3 x4 x5, xs = [x0, x1, x2, x3, x4, x5] := by
    exact six hxl
  have f0 : DataW.trod enc Try.prog W base spare held m 3 (([c0, c1, c2, c3, c4, c5].drop 0).take (Try.prog.cellsOf 3)) = [x0, x1, x2, x3, x4, x5][0]? := hf 0 _ rfl
  have f1 : DataW.trod enc Try.prog W base spare held m 9 (([c0, c1, c2, c3, c4, c5].drop 1).take (Try.prog.cellsOf 9)) = [x0, x1, x2, x3, x4, x5][1]? := hf 1 _ rfl
  have f2 : DataW.trod enc Try.prog W base spare held m 9 (([c0, c1, c2, c3, c4, c5].drop 2).take (Try.prog.cellsOf 9)) = [x0, x1, x2, x3, x4, x5][2]? := hf 2 _ rfl
  have f3 : DataW.trod enc Try.prog W base spare held m 28 (([c0, c1, c2, c3, c4, c5].drop 3).take (Try.prog.cellsOf 28)) = [x0, x1, x2, x3, x4, x5][3]? := hf 3 _ rfl
  have f4 : DataW.trod enc Try.prog W base spare held m 30 (([c0, c1, c2, c3, c4, c5].drop 4).take (Try.prog.cellsOf 30)) = [x0, x1, x2, x3, x4, x5][4]? := hf 4 _ rfl
  have f5 : DataW.trod enc Try.prog W base spare held m 22 (([c0, c1, c2, c3, c4, c5].drop 5).take (Try.prog.cellsOf 22)) = [x0, x1, x2, x3, x4, x5][5]? := hf 5 _ rfl
  simp only [cells3, cells9, cells28, cells30, cells22, List.drop_zero, List.drop_succ_cons, List.take_succ_cons, List.take_zero, List.getElem?_cons_zero, List.getElem?_cons_succ] at f0 f1 f2 f3 f4 f5
  simp only [Rows.uptoBulk, List.map_cons, List.map_nil, Rows.uptoBulkAll] at hb
  obtain ⟨n0, e0, rfl, w0⟩ := DataW.trod_int Try.underlying3 f0
  obtain ⟨s1, e1, rfl, _⟩ := DataW.trod_string Try.underlying9 f1
  obtain ⟨s2, e2, rfl, _⟩ := DataW.trod_string Try.underlying9 f2
  simp at e0 e1 e2
  subst e0 e1 e2
  simp only [Rows.uptoBulk] at hb
  obtain ⟨p3, cap3, names, rfl, hn1, hn2, hn3⟩ := names_in f3 (by omega)
  obtain ⟨p4, len4, cap4, zs4, rfl, hc4, hz4, hr4, hw4, hx4⟩ := ints_in Try.underlying30 Try.underlying5 cells5 f4
  obtain ⟨p5, len5, cap5, zs5, rfl, hc5, hz5, hr5, hw5, hx5⟩ := ints_in Try.underlying22 Try.underlying3 cells3 f5
  obtain ⟨bs, hb1, hb2⟩ := ints_bytes zs4 hw4
  have hle4 : len4 ≤ 1048576 := by
    rcases hx4 with ⟨_, h0⟩ | ⟨es, rs, hx, hl⟩
    · omega
    · rw [hx] at hb; have := bulk_len es; simp only [Rows.uptoBulk] at hb; omega
  have hle5 : len5 ≤ 1048576 := by
    rcases hx5 with ⟨_, h0⟩ | ⟨es, rs, hx, hl⟩
    · omega
    · rw [hx] at hb; have := bulk_len es; simp only [Rows.uptoBulk] at hb; omega
  have hs1 : s1.data.toList.length = s1.size := by simp
  have hs2 : s2.data.toList.length = s2.size := by simp
  have h4 : len4 = bs.length := by omega
  subst h4
  have h5 : len5 = zs5.length := by omega
  subst h5
  refine ⟨⟨⟨n0, s1, s2, names, bs, zs5⟩, p3, cap3, p4, cap4, p5, cap5⟩, rfl, ⟨hn2, by rw [← hb2]; exact hr4, hr5, hc4, wf_has w0, hw5, ⟨by show s1.size ≤ _; omega, by show s2.size ≤ _; omega, hn1, hle4, hle5⟩, hn3⟩⟩

theorem acts_in {d : DataW H} {ps : List MemPlace} {a0 : Option Addr} {ln lc : Nat} (h : DataW.Trod enc Try.prog W base spare held 39 (.slice a0 ln lc) d ps) (hb : Rows.uptoBulk d ≤ 1048576) : ∃ l, Acts (old W) a0 ln lc l := by
  obtain ⟨fuel, hf⟩ := h
  rcases elems_in (x := (d, ps)) Try.underlying39 cells46 hf with ⟨e, _⟩ | ⟨a, len, cap, n, es, rs, css, e, hl, hx, hle, hcl, hcs⟩
  · cases e
    exact ⟨[], ⟨.inl ⟨none, 0, rfl, rfl⟩, by simp, by simp⟩⟩
  · cases e
    dsimp only at hx
    rw [hx] at hb
    simp only [Rows.uptoBulk] at hb
    have hbl := bulk_len (es.map (·.1))
    rw [List.length_map, hle] at hbl
    have hact : ∀ i, i < ln → ∃ y : AW, css[i]? = some y.cells ∧ y.ok (old W) := by
      intro i hi
      obtain ⟨c, hc⟩ : ∃ c, css[i]? = some c := ⟨_, List.getElem?_eq_getElem (by omega)⟩
      obtain ⟨z, hz⟩ : ∃ z, es[i]? = some z := ⟨_, List.getElem?_eq_getElem (by omega)⟩
      obtain ⟨_, _, h3⟩ := hcs i c hc
      rw [hz] at h3
      have hm : z.1 ∈ es.map (·.1) := List.mem_map_of_mem (List.mem_of_getElem? hz)
      have := bulk_part hm
      obtain ⟨y, rfl, hy⟩ := act_in h3 (by omega)
      exact ⟨y, hc, hy⟩
    obtain ⟨l, hll, hlg⟩ : ∃ l : List AW, l.length = ln ∧ ∀ (i : Nat) y, l[i]? = some y → css[i]? = some y.cells ∧ y.ok (old W) := by
      refine ⟨(List.range ln).attach.map fun ⟨i, hi⟩ => Classical.choose (hact i (by simpa using hi)), by simp, fun i s hi => ?_⟩
      simp only [List.getElem?_map, Option.map_eq_some_iff] at hi
      obtain ⟨⟨j, hj⟩, h1, rfl⟩ := hi
      have hji : j = i := by
        have := congrArg (Option.map Subtype.val) h1
        simp only [← List.getElem?_map, List.attach_map_subtype_val, Option.map_some] at this
        have hr := (List.getElem?_eq_some_iff.1 this).2
        simpa using hr.symm
      subst hji
      exact Classical.choose_spec (hact j (by simpa using hj))
    refine ⟨l, ⟨slr_old (by rw [flat_length AW.cells_length, hll]) ?_ (by omega), fun y hy => ?_, by omega⟩⟩
    · intro k u hu
      have hk : k < l.length * 6 := by
        have := (List.getElem?_eq_some_iff.1 hu).1
        rwa [flat_length AW.cells_length] at this
      obtain ⟨y, hy⟩ : ∃ y, l[k / 6]? = some y := ⟨_, List.getElem?_eq_getElem (by omega)⟩
      obtain ⟨u', hu'⟩ : ∃ u', y.cells[k % 6]? = some u' := ⟨_, List.getElem?_eq_getElem (by rw [AW.cells_length]; omega)⟩
      have hfl := flat_get AW.cells_length hy hu'
      rw [show k / 6 * 6 + k % 6 = k from by omega, hu] at hfl
      cases hfl
      obtain ⟨h1, _⟩ := hlg _ y hy
      obtain ⟨_, h2, _⟩ := hcs _ _ h1
      have := h2 _ u hu'
      rwa [show k / 6 * 6 + k % 6 = k from by omega] at this
    · obtain ⟨i, hi⟩ := List.getElem?_of_mem hy
      exact (hlg i y hi).2

end
end Go.Proofs.Ytkekcdcmmggbaaa
