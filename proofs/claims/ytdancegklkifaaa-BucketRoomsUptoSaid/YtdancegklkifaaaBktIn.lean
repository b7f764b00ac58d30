/-
  Ops that came in: what their reading and its bulk tell.
-/
import Derived.Test.YtdancegklkifaaaBktJ
import Derived.Test.YtdancegklkifaaaXp
namespace Go.Proofs.Ytdancegklkifaaa
set_option linter.unusedSectionVars false
set_option linter.unusedSimpArgs false
set_option linter.unusedVariables false
open Go.X

theorem bulk_one {H : Type} (d : DataW H) : 1 ≤ Rows.uptoBulk d := by
  cases d with
  | lit l => cases l <;> simp [Rows.uptoBulk]
  | nil => simp [Rows.uptoBulk]
  | ptr d => simp [Rows.uptoBulk]
  | slice elems spare => simp [Rows.uptoBulk]
  | agg parts => simp [Rows.uptoBulk]
  | iface t d => simp [Rows.uptoBulk]
  | map entries => simp [Rows.uptoBulk]
  | held h => simp [Rows.uptoBulk]
theorem bulk_part {H : Type} {d : DataW H} {l : List (DataW H)} (h : d ∈ l) : Rows.uptoBulk d ≤ Rows.uptoBulkAll l := by
  induction l with
  | nil => cases h
  | cons x r ih =>
    simp only [Rows.uptoBulkAll]
    cases List.mem_cons.1 h with
    | inl e => subst e; omega
    | inr e => have := ih e; omega
theorem bulk_len {H : Type} (l : List (DataW H)) : l.length ≤ Rows.uptoBulkAll l := by
  induction l with
  | nil => simp [Rows.uptoBulkAll]
  | cons x r ih => have := bulk_one x; simp only [Rows.uptoBulkAll, List.length_cons]; omega

section
variable {H : Type} {enc : TypeId × Value → H} {W : World} {base : Nat} {spare : Nat → Bool} {held : Bool} {fuel : Nat} {v : Value} {x : DataW H × List MemPlace} {cs : List Value}

theorem cellsInt : Try.prog.cellsOf 3 = 1 := by kernel_rfl
theorem cellsU64 : Try.prog.cellsOf 22 = 1 := by kernel_rfl
theorem cellsU8 : Try.prog.cellsOf 5 = 1 := by kernel_rfl
theorem cellsStr : Try.prog.cellsOf 9 = 1 := by kernel_rfl
theorem cellsInts : Try.prog.cellsOf 23 = 1 := by kernel_rfl
theorem cellsBytes : Try.prog.cellsOf 24 = 1 := by kernel_rfl
theorem cellsOp : Try.prog.cellsOf 26 = 9 := by kernel_rfl

theorem nine {α : Type} {l : List α} (h : l.length = 9) : ∃ c0 c1 c2 c3 c4 c5 c6 c7 c8, l = [c0, c1, c2, c3, c4, c5, c6, c7, c8] := by
  match l with
  | [a, b, c, d, e, f, g, i, j] => exact ⟨a, b, c, d, e, f, g, i, j, rfl⟩

def OM.bulk (o : OM) : Nat := o.bucket.size + o.key.size + o.after.size + o.parts.length + o.data.length

theorem len_le {es rs : List (DataW H)} : es.length ≤ Rows.uptoBulk (.slice es rs) := by
  have := bulk_len es; simp only [Rows.uptoBulk]; omega

theorem slice_small {t e : TypeId} {p : Option Addr} {len cap : Nat} (ht : Try.prog.underlying t = some (.slice e)) (h : DataW.trod enc Try.prog W base spare held fuel t [.slice p len cap] = some x) : len ≤ 9223372036854775807 := by
  rcases DataW.trod_slice ht h with ⟨hcs, rfl⟩ | ⟨a, l, c, es, rs, n, rfl, hcs, rfl, hb, hl, hm, _⟩
  · simp at hcs; omega
  · simp at hcs
    have : maxLen = 9223372036854775807 := rfl
    omega

set_option maxRecDepth 100000 in
theorem op_in (h : DataW.trod enc Try.prog W base spare held fuel 26 cs = some x) : ∃ y : OW, cs = y.cells ∧ y.ok (old W) ∧ y.o.bulk ≤ Rows.uptoBulk x.1 := by
  obtain ⟨xs, m, rfl, rfl, hl, hxl, hf⟩ := DataW.trod_struct Try.underlying26 h
  rw [cellsOp] at hl
  obtain ⟨c0, c1, c2, c3, c4, c5, c6, c7, c8, rfl⟩ : ∃ c0 c1 c2 c3 c4 c5 c6 c7 c8, cs = [c0, c1, c2, c3, c4, c5, c6, c7, c8] := nine hl
  obtain ⟨x0, x1, x2, x3, x4, x5, x6, x7, x8, rfl⟩ : ∃ x0 x1 x2 x3 x4 x5 x6 x7 x8, xs = [x0, x1, x2, x3, x4, x5, x6, x7, x8] := nine hxl
  have f0 : DataW.trod enc Try.prog W base spare held m 22 (([c0, c1, c2, c3, c4, c5, c6, c7, c8].drop 0).take (Try.prog.cellsOf 22)) = [x0, x1, x2, x3, x4, x5, x6, x7, x8][0]? := hf 0 _ rfl
  have f1 : DataW.trod enc Try.prog W base spare held m 3 (([c0, c1, c2, c3, c4, c5, c6, c7, c8].drop 1).take (Try.prog.cellsOf 3)) = [x0, x1, x2, x3, x4, x5, x6, x7, x8][1]? := hf 1 _ rfl
  have f2 : DataW.trod enc Try.prog W base spare held m 9 (([c0, c1, c2, c3, c4, c5, c6, c7, c8].drop 2).take (Try.prog.cellsOf 9)) = [x0, x1, x2, x3, x4, x5, x6, x7, x8][2]? := hf 2 _ rfl
  have f3 : DataW.trod enc Try.prog W base spare held m 9 (([c0, c1, c2, c3, c4, c5, c6, c7, c8].drop 3).take (Try.prog.cellsOf 9)) = [x0, x1, x2, x3, x4, x5, x6, x7, x8][3]? := hf 3 _ rfl
  have f4 : DataW.trod enc Try.prog W base spare held m 9 (([c0, c1, c2, c3, c4, c5, c6, c7, c8].drop 4).take (Try.prog.cellsOf 9)) = [x0, x1, x2, x3, x4, x5, x6, x7, x8][4]? := hf 4 _ rfl
  have f5 : DataW.trod enc Try.prog W base spare held m 3 (([c0, c1, c2, c3, c4, c5, c6, c7, c8].drop 5).take (Try.prog.cellsOf 3)) = [x0, x1, x2, x3, x4, x5, x6, x7, x8][5]? := hf 5 _ rfl
  have f6 : DataW.trod enc Try.prog W base spare held m 22 (([c0, c1, c2, c3, c4, c5, c6, c7, c8].drop 6).take (Try.prog.cellsOf 22)) = [x0, x1, x2, x3, x4, x5, x6, x7, x8][6]? := hf 6 _ rfl
  have f7 : DataW.trod enc Try.prog W base spare held m 23 (([c0, c1, c2, c3, c4, c5, c6, c7, c8].drop 7).take (Try.prog.cellsOf 23)) = [x0, x1, x2, x3, x4, x5, x6, x7, x8][7]? := hf 7 _ rfl
  have f8 : DataW.trod enc Try.prog W base spare held m 24 (([c0, c1, c2, c3, c4, c5, c6, c7, c8].drop 8).take (Try.prog.cellsOf 24)) = [x0, x1, x2, x3, x4, x5, x6, x7, x8][8]? := hf 8 _ rfl
  simp only [cellsInt, cellsStr, cellsU64, cellsInts, cellsBytes, List.drop_zero, List.drop_succ_cons, List.take_succ_cons, List.take_zero, List.getElem?_cons_zero, List.getElem?_cons_succ] at f0 f1 f2 f3 f4 f5 f6 f7 f8
  obtain ⟨n0, e0, rfl, w0⟩ := DataW.trod_int Try.underlying22 f0
  obtain ⟨n1, e1, rfl, w1⟩ := DataW.trod_int Try.underlying3 f1
  obtain ⟨s2, e2, rfl, z2⟩ := DataW.trod_string Try.underlying9 f2
  obtain ⟨s3, e3, rfl, z3⟩ := DataW.trod_string Try.underlying9 f3
  obtain ⟨s4, e4, rfl, z4⟩ := DataW.trod_string Try.underlying9 f4
  obtain ⟨n5, e5, rfl, w5⟩ := DataW.trod_int Try.underlying3 f5
  obtain ⟨n6, e6, rfl, w6⟩ := DataW.trod_int Try.underlying22 f6
  simp at e0 e1 e2 e3 e4 e5 e6
  subst e0 e1 e2 e3 e4 e5 e6
  have u0 := (wf_has w0).1
  have u6 := (wf_has w6).1
  obtain ⟨m0, rfl⟩ : ∃ k : Nat, n0 = k := ⟨n0.toNat, by have : (0 : Int) ≤ n0 := u0; omega⟩
  obtain ⟨m6, rfl⟩ : ∃ k : Nat, n6 = k := ⟨n6.toNat, by have : (0 : Int) ≤ n6 := u6; omega⟩
  obtain ⟨p7, len7, cap7, zs7, rfl, hc7, hz7, hr7, hw7, hx7⟩ := ints_in Try.underlying23 Try.underlying3 cellsInt f7
  obtain ⟨p8, len8, cap8, zs8, rfl, hc8, hz8, hr8, hw8, hx8⟩ := ints_in Try.underlying24 Try.underlying5 cellsU8 f8
  obtain ⟨bs, hb1, hb2⟩ := ints_bytes zs8 hw8
  have l7 := slice_small Try.underlying23 f7
  have l8 := slice_small Try.underlying24 f8
  have h8 : len8 = bs.length := by omega
  subst h8
  have h7 : len7 = zs7.length := by omega
  subst h7
  refine ⟨⟨⟨m0, n1, s2, s3, s4, n5, m6, zs7, bs⟩, p7, cap7, p8, cap8⟩, rfl, ⟨hr7, by rw [← hb2]; exact hr8, ?_⟩, ?_⟩
  · exact ⟨z2, z3, z4, l7, l8⟩
  · have hs2 : s2.data.toList.length = s2.size := by simp
    have hs3 : s3.data.toList.length = s3.size := by simp
    have hs4 : s4.data.toList.length = s4.size := by simp
    have b7 : zs7.length ≤ Rows.uptoBulk x7.1 := by
      rcases hx7 with ⟨_, h0⟩ | ⟨es, rs, hx, hl⟩
      · omega
      · rw [hx]; have := len_le (es := es) (rs := rs); omega
    have b8 : bs.length ≤ Rows.uptoBulk x8.1 := by
      rcases hx8 with ⟨_, h0⟩ | ⟨es, rs, hx, hl⟩
      · omega
      · rw [hx]; have := len_le (es := es) (rs := rs); omega
    simp only [Rows.uptoBulk, List.map_cons, List.map_nil, Rows.uptoBulkAll, OM.bulk]
    omega
end
end Go.Proofs.Ytdancegklkifaaa
