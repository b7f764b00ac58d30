/-
  DiskFronts: for every input of bulk at most 1048576 the law returns true, and the input reads as it did.
-/
import Derived.Test.YtkekcdcmmggbaaaFronts
import Derived.Test.YtkekcdcmmggbaaaActs
import Derived.JoinedCond
namespace Go.Proofs.Ytkekcdcmmggbaaa
open Go.ChangeShapes Go.WideShapes Go.ChangeAt Go.RowKit
open Go.X

namespace diskFronts
set_option linter.unusedVariables false
theorem own : ownKnob Try.prog.godebug = none := by kernel_rfl
theorem laidOut : laidOutB Try.prog = true := by kernel_rfl

theorem walk (a0 a1 : Option Addr) (n0 c0 n1 c1 : Nat) (l0 : List AW) (zs : List Int) (W : World) (w0 : Acts (old W) a0 n0 c0 l0) (w1 : SlR [old W] 1 (.slice a1 n1 c1) (zs.map (Value.int .i64))) (hn : n1 ≤ 1048576) (hz : ∀ v, v ∈ zs → -9223372036854775808 ≤ v ∧ v ≤ 9223372036854775807) :
    Calls Try.prog 5 #[.slice a0 n0 c0, .slice a1 n1 c1] W fun e w' => e = .returned (.bool true) ∧ Below W.heap.size W w' :=
  (fronts_spec (old W) a0 n0 c0 l0 w0 a1 n1 c1 zs w1 hn hz).lift

set_option maxRecDepth 100000 in
theorem lifted (os : Os) (started : os.Started) (H : Type) (enc : TypeId × Value → H) (F : Stop.Interp) :
    ReturnsInHanded {} Try.checked os 5 .any ((Rows.OpenSpec.upto Rows.diskFrontsSpec).pre6 enc Try.prog Try.f5 Rows.diskFrontsUptoRow.domain false) (((Rows.OpenSpec.upto Rows.diskFrontsSpec).at F).post enc Try.prog Try.f5 false true false false) := by
  refine returnsInHanded_of_cond (C := Try.checked) (s := Rows.OpenSpec.upto Rows.diskFrontsSpec) (k := Rows.uptoSmall) rfl own started (by kernel_rfl) Try.func5
    (OpenSpec.witness (enc := enc) (C := Try.checked) (s := Rows.OpenSpec.upto Rows.diskFrontsSpec) (k := Rows.uptoSmall) rfl false ⟨#[], #[.slice none 0 0, .slice none 0 0], []⟩ 8 (by kernel_rfl) (by kernel_rfl) (by kernel_rfl)
      (x := ([.nil, .nil], [], [])) (by kernel_rfl) rfl (by kernel_rfl)) ?_
  intro W base args ds gs before hval0 hW hcnd hk _
  have hval : ∀ (j : Nat) t v, Try.f5.params[j]? = some t → args[j]? = some v → Value.okWide Try.prog W .any base t v := hval0
  have hW' := hW
  obtain ⟨p, q, hA0, hV, rfl, hfz, hnd⟩ := hW
  have hA : DataW.TrodAll enc Try.prog W 0 (fun _ => true) true Try.f5.params.toList args.toList ds p := hA0
  rw [Try.params5] at hA hval
  obtain ⟨v0, vs0, d0, ds0, p0, q0, hargs, rfl, rfl, h0, r0⟩ := trodAll_cons hA
  obtain ⟨v1, vs1, d1, ds1, p1, q1, rfl, rfl, rfl, h1, r1⟩ := trodAll_cons r0
  obtain ⟨rfl, rfl, rfl⟩ := trodAll_nil r1
  obtain rfl : args = #[v0, v1] := by cases args; simp_all
  obtain ⟨rfl, rfl⟩ := trodVars_none hV
  have hbk := of_decide_eq_true hk
  simp only [List.append_nil, Rows.uptoBulkAll] at hbk
  have lt0 : ∀ x ∈ p0, x.block < W.heap.size := by obtain ⟨m, hm⟩ := h0; exact DataW.trod_lt m _ _ _ hm
  obtain ⟨a0, ln0, lc0, rfl⟩ := okWide_slice Try.underlying39 (hval 0 39 v0 rfl rfl)
  obtain ⟨l0, w0⟩ := acts_in h0 (by omega)
  have lt1 : ∀ x ∈ p1, x.block < W.heap.size := by obtain ⟨m, hm⟩ := h1; exact DataW.trod_lt m _ _ _ hm
  obtain ⟨a1, ln1, lc1, rfl⟩ := okWide_slice Try.underlying22 (hval 1 22 v1 rfl rfl)
  obtain ⟨p5, len5, cap5, zs5, e5, hc5, hz5, hr5, hw5, hx5⟩ : ∃ (p : Option Addr) (len cap : Nat) (zs : List Int), Value.slice a1 ln1 lc1 = .slice p len cap ∧ len ≤ cap ∧ zs.length = len ∧ SlR [old W] 1 (.slice p len cap) (zs.map (Value.int .i64)) ∧ (∀ v, v ∈ zs → -9223372036854775808 ≤ v ∧ v ≤ 9223372036854775807) ∧ len ≤ 1048576 := by
    obtain ⟨fuel, hf⟩ := h1
    obtain ⟨p5, len5, cap5, zs5, e5, hc5, hz5, hr5, hw5, hx5⟩ := ints_in (x := (d1, p1)) Try.underlying22 Try.underlying3 cells3 hf
    refine ⟨p5, len5, cap5, zs5, e5, hc5, hz5, e5 ▸ hr5, hw5, ?_⟩
    rcases hx5 with ⟨_, h0⟩ | ⟨es, rs, hx, hl⟩
    · omega
    · dsimp only at hx; rw [hx] at hbk; have := bulk_len es; simp only [Rows.uptoBulk] at hbk; omega
  cases e5
  clear hA0 hval0
  refine (walk a0 a1 ln0 lc0 ln1 lc1 l0 zs5 W w0 hr5 hx5 hw5).mono fun e W' ⟨he, bel⟩ => ?_
  subst he
  exact ⟨_, rfl, _, _, _, [], _, [], hW', trodAll_mk1 (shut_bool Try.underlying4 _), (trodAll_cons_mk (Below.trod laidOut (by kernel_rfl) (of_decide_eq_true (by kernel_rfl)) h0 bel lt0) (trodAll_cons_mk (Below.trod laidOut (by kernel_rfl) (of_decide_eq_true (by kernel_rfl)) h1 bel lt1) trodAll_mk0)), rfl, bel.frame _, fun h => by cases h⟩

theorem over : Rows.diskFrontsUptoRow.holds Try.pinned (Rows.OpenSpec.upto Rows.diskFrontsSpec) :=
  OpenClaim.holds_of_cond 5 Try.f5 rfl rfl rfl rfl rfl rfl rfl ⟨rfl, rfl, rfl, rfl, rfl⟩ rfl rfl rfl rfl rfl (by kernel_rfl) Try.func5 (by kernel_rfl)
    (of_decide_eq_true (by kernel_rfl)) (by unfold Func.isWrapper; first | (rw [if_pos (by decide +kernel)]; kernel_rfl) | (rw [if_neg (by decide +kernel)]; exact ⟨rfl, rfl⟩))
    (fun os started H enc _ F => lifted os started H enc F)
end diskFronts

theorem diskFronts_holds : Rows.DiskFrontsUptoSaid := diskFronts.over
end Go.Proofs.Ytkekcdcmmggbaaa
