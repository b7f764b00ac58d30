/-
  A slice of bytes that came in. No program in sight.
-/
import Derived.Test.YtdancegklkifaaaXk
namespace Go.X
set_option linter.unusedSectionVars false
set_option linter.unusedSimpArgs false
set_option linter.unusedVariables false

theorem ints_bytes : ∀ zs : List Int, (∀ n ∈ zs, IntKind.u8.min ≤ n ∧ n ≤ IntKind.u8.max) → ∃ bs : List UInt8, bs.length = zs.length ∧ zs.map (Value.int .u8) = bytesV bs
  | [], _ => ⟨[], rfl, rfl⟩
  | z :: zs, h => by
    obtain ⟨bs, h1, h2⟩ := ints_bytes zs (fun n hn => h n (List.mem_cons_of_mem _ hn))
    obtain ⟨h3, h4⟩ := h z (by simp)
    have h3' : 0 ≤ z := h3
    have h4' : z ≤ 255 := h4
    refine ⟨UInt8.ofNat z.toNat :: bs, by simp [h1], ?_⟩
    simp only [List.map_cons, h2, bytesV]
    congr 1
    simp only [byteV]
    congr 1
    rw [UInt8.toNat_ofNat']
    omega

theorem IntsIn.bytes {W : World} {v : Value} {len : Nat} {zs : List Int} (h : IntsIn .u8 W v len zs) : ∃ p cap, ∃ bs : List UInt8, v = .slice p bs.length cap ∧ bs.length ≤ maxLen ∧ SlR [old W] 1 v (bytesV bs) := by
  obtain ⟨p, cap, rfl, hl, hz, hr, hw⟩ := h
  obtain ⟨bs, h1, h2⟩ := ints_bytes zs hw
  have : bs.length = len := by omega
  subst this
  exact ⟨p, cap, bs, rfl, hl, by rw [← h2]; exact hr⟩

end Go.X
