/-
  What a bucket holds, in order; a listing.
-/
import Derived.Test.YtdancegklkifaaaBktL
namespace Go.Proofs.Ytdancegklkifaaa
set_option linter.unusedSectionVars false
set_option linter.unusedSimpArgs false
set_option linter.unusedVariables false
open Go.RowKit Go.Shelf
open Go.X
open Go.X.G (Ord3 ord3_nat ord3_int ord3_str ltB sget sput sdel Srtd MapAt MapHole Ent Ents mobj)

theorem leqs {P : Program} {L : Slots} {D : List Assn} {ty T T' : TypeId} {x y : Operand} {s t : ByteArray} (ex : ev L x = some (.string s)) (ey : ev L y = some (.string t)) : OpQ P (.binOp .leq T x y T') ty L D (.bool (!ltB t s)) :=
  Q.bin ex ey fun w => by
    have h : (Op.bytesLess s.data.toList t.data.toList || decide (s.data.toList = t.data.toList)) = !ltB t s := by
      rw [Bool.eq_iff_iff]
      simp only [Bool.or_eq_true, less_iff, decide_eq_true_eq, Bool.not_eq_true', ltB, decide_eq_false_iff_not, List.not_lt]
      exact ⟨fun h => h.elim List.le_of_lt (fun e => by rw [e]; exact List.le_refl _), fun h => by
        rcases List.le_total t.data.toList s.data.toList with h' | h'
        · exact .inr (List.le_antisymm h h')
        · rcases Classical.em (s.data.toList = t.data.toList) with e | e
          · exact .inr e
          · exact .inl (by
              rcases Classical.em (s.data.toList < t.data.toList) with g | g
              · exact g
              · exact absurd (List.le_antisymm h (List.not_lt.1 g)) e)⟩
    simp only [Sem.run_bind, guard_str, Result.andThen_ok, binOp, Op.stringOp, ByteArray.toList_eq, list_beq, ← h]; rfl

/-- The keys that a store holds are short. -/
structure BM.kok (M : BM) : Prop where
  ob : ∀ n o, sget n M.buckets = some o → ∀ p, p ∈ o → p.1.size ≤ 1024
  up : ∀ n u, sget n M.uploads = some u → u.key.size ≤ 1024

def keysM (M : BM) (name : ByteArray) : List ByteArray := match sget name M.buckets with | none => [] | some o => o.map (·.1)

theorem sortedNil_of {b : Nat} (hsort : AnyZ.SortsIn Try.prog Try.sorted29_ren Fence.wide 4) :
    FSpec Try.prog 29 [.func (.func 45) #[] #[.pointer (some ⟨b, 0, none⟩)]] [pt b (.cells #[.map none] 74 (0, 0))]
      (fun v B => v = .slice none 0 0 ∧ B = [own 9 1 (.slice none 0 0) [], pt b (.cells #[.map none] 74 (0, 0))]) := by
  refine ⟨fun W0 w F s => ?_⟩
  have hb : w.heap[b]? = some (.cells #[.map none] 74 (0, 0)) := s.at_ (i := 0) rfl
  have hbl : b < w.heap.size := (Array.getElem?_eq_some_iff.1 hb).1
  have hseq : SeqGives Fence.wide 2 Try.prog 45 #[.pointer (some ⟨b, 0, none⟩)] encStr (fun ss : List (List UInt8) => ss = []) 0 w :=
    AnyZ.keys_gives_nil (ρ := Try.keys30_ren) { Try.keys30 with } Fence.wide _ trivial rfl b _ hbl (by simp [World.cell?, hb])
  have hc := AnyZ.sorted_in Try.sorted29 Fence.wide 5 trivial trivial trivial trivial rfl (by omega) hsort (enters_of Try.func44 (by kernel_rfl) rfl) 45 #[.pointer (some ⟨b, 0, none⟩)] trivial (enters_of Try.func45 (by kernel_rfl) rfl) _ 0 (Nat.zero_le _) (by omega) _ hseq
  refine (callsIn_wide.1 hc).mono ?_
  rintro e w' ⟨v, ss, rfl, rfl, hrow, hnil, hbel⟩
  obtain rfl : v = .slice none 0 0 := hnil.2 rfl
  have e : (([] : List (List UInt8)).mergeSort fun x y => decide (x ≤ y)) = [] := by simp
  rw [e] at hrow
  exact ⟨_, _, rfl, ⟨rfl, rfl⟩, sat_behind s hbel hrow⟩

section
variable {k : Nat} (m : Nat) (M : BM) (hM : M.ok k) (hK : M.kok) (hk : k ≤ 1048576) (name : ByteArray)
include hM hK hk
theorem objects_no (hB : sget name M.buckets = none) : FSpec Try.prog 16 [.pointer (some ⟨m, 0, none⟩), .string name] [BktAt m M] (fun v B => ∃ p c, v = .slice p (keysM M name).length c ∧ B = [own 9 1 (.slice p (keysM M name).length c) ((keysM M name).map Value.string), BktAt m M]) := by
  have hke : keysM M name = [] := by unfold keysM; rw [hB]
  rw [hke]
  refine FSpec.of Try.func16 rfl Try.ntmps16 rfl fun W0 F => ?_
  refine J.seq ?_
  refine J.region ?_
  refine J.q rfl rfl (Q.asg rfl) ?_
  refine J.nil ?_
  refine J.then_n ?_
  refine J.seq ?_
  refine J.open1 0 rfl (fun _ h => h) fun z => ?_
  refine J.norm rfl ?_
  refine J.region ?_
  refine J.q rfl rfl (Q.mv rfl) ?_
  refine J.q rfl rfl (Q.nil_ rfl) ?_
  refine J.q rfl rfl (Q.fa (n := 0) Try.runUnderlying62 rfl rfl Try.sizeOf58 rfl) ?_
  refine J.q rfl rfl (Q.ld Try.isAgg58 rfl (by first | exact Reads.pt 0 rfl rfl | exact Reads.pt 1 rfl rfl | exact Reads.pt 2 rfl rfl | exact Reads.pt 3 rfl rfl | exact Reads.pt 4 rfl rfl | exact Reads.pt 5 rfl rfl | exact Reads.pt 6 rfl rfl | exact Reads.pt 7 rfl rfl | exact Reads.pt 8 rfl rfl | exact Reads.pt 9 rfl rfl | exact Reads.pt 10 rfl rfl | exact Reads.pt 11 rfl rfl | exact Reads.pt 12 rfl rfl | exact Reads.pt 13 rfl rfl)) ?_
  refine J.q rfl rfl (Q.mv rfl) ?_
  refine J.q rfl rfl (X.G.Q.lkNo (i := 1) Try.runUnderlying58 keyS Try.zeroValue74 rfl rfl rfl hB) ?_
  refine J.call Try.call30 (keys_spec none) [] rfl rfl rfl rfl ?_
  rintro _ _ ⟨bk, rfl, rfl⟩
  refine J.norm rfl ?_
  refine J.call Try.call29 (sortedNil_of (sorts 4)) [0] rfl rfl rfl rfl ?_
  rintro _ _ ⟨rfl, rfl⟩
  refine J.norm rfl ?_
  refine J.q rfl rfl (Q.asg rfl) ?_
  refine J.nil ?_
  refine J.then_n ?_
  refine J.cret ?_
  refine J.shut [2, 3, 4, 5] (BktAt m M) rfl (fun h s => ⟨z, s⟩) ?_
  refine J.keep [1, 0, 3] rfl ?_
  refine J.ret1 (B := [own 9 1 (.slice none 0 0) [], BktAt m M]) rfl rfl ⟨none, 0, rfl, rfl⟩ rfl
theorem objects_yes {objs : Objs} (hB : sget name M.buckets = some objs) : FSpec Try.prog 16 [.pointer (some ⟨m, 0, none⟩), .string name] [BktAt m M] (fun v B => ∃ p c, v = .slice p (keysM M name).length c ∧ B = [own 9 1 (.slice p (keysM M name).length c) ((keysM M name).map Value.string), BktAt m M]) := by
  have hke : keysM M name = objs.map (·.1) := by unfold keysM; rw [hB]
  have hO := hM.os _ _ hB
  have hob := hK.ob _ _ hB
  rw [hke, List.length_map]
  refine FSpec.of Try.func16 rfl Try.ntmps16 rfl fun W0 F => ?_
  refine J.seq ?_
  refine J.region ?_
  refine J.q rfl rfl (Q.asg rfl) ?_
  refine J.nil ?_
  refine J.then_n ?_
  refine J.seq ?_
  refine J.open1 0 rfl (fun _ h => h) fun z => ?_
  refine J.norm rfl ?_
  refine J.mapFocus 1 hB rfl fun val => ?_
  refine J.norm rfl ?_
  refine J.open_ 0 rfl rfl (fun _ h => h) fun r hr => ?_
  subst hr
  refine J.norm rfl ?_
  refine J.region ?_
  refine J.q rfl rfl (Q.mv rfl) ?_
  refine J.q rfl rfl (Q.nil_ rfl) ?_
  refine J.q rfl rfl (Q.fa (n := 0) Try.runUnderlying62 rfl rfl Try.sizeOf58 rfl) ?_
  refine J.q rfl rfl (Q.ld Try.isAgg58 rfl (by first | exact Reads.pt 0 rfl rfl | exact Reads.pt 1 rfl rfl | exact Reads.pt 2 rfl rfl | exact Reads.pt 3 rfl rfl | exact Reads.pt 4 rfl rfl | exact Reads.pt 5 rfl rfl | exact Reads.pt 6 rfl rfl | exact Reads.pt 7 rfl rfl | exact Reads.pt 8 rfl rfl | exact Reads.pt 9 rfl rfl | exact Reads.pt 10 rfl rfl | exact Reads.pt 11 rfl rfl | exact Reads.pt 12 rfl rfl | exact Reads.pt 13 rfl rfl)) ?_
  refine J.q rfl rfl (Q.mv rfl) ?_
  refine J.q rfl rfl (X.G.Q.lkYes (i := 1) Try.runUnderlying58 keyS Try.zeroValue74 rfl rfl rfl) ?_
  refine J.call Try.call30 (keys_spec (some r)) [] rfl rfl rfl rfl ?_
  rintro _ _ ⟨bk, rfl, rfl⟩
  refine J.norm rfl ?_
  refine J.call Try.call29 (sortedKeys_of (r := r) (b := bk) (rep := datRep) (S := objs) (sorts 4) hO.1 (fun p hp => Nat.le_trans (hob p hp) (by decide)) (by omega)) [0, 1] rfl rfl rfl rfl ?_
  rintro _ _ ⟨p12, c12, rfl, rfl⟩
  refine J.norm rfl ?_
  refine J.q rfl rfl (Q.asg rfl) ?_
  refine J.nil ?_
  refine J.then_n ?_
  refine J.cret ?_
  refine J.shut [2] (bRep name objs (.map (some r))) rfl (fun h s => ⟨r, rfl, s⟩) ?_
  refine J.mapSame 0 3 ord3_str hM.bs hB rfl ?_
  refine J.shut [3, 0, 4, 5] (BktAt m M) rfl (fun h s => ⟨z, s⟩) ?_
  refine J.keep [1, 0, 3] rfl ?_
  refine J.ret1 (B := [own 9 1 (.slice p12 objs.length c12) ((objs.map (·.1)).map Value.string), BktAt m M]) rfl rfl ⟨p12, c12, rfl, rfl⟩ rfl
theorem objects_spec : FSpec Try.prog 16 [.pointer (some ⟨m, 0, none⟩), .string name] [BktAt m M] (fun v B => ∃ p c, v = .slice p (keysM M name).length c ∧ B = [own 9 1 (.slice p (keysM M name).length c) ((keysM M name).map Value.string), BktAt m M]) := by
  cases hB : sget name M.buckets with
  | none => exact objects_no m M hM hK hk name hB
  | some objs => exact objects_yes m M hM hK hk name hB
end
end Go.Proofs.Ytdancegklkifaaa
