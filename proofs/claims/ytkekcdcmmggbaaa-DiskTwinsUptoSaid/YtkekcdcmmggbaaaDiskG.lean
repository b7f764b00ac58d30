/-
  The chapter's first example, 'known', as a contract.
-/
import Derived.Test.YtkekcdcmmggbaaaDiskF
namespace Go.Proofs.Ytkekcdcmmggbaaa
open Go.X

def kA : ByteArray := ⟨#[97]⟩
def kB : ByteArray := ⟨#[98]⟩

theorem sortN_sorted {l : List (List UInt8)} (h : l.Pairwise fun x y => decide (x ≤ y) = true) : sortN l = l := List.mergeSort_of_pairwise h

theorem k_list : (⟨100, 0, [⟨kA, [120, 121, 122, 119], 2⟩, ⟨kB, [113], 0⟩]⟩ : DM).list [] = [[97], [98]] := by
  show sortN [[97], [98]] = _
  exact sortN_sorted (by decide)
theorem k_crash : (⟨100, 0, [⟨kA, [120, 121, 122, 119], 2⟩, ⟨kB, [113], 0⟩]⟩ : DM).crash [1] = ⟨100, 0, [⟨kA, [120, 121, 122], 3⟩, ⟨kB, [], 0⟩]⟩ := by
  unfold DM.crash
  rw [k_list]
  kernel_rfl
theorem k_list2 : (⟨100, 0, [⟨kA, [120, 121, 122], 3⟩, ⟨kB, [], 0⟩]⟩ : DM).list [] = [[97], [98]] := by
  show sortN [[97], [98]] = _
  exact sortN_sorted (by decide)

/-- One part, handed in as a slice of one slice. -/
def onePart (b1 b2 c : Nat) (bs : List UInt8) (z1 z2 : Nat × Nat) : Assn := star [pt b1 (.cells [Value.slice (some ⟨b2, 0, none⟩) bs.length c].toArray 30 z1), pt b2 (.cells (bytesV bs).toArray 5 z2)]
theorem onePart_1 (b1 b2 c n : Nat) (bs : List UInt8) (z1 z2 : Nat × Nat) : SlR [onePart b1 b2 c bs z1 z2] 1 (.slice (some ⟨b1, 0, none⟩) 1 n) ([(⟨some ⟨b2, 0, none⟩, c, bs⟩ : Part)].map Part.val) :=
  (SlR.pt (D := [pt b1 (.cells [Value.slice (some ⟨b2, 0, none⟩) bs.length c].toArray 30 z1)]) 0 rfl rfl (fun j u h => by rw [Nat.zero_add]; exact h)).into 0 rfl
theorem onePart_2 (b1 b2 c : Nat) (bs : List UInt8) (z1 z2 : Nat × Nat) : ∀ q, q ∈ [(⟨some ⟨b2, 0, none⟩, c, bs⟩ : Part)] → SlR [onePart b1 b2 c bs z1 z2] 1 q.val (bytesV q.bs) := by
  intro q hq
  simp only [List.mem_singleton] at hq
  subst hq
  exact (SlR.pt (D := [pt b2 (.cells (bytesV bs).toArray 5 z2)]) 0 rfl (by simp [bytesV]) (fun j u h => by rw [Nat.zero_add]; exact h)).into 1 rfl

theorem known_spec : FSpec Try.prog 8 [] [] (fun v B => v = .bool true ∧ B = []) := by
  refine FSpec.of Try.func8 rfl Try.ntmps8 rfl fun W0 F => ?_
  refine J.seq ?_
  refine J.region ?_
  refine J.q rfl rfl (Q.asg rfl) ?_
  refine J.nil ?_
  refine J.then_n ?_
  refine J.seq ?_
  refine J.region ?_
  refine J.call Try.call9 (new_yes 100 (by omega) (by omega)) [] rfl rfl rfl rfl ?_
  rintro _ _ ⟨p, rfl, rfl⟩
  refine J.norm rfl ?_
  refine J.q rfl rfl (Q.mv rfl) ?_
  refine J.q rfl rfl (Q.ext rfl rfl) ?_
  refine J.q rfl rfl (Q.ext rfl rfl) ?_
  refine J.q rfl rfl (Q.asg rfl) ?_
  refine J.q rfl rfl (Q.asg rfl) ?_
  refine J.nil ?_
  refine J.then_n ?_
  refine J.seq ?_
  refine J.seq ?_
  refine J.region ?_
  refine J.q rfl rfl (Q.mv rfl) ?_
  refine J.q rfl rfl (Q.neq rfl rfl) ?_
  refine J.q rfl rfl (Q.mv rfl) ?_
  refine J.cases 17 rfl (fun hb17 => ?_) (fun hb17 => ?_)
  ·
    exact absurd hb17 (by decide)
  ·
    first | replace hb17 := X.tt_dec hb17 | replace hb17 := X.tt_not hb17 | replace hb17 := X.ff_dec hb17 | replace hb17 := X.ff_not hb17 | skip
    refine J.q rfl rfl (Q.mv rfl) ?_
    refine J.q rfl rfl (Q.eqlp Try.runUnderlying24 rfl rfl) ?_
    refine J.q rfl rfl (Q.pick_f rfl rfl) ?_
    refine J.nil ?_
    refine J.then_n ?_
    refine J.cond rfl (fun hc20 => ?_) (fun hc20 => ?_)
    ·
      exact absurd hc20 Bool.false_ne_true
    ·
      first | replace hc20 := X.tt_dec hc20 | replace hc20 := X.tt_not hc20 | replace hc20 := X.ff_dec hc20 | replace hc20 := X.ff_not hc20 | skip
      refine J.cskip ?_
      refine J.then_n ?_
      refine J.seq ?_
      refine J.region ?_
      refine J.q rfl rfl (Q.mv rfl) ?_
      refine J.c rfl rfl (C.bslG (l := [_, _]) Try.runUnderlying30 Try.sizeOf5 Try.zeroValue5 (by decide) rfl rfl rfl rfl rfl) ?_
      rintro _ _ ⟨b22, rfl, rfl⟩
      refine J.norm rfl ?_
      refine J.c rfl rfl (C.stringish (i := 0) Try.runUnderlying30 Try.runUnderlying5 rfl rfl rfl) ?_
      rintro _ _ ⟨rfl, rfl⟩
      refine J.norm rfl ?_
      refine J.c rfl rfl (C.bslG (l := [_]) Try.runUnderlying68 Try.sizeOf30 Try.zeroValue30 (by decide) rfl rfl rfl rfl rfl) ?_
      rintro _ _ ⟨b24, rfl, rfl⟩
      refine J.norm rfl ?_
      refine J.pack [0, 1] rfl ?_
      refine J.conv (Y := onePart b24 b22 2 [120, 121] (0, 0) (2, 3)) 0 rfl (fun _ h => h) ?_
      refine J.call Try.call10 (append_spec p ⟨100, 0, []⟩ ⟨by simp, by simp, by decide, by decide, by decide⟩ kA (by decide) (onePart b24 b22 2 [120, 121] (0, 0) (2, 3)) (some ⟨b24, 0, none⟩) 1 1 [⟨some ⟨b22, 0, none⟩, 2, [120, 121]⟩] (onePart_1 _ _ _ _ _ _ _) (by decide) (onePart_2 _ _ _ _ _ _) (by simp [pcat])) [1, 0] rfl rfl rfl rfl ?_
      rintro _ _ ⟨rfl, rfl⟩
      refine J.norm rfl ?_
      rw [show (⟨100, 0, []⟩ : DM).append kA (pcat [⟨some ⟨b22, 0, none⟩, 2, [120, 121]⟩]) = (0, ⟨100, 0, [⟨kA, [120, 121], 0⟩]⟩) from by kernel_rfl]
      refine J.keep [0, 2] rfl ?_
      refine J.q rfl rfl (Q.asg rfl) ?_
      refine J.nil ?_
      refine J.then_n ?_
      refine J.seq ?_
      refine J.region ?_
      refine J.q rfl rfl (Q.mv rfl) ?_
      refine J.c rfl rfl (C.bslG (l := [_]) Try.runUnderlying28 Try.sizeOf9 Try.zeroValue9 (by decide) rfl rfl rfl rfl rfl) ?_
      rintro _ _ ⟨b27, rfl, rfl⟩
      refine J.norm rfl ?_
      refine J.call Try.call14 (sync_spec p ⟨100, 0, [⟨kA, [120, 121], 0⟩]⟩ (pt b27 (.cells [Value.string kA].toArray 9 (0, 0))) (some ⟨b27, 0, none⟩) 1 1 [kA] (SlR.pt 0 rfl rfl (fun j u h => by rw [Nat.zero_add]; exact h)) (by decide)) [1, 0] rfl rfl rfl rfl ?_
      rintro _ _ ⟨rfl, rfl⟩
      refine J.norm rfl ?_
      rw [show (⟨100, 0, [⟨kA, [120, 121], 0⟩]⟩ : DM).sync [kA] = (0, ⟨100, 0, [⟨kA, [120, 121], 2⟩]⟩) from by kernel_rfl]
      refine J.keep [0, 2] rfl ?_
      refine J.q rfl rfl (Q.asg rfl) ?_
      refine J.nil ?_
      refine J.then_n ?_
      refine J.seq ?_
      refine J.region ?_
      refine J.q rfl rfl (Q.mv rfl) ?_
      refine J.c rfl rfl (C.bslG (l := [_, _]) Try.runUnderlying30 Try.sizeOf5 Try.zeroValue5 (by decide) rfl rfl rfl rfl rfl) ?_
      rintro _ _ ⟨b30, rfl, rfl⟩
      refine J.norm rfl ?_
      refine J.c rfl rfl (C.stringish (i := 0) Try.runUnderlying30 Try.runUnderlying5 rfl rfl rfl) ?_
      rintro _ _ ⟨rfl, rfl⟩
      refine J.norm rfl ?_
      refine J.c rfl rfl (C.bslG (l := [_]) Try.runUnderlying68 Try.sizeOf30 Try.zeroValue30 (by decide) rfl rfl rfl rfl rfl) ?_
      rintro _ _ ⟨b32, rfl, rfl⟩
      refine J.norm rfl ?_
      refine J.pack [0, 1] rfl ?_
      refine J.conv (Y := onePart b32 b30 2 [122, 119] (0, 0) (2, 3)) 0 rfl (fun _ h => h) ?_
      refine J.call Try.call10 (append_spec p ⟨100, 0, [⟨kA, [120, 121], 2⟩]⟩ ⟨by simp, by decide, by decide, by decide, by decide⟩ kA (by decide) (onePart b32 b30 2 [122, 119] (0, 0) (2, 3)) (some ⟨b32, 0, none⟩) 1 1 [⟨some ⟨b30, 0, none⟩, 2, [122, 119]⟩] (onePart_1 _ _ _ _ _ _ _) (by decide) (onePart_2 _ _ _ _ _ _) (by simp [pcat])) [1, 0] rfl rfl rfl rfl ?_
      rintro _ _ ⟨rfl, rfl⟩
      refine J.norm rfl ?_
      rw [show (⟨100, 0, [⟨kA, [120, 121], 2⟩]⟩ : DM).append kA (pcat [⟨some ⟨b30, 0, none⟩, 2, [122, 119]⟩]) = (0, ⟨100, 0, [⟨kA, [120, 121, 122, 119], 2⟩]⟩) from by kernel_rfl]
      refine J.keep [0, 2] rfl ?_
      refine J.q rfl rfl (Q.asg rfl) ?_
      refine J.nil ?_
      refine J.then_n ?_
      refine J.seq ?_
      refine J.region ?_
      refine J.q rfl rfl (Q.mv rfl) ?_
      refine J.c rfl rfl (C.bslG (l := [_]) Try.runUnderlying30 Try.sizeOf5 Try.zeroValue5 (by decide) rfl rfl rfl rfl rfl) ?_
      rintro _ _ ⟨b35, rfl, rfl⟩
      refine J.norm rfl ?_
      refine J.c rfl rfl (C.stringish (i := 0) Try.runUnderlying30 Try.runUnderlying5 rfl rfl rfl) ?_
      rintro _ _ ⟨rfl, rfl⟩
      refine J.norm rfl ?_
      refine J.c rfl rfl (C.bslG (l := [_]) Try.runUnderlying68 Try.sizeOf30 Try.zeroValue30 (by decide) rfl rfl rfl rfl rfl) ?_
      rintro _ _ ⟨b37, rfl, rfl⟩
      refine J.norm rfl ?_
      refine J.pack [0, 1] rfl ?_
      refine J.conv (Y := onePart b37 b35 1 [113] (0, 0) (1, 2)) 0 rfl (fun _ h => h) ?_
      refine J.call Try.call10 (append_spec p ⟨100, 0, [⟨kA, [120, 121, 122, 119], 2⟩]⟩ ⟨by simp, by decide, by decide, by decide, by decide⟩ kB (by decide) (onePart b37 b35 1 [113] (0, 0) (1, 2)) (some ⟨b37, 0, none⟩) 1 1 [⟨some ⟨b35, 0, none⟩, 1, [113]⟩] (onePart_1 _ _ _ _ _ _ _) (by decide) (onePart_2 _ _ _ _ _ _) (by simp [pcat])) [1, 0] rfl rfl rfl rfl ?_
      rintro _ _ ⟨rfl, rfl⟩
      refine J.norm rfl ?_
      rw [show (⟨100, 0, [⟨kA, [120, 121, 122, 119], 2⟩]⟩ : DM).append kB (pcat [⟨some ⟨b35, 0, none⟩, 1, [113]⟩]) = (0, ⟨100, 0, [⟨kA, [120, 121, 122, 119], 2⟩, ⟨kB, [113], 0⟩]⟩) from by kernel_rfl]
      refine J.keep [0, 2] rfl ?_
      refine J.q rfl rfl (Q.asg rfl) ?_
      refine J.nil ?_
      refine J.then_n ?_
      refine J.seq ?_
      refine J.region ?_
      refine J.q rfl rfl (Q.mv rfl) ?_
      refine J.c rfl rfl (C.bslG (l := [_]) Try.runUnderlying22 Try.sizeOf3 Try.zeroValue3 (by decide) rfl rfl rfl rfl rfl) ?_
      rintro _ _ ⟨b40, rfl, rfl⟩
      refine J.norm rfl ?_
      refine J.call Try.call16 (crash_spec p ⟨100, 0, [⟨kA, [120, 121, 122, 119], 2⟩, ⟨kB, [113], 0⟩]⟩ ⟨by decide, by decide, by decide, by decide, by decide⟩ (by decide) (pt b40 (.cells [Value.int .i64 1].toArray 3 (0, 0))) (some ⟨b40, 0, none⟩) 1 1 [1] (SlR.pt 0 rfl rfl (fun j u h => by rw [Nat.zero_add]; exact h)) (by decide) (by decide)) [1, 0] rfl rfl rfl rfl ?_
      rintro _ _ ⟨rfl, rfl⟩
      refine J.norm rfl ?_
      rw [k_crash]
      refine J.keep [0, 2] rfl ?_
      refine J.nil ?_
      refine J.then_n ?_
      refine J.seq ?_
      refine J.region ?_
      refine J.q rfl rfl (Q.mv rfl) ?_
      refine J.call Try.call12 (read_spec p ⟨100, 0, [⟨kA, [120, 121, 122], 3⟩, ⟨kB, [], 0⟩]⟩ ⟨by decide, by decide, by decide, by decide, by decide⟩ kA) [0] rfl rfl rfl rfl ?_
      rintro _ _ ⟨sp44, sc44, rfl, rfl⟩
      refine J.norm rfl ?_
      refine J.q rfl rfl (Q.mv rfl) ?_
      refine J.q rfl rfl (Q.ext rfl rfl) ?_
      refine J.q rfl rfl (Q.ext rfl rfl) ?_
      refine J.q rfl rfl (Q.asg rfl) ?_
      refine J.q rfl rfl (Q.asg rfl) ?_
      refine J.nil ?_
      refine J.then_n ?_
      refine J.seq ?_
      refine J.region ?_
      refine J.q rfl rfl (Q.mv rfl) ?_
      refine J.call Try.call12 (read_spec p ⟨100, 0, [⟨kA, [120, 121, 122], 3⟩, ⟨kB, [], 0⟩]⟩ ⟨by decide, by decide, by decide, by decide, by decide⟩ kB) [1] rfl rfl rfl rfl ?_
      rintro _ _ ⟨sp49, sc49, rfl, rfl⟩
      refine J.norm rfl ?_
      refine J.q rfl rfl (Q.mv rfl) ?_
      refine J.q rfl rfl (Q.ext rfl rfl) ?_
      refine J.q rfl rfl (Q.ext rfl rfl) ?_
      refine J.q rfl rfl (Q.asg rfl) ?_
      refine J.q rfl rfl (Q.asg rfl) ?_
      refine J.nil ?_
      refine J.then_n ?_
      refine J.seq ?_
      refine J.region ?_
      refine J.q rfl rfl (Q.mv rfl) ?_
      refine J.q rfl rfl (Q.mv rfl) ?_
      refine J.q rfl rfl (Q.add64 rfl rfl (by omega)) ?_
      refine J.q rfl rfl (Q.mv rfl) ?_
      refine J.q rfl rfl (Q.add64 rfl rfl (by omega)) ?_
      refine J.q rfl rfl (Q.mv rfl) ?_
      refine J.q rfl rfl (Q.add64 rfl rfl (by omega)) ?_
      refine J.q rfl rfl (Q.eql rfl rfl) ?_
      refine J.q rfl rfl (Q.mv rfl) ?_
      refine J.cases 60 rfl (fun hb60 => ?_) (fun hb60 => ?_)
      ·
        skip
        refine J.q rfl rfl (Q.mv rfl) ?_
        refine J.q rfl rfl (Q.eql rfl rfl) ?_
        refine J.q rfl rfl (Q.pick_t rfl rfl) ?_
        refine J.q rfl rfl (Q.mv rfl) ?_
        refine J.cases 64 rfl (fun hb64 => ?_) (fun hb64 => ?_)
        ·
          skip
          refine J.q rfl rfl (Q.mv rfl) ?_
          refine J.slr 2 rfl fun hsl => ?_
          refine J.q rfl rfl (Q.b2s (bs := [120, 121, 122]) Try.runUnderlying30 Try.runUnderlying9 Try.runUnderlying5 rfl hsl) ?_
          refine J.q rfl rfl (Q.eqls rfl rfl) ?_
          refine J.q rfl rfl (Q.pick_t rfl rfl) ?_
          refine J.q rfl rfl (Q.mv rfl) ?_
          refine J.cases 69 rfl (fun hb69 => ?_) (fun hb69 => ?_)
          ·
            skip
            refine J.q rfl rfl (Q.mv rfl) ?_
            refine J.q rfl rfl (Q.eql rfl rfl) ?_
            refine J.q rfl rfl (Q.pick_t rfl rfl) ?_
            refine J.q rfl rfl (Q.mv rfl) ?_
            refine J.cases 73 rfl (fun hb73 => ?_) (fun hb73 => ?_)
            ·
              skip
              refine J.q rfl rfl (Q.mv rfl) ?_
              refine J.q rfl rfl (Q.lenSl Try.runUnderlying30 rfl) ?_
              refine J.q rfl rfl (Q.eql rfl rfl) ?_
              refine J.q rfl rfl (Q.pick_t rfl rfl) ?_
              refine J.q rfl rfl (Q.mv rfl) ?_
              refine J.cases 78 rfl (fun hb78 => ?_) (fun hb78 => ?_)
              ·
                skip
                refine J.q rfl rfl (Q.mv rfl) ?_
                refine J.call Try.call21 (list_spec p ⟨100, 0, [⟨kA, [120, 121, 122], 3⟩, ⟨kB, [], 0⟩]⟩ F none 0 0 [] (.inl ⟨none, 0, rfl, rfl⟩) (by omega) (by decide)) [1, 3] rfl rfl rfl rfl ?_
                rintro _ _ ⟨sp80, sc80, rfl, rfl⟩
                refine J.norm rfl ?_
                rw [k_list2]
                refine J.q rfl rfl (Q.lenSl Try.runUnderlying28 rfl) ?_
                refine J.q rfl rfl (Q.eql rfl rfl) ?_
                refine J.q rfl rfl (Q.pick_t rfl rfl) ?_
                refine J.q rfl rfl (Q.asg rfl) ?_
                refine J.nil ?_
                refine J.then_n ?_
                refine J.cret ?_
                refine J.keep [2] rfl ?_
                refine J.ret1 (B := []) rfl rfl ⟨rfl, rfl⟩ rfl
              ·
                exact absurd hb78 (by decide)
            ·
              exact absurd hb73 (by decide)
          ·
            exact absurd hb69 (by decide)
        ·
          exact absurd hb64 (by decide)
      ·
        exact absurd hb60 (by decide)

end Go.Proofs.Ytkekcdcmmggbaaa
