/-
  DiskFills: just as many bytes go onto a disk as it holds, and one more does not.
-/
import Derived.Test.YtkekcdcmmggbaaaDiskH
namespace Go.Proofs.Ytkekcdcmmggbaaa
open Go.X

def kC : ByteArray := ⟨#[99]⟩
def kZ : ByteArray := ⟨#[122]⟩

theorem abc (k : Int) (h0 : 0 ≤ k) (h1 : k < 3) : ∃ nm : ByteArray, [Value.string kA, Value.string kB, Value.string kC][k.toNat]? = some (Value.string nm) ∧ nameOK nm.data.toList = true ∧ nm.size ≤ 140737488355328 := by
  have : k = 0 ∨ k = 1 ∨ k = 2 := by omega
  rcases this with rfl | rfl | rfl
  · exact ⟨kA, rfl, by decide, by decide⟩
  · exact ⟨kB, rfl, by decide, by decide⟩
  · exact ⟨kC, rfl, by decide, by decide⟩

theorem zeros (m : Nat) : List.replicate m (Value.int .u8 0) = bytesV (List.replicate m 0) := by simp [bytesV, byteV]

theorem fills_spec (n : Int) (G : Assn) (pp : Option Addr) (pn pc : Nat) (parts : List Int) (hp : SlR [G] 1 (.slice pp pn pc) (parts.map (Value.int .i64))) (hpn : pn ≤ 9223372036854775807)
    (hr : ∀ v, v ∈ parts → -9223372036854775808 ≤ v ∧ v ≤ 9223372036854775807) (hn : -9223372036854775808 ≤ n ∧ n ≤ 9223372036854775807) :
    FSpec Try.prog 3 [.int .i64 n, .slice pp pn pc] [G] (fun v B => v = .bool true ∧ B = [G]) := by
  refine FSpec.of Try.func3 rfl Try.ntmps3 rfl fun W0 F => ?_
  refine J.seq ?_
  refine J.region ?_
  refine J.q rfl rfl (Q.asg rfl) ?_
  refine J.nil ?_
  refine J.then_n ?_
  refine J.seq ?_
  refine J.seq ?_
  refine J.region ?_
  refine J.call Try.call8 (known_spec) [] rfl rfl rfl rfl ?_
  rintro _ _ ⟨rfl, rfl⟩
  refine J.norm rfl ?_
  refine J.q rfl rfl (Q.not rfl) ?_
  refine J.nil ?_
  refine J.then_n ?_
  refine J.cond rfl (fun hc17 => ?_) (fun hc17 => ?_)
  ·
    cases hc17
  ·
    first | replace hc17 := X.tt_dec hc17 | replace hc17 := X.tt_not hc17 | replace hc17 := X.ff_dec hc17 | replace hc17 := X.ff_not hc17 | skip
    refine J.cskip ?_
    refine J.then_n ?_
    refine J.seq ?_
    refine J.seq ?_
    refine J.region ?_
    refine J.q rfl rfl (Q.mv rfl) ?_
    refine J.q rfl rfl (Q.lss rfl rfl) ?_
    refine J.q rfl rfl (Q.mv rfl) ?_
    refine J.cases 20 rfl (fun hb20 => ?_) (fun hb20 => ?_)
    ·
      skip
      refine J.skip rfl rfl ?_
      refine J.skip rfl rfl ?_
      refine J.q rfl rfl (Q.pick_t rfl rfl) ?_
      refine J.q rfl rfl (Q.mv rfl) ?_
      refine J.skip rfl rfl ?_
      refine J.skip rfl rfl ?_
      refine J.skip rfl rfl ?_
      refine J.q rfl rfl (Q.pick_t rfl rfl) ?_
      refine J.nil ?_
      refine J.then_n ?_
      refine J.cond_t rfl ?_
      refine J.seq ?_
      refine J.region ?_
      refine J.q rfl rfl (Q.asg rfl) ?_
      refine J.nil ?_
      refine J.then_n ?_
      refine J.cret ?_
      refine J.then_r ?_
      first
        | (refine J.ret1 (B := [G]) rfl rfl ⟨rfl, rfl⟩ rfl)
        | (refine J.keep [1, 2] rfl ?_
           refine J.ret1 (B := [G]) rfl rfl ⟨rfl, rfl⟩ rfl)
    ·
      first | replace hb20 := X.tt_dec hb20 | replace hb20 := X.tt_not hb20 | replace hb20 := X.ff_dec hb20 | replace hb20 := X.ff_not hb20 | skip
      refine J.q rfl rfl (Q.mv rfl) ?_
      refine J.q rfl rfl (Q.gtr rfl rfl) ?_
      refine J.q rfl rfl (Q.pick_f rfl rfl) ?_
      refine J.q rfl rfl (Q.mv rfl) ?_
      refine J.cases 24 rfl (fun hb24 => ?_) (fun hb24 => ?_)
      ·
        first | replace hb24 := X.tt_dec hb24 | replace hb24 := X.tt_not hb24 | replace hb24 := X.ff_dec hb24 | replace hb24 := X.ff_not hb24 | skip
        refine J.skip rfl rfl ?_
        refine J.skip rfl rfl ?_
        refine J.skip rfl rfl ?_
        refine J.q rfl rfl (Q.pick_t rfl rfl) ?_
        refine J.nil ?_
        refine J.then_n ?_
        refine J.cond_t rfl ?_
        refine J.seq ?_
        refine J.region ?_
        refine J.q rfl rfl (Q.asg rfl) ?_
        refine J.nil ?_
        refine J.then_n ?_
        refine J.cret ?_
        refine J.then_r ?_
        first
          | (refine J.ret1 (B := [G]) rfl rfl ⟨rfl, rfl⟩ rfl)
          | (refine J.keep [1, 2] rfl ?_
             refine J.ret1 (B := [G]) rfl rfl ⟨rfl, rfl⟩ rfl)
      ·
        first | replace hb24 := X.tt_dec hb24 | replace hb24 := X.tt_not hb24 | replace hb24 := X.ff_dec hb24 | replace hb24 := X.ff_not hb24 | skip
        refine J.q rfl rfl (Q.mv rfl) ?_
        refine J.q rfl rfl (Q.lenSl Try.runUnderlying22 rfl) ?_
        refine J.q rfl rfl (Q.gtr rfl rfl) ?_
        refine J.q rfl rfl (Q.pick_f rfl rfl) ?_
        refine J.nil ?_
        refine J.then_n ?_
        refine J.cond rfl (fun hc28 => ?_) (fun hc28 => ?_)
        ·
          first | replace hc28 := X.tt_dec hc28 | replace hc28 := X.tt_not hc28 | replace hc28 := X.ff_dec hc28 | replace hc28 := X.ff_not hc28 | skip
          refine J.seq ?_
          refine J.region ?_
          refine J.q rfl rfl (Q.asg rfl) ?_
          refine J.nil ?_
          refine J.then_n ?_
          refine J.cret ?_
          refine J.then_r ?_
          first
            | (refine J.ret1 (B := [G]) rfl rfl ⟨rfl, rfl⟩ rfl)
            | (refine J.keep [1, 2] rfl ?_
               refine J.ret1 (B := [G]) rfl rfl ⟨rfl, rfl⟩ rfl)
        ·
          first | replace hc28 := X.tt_dec hc28 | replace hc28 := X.tt_not hc28 | replace hc28 := X.ff_dec hc28 | replace hc28 := X.ff_not hc28 | skip
          refine J.cskip ?_
          refine J.then_n ?_
          refine J.seq ?_
          obtain ⟨sz, rfl⟩ : ∃ sz : Nat, n = sz := ⟨n.toNat, by omega⟩
          refine J.region ?_
          refine J.q rfl rfl (Q.mv rfl) ?_
          refine J.call Try.call9 (new_yes sz (by omega) (by omega)) [] rfl rfl rfl rfl ?_
          rintro _ _ ⟨p, rfl, rfl⟩
          refine J.norm rfl ?_
          refine J.q rfl rfl (Q.mv rfl) ?_
          refine J.q rfl rfl (Q.ext rfl rfl) ?_
          refine J.q rfl rfl (Q.ext rfl rfl) ?_
          refine J.q rfl rfl (Q.asg rfl) ?_
          refine J.q rfl rfl (Q.asg rfl) ?_
          refine J.nil ?_
          refine J.then_n ?_
          refine J.seq ?_
          refine J.seq ?_
          refine J.region ?_
          refine J.q rfl rfl (Q.mv rfl) ?_
          refine J.q rfl rfl (Q.neq rfl rfl) ?_
          refine J.q rfl rfl (Q.mv rfl) ?_
          refine J.cases 36 rfl (fun hb36 => ?_) (fun hb36 => ?_)
          ·
            exact absurd hb36 (by decide)
          ·
            first | replace hb36 := X.tt_dec hb36 | replace hb36 := X.tt_not hb36 | replace hb36 := X.ff_dec hb36 | replace hb36 := X.ff_not hb36 | skip
            refine J.q rfl rfl (Q.mv rfl) ?_
            refine J.q rfl rfl (Q.eqlp Try.runUnderlying24 rfl rfl) ?_
            refine J.q rfl rfl (Q.pick_f rfl rfl) ?_
            refine J.nil ?_
            refine J.then_n ?_
            refine J.cond rfl (fun hc39 => ?_) (fun hc39 => ?_)
            ·
              exact absurd hc39 Bool.false_ne_true
            ·
              first | replace hc39 := X.tt_dec hc39 | replace hc39 := X.tt_not hc39 | replace hc39 := X.ff_dec hc39 | replace hc39 := X.ff_not hc39 | skip
              refine J.cskip ?_
              refine J.then_n ?_
              refine J.seq ?_
              refine J.region ?_
              refine J.q rfl rfl (Q.mv rfl) ?_
              refine J.q rfl rfl (Q.asg rfl) ?_
              refine J.nil ?_
              refine J.then_n ?_
              refine J.seq ?_
              refine J.seq ?_
              refine J.region ?_
              refine J.q rfl rfl (Q.asg rfl) ?_
              refine J.nil ?_
              refine J.then_n ?_
              refine J.block ?_
              have hpl : parts.length = pn := by have := hp.len; simpa using this
              refine J.loop (fun z : Nat × DM => z.1 ≤ pn ∧ z.2.wf ∧ z.2.size = sz) (fun z => pn - z.1) (fun z => [(0, .int .i64 sz), (1, .slice pp pn pc), (5, .pointer (some ⟨p, 0, none⟩)), (7, .int .i64 (sz - z.2.used)), (8, .int .i64 z.1)]) (fun z => [DiskAt p z.2, G, F]) (0, ⟨sz, 0, []⟩)
                ⟨by simp, ⟨by simp, by simp, by simp [DM.used, lenSum], by simp; omega, by simp⟩, rfl⟩ ⟨rfl, rfl, rfl, congrArg some (congrArg (Value.int .i64) (by simp [DM.used, lenSum])), rfl, trivial⟩ rfl fun z hz => ?_
              obtain ⟨hzk, hwf, hsz⟩ := hz
              have hu := hwf.used
              rw [hsz] at hu
              refine J.seq ?_
              refine J.seq ?_
              refine J.region ?_
              refine J.q rfl rfl (Q.mv rfl) ?_
              refine J.q rfl rfl (Q.mv rfl) ?_
              refine J.q rfl rfl (Q.lenSl Try.runUnderlying22 rfl) ?_
              refine J.q rfl rfl (Q.lss rfl rfl) ?_
              refine J.nil ?_
              refine J.then_n ?_
              refine J.cond rfl (fun hc44 => ?_) (fun hc44 => ?_)
              ·
                first | replace hc44 := X.tt_dec hc44 | replace hc44 := X.tt_not hc44 | replace hc44 := X.ff_dec hc44 | replace hc44 := X.ff_not hc44 | skip
                refine J.cskip ?_
                refine J.then_n ?_
                refine J.seq ?_
                refine J.block ?_
                refine J.seq ?_
                refine J.region ?_
                refine J.q rfl rfl (Q.mv rfl) ?_
                refine J.q rfl rfl (Q.mv rfl) ?_
                obtain ⟨b, off, rfl, hrd⟩ := hp.some_ (by omega)
                obtain ⟨v, hv⟩ : ∃ v, parts[z.1]? = some v := ⟨_, List.getElem?_eq_getElem (by omega)⟩
                have hvr := hr v (List.mem_of_getElem? hv)
                refine J.q rfl rfl (Q.ia Try.runUnderlying22 Try.sizeOf3 rfl rfl (by omega) (by omega)) ?_
                refine J.q rfl rfl (Q.ld Try.isAgg3 rfl (((hrd z.1 (.int .i64 v) (by simp [hv])).within (i := 1) rfl).cast (by simp))) ?_
                refine J.q rfl rfl (Q.mv rfl) ?_
                refine J.q rfl rfl (Q.add64 rfl rfl (by omega)) ?_
                refine J.q rfl rfl (Q.rem rfl rfl (by omega)) ?_
                have ht1 : (v.tmod ((sz : Int) + 2)).natAbs < sz + 2 := by
                  have := Int.natAbs_tmod v ((sz : Int) + 2)
                  rw [this]; exact Nat.mod_lt _ (by omega)
                refine J.q rfl rfl (Q.asg rfl) ?_
                refine J.nil ?_
                refine J.then_n ?_
                refine J.cut (fun m : Nat => m ≤ sz + 1) (fun m => [(0, .int .i64 sz), (1, .slice (some ⟨b, off, none⟩) pn pc), (5, .pointer (some ⟨p, 0, none⟩)), (7, .int .i64 (sz - z.2.used)), (8, .int .i64 z.1), (9, .int .i64 m)]) (fun _ => [DiskAt p z.2, G, F]) ?_ fun m hm => ?_
                ·
                  refine J.seq ?_
                  refine J.region ?_
                  refine J.q rfl rfl (Q.mv rfl) ?_
                  refine J.q rfl rfl (Q.lss rfl rfl) ?_
                  refine J.nil ?_
                  refine J.then_n ?_
                  refine J.cond rfl (fun hc55 => ?_) (fun hc55 => ?_)
                  ·
                    first | replace hc55 := X.tt_dec hc55 | replace hc55 := X.tt_not hc55 | replace hc55 := X.ff_dec hc55 | replace hc55 := X.ff_not hc55 | skip
                    refine J.region ?_
                    refine J.q rfl rfl (Q.mv rfl) ?_
                    refine J.q rfl rfl (Q.sub64 rfl rfl (by omega)) ?_
                    refine J.q rfl rfl (Q.asg rfl) ?_
                    refine J.nil ?_
                    refine J.meet (v.tmod ((sz : Int) + 2)).natAbs (by omega) ⟨rfl, rfl, rfl, rfl, rfl, congrArg some (congrArg (Value.int .i64) (by omega)), trivial⟩ rfl
                  ·
                    first | replace hc55 := X.tt_dec hc55 | replace hc55 := X.tt_not hc55 | replace hc55 := X.ff_dec hc55 | replace hc55 := X.ff_not hc55 | skip
                    refine J.cskip ?_
                    refine J.meet (v.tmod ((sz : Int) + 2)).natAbs (by omega) ⟨rfl, rfl, rfl, rfl, rfl, congrArg some (congrArg (Value.int .i64) (by omega)), trivial⟩ rfl
                ·
                  refine J.seq ?_
                  refine J.region ?_
                  refine J.c rfl rfl (C.bslG (l := [_, _, _]) Try.runUnderlying28 Try.sizeOf9 Try.zeroValue9 (by decide) rfl rfl rfl rfl rfl) ?_
                  rintro _ _ ⟨b58, rfl, rfl⟩
                  refine J.norm rfl ?_
                  refine J.q rfl rfl (Q.mv rfl) ?_
                  refine J.q rfl rfl (Q.rem64 rfl rfl (by omega) (by omega)) ?_
                  obtain ⟨nm, hnm, hnok, hnsz⟩ := abc ((z.1 : Int) % 3) (by omega) (by omega)
                  refine J.q rfl rfl (Q.ia Try.runUnderlying28 Try.sizeOf9 rfl rfl (by omega) (by omega)) ?_
                  refine J.q rfl rfl (Q.ld Try.isAgg9 rfl ((Reads.pt 0 rfl hnm).cast (by simp))) ?_
                  refine J.q rfl rfl (Q.asg rfl) ?_
                  refine J.nil ?_
                  refine J.then_n ?_
                  refine J.seq ?_
                  refine J.region ?_
                  refine J.q rfl rfl (Q.mv rfl) ?_
                  refine J.q rfl rfl (Q.mv rfl) ?_
                  refine J.q rfl rfl (Q.mv rfl) ?_
                  refine J.c rfl rfl (C.mksl Try.runUnderlying30 Try.typeInfo5 Try.sizeOf5 Try.zeroValue5 rfl rfl rfl (by omega) (by omega) (by simp [Try.t5]; omega) (by omega)) ?_
                  rintro _ _ ⟨b66, rfl, rfl⟩
                  refine J.norm rfl ?_
                  refine J.slot 66 (.slice (some ⟨b66, 0, none⟩) (List.replicate m (0 : UInt8)).length m) rfl (by simp) ?_
                  refine J.c rfl rfl (C.bslG (l := [_]) Try.runUnderlying68 Try.sizeOf30 Try.zeroValue30 (by decide) rfl rfl rfl rfl rfl) ?_
                  rintro _ _ ⟨b67, rfl, rfl⟩
                  refine J.norm rfl ?_
                  refine J.pack [0, 1] rfl ?_
                  refine J.conv (Y := onePart b67 b66 m (List.replicate m 0) (0, 0) (0, 0)) 0 rfl (fun h hh => by rw [Int.toNat_natCast, zeros] at hh; exact hh) ?_
                  refine J.call Try.call10 (append_spec p z.2 hwf nm hnsz (onePart b67 b66 m (List.replicate m 0) (0, 0) (0, 0)) (some ⟨b67, 0, none⟩) 1 1 [⟨some ⟨b66, 0, none⟩, m, List.replicate m 0⟩] (onePart_1 _ _ _ _ _ _ _) (by decide) (onePart_2 _ _ _ _ _ _) (by simp [pcat]; omega)) [2, 0] rfl rfl rfl rfl ?_
                  rintro _ _ ⟨rfl, rfl⟩
                  refine J.norm rfl ?_
                  refine J.keep [0, 3, 4] rfl ?_
                  obtain ⟨e, d', hed, hres⟩ : ∃ (e : Int) (d' : DM), z.2.append nm (pcat [⟨some ⟨b66, 0, none⟩, m, List.replicate m 0⟩]) = (e, d') ∧ ((e = 5 ∧ d' = z.2 ∧ sz < z.2.used + m) ∨ (e = 0 ∧ d'.wf ∧ d'.size = sz ∧ d'.used = z.2.used + m ∧ z.2.used + m ≤ sz)) := by
                    have hlen : (pcat [(⟨some ⟨b66, 0, none⟩, m, List.replicate m 0⟩ : Part)]).length = m := by simp [pcat]
                    by_cases hf : z.2.size < z.2.used + m
                    · exact ⟨5, z.2, append_full hnok (by rw [hlen]; exact hf), .inl ⟨rfl, rfl, by omega⟩⟩
                    · have h1 := wf_put hwf nm (pcat [(⟨some ⟨b66, 0, none⟩, m, List.replicate m 0⟩ : Part)]) (by rw [hlen]; omega)
                      rw [hlen] at h1
                      exact ⟨0, _, append_ok hnok (by rw [hlen]; omega), .inr ⟨rfl, h1.1, hsz, h1.2, by omega⟩⟩
                  rw [hed]
                  refine J.q rfl rfl (Q.asg rfl) ?_
                  refine J.nil ?_
                  refine J.then_n ?_
                  refine J.cut (fun _ : Unit => True) (fun _ => [(0, .int .i64 sz), (1, .slice (some ⟨b, off, none⟩) pn pc), (5, .pointer (some ⟨p, 0, none⟩)), (7, .int .i64 (sz - z.2.used)), (8, .int .i64 z.1), (9, .int .i64 m)]) (fun _ => [DiskAt p d', G, F]) ?_ fun _ _ => ?_
                  ·
                    refine J.seq ?_
                    refine J.region ?_
                    refine J.q rfl rfl (Q.mv rfl) ?_
                    refine J.q rfl rfl (Q.mv rfl) ?_
                    refine J.q rfl rfl (Q.gtr rfl rfl) ?_
                    refine J.q rfl rfl (Q.mv rfl) ?_
                    refine J.q rfl rfl (Q.eql rfl rfl) ?_
                    refine J.q rfl rfl (Q.neqb Try.runUnderlying4 rfl rfl) ?_
                    refine J.q rfl rfl (Q.mv rfl) ?_
                    refine J.cases 75 rfl (fun hb75 => ?_) (fun hb75 => ?_)
                    ·
                      rcases hres with ⟨rfl, _, h⟩ | ⟨rfl, _, _, _, h⟩; rw [decide_eq_true (by omega)] at hb75; cases hb75; rw [decide_eq_false (by omega)] at hb75; cases hb75
                    ·
                      skip
                      refine J.q rfl rfl (Q.mv rfl) ?_
                      refine J.q rfl rfl (Q.mv rfl) ?_
                      refine J.q rfl rfl (Q.leq rfl rfl) ?_
                      refine J.q rfl rfl (Q.mv rfl) ?_
                      refine J.cases 79 rfl (fun hb79 => ?_) (fun hb79 => ?_)
                      ·
                        first | replace hb79 := X.tt_dec hb79 | replace hb79 := X.tt_not hb79 | replace hb79 := X.ff_dec hb79 | replace hb79 := X.ff_not hb79 | skip
                        refine J.q rfl rfl (Q.mv rfl) ?_
                        refine J.q rfl rfl (Q.neq rfl rfl) ?_
                        refine J.q rfl rfl (Q.pick_t rfl rfl) ?_
                        refine J.q rfl rfl (Q.pick_f rfl rfl) ?_
                        refine J.nil ?_
                        refine J.then_n ?_
                        refine J.cond rfl (fun hc83 => ?_) (fun hc83 => ?_)
                        ·
                          exfalso; rcases hres with ⟨rfl, _, h⟩ | ⟨rfl, _, _, _, h⟩; omega; cases hc83
                        ·
                          first | replace hc83 := X.tt_dec hc83 | replace hc83 := X.tt_not hc83 | replace hc83 := X.ff_dec hc83 | replace hc83 := X.ff_not hc83 | skip
                          refine J.cskip ?_
                          refine J.meet () trivial ⟨rfl, rfl, rfl, rfl, rfl, rfl, trivial⟩ rfl
                      ·
                        first | replace hb79 := X.tt_dec hb79 | replace hb79 := X.tt_not hb79 | replace hb79 := X.ff_dec hb79 | replace hb79 := X.ff_not hb79 | skip
                        refine J.skip rfl rfl ?_
                        refine J.skip rfl rfl ?_
                        refine J.q rfl rfl (Q.pick_f rfl rfl) ?_
                        refine J.q rfl rfl (Q.pick_f rfl rfl) ?_
                        refine J.nil ?_
                        refine J.then_n ?_
                        refine J.cond_f rfl ?_
                        refine J.cskip ?_
                        refine J.meet () trivial ⟨rfl, rfl, rfl, rfl, rfl, rfl, trivial⟩ rfl
                  ·
                    refine J.cut (fun d2 : DM => d2.wf ∧ d2.size = sz) (fun d2 => [(0, .int .i64 sz), (1, .slice (some ⟨b, off, none⟩) pn pc), (5, .pointer (some ⟨p, 0, none⟩)), (7, .int .i64 (sz - d2.used)), (8, .int .i64 z.1)]) (fun d2 => [DiskAt p d2, G, F]) ?_ fun d2 hd2 => ?_
                    ·
                      refine J.seq ?_
                      refine J.region ?_
                      refine J.q rfl rfl (Q.mv rfl) ?_
                      refine J.q rfl rfl (Q.mv rfl) ?_
                      refine J.q rfl rfl (Q.leq rfl rfl) ?_
                      refine J.nil ?_
                      refine J.then_n ?_
                      refine J.cond rfl (fun hc86 => ?_) (fun hc86 => ?_)
                      ·
                        first | replace hc86 := X.tt_dec hc86 | replace hc86 := X.tt_not hc86 | replace hc86 := X.ff_dec hc86 | replace hc86 := X.ff_not hc86 | skip
                        refine J.region ?_
                        refine J.q rfl rfl (Q.mv rfl) ?_
                        refine J.q rfl rfl (Q.mv rfl) ?_
                        refine J.q rfl rfl (Q.sub64 rfl rfl (by omega)) ?_
                        refine J.q rfl rfl (Q.asg rfl) ?_
                        refine J.nil ?_
                        obtain ⟨he0, hw', hs', hu', hle'⟩ : e = 0 ∧ d'.wf ∧ d'.size = sz ∧ d'.used = z.2.used + m ∧ z.2.used + m ≤ sz := by rcases hres with ⟨_, _, h⟩ | h; omega; exact h
                        refine J.meet d' ⟨hw', hs'⟩ ⟨rfl, rfl, rfl, congrArg some (congrArg (Value.int .i64) (by omega)), rfl, trivial⟩ rfl
                      ·
                        first | replace hc86 := X.tt_dec hc86 | replace hc86 := X.tt_not hc86 | replace hc86 := X.ff_dec hc86 | replace hc86 := X.ff_not hc86 | skip
                        refine J.cskip ?_
                        obtain ⟨he5, hdd, hlt'⟩ : e = 5 ∧ d' = z.2 ∧ sz < z.2.used + m := by rcases hres with h | ⟨_, _, _, _, h⟩; exact h; omega
                        refine J.meet z.2 ⟨hwf, hsz⟩ ⟨rfl, rfl, rfl, rfl, rfl, trivial⟩ (by rw [hdd])
                    ·
                      obtain ⟨hwf2, hsz2⟩ := hd2
                      have hu2 := hwf2.used
                      rw [hsz2] at hu2
                      refine J.seq ?_
                      refine J.seq ?_
                      refine J.region ?_
                      refine J.q rfl rfl (Q.mv rfl) ?_
                      refine J.call Try.call11 (used_spec p d2) [0] rfl rfl rfl rfl ?_
                      rintro _ _ ⟨rfl, rfl⟩
                      refine J.norm rfl ?_
                      refine J.q rfl rfl (Q.mv rfl) ?_
                      refine J.q rfl rfl (Q.mv rfl) ?_
                      refine J.q rfl rfl (Q.sub64 rfl rfl (by omega)) ?_
                      refine J.q rfl rfl (Q.neq rfl rfl) ?_
                      refine J.nil ?_
                      refine J.then_n ?_
                      refine J.cond rfl (fun hc95 => ?_) (fun hc95 => ?_)
                      ·
                        have := X.tt_not hc95; omega
                      ·
                        first | replace hc95 := X.tt_dec hc95 | replace hc95 := X.tt_not hc95 | replace hc95 := X.ff_dec hc95 | replace hc95 := X.ff_not hc95 | skip
                        refine J.cskip ?_
                        refine J.then_n ?_
                        refine J.seq ?_
                        refine J.region ?_
                        refine J.q rfl rfl (Q.mv rfl) ?_
                        refine J.q rfl rfl (Q.rem64 rfl rfl (by omega) (by omega)) ?_
                        refine J.q rfl rfl (Q.eql rfl rfl) ?_
                        refine J.nil ?_
                        refine J.then_n ?_
                        refine J.cond rfl (fun hc98 => ?_) (fun hc98 => ?_)
                        ·
                          first | replace hc98 := X.tt_dec hc98 | replace hc98 := X.tt_not hc98 | replace hc98 := X.ff_dec hc98 | replace hc98 := X.ff_not hc98 | skip
                          refine J.seq ?_
                          refine J.region ?_
                          refine J.q rfl rfl (Q.mv rfl) ?_
                          refine J.call Try.call12 (read_spec p d2 hwf2 kA) [0] rfl rfl rfl rfl ?_
                          rintro _ _ ⟨sp101, sc101, rfl, rfl⟩
                          refine J.norm rfl ?_
                          refine J.q rfl rfl (Q.mv rfl) ?_
                          refine J.q rfl rfl (Q.ext rfl rfl) ?_
                          refine J.q rfl rfl (Q.ext rfl rfl) ?_
                          refine J.q rfl rfl (Q.asg rfl) ?_
                          refine J.q rfl rfl (Q.asg rfl) ?_
                          refine J.nil ?_
                          refine J.then_n ?_
                          refine J.seq ?_
                          refine J.seq ?_
                          refine J.region ?_
                          refine J.q rfl rfl (Q.mv rfl) ?_
                          refine J.q rfl rfl (Q.neq rfl rfl) ?_
                          refine J.nil ?_
                          refine J.then_n ?_
                          refine J.cond rfl (fun hc105 => ?_) (fun hc105 => ?_)
                          ·
                            first | replace hc105 := X.tt_dec hc105 | replace hc105 := X.tt_not hc105 | replace hc105 := X.ff_dec hc105 | replace hc105 := X.ff_not hc105 | skip
                            refine J.exit ?_
                            refine J.then_x ?_
                            refine J.blk_x ?_
                            refine J.then_n ?_
                            refine J.region ?_
                            refine J.q rfl rfl (Q.mv rfl) ?_
                            refine J.q rfl rfl (Q.add64 rfl rfl (by omega)) ?_
                            refine J.q rfl rfl (Q.asg rfl) ?_
                            refine J.nil ?_
                            refine J.keep [1, 2, 3] rfl ?_
                            refine J.again (z.1 + 1, d2) ⟨by show z.1 + 1 ≤ pn; omega, hwf2, hsz2⟩ (by show pn - (z.1 + 1) < pn - z.1; omega) ⟨rfl, rfl, rfl, rfl, rfl, trivial⟩ rfl
                          ·
                            first | replace hc105 := X.tt_dec hc105 | replace hc105 := X.tt_not hc105 | replace hc105 := X.ff_dec hc105 | replace hc105 := X.ff_not hc105 | skip
                            refine J.cskip ?_
                            refine J.then_n ?_
                            refine J.seq ?_
                            refine J.seq ?_
                            refine J.region ?_
                            refine J.q rfl rfl (Q.mv rfl) ?_
                            refine J.c rfl rfl (C.bslG (l := [_]) Try.runUnderlying28 Try.sizeOf9 Try.zeroValue9 (by decide) rfl rfl rfl rfl rfl) ?_
                            rintro _ _ ⟨b107, rfl, rfl⟩
                            refine J.norm rfl ?_
                            refine J.call Try.call13 (delete_spec p d2 hwf2 (pt b107 (.cells [Value.string kA].toArray 9 (0, 0))) (some ⟨b107, 0, none⟩) 1 1 [kA] (SlR.pt 0 rfl rfl (fun j u h => by rw [Nat.zero_add]; exact h)) (by decide)) [2, 0] rfl rfl rfl rfl ?_
                            rintro _ _ ⟨rfl, rfl⟩
                            refine J.norm rfl ?_
                            obtain ⟨f, hf⟩ : ∃ f, fget kA d2.files = some f := by
                              unfold DM.found at hc105
                              cases h : fget kA d2.files with
                              | some f => exact ⟨f, rfl⟩
                              | none => rw [h] at hc105; cases hc105
                            obtain ⟨hdel, hdu⟩ := delete_one hf
                            have hwd := wf_delete hwf2 [kA]
                            have hbl : (d2.bytes kA).length = f.bs.length := by unfold DM.bytes; rw [hf]
                            rw [hdel] at hwd
                            rw [hdel]
                            refine J.keep [0, 3, 4] rfl ?_
                            refine J.q rfl rfl (Q.neq rfl rfl) ?_
                            refine J.nil ?_
                            refine J.then_n ?_
                            refine J.cond rfl (fun hc109 => ?_) (fun hc109 => ?_)
                            ·
                              cases hc109
                            ·
                              first | replace hc109 := X.tt_dec hc109 | replace hc109 := X.tt_not hc109 | replace hc109 := X.ff_dec hc109 | replace hc109 := X.ff_not hc109 | skip
                              refine J.cskip ?_
                              refine J.then_n ?_
                              refine J.region ?_
                              refine J.q rfl rfl (Q.mv rfl) ?_
                              refine J.q rfl rfl (Q.mv rfl) ?_
                              refine J.q rfl rfl (Q.lenSl Try.runUnderlying30 rfl) ?_
                              refine J.q rfl rfl (Q.add64 rfl rfl (by omega)) ?_
                              refine J.q rfl rfl (Q.asg rfl) ?_
                              refine J.nil ?_
                              refine J.blk_n ?_
                              refine J.then_n ?_
                              refine J.region ?_
                              refine J.q rfl rfl (Q.mv rfl) ?_
                              refine J.q rfl rfl (Q.add64 rfl rfl (by omega)) ?_
                              refine J.q rfl rfl (Q.asg rfl) ?_
                              refine J.nil ?_
                              refine J.again (z.1 + 1, { d2 with files := fdel kA d2.files }) ⟨by show z.1 + 1 ≤ pn; omega, hwd, hsz2⟩ (by show pn - (z.1 + 1) < pn - z.1; omega) ⟨rfl, rfl, rfl, congrArg some (congrArg (Value.int .i64) (by show (sz : Int) - d2.used + (d2.bytes kA).length = sz - (DM.used { d2 with files := fdel kA d2.files }); omega)), rfl, trivial⟩ rfl
                        ·
                          first | replace hc98 := X.tt_dec hc98 | replace hc98 := X.tt_not hc98 | replace hc98 := X.ff_dec hc98 | replace hc98 := X.ff_not hc98 | skip
                          refine J.cskip ?_
                          refine J.blk_n ?_
                          refine J.then_n ?_
                          refine J.region ?_
                          refine J.q rfl rfl (Q.mv rfl) ?_
                          refine J.q rfl rfl (Q.add64 rfl rfl (by omega)) ?_
                          refine J.q rfl rfl (Q.asg rfl) ?_
                          refine J.nil ?_
                          refine J.again (z.1 + 1, d2) ⟨by show z.1 + 1 ≤ pn; omega, hwf2, hsz2⟩ (by show pn - (z.1 + 1) < pn - z.1; omega) ⟨rfl, rfl, rfl, rfl, rfl, trivial⟩ rfl
              ·
                first | replace hc44 := X.tt_dec hc44 | replace hc44 := X.tt_not hc44 | replace hc44 := X.ff_dec hc44 | replace hc44 := X.ff_not hc44 | skip
                refine J.exit ?_
                refine J.then_x ?_
                refine J.lp_x ?_
                refine J.blk_x ?_
                refine J.then_n ?_
                refine J.seq ?_
                refine J.region ?_
                obtain ⟨m, hm⟩ : ∃ m : Nat, m = sz - z.2.used := ⟨_, rfl⟩
                refine J.slot 7 (.int .i64 m) rfl (congrArg (Value.int .i64) (by omega)) ?_
                refine J.q rfl rfl (Q.mv rfl) ?_
                refine J.q rfl rfl (Q.mv rfl) ?_
                refine J.c rfl rfl (C.mksl Try.runUnderlying30 Try.typeInfo5 Try.sizeOf5 Try.zeroValue5 rfl rfl rfl (by omega) (by omega) (by simp [Try.t5]; omega) (by omega)) ?_
                rintro _ _ ⟨b116, rfl, rfl⟩
                refine J.norm rfl ?_
                refine J.slot 116 (.slice (some ⟨b116, 0, none⟩) (List.replicate m (0 : UInt8)).length m) rfl (by simp) ?_
                refine J.c rfl rfl (C.bslG (l := [_]) Try.runUnderlying68 Try.sizeOf30 Try.zeroValue30 (by decide) rfl rfl rfl rfl rfl) ?_
                rintro _ _ ⟨b117, rfl, rfl⟩
                refine J.norm rfl ?_
                refine J.pack [0, 1] rfl ?_
                refine J.conv (Y := onePart b117 b116 m (List.replicate m 0) (0, 0) (0, 0)) 0 rfl (fun h hh => by rw [Int.toNat_natCast, zeros] at hh; exact hh) ?_
                have hlen : (pcat [(⟨some ⟨b116, 0, none⟩, m, List.replicate m 0⟩ : Part)]).length = m := by simp [pcat]
                obtain ⟨d3, hap, hw3, hu3, hs3⟩ : ∃ d3 : DM, z.2.append kZ (pcat [(⟨some ⟨b116, 0, none⟩, m, List.replicate m 0⟩ : Part)]) = (0, d3) ∧ d3.wf ∧ d3.used = z.2.used + m ∧ d3.size = sz := by
                  have h1 := wf_put hwf kZ (pcat [(⟨some ⟨b116, 0, none⟩, m, List.replicate m 0⟩ : Part)]) (by rw [hlen]; omega)
                  rw [hlen] at h1
                  exact ⟨_, append_ok (by decide) (by rw [hlen]; omega), h1.1, h1.2, hsz⟩
                refine J.call Try.call10 (append_spec p z.2 hwf kZ (by decide) (onePart b117 b116 m (List.replicate m 0) (0, 0) (0, 0)) (some ⟨b117, 0, none⟩) 1 1 [⟨some ⟨b116, 0, none⟩, m, List.replicate m 0⟩] (onePart_1 _ _ _ _ _ _ _) (by decide) (onePart_2 _ _ _ _ _ _) (by rw [hlen]; omega)) [1, 0] rfl rfl rfl rfl ?_
                rintro _ _ ⟨rfl, rfl⟩
                refine J.norm rfl ?_
                rw [hap]
                refine J.keep [0, 2, 3] rfl ?_
                refine J.q rfl rfl (Q.asg rfl) ?_
                refine J.nil ?_
                refine J.then_n ?_
                refine J.seq ?_
                refine J.region ?_
                refine J.q rfl rfl (Q.mv rfl) ?_
                refine J.c rfl rfl (C.bslG (l := [_]) Try.runUnderlying30 Try.sizeOf5 Try.zeroValue5 (by decide) rfl rfl rfl rfl rfl) ?_
                rintro _ _ ⟨b120, rfl, rfl⟩
                refine J.norm rfl ?_
                refine J.c rfl rfl (C.bslG (l := [_]) Try.runUnderlying68 Try.sizeOf30 Try.zeroValue30 (by decide) rfl rfl rfl rfl rfl) ?_
                rintro _ _ ⟨b121, rfl, rfl⟩
                refine J.norm rfl ?_
                refine J.pack [0, 1] rfl ?_
                refine J.conv (Y := onePart b121 b120 1 [1] (0, 0) (0, 0)) 0 rfl (fun _ h => h) ?_
                refine J.call Try.call10 (append_spec p d3 hw3 kZ (by decide) (onePart b121 b120 1 [1] (0, 0) (0, 0)) (some ⟨b121, 0, none⟩) 1 1 [⟨some ⟨b120, 0, none⟩, 1, [1]⟩] (onePart_1 _ _ _ _ _ _ _) (by decide) (onePart_2 _ _ _ _ _ _) (by simp [pcat])) [1, 0] rfl rfl rfl rfl ?_
                rintro _ _ ⟨rfl, rfl⟩
                refine J.norm rfl ?_
                have h122 : d3.append kZ (pcat [(⟨some ⟨b120, 0, none⟩, 1, [1]⟩ : Part)]) = (5, d3) := append_full (by decide) (by rw [hu3, hs3]; show sz < _ + 1; omega)
                rw [h122]
                refine J.keep [0, 2, 3] rfl ?_
                refine J.q rfl rfl (Q.asg rfl) ?_
                refine J.nil ?_
                refine J.then_n ?_
                refine J.seq ?_
                refine J.region ?_
                refine J.q rfl rfl (Q.mv rfl) ?_
                refine J.q rfl rfl (Q.eql rfl rfl) ?_
                refine J.q rfl rfl (Q.mv rfl) ?_
                refine J.cases 125 rfl (fun hb125 => ?_) (fun hb125 => ?_)
                ·
                  skip
                  refine J.q rfl rfl (Q.mv rfl) ?_
                  refine J.q rfl rfl (Q.eql rfl rfl) ?_
                  refine J.q rfl rfl (Q.pick_t rfl rfl) ?_
                  refine J.q rfl rfl (Q.mv rfl) ?_
                  refine J.cases 129 rfl (fun hb129 => ?_) (fun hb129 => ?_)
                  ·
                    skip
                    refine J.q rfl rfl (Q.mv rfl) ?_
                    refine J.call Try.call11 (used_spec p d3) [0] rfl rfl rfl rfl ?_
                    rintro _ _ ⟨rfl, rfl⟩
                    refine J.norm rfl ?_
                    refine J.q rfl rfl (Q.mv rfl) ?_
                    refine J.q rfl rfl (Q.eql rfl rfl) ?_
                    refine J.slot 133 (.bool true) rfl (congrArg Value.bool (decide_eq_true (by omega))) ?_
                    refine J.q rfl rfl (Q.pick_t rfl rfl) ?_
                    refine J.q rfl rfl (Q.asg rfl) ?_
                    refine J.nil ?_
                    refine J.then_n ?_
                    refine J.cret ?_
                    first
                      | (refine J.ret1 (B := [G]) rfl rfl ⟨rfl, rfl⟩ rfl)
                      | (refine J.keep [1, 2] rfl ?_
                         refine J.ret1 (B := [G]) rfl rfl ⟨rfl, rfl⟩ rfl)
                  ·
                    cases hb129
                ·
                  cases hb125

end Go.Proofs.Ytkekcdcmmggbaaa
