/-
  BucketOnce: for every input of bulk at most 1048576 the law returns true, and the input reads as it did: an op that was done does nothing the second time, and one that reads changes nothing; no other condition.
-/
import Derived.ProofKit
import Derived.OpenShut
import Derived.ShutString
import Derived.ChangeOld
import Derived.Below
import Derived.WideShapes
import Derived.ChangeArms
import Derived.JoinedCond
import Derived.Test.YtdancegklkifaaaGreatOn5
namespace Go.Proofs.YtdancegklkifaaaGreat
set_option linter.unusedSectionVars false
set_option linter.unusedSimpArgs false
set_option linter.unusedVariables false
open Go.X
open Go.X.G (Ord3 ord3_nat ord3_int ord3_str ltB sget sput sdel Srtd MapAt MapHole Ent Ents)

def dObjs (o : Objs) : List UInt8 := o.flatMap fun p => encB p.1.data.toList ++ encB p.2
def dBkts (l : List (ByteArray × Objs)) : List UInt8 := l.flatMap fun p => encB p.1.data.toList ++ (numB p.2.length ++ dObjs p.2)
def dParts (l : Parts) : List UInt8 := l.flatMap fun p => numB (u64N p.1) ++ encB p.2
def dUps (l : List (Nat × UM)) : List UInt8 := l.flatMap fun p => numB p.1 ++ (encB p.2.bucket.data.toList ++ (encB p.2.key.data.toList ++ (numB p.2.parts.length ++ dParts p.2.parts)))
def dDone (l : List (Nat × RM)) : List UInt8 := l.flatMap fun p => numB p.1 ++ (numB (u64N p.2.status) ++ numB p.2.upload)
def dT2 (M : BM) : List UInt8 := numB M.done.length ++ dDone M.done
def dT1 (M : BM) : List UInt8 := numB M.uploads.length ++ (dUps M.uploads ++ dT2 M)
def dumpM (M : BM) : List UInt8 := numB M.buckets.length ++ (dBkts M.buckets ++ dT1 M)

theorem encB_len (bs : List UInt8) : bs.length ≤ (encB bs).length := by unfold encB; simp
theorem drop_at {α : Type} {l : List α} {i : Nat} {x : α} (h : l[i]? = some x) : l.drop i = x :: l.drop (i + 1) := by
  obtain ⟨h1, h2⟩ := List.getElem?_eq_some_iff.1 h
  rw [List.drop_eq_getElem_cons h1, h2]

theorem bytesO (p q : Option Addr) (c e b : Nat) (acc bs : List UInt8) (hn : bs.length ≤ 70368744177664) (ha : acc.length ≤ 35184372088832) :
    FSpec Tryz.prog 21 [.slice p acc.length c, .slice (some ⟨b, 0, none⟩) 1 1] [own 5 1 (.slice p acc.length c) (bytesV acc), pt b (.cells [.slice q bs.length e].toArray 25 (0, 0)), own 5 1 (.slice q bs.length e) (bytesV bs)]
    (fun u B => ∃ p' c', u = .slice p' (acc ++ encB bs).length c' ∧ B = [own 5 1 (.slice p' (acc ++ encB bs).length c') (bytesV (acc ++ encB bs)), own 5 1 (.slice q bs.length e) (bytesV bs)]) := by
  refine ⟨fun W0 w F s => ?_⟩
  obtain ⟨k, hk, _⟩ := s.heap.at_ (i := 2) rfl
  exact (bytes_spec _ q e bs (own.slr (i := 0) rfl ⟨k, X.G.HSat.one hk⟩) hn b p c acc ha).call W0 w F s

section
variable {k : Nat} (m : Nat) (M : BM) (hM : M.ok k) (hK : M.kok) (hk : k ≤ 32768) {B : Nat} (hF : M.fit k B) (hD : (dumpM M).length ≤ 35184372088832)
include hM hK hk hF hD
set_option maxHeartbeats 4000000 in
theorem dump_spec : FSpec Tryz.prog 9 [.pointer (some ⟨m, 0, none⟩)] [BktAt m M] (fun v B => ∃ p c, v = .slice p (dumpM M).length c ∧ B = [own 5 1 (.slice p (dumpM M).length c) (bytesV (dumpM M)), BktAt m M]) := by
  have hlen := hM.len
  refine FSpec.of Tryz.func9 rfl Tryz.ntmps9 rfl fun W0 F => ?_
  refine J.seq ?_
  refine J.region ?_
  refine J.q rfl rfl (Q.asg rfl) ?_
  refine J.nil ?_
  refine J.then_n ?_
  refine J.seq ?_
  refine J.open1 0 rfl (fun _ h => h) fun z => ?_
  refine J.norm rfl ?_
  refine J.region ?_
  refine J.q rfl rfl (Q.mv rfl) ?_
  refine J.q rfl rfl (Q.nil_ rfl) ?_
  refine J.q rfl rfl (Q.fa (n := 0) Tryz.runUnderlying51 rfl rfl Tryz.sizeOf47 rfl) ?_
  refine J.q rfl rfl (Q.ld Tryz.isAgg47 rfl (rdI (by exact rfl))) ?_
  refine J.q rfl rfl (X.G.Q.lenAt (i := 1) Tryz.runUnderlying47 rfl rfl) ?_
  refine J.q rfl rfl (Q.convU Tryz.runUnderlying3 Tryz.runUnderlying23 rfl (by omega)) ?_
  refine J.give (X := own 5 1 (.slice none ([] : List UInt8).length 0) (bytesV [])) (own.nil 5 1 _) ?_
  refine J.callI Tryz.call18 (number_spec none 0 [] M.buckets.length (by decide) (by omega)) rfl rfl rfl ?_
  rintro _ _ ⟨p22, c22, rfl, rfl⟩
  refine J.norm rfl ?_
  have a0 : ([] ++ numB M.buckets.length) ++ (dBkts M.buckets ++ dT1 M) = dumpM M := by rw [List.nil_append]; rfl
  refine J.q rfl rfl (Q.asg rfl) ?_
  refine J.nil ?_
  refine J.then_n ?_
  refine J.seq ?_
  refine J.seq ?_
  refine J.region ?_
  refine J.q rfl rfl (Q.mv rfl) ?_
  refine J.q rfl rfl (Q.nil_ rfl) ?_
  refine J.q rfl rfl (Q.fa (n := 0) Tryz.runUnderlying51 rfl rfl Tryz.sizeOf47 rfl) ?_
  refine J.q rfl rfl (Q.ld Tryz.isAgg47 rfl (rdI (by exact rfl))) ?_
  refine J.callI Tryz.call20 (keysBk (some z.1)) rfl rfl rfl ?_
  rintro _ _ ⟨bk, rfl, rfl⟩
  refine J.norm rfl ?_
  refine J.callI Tryz.call19 (sortedBk bk z.1 M.buckets hM.bs (by omega)) rfl rfl rfl ?_
  rintro _ _ ⟨p28, c28, rfl, rfl⟩
  refine J.norm rfl ?_
  refine J.slr1 0 rfl fun hs28 => ?_
  refine J.shutI [pt m (.cells ([.map (some z.1), .map (some z.2.1), .map (some z.2.2)] : List Value).toArray 51 (0, 0)), MapAt Value.string bRep z.1 M.buckets, MapAt encU uRep z.2.1 M.uploads, MapAt encU dRep z.2.2 M.done] (BktAt m M) (fun h s => ⟨z, s⟩) ?_
  refine J.q rfl rfl (Q.lenSl Tryz.runUnderlying35 rfl) ?_
  refine J.q rfl rfl (Q.mv rfl) ?_
  refine J.nil ?_
  refine J.then_n ?_
  refine J.block ?_
  refine J.keepI [own 5 1 (.slice p22 ([] ++ numB M.buckets.length).length c22) (bytesV ([] ++ numB M.buckets.length)), BktAt m M, own 9 1 (.slice p28 M.buckets.length c28) ((M.buckets.map (·.1)).map Value.string), F] ?_
  refine J.loop4 (fun (i : Nat) (acc : List UInt8) (p : Option Addr) (c : Nat) => i ≤ M.buckets.length ∧ acc ++ (dBkts (M.buckets.drop i) ++ dT1 M) = dumpM M) (fun i _ _ _ => M.buckets.length - i) (fun i acc p c => [(0, .pointer (some ⟨m, 0, none⟩)), (3, .slice p acc.length c), (28, .slice p28 M.buckets.length c28), (29, .int .i64 M.buckets.length), (30, .int .i64 i)]) (fun i acc p c => [own 5 1 (.slice p acc.length c) (bytesV acc), BktAt m M, own 9 1 (.slice p28 M.buckets.length c28) ((M.buckets.map (·.1)).map Value.string), F]) 0 ([] ++ numB M.buckets.length) p22 c22 ⟨Nat.zero_le _, a0⟩ ⟨rfl, rfl, rfl, rfl, rfl, trivial⟩ (by rfl) fun i acc p c hz => ?_
  obtain ⟨hi, h0⟩ := hz
  refine J.seq ?_
  refine J.region ?_
  refine J.q rfl rfl (Q.lss rfl rfl) ?_
  refine J.nil ?_
  refine J.then_n ?_
  refine J.seq ?_
  refine J.cases 31 rfl (fun hc31 => ?_) (fun hc31 => ?_)
  ·
   replace hc31 := X.nm hc31
   try (first | (cases hc31; done) | (exfalso; simp at hc31; done))
   all_goals
    refine J.cond_t rfl ?_
    refine J.cskip ?_
    refine J.then_n ?_
    refine J.seq ?_
    refine J.block ?_
    refine J.seq ?_
    obtain ⟨b28, o28, hp28, hr28⟩ := hs28.some_ (by omega)
    obtain ⟨⟨nm, objs⟩, hx⟩ : ∃ x, M.buckets[i]? = some x := ⟨_, List.getElem?_eq_getElem (by omega)⟩
    have hB : sget nm M.buckets = some objs := X.G.sget_of_mem (hM.bs.nodup ord3_str) (List.mem_of_getElem? hx)
    have hO := hM.os _ _ hB
    have hnm := (hF.ob _ _ hB).1
    have h1 : acc ++ (encB nm.data.toList ++ (numB objs.length ++ (dObjs objs ++ (dBkts (M.buckets.drop (i + 1)) ++ dT1 M)))) = dumpM M := by
      rw [← h0, drop_at hx]; simp [dBkts, List.append_assoc]
    have lh1 := congrArg List.length h1
    simp only [List.length_append] at lh1
    have hel := encB_len nm.data.toList
    refine J.slot 28 (.slice (some ⟨b28, o28, none⟩) M.buckets.length c28) rfl (by rw [hp28]) ?_
    refine J.region ?_
    refine J.q rfl rfl (Q.ia Tryz.runUnderlying35 Tryz.sizeOf9 rfl rfl (by omega) (by omega)) ?_
    refine J.q rfl rfl (Q.ld Tryz.isAgg9 rfl (((hr28 i (.string nm) (by simp [hx])).within (i := 2) rfl).cast (by simp))) ?_
    refine J.q rfl rfl (Q.asg rfl) ?_
    refine J.nil ?_
    refine J.then_n ?_
    refine J.seq ?_
    refine J.open1 1 rfl (fun _ h => h) fun z => ?_
    refine J.norm rfl ?_
    refine J.mapFocus 1 hB rfl fun val => ?_
    refine J.norm rfl ?_
    refine J.open_ 0 rfl rfl (fun _ h => h) fun r hr => ?_
    subst hr
    refine J.norm rfl ?_
    refine J.pick [2, 1, 0, 3, 4, 5, 6, 7] rfl ?_
    refine J.drawE [2, 3, 4, 13, 14] 3 Tryz.mixed (by kernel_rfl) rfl rfl fun hR => ?_
    refine RG.q 0 hR rfl rfl rfl rfl rfl rfl (Q.mv rfl) ?_
    refine RG.q 1 hR rfl rfl rfl rfl rfl rfl (Q.mv rfl) ?_
    refine RG.q 5 hR rfl rfl rfl rfl rfl rfl (Q.mv rfl) ?_
    refine RG.q 6 hR rfl rfl rfl rfl rfl rfl (Q.nil_ rfl) ?_
    refine RG.q 7 hR rfl rfl rfl rfl rfl rfl (Q.fa (n := 0) Tryz.runUnderlying51 rfl rfl Tryz.sizeOf47 rfl) ?_
    refine RG.q 8 hR rfl rfl rfl rfl rfl rfl (Q.ld Tryz.isAgg47 rfl (rdI (by exact rfl))) ?_
    refine RG.q 9 hR rfl rfl rfl rfl rfl rfl (Q.mv rfl) ?_
    refine RG.q 10 hR rfl rfl rfl rfl rfl rfl (X.G.Q.lkYes (i := 1) Tryz.runUnderlying47 keyS Tryz.zeroValue57 rfl rfl rfl) ?_
    refine RG.made2 2 hR rfl rfl rfl rfl rfl (C.s2bL Tryz.runUnderlying9 Tryz.runUnderlying25 Tryz.runUnderlying5 rfl) ?_
    rintro b36 c36
    refine RG.made 3 hR rfl rfl rfl rfl rfl (C.bslG (l := [_]) Tryz.runUnderlying112 Tryz.sizeOf25 Tryz.zeroValue25 (by decide) rfl rfl rfl rfl rfl) ?_
    rintro b37
    refine RG.callkI 4 hR rfl rfl rfl rfl rfl Tryz.call21 (bytesO p (some ⟨b36, 0, none⟩) c c36 b37 acc nm.data.toList (by omega) (by omega)) rfl ?_
    rintro _ _ ⟨p38, c38, rfl, rfl⟩
    refine RG.normE rfl ?_
    refine RG.q 11 hR rfl rfl rfl rfl rfl rfl (X.G.Q.lenAt (i := 2) Tryz.runUnderlying57 rfl rfl) ?_
    refine RG.q 12 hR rfl rfl rfl rfl rfl rfl (Q.convU Tryz.runUnderlying3 Tryz.runUnderlying23 rfl (by omega)) ?_
    refine RG.callI 13 hR rfl rfl rfl rfl rfl rfl Tryz.call18 (number_spec p38 c38 (acc ++ encB nm.data.toList) objs.length (by rw [List.length_append]; omega) (by omega)) rfl ?_
    rintro _ _ ⟨p47, c47, rfl, rfl⟩
    refine RG.norm rfl ?_
    refine RG.bar 14 hR rfl rfl rfl rfl rfl rfl (Q.asg rfl).toC ?_
    rintro _ _ ⟨rfl, rfl⟩
    refine RG.norm rfl ?_
    refine RG.fin hR rfl ?_
    refine J.norm rfl ?_
    refine J.then_n ?_
    refine J.seq ?_
    refine J.shutI [MapAt Value.string datRep r objs] (bRep nm objs (.map (some r))) (fun h s => ⟨r, rfl, s⟩) ?_
    refine J.mapSameI (rep := bRep) (enc := Value.string) (r := z.1) (k := nm) (val := .map (some r)) ord3_str hM.bs hB ?_
    refine J.shutI [pt m (.cells ([.map (some z.1), .map (some z.2.1), .map (some z.2.2)] : List Value).toArray 51 (0, 0)), MapAt Value.string bRep z.1 M.buckets, MapAt encU uRep z.2.1 M.uploads, MapAt encU dRep z.2.2 M.done] (BktAt m M) (fun h s => ⟨z, s⟩) ?_
    refine J.region ?_
    refine J.q rfl rfl (Q.mv rfl) ?_
    refine J.q rfl rfl (Q.mv rfl) ?_
    refine J.callI Tryz.call22 (objects_spec m M hM hK hk nm) rfl rfl rfl ?_
    rintro _ _ ⟨p50, c50, rfl, rfl⟩
    refine J.norm rfl ?_
    have hkm : keysM M nm = objs.map (·.1) := by unfold keysM; rw [hB]
    rw [hkm, List.length_map]
    refine J.slr1 0 rfl fun hs50 => ?_
    refine J.q rfl rfl (Q.lenSl Tryz.runUnderlying35 rfl) ?_
    refine J.q rfl rfl (Q.mv rfl) ?_
    refine J.nil ?_
    refine J.then_n ?_
    refine J.block ?_
    obtain ⟨acc1, ha1⟩ : ∃ acc1, acc1 = acc ++ encB nm.data.toList ++ numB objs.length := ⟨_, rfl⟩
    have h2 : acc1 ++ (dObjs objs ++ (dBkts (M.buckets.drop (i + 1)) ++ dT1 M)) = dumpM M := by rw [ha1, ← h1]; simp [List.append_assoc]
    rw [← ha1]
    refine J.sub [(0, .pointer (some ⟨m, 0, none⟩)), (3, .slice p47 acc1.length c47), (5, .string nm), (28, .slice p28 M.buckets.length c28), (29, .int .i64 M.buckets.length), (30, .int .i64 i), (50, .slice p50 objs.length c50), (51, .int .i64 objs.length), (52, .int .i64 0)] ⟨rfl, rfl, rfl, (by show _ = some (Value.slice p28 _ _); rw [hp28]; rfl), rfl, rfl, rfl, rfl, rfl, trivial⟩ ?_
    refine J.keepI [own 5 1 (.slice p47 acc1.length c47) (bytesV acc1), BktAt m M, own 9 1 (.slice p28 M.buckets.length c28) ((M.buckets.map (·.1)).map Value.string), own 9 1 (.slice p50 objs.length c50) ((objs.map (·.1)).map Value.string), F] ?_
    refine J.loop4 (fun (j : Nat) (acc : List UInt8) (p : Option Addr) (c : Nat) => j ≤ objs.length ∧ acc ++ (dObjs (objs.drop j) ++ (dBkts (M.buckets.drop (i + 1)) ++ dT1 M)) = dumpM M) (fun j _ _ _ => objs.length - j) (fun j acc p c => [(0, .pointer (some ⟨m, 0, none⟩)), (3, .slice p acc.length c), (5, .string nm), (28, .slice p28 M.buckets.length c28), (29, .int .i64 M.buckets.length), (30, .int .i64 i), (50, .slice p50 objs.length c50), (51, .int .i64 objs.length), (52, .int .i64 j)]) (fun j acc p c => [own 5 1 (.slice p acc.length c) (bytesV acc), BktAt m M, own 9 1 (.slice p28 M.buckets.length c28) ((M.buckets.map (·.1)).map Value.string), own 9 1 (.slice p50 objs.length c50) ((objs.map (·.1)).map Value.string), F]) 0 acc1 p47 c47 ⟨Nat.zero_le _, h2⟩ ⟨rfl, rfl, rfl, rfl, rfl, rfl, rfl, rfl, rfl, trivial⟩ rfl fun j acc' p' c' hz => ?_
    obtain ⟨hj, g0⟩ := hz
    refine J.seq ?_
    refine J.region ?_
    refine J.q rfl rfl (Q.lss rfl rfl) ?_
    refine J.nil ?_
    refine J.then_n ?_
    refine J.seq ?_
    refine J.cases 53 rfl (fun hc53 => ?_) (fun hc53 => ?_)
    ·
     replace hc53 := X.nm hc53
     try (first | (cases hc53; done) | (exfalso; simp at hc53; done))
     all_goals
      refine J.cond_t rfl ?_
      refine J.cskip ?_
      refine J.then_n ?_
      refine J.seq ?_
      refine J.block ?_
      refine J.seq ?_
      obtain ⟨b50, o50, hp50, hr50⟩ := hs50.some_ (by omega)
      obtain ⟨⟨kk, dd⟩, hy⟩ : ∃ y, objs[j]? = some y := ⟨_, List.getElem?_eq_getElem (by omega)⟩
      have hKk : sget kk objs = some dd := X.G.sget_of_mem (hO.1.nodup ord3_str) (List.mem_of_getElem? hy)
      have g1 : acc' ++ (encB kk.data.toList ++ (encB dd ++ (dObjs (objs.drop (j + 1)) ++ (dBkts (M.buckets.drop (i + 1)) ++ dT1 M)))) = dumpM M := by
        rw [← g0, drop_at hy]; simp [dObjs, List.append_assoc]
      have lg1 := congrArg List.length g1
      simp only [List.length_append] at lg1
      have hek := encB_len kk.data.toList
      have hed := encB_len dd
      refine J.slot 50 (.slice (some ⟨b50, o50, none⟩) objs.length c50) rfl (by rw [hp50]) ?_
      refine J.region ?_
      refine J.q rfl rfl (Q.ia Tryz.runUnderlying35 Tryz.sizeOf9 rfl rfl (by omega) (by omega)) ?_
      refine J.q rfl rfl (Q.ld Tryz.isAgg9 rfl (((hr50 j (.string kk) (by simp [hy])).within (i := 3) rfl).cast (by simp))) ?_
      refine J.q rfl rfl (Q.asg rfl) ?_
      refine J.nil ?_
      refine J.then_n ?_
      refine J.open1 1 rfl (fun _ h => h) fun z => ?_
      refine J.norm rfl ?_
      refine J.mapFocus 1 hB rfl fun val => ?_
      refine J.norm rfl ?_
      refine J.open_ 0 rfl rfl (fun _ h => h) fun r hr => ?_
      subst hr
      refine J.norm rfl ?_
      refine J.mapFocus 0 hKk rfl fun val => ?_
      refine J.norm rfl ?_
      refine J.open_ 0 rfl rfl (fun _ h => h) fun y hyv => ?_
      subst hyv
      refine J.norm rfl ?_
      refine J.pick [3, 2, 1, 0, 4, 5, 6, 7, 8, 9] rfl ?_
      refine J.drawE [2, 3, 4, 13, 14, 15] 3 Tryz.mixed (by kernel_rfl) rfl rfl fun hR => ?_
      refine RG.q 0 hR rfl rfl rfl rfl rfl rfl (Q.mv rfl) ?_
      refine RG.q 1 hR rfl rfl rfl rfl rfl rfl (Q.mv rfl) ?_
      refine RG.q 5 hR rfl rfl rfl rfl rfl rfl (Q.mv rfl) ?_
      refine RG.q 6 hR rfl rfl rfl rfl rfl rfl (Q.nil_ rfl) ?_
      refine RG.q 7 hR rfl rfl rfl rfl rfl rfl (Q.fa (n := 0) Tryz.runUnderlying51 rfl rfl Tryz.sizeOf47 rfl) ?_
      refine RG.q 8 hR rfl rfl rfl rfl rfl rfl (Q.ld Tryz.isAgg47 rfl (rdI (by exact rfl))) ?_
      refine RG.q 9 hR rfl rfl rfl rfl rfl rfl (Q.mv rfl) ?_
      refine RG.q 10 hR rfl rfl rfl rfl rfl rfl (X.G.Q.lkYes (i := 1) Tryz.runUnderlying47 keyS Tryz.zeroValue57 rfl rfl rfl) ?_
      refine RG.q 11 hR rfl rfl rfl rfl rfl rfl (Q.mv rfl) ?_
      refine RG.q 12 hR rfl rfl rfl rfl rfl rfl (X.G.Q.lkYes (i := 2) Tryz.runUnderlying57 keyS Tryz.zeroValue25 rfl rfl rfl) ?_
      refine RG.many hR 2 [13] rfl ⟨?_, ⟨?_, trivial⟩⟩
      ·
       refine RGi.made2 rfl rfl rfl rfl (C.s2bL Tryz.runUnderlying9 Tryz.runUnderlying25 Tryz.runUnderlying5 rfl) ?_
       rintro b58 c58
       refine RG.many hR 3 [13] rfl ⟨?_, ⟨?_, trivial⟩⟩
       ·
        refine RGi.made rfl rfl rfl rfl (C.bslG (l := [_]) Tryz.runUnderlying112 Tryz.sizeOf25 Tryz.zeroValue25 (by decide) rfl rfl rfl rfl rfl) ?_
        rintro b59
        refine RG.many hR 4 [13] rfl ⟨?_, ⟨?_, trivial⟩⟩
        ·
         refine RGi.callkI rfl rfl rfl rfl Tryz.call21 (bytesO p' (some ⟨b58, 0, none⟩) c' c58 b59 acc' kk.data.toList (by omega) (by omega)) rfl ?_
         rintro _ _ ⟨p60, c60, rfl, rfl⟩
         refine RG.normE rfl ?_
         refine RG.made 13 hR rfl rfl rfl rfl rfl (C.bslG (l := [_]) Tryz.runUnderlying112 Tryz.sizeOf25 Tryz.zeroValue25 (by decide) rfl rfl rfl rfl rfl) ?_
         rintro b69
         refine RG.callI 14 hR rfl rfl rfl rfl rfl rfl Tryz.call21 (bytesO p60 y.1 c60 y.2 b69 (acc' ++ encB kk.data.toList) dd (by omega) (by rw [List.length_append]; omega)) rfl ?_
         rintro _ _ ⟨p70, c70, rfl, rfl⟩
         refine RG.norm rfl ?_
         refine RG.bar 15 hR rfl rfl rfl rfl rfl rfl (Q.asg rfl).toC ?_
         rintro _ _ ⟨rfl, rfl⟩
         refine RG.norm rfl ?_
         refine RG.fin hR rfl ?_
         refine J.norm rfl ?_
         refine J.blk_n ?_
         refine J.then_n ?_
         refine J.region ?_
         refine J.q rfl rfl (Q.add64 rfl rfl (by omega)) ?_
         refine J.q rfl rfl (Q.mv rfl) ?_
         refine J.nil ?_
         refine J.shutI [own 5 1 (.slice y.1 dd.length y.2) (bytesV dd)] (datRep kk dd (.slice y.1 dd.length y.2)) (fun h s => ⟨y, rfl, s⟩) ?_
         refine J.mapSameI (rep := datRep) (enc := Value.string) (r := r) (k := kk) (val := .slice y.1 dd.length y.2) ord3_str hO.1 hKk ?_
         refine J.shutI [MapAt Value.string datRep r objs] (bRep nm objs (.map (some r))) (fun h s => ⟨r, rfl, s⟩) ?_
         refine J.mapSameI (rep := bRep) (enc := Value.string) (r := z.1) (k := nm) (val := .map (some r)) ord3_str hM.bs hB ?_
         refine J.shutI [pt m (.cells ([.map (some z.1), .map (some z.2.1), .map (some z.2.2)] : List Value).toArray 51 (0, 0)), MapAt Value.string bRep z.1 M.buckets, MapAt encU uRep z.2.1 M.uploads, MapAt encU dRep z.2.2 M.done] (BktAt m M) (fun h s => ⟨z, s⟩) ?_
         refine J.againI (j + 1, acc' ++ encB kk.data.toList ++ encB dd, p70, c70) ⟨by show j + 1 ≤ objs.length; omega, by rw [← g1]; simp [List.append_assoc]⟩ (by show objs.length - (j + 1) < objs.length - j; omega) ⟨rfl, rfl, rfl, rfl, rfl, rfl, (by show _ = some (Value.slice p50 _ _); rw [hp50]; rfl), rfl, rfl, trivial⟩
        ·
         refine RGi.made rfl rfl rfl rfl (C.bslG (l := [_]) Tryz.runUnderlying112 Tryz.sizeOf25 Tryz.zeroValue25 (by decide) rfl rfl rfl rfl rfl) ?_
         rintro b69
         refine RG.callkI 4 hR rfl rfl rfl rfl rfl Tryz.call21 (bytesO p' (some ⟨b58, 0, none⟩) c' c58 b59 acc' kk.data.toList (by omega) (by omega)) rfl ?_
         rintro _ _ ⟨p60, c60, rfl, rfl⟩
         refine RG.normE rfl ?_
         refine RG.callI 14 hR rfl rfl rfl rfl rfl rfl Tryz.call21 (bytesO p60 y.1 c60 y.2 b69 (acc' ++ encB kk.data.toList) dd (by omega) (by rw [List.length_append]; omega)) rfl ?_
         rintro _ _ ⟨p70, c70, rfl, rfl⟩
         refine RG.norm rfl ?_
         refine RG.bar 15 hR rfl rfl rfl rfl rfl rfl (Q.asg rfl).toC ?_
         rintro _ _ ⟨rfl, rfl⟩
         refine RG.norm rfl ?_
         refine RG.fin hR rfl ?_
         refine J.norm rfl ?_
         refine J.blk_n ?_
         refine J.then_n ?_
         refine J.region ?_
         refine J.q rfl rfl (Q.add64 rfl rfl (by omega)) ?_
         refine J.q rfl rfl (Q.mv rfl) ?_
         refine J.nil ?_
         refine J.shutI [own 5 1 (.slice y.1 dd.length y.2) (bytesV dd)] (datRep kk dd (.slice y.1 dd.length y.2)) (fun h s => ⟨y, rfl, s⟩) ?_
         refine J.mapSameI (rep := datRep) (enc := Value.string) (r := r) (k := kk) (val := .slice y.1 dd.length y.2) ord3_str hO.1 hKk ?_
         refine J.shutI [MapAt Value.string datRep r objs] (bRep nm objs (.map (some r))) (fun h s => ⟨r, rfl, s⟩) ?_
         refine J.mapSameI (rep := bRep) (enc := Value.string) (r := z.1) (k := nm) (val := .map (some r)) ord3_str hM.bs hB ?_
         refine J.shutI [pt m (.cells ([.map (some z.1), .map (some z.2.1), .map (some z.2.2)] : List Value).toArray 51 (0, 0)), MapAt Value.string bRep z.1 M.buckets, MapAt encU uRep z.2.1 M.uploads, MapAt encU dRep z.2.2 M.done] (BktAt m M) (fun h s => ⟨z, s⟩) ?_
         refine J.againI (j + 1, acc' ++ encB kk.data.toList ++ encB dd, p70, c70) ⟨by show j + 1 ≤ objs.length; omega, by rw [← g1]; simp [List.append_assoc]⟩ (by show objs.length - (j + 1) < objs.length - j; omega) ⟨rfl, rfl, rfl, rfl, rfl, rfl, (by show _ = some (Value.slice p50 _ _); rw [hp50]; rfl), rfl, rfl, trivial⟩
       ·
        refine RGi.made rfl rfl rfl rfl (C.bslG (l := [_]) Tryz.runUnderlying112 Tryz.sizeOf25 Tryz.zeroValue25 (by decide) rfl rfl rfl rfl rfl) ?_
        rintro b69
        refine RG.made 3 hR rfl rfl rfl rfl rfl (C.bslG (l := [_]) Tryz.runUnderlying112 Tryz.sizeOf25 Tryz.zeroValue25 (by decide) rfl rfl rfl rfl rfl) ?_
        rintro b59
        refine RG.callkI 4 hR rfl rfl rfl rfl rfl Tryz.call21 (bytesO p' (some ⟨b58, 0, none⟩) c' c58 b59 acc' kk.data.toList (by omega) (by omega)) rfl ?_
        rintro _ _ ⟨p60, c60, rfl, rfl⟩
        refine RG.normE rfl ?_
        refine RG.callI 14 hR rfl rfl rfl rfl rfl rfl Tryz.call21 (bytesO p60 y.1 c60 y.2 b69 (acc' ++ encB kk.data.toList) dd (by omega) (by rw [List.length_append]; omega)) rfl ?_
        rintro _ _ ⟨p70, c70, rfl, rfl⟩
        refine RG.norm rfl ?_
        refine RG.bar 15 hR rfl rfl rfl rfl rfl rfl (Q.asg rfl).toC ?_
        rintro _ _ ⟨rfl, rfl⟩
        refine RG.norm rfl ?_
        refine RG.fin hR rfl ?_
        refine J.norm rfl ?_
        refine J.blk_n ?_
        refine J.then_n ?_
        refine J.region ?_
        refine J.q rfl rfl (Q.add64 rfl rfl (by omega)) ?_
        refine J.q rfl rfl (Q.mv rfl) ?_
        refine J.nil ?_
        refine J.shutI [own 5 1 (.slice y.1 dd.length y.2) (bytesV dd)] (datRep kk dd (.slice y.1 dd.length y.2)) (fun h s => ⟨y, rfl, s⟩) ?_
        refine J.mapSameI (rep := datRep) (enc := Value.string) (r := r) (k := kk) (val := .slice y.1 dd.length y.2) ord3_str hO.1 hKk ?_
        refine J.shutI [MapAt Value.string datRep r objs] (bRep nm objs (.map (some r))) (fun h s => ⟨r, rfl, s⟩) ?_
        refine J.mapSameI (rep := bRep) (enc := Value.string) (r := z.1) (k := nm) (val := .map (some r)) ord3_str hM.bs hB ?_
        refine J.shutI [pt m (.cells ([.map (some z.1), .map (some z.2.1), .map (some z.2.2)] : List Value).toArray 51 (0, 0)), MapAt Value.string bRep z.1 M.buckets, MapAt encU uRep z.2.1 M.uploads, MapAt encU dRep z.2.2 M.done] (BktAt m M) (fun h s => ⟨z, s⟩) ?_
        refine J.againI (j + 1, acc' ++ encB kk.data.toList ++ encB dd, p70, c70) ⟨by show j + 1 ≤ objs.length; omega, by rw [← g1]; simp [List.append_assoc]⟩ (by show objs.length - (j + 1) < objs.length - j; omega) ⟨rfl, rfl, rfl, rfl, rfl, rfl, (by show _ = some (Value.slice p50 _ _); rw [hp50]; rfl), rfl, rfl, trivial⟩
      ·
       refine RGi.made rfl rfl rfl rfl (C.bslG (l := [_]) Tryz.runUnderlying112 Tryz.sizeOf25 Tryz.zeroValue25 (by decide) rfl rfl rfl rfl rfl) ?_
       rintro b69
       refine RG.made2 2 hR rfl rfl rfl rfl rfl (C.s2bL Tryz.runUnderlying9 Tryz.runUnderlying25 Tryz.runUnderlying5 rfl) ?_
       rintro b58 c58
       refine RG.made 3 hR rfl rfl rfl rfl rfl (C.bslG (l := [_]) Tryz.runUnderlying112 Tryz.sizeOf25 Tryz.zeroValue25 (by decide) rfl rfl rfl rfl rfl) ?_
       rintro b59
       refine RG.callkI 4 hR rfl rfl rfl rfl rfl Tryz.call21 (bytesO p' (some ⟨b58, 0, none⟩) c' c58 b59 acc' kk.data.toList (by omega) (by omega)) rfl ?_
       rintro _ _ ⟨p60, c60, rfl, rfl⟩
       refine RG.normE rfl ?_
       refine RG.callI 14 hR rfl rfl rfl rfl rfl rfl Tryz.call21 (bytesO p60 y.1 c60 y.2 b69 (acc' ++ encB kk.data.toList) dd (by omega) (by rw [List.length_append]; omega)) rfl ?_
       rintro _ _ ⟨p70, c70, rfl, rfl⟩
       refine RG.norm rfl ?_
       refine RG.bar 15 hR rfl rfl rfl rfl rfl rfl (Q.asg rfl).toC ?_
       rintro _ _ ⟨rfl, rfl⟩
       refine RG.norm rfl ?_
       refine RG.fin hR rfl ?_
       refine J.norm rfl ?_
       refine J.blk_n ?_
       refine J.then_n ?_
       refine J.region ?_
       refine J.q rfl rfl (Q.add64 rfl rfl (by omega)) ?_
       refine J.q rfl rfl (Q.mv rfl) ?_
       refine J.nil ?_
       refine J.shutI [own 5 1 (.slice y.1 dd.length y.2) (bytesV dd)] (datRep kk dd (.slice y.1 dd.length y.2)) (fun h s => ⟨y, rfl, s⟩) ?_
       refine J.mapSameI (rep := datRep) (enc := Value.string) (r := r) (k := kk) (val := .slice y.1 dd.length y.2) ord3_str hO.1 hKk ?_
       refine J.shutI [MapAt Value.string datRep r objs] (bRep nm objs (.map (some r))) (fun h s => ⟨r, rfl, s⟩) ?_
       refine J.mapSameI (rep := bRep) (enc := Value.string) (r := z.1) (k := nm) (val := .map (some r)) ord3_str hM.bs hB ?_
       refine J.shutI [pt m (.cells ([.map (some z.1), .map (some z.2.1), .map (some z.2.2)] : List Value).toArray 51 (0, 0)), MapAt Value.string bRep z.1 M.buckets, MapAt encU uRep z.2.1 M.uploads, MapAt encU dRep z.2.2 M.done] (BktAt m M) (fun h s => ⟨z, s⟩) ?_
       refine J.againI (j + 1, acc' ++ encB kk.data.toList ++ encB dd, p70, c70) ⟨by show j + 1 ≤ objs.length; omega, by rw [← g1]; simp [List.append_assoc]⟩ (by show objs.length - (j + 1) < objs.length - j; omega) ⟨rfl, rfl, rfl, rfl, rfl, rfl, (by show _ = some (Value.slice p50 _ _); rw [hp50]; rfl), rfl, rfl, trivial⟩
    replace hc53 := X.nm hc53
    try (first | (cases hc53; done) | (exfalso; simp at hc53; done))
    all_goals
     refine J.cond_f rfl ?_
     refine J.exit ?_
     refine J.then_x ?_
     refine J.lp_x ?_
     refine J.blk_x ?_
     refine J.blk_n ?_
     refine J.then_n ?_
     refine J.region ?_
     refine J.q rfl rfl (Q.add64 rfl rfl (by omega)) ?_
     refine J.q rfl rfl (Q.mv rfl) ?_
     refine J.nil ?_
     have hjl : j = objs.length := by omega
     subst hjl
     rw [List.drop_length] at g0
     refine J.againI (i + 1, acc', p', c') ⟨by show i + 1 ≤ M.buckets.length; omega, g0⟩ (by show M.buckets.length - (i + 1) < M.buckets.length - i; omega) ⟨rfl, rfl, rfl, rfl, rfl, trivial⟩
  replace hc31 := X.nm hc31
  try (first | (cases hc31; done) | (exfalso; simp at hc31; done))
  all_goals
   refine J.cond_f rfl ?_
   refine J.exit ?_
   refine J.then_x ?_
   refine J.lp_x ?_
   refine J.blk_x ?_
   refine J.then_n ?_
   refine J.seq ?_
   have hil : i = M.buckets.length := by omega
   subst hil
   rw [List.drop_length] at h0
   have h3 : acc ++ (numB M.uploads.length ++ (dUps M.uploads ++ dT2 M)) = dumpM M := by rw [← h0]; rfl
   have lh3 := congrArg List.length h3
   simp only [List.length_append] at lh3
   refine J.keepI [own 5 1 (.slice p acc.length c) (bytesV acc), BktAt m M, F] ?_
   refine J.open1 1 rfl (fun _ h => h) fun z => ?_
   refine J.norm rfl ?_
   refine J.region ?_
   refine J.q rfl rfl (Q.mv rfl) ?_
   refine J.q rfl rfl (Q.mv rfl) ?_
   refine J.q rfl rfl (Q.nil_ rfl) ?_
   refine J.q rfl rfl (Q.fa (n := 1) Tryz.runUnderlying51 rfl rfl Tryz.sizeOf48 rfl) ?_
   refine J.q rfl rfl (Q.ld Tryz.isAgg48 rfl (rdI (by exact rfl))) ?_
   refine J.q rfl rfl (X.G.Q.lenAt (i := 2) Tryz.runUnderlying48 rfl rfl) ?_
   refine J.q rfl rfl (Q.convU Tryz.runUnderlying3 Tryz.runUnderlying23 rfl (by omega)) ?_
   refine J.callI Tryz.call18 (number_spec p c acc M.uploads.length (by omega) (by omega)) rfl rfl rfl ?_
   rintro _ _ ⟨p80, c80, rfl, rfl⟩
   refine J.norm rfl ?_
   refine J.q rfl rfl (Q.asg rfl) ?_
   refine J.nil ?_
   refine J.then_n ?_
   refine J.seq ?_
   refine J.seq ?_
   refine J.region ?_
   refine J.q rfl rfl (Q.mv rfl) ?_
   refine J.q rfl rfl (Q.nil_ rfl) ?_
   refine J.q rfl rfl (Q.fa (n := 1) Tryz.runUnderlying51 rfl rfl Tryz.sizeOf48 rfl) ?_
   refine J.q rfl rfl (Q.ld Tryz.isAgg48 rfl (rdI (by exact rfl))) ?_
   refine J.callI Tryz.call24 (keysUp (some z.2.1)) rfl rfl rfl ?_
   rintro _ _ ⟨bu, rfl, rfl⟩
   refine J.norm rfl ?_
   refine J.callI Tryz.call23 (sortedUp bu z.2.1 M.uploads hM.us (by omega)) rfl rfl rfl ?_
   rintro _ _ ⟨p86, c86, rfl, rfl⟩
   refine J.norm rfl ?_
   refine J.slr1 0 rfl fun hs86 => ?_
   refine J.shutI [pt m (.cells ([.map (some z.1), .map (some z.2.1), .map (some z.2.2)] : List Value).toArray 51 (0, 0)), MapAt Value.string bRep z.1 M.buckets, MapAt encU uRep z.2.1 M.uploads, MapAt encU dRep z.2.2 M.done] (BktAt m M) (fun h s => ⟨z, s⟩) ?_
   refine J.q rfl rfl (Q.lenSl Tryz.runUnderlying60 rfl) ?_
   refine J.q rfl rfl (Q.mv rfl) ?_
   refine J.nil ?_
   refine J.then_n ?_
   refine J.block ?_
   have b0 : (acc ++ numB M.uploads.length) ++ (dUps M.uploads ++ dT2 M) = dumpM M := by rw [← h3]; simp [List.append_assoc]
   refine J.keepI [own 5 1 (.slice p80 (acc ++ numB M.uploads.length).length c80) (bytesV (acc ++ numB M.uploads.length)), BktAt m M, own 23 1 (.slice p86 M.uploads.length c86) ((M.uploads.map (·.1)).map encU), F] ?_
   refine J.loop4 (fun (i : Nat) (acc : List UInt8) (p : Option Addr) (c : Nat) => i ≤ M.uploads.length ∧ acc ++ (dUps (M.uploads.drop i) ++ dT2 M) = dumpM M) (fun i _ _ _ => M.uploads.length - i) (fun i acc p c => [(0, .pointer (some ⟨m, 0, none⟩)), (3, .slice p acc.length c), (86, .slice p86 M.uploads.length c86), (87, .int .i64 M.uploads.length), (88, .int .i64 i)]) (fun i acc p c => [own 5 1 (.slice p acc.length c) (bytesV acc), BktAt m M, own 23 1 (.slice p86 M.uploads.length c86) ((M.uploads.map (·.1)).map encU), F]) 0 (acc ++ numB M.uploads.length) p80 c80 ⟨Nat.zero_le _, b0⟩ ⟨rfl, rfl, rfl, rfl, rfl, trivial⟩ rfl fun i acc p c hz => ?_
   obtain ⟨hi, h0⟩ := hz
   refine J.seq ?_
   refine J.region ?_
   refine J.q rfl rfl (Q.lss rfl rfl) ?_
   refine J.nil ?_
   refine J.then_n ?_
   refine J.seq ?_
   refine J.cases 89 rfl (fun hc89 => ?_) (fun hc89 => ?_)
   ·
    replace hc89 := X.nm hc89
    try (first | (cases hc89; done) | (exfalso; simp at hc89; done))
    all_goals
     refine J.cond_t rfl ?_
     refine J.cskip ?_
     refine J.then_n ?_
     refine J.seq ?_
     refine J.block ?_
     refine J.seq ?_
     obtain ⟨b86, o86, hp86, hr86⟩ := hs86.some_ (by omega)
     obtain ⟨⟨ui, u⟩, hx⟩ : ∃ x, M.uploads[i]? = some x := ⟨_, List.getElem?_eq_getElem (by omega)⟩
     have hU : sget ui M.uploads = some u := X.G.sget_of_mem (hM.us.nodup ord3_nat) (List.mem_of_getElem? hx)
     have hPs := (hM.ps _ _ hU).1
     have hup := hF.up _ _ hU
     have hui : ui ≤ 18446744073709551615 := hup.1
     have h1 : acc ++ (numB ui ++ (encB u.bucket.data.toList ++ (encB u.key.data.toList ++ (numB u.parts.length ++ (dParts u.parts ++ (dUps (M.uploads.drop (i + 1)) ++ dT2 M)))))) = dumpM M := by
       rw [← h0, drop_at hx]; simp [dUps, List.append_assoc]
     have lh1 := congrArg List.length h1
     simp only [List.length_append] at lh1
     have he1 := encB_len u.bucket.data.toList
     have he2 := encB_len u.key.data.toList
     have hpl : u.parts.length ≤ 32768 := by have := hup.2.1; omega
     refine J.slot 86 (.slice (some ⟨b86, o86, none⟩) M.uploads.length c86) rfl (by rw [hp86]) ?_
     refine J.region ?_
     refine J.q rfl rfl (Q.ia Tryz.runUnderlying60 Tryz.sizeOf23 rfl rfl (by omega) (by omega)) ?_
     refine J.q rfl rfl (Q.ld Tryz.isAgg23 rfl (((hr86 i (encU ui) (by simp [hx])).within (i := 2) rfl).cast (by simp))) ?_
     refine J.q rfl rfl (Q.asg rfl) ?_
     refine J.nil ?_
     refine J.then_n ?_
     refine J.seq ?_
     refine J.open1 1 rfl (fun _ h => h) fun z => ?_
     refine J.norm rfl ?_
     refine J.mapFocus 2 hU rfl fun val => ?_
     refine J.norm rfl ?_
     refine J.open_ 0 rfl rfl (fun _ h => h) fun y hyv => ?_
     subst hyv
     refine J.norm rfl ?_
     refine J.region ?_
     refine J.q rfl rfl (Q.mv rfl) ?_
     refine J.q rfl rfl (Q.nil_ rfl) ?_
     refine J.q rfl rfl (Q.fa (n := 1) Tryz.runUnderlying51 rfl rfl Tryz.sizeOf48 rfl) ?_
     refine J.q rfl rfl (Q.ld Tryz.isAgg48 rfl (rdI (by exact rfl))) ?_
     refine J.q rfl rfl (Q.mv rfl) ?_
     refine J.q rfl rfl (X.G.Q.lkYes (i := 2) Tryz.runUnderlying48 keyU Tryz.zeroValue65 rfl rfl rfl) ?_
     refine J.q rfl rfl (Q.asg rfl) ?_
     refine J.nil ?_
     refine J.then_n ?_
     refine J.cut (fun _ : Option Addr × Nat => True) (fun q => [(0, .pointer (some ⟨m, 0, none⟩)), (3, .slice q.1 (acc ++ numB ui ++ encB u.bucket.data.toList ++ encB u.key.data.toList).length q.2), (10, .pointer (some ⟨y.1, 0, none⟩)), (86, .slice (some ⟨b86, o86, none⟩) M.uploads.length c86), (87, .int .i64 M.uploads.length), (88, .int .i64 i)]) (fun q => [own 5 1 (.slice q.1 (acc ++ numB ui ++ encB u.bucket.data.toList ++ encB u.key.data.toList).length q.2) (bytesV (acc ++ numB ui ++ encB u.bucket.data.toList ++ encB u.key.data.toList)), pt y.1 (.cells ([.string u.bucket, .string u.key, .map (some y.2)] : List Value).toArray 68 (0, 0)), MapAt (Value.int .i64) datRep y.2 u.parts, pt m (.cells ([.map (some z.1), .map (some z.2.1), .map (some z.2.2)] : List Value).toArray 51 (0, 0)), MapAt Value.string bRep z.1 M.buckets, MapHole encU uRep z.2.1 M.uploads ui (.pointer (some ⟨y.1, 0, none⟩)), MapAt encU dRep z.2.2 M.done, own 23 1 (.slice p86 M.uploads.length c86) ((M.uploads.map (·.1)).map encU), F]) ?_ fun q _ => ?_
     ·
      refine J.drawE [2, 7, 8, 9, 14, 15, 16, 17] 1 Tryz.mixed (by kernel_rfl) rfl rfl fun hR => ?_
      refine RG.q 0 hR rfl rfl rfl rfl rfl rfl (Q.mv rfl) ?_
      refine RG.q 1 hR rfl rfl rfl rfl rfl rfl (Q.mv rfl) ?_
      refine RG.q 3 hR rfl rfl rfl rfl rfl rfl (Q.mv rfl) ?_
      refine RG.q 4 hR rfl rfl rfl rfl rfl rfl (Q.nil_ rfl) ?_
      refine RG.q 5 hR rfl rfl rfl rfl rfl rfl (Q.fa (n := 0) Tryz.runUnderlying68 rfl rfl Tryz.sizeOf9 rfl) ?_
      refine RG.q 6 hR rfl rfl rfl rfl rfl rfl (Q.ld Tryz.isAgg9 rfl (rdI (by exact rfl))) ?_
      refine RG.q 10 hR rfl rfl rfl rfl rfl rfl (Q.mv rfl) ?_
      refine RG.q 11 hR rfl rfl rfl rfl rfl rfl (Q.nil_ rfl) ?_
      refine RG.q 12 hR rfl rfl rfl rfl rfl rfl (Q.fa (n := 1) Tryz.runUnderlying68 rfl rfl Tryz.sizeOf9 rfl) ?_
      refine RG.q 13 hR rfl rfl rfl rfl rfl rfl (Q.ld Tryz.isAgg9 rfl (rdI (by exact rfl))) ?_
      refine RG.many hR 2 [7, 14] rfl ⟨?_, ⟨?_, ⟨?_, trivial⟩⟩⟩
      ·
       refine RGi.callkI rfl rfl rfl rfl Tryz.call18 (number_spec p c acc ui (by omega) hui) rfl ?_
       rintro _ _ ⟨p100, c100, rfl, rfl⟩
       refine RG.normE rfl ?_
       refine RG.many hR 7 [14] rfl ⟨?_, ⟨?_, trivial⟩⟩
       ·
        refine RGi.made2 rfl rfl rfl rfl (C.s2bL Tryz.runUnderlying9 Tryz.runUnderlying25 Tryz.runUnderlying5 rfl) ?_
        rintro b105 c105
        refine RG.many hR 8 [14] rfl ⟨?_, ⟨?_, trivial⟩⟩
        ·
         refine RGi.made rfl rfl rfl rfl (C.bslG (l := [_]) Tryz.runUnderlying112 Tryz.sizeOf25 Tryz.zeroValue25 (by decide) rfl rfl rfl rfl rfl) ?_
         rintro b106
         refine RG.many hR 9 [14] rfl ⟨?_, ⟨?_, trivial⟩⟩
         ·
          refine RGi.callkI rfl rfl rfl rfl Tryz.call21 (bytesO p100 (some ⟨b105, 0, none⟩) c100 c105 b106 (acc ++ numB ui) u.bucket.data.toList (by omega) (by rw [List.length_append]; omega)) rfl ?_
          rintro _ _ ⟨p107, c107, rfl, rfl⟩
          refine RG.normE rfl ?_
          refine RG.made2 14 hR rfl rfl rfl rfl rfl (C.s2bL Tryz.runUnderlying9 Tryz.runUnderlying25 Tryz.runUnderlying5 rfl) ?_
          rintro b112 c112
          refine RG.made 15 hR rfl rfl rfl rfl rfl (C.bslG (l := [_]) Tryz.runUnderlying112 Tryz.sizeOf25 Tryz.zeroValue25 (by decide) rfl rfl rfl rfl rfl) ?_
          rintro b113
          refine RG.callI 16 hR rfl rfl rfl rfl rfl rfl Tryz.call21 (bytesO p107 (some ⟨b112, 0, none⟩) c107 c112 b113 (acc ++ numB ui ++ encB u.bucket.data.toList) u.key.data.toList (by omega) (by rw [List.length_append, List.length_append]; omega)) rfl ?_
          rintro _ _ ⟨p114, c114, rfl, rfl⟩
          refine RG.norm rfl ?_
          refine RG.bar 17 hR rfl rfl rfl rfl rfl rfl (Q.asg rfl).toC ?_
          rintro _ _ ⟨rfl, rfl⟩
          refine RG.norm rfl ?_
          refine RG.fin hR rfl ?_
          refine J.norm rfl ?_
          refine J.meetI (p114, c114) trivial ⟨rfl, rfl, rfl, rfl, rfl, rfl, trivial⟩
         ·
          refine RGi.made2 rfl rfl rfl rfl (C.s2bL Tryz.runUnderlying9 Tryz.runUnderlying25 Tryz.runUnderlying5 rfl) ?_
          rintro b112 c112
          refine RG.many hR 9 [15] rfl ⟨?_, ⟨?_, trivial⟩⟩
          ·
           refine RGi.callkI rfl rfl rfl rfl Tryz.call21 (bytesO p100 (some ⟨b105, 0, none⟩) c100 c105 b106 (acc ++ numB ui) u.bucket.data.toList (by omega) (by rw [List.length_append]; omega)) rfl ?_
           rintro _ _ ⟨p107, c107, rfl, rfl⟩
           refine RG.normE rfl ?_
           refine RG.made 15 hR rfl rfl rfl rfl rfl (C.bslG (l := [_]) Tryz.runUnderlying112 Tryz.sizeOf25 Tryz.zeroValue25 (by decide) rfl rfl rfl rfl rfl) ?_
           rintro b113
           refine RG.callI 16 hR rfl rfl rfl rfl rfl rfl Tryz.call21 (bytesO p107 (some ⟨b112, 0, none⟩) c107 c112 b113 (acc ++ numB ui ++ encB u.bucket.data.toList) u.key.data.toList (by omega) (by rw [List.length_append, List.length_append]; omega)) rfl ?_
           rintro _ _ ⟨p114, c114, rfl, rfl⟩
           refine RG.norm rfl ?_
           refine RG.bar 17 hR rfl rfl rfl rfl rfl rfl (Q.asg rfl).toC ?_
           rintro _ _ ⟨rfl, rfl⟩
           refine RG.norm rfl ?_
           refine RG.fin hR rfl ?_
           refine J.norm rfl ?_
           refine J.meetI (p114, c114) trivial ⟨rfl, rfl, rfl, rfl, rfl, rfl, trivial⟩
          ·
           refine RGi.made rfl rfl rfl rfl (C.bslG (l := [_]) Tryz.runUnderlying112 Tryz.sizeOf25 Tryz.zeroValue25 (by decide) rfl rfl rfl rfl rfl) ?_
           rintro b113
           refine RG.callkI 9 hR rfl rfl rfl rfl rfl Tryz.call21 (bytesO p100 (some ⟨b105, 0, none⟩) c100 c105 b106 (acc ++ numB ui) u.bucket.data.toList (by omega) (by rw [List.length_append]; omega)) rfl ?_
           rintro _ _ ⟨p107, c107, rfl, rfl⟩
           refine RG.normE rfl ?_
           refine RG.callI 16 hR rfl rfl rfl rfl rfl rfl Tryz.call21 (bytesO p107 (some ⟨b112, 0, none⟩) c107 c112 b113 (acc ++ numB ui ++ encB u.bucket.data.toList) u.key.data.toList (by omega) (by rw [List.length_append, List.length_append]; omega)) rfl ?_
           rintro _ _ ⟨p114, c114, rfl, rfl⟩
           refine RG.norm rfl ?_
           refine RG.bar 17 hR rfl rfl rfl rfl rfl rfl (Q.asg rfl).toC ?_
           rintro _ _ ⟨rfl, rfl⟩
           refine RG.norm rfl ?_
           refine RG.fin hR rfl ?_
           refine J.norm rfl ?_
           refine J.meetI (p114, c114) trivial ⟨rfl, rfl, rfl, rfl, rfl, rfl, trivial⟩
        ·
         refine RGi.made2 rfl rfl rfl rfl (C.s2bL Tryz.runUnderlying9 Tryz.runUnderlying25 Tryz.runUnderlying5 rfl) ?_
         rintro b112 c112
         refine RG.many hR 8 [15] rfl ⟨?_, ⟨?_, trivial⟩⟩
         ·
          refine RGi.made rfl rfl rfl rfl (C.bslG (l := [_]) Tryz.runUnderlying112 Tryz.sizeOf25 Tryz.zeroValue25 (by decide) rfl rfl rfl rfl rfl) ?_
          rintro b106
          refine RG.many hR 9 [15] rfl ⟨?_, ⟨?_, trivial⟩⟩
          ·
           refine RGi.callkI rfl rfl rfl rfl Tryz.call21 (bytesO p100 (some ⟨b105, 0, none⟩) c100 c105 b106 (acc ++ numB ui) u.bucket.data.toList (by omega) (by rw [List.length_append]; omega)) rfl ?_
           rintro _ _ ⟨p107, c107, rfl, rfl⟩
           refine RG.normE rfl ?_
           refine RG.made 15 hR rfl rfl rfl rfl rfl (C.bslG (l := [_]) Tryz.runUnderlying112 Tryz.sizeOf25 Tryz.zeroValue25 (by decide) rfl rfl rfl rfl rfl) ?_
           rintro b113
           refine RG.callI 16 hR rfl rfl rfl rfl rfl rfl Tryz.call21 (bytesO p107 (some ⟨b112, 0, none⟩) c107 c112 b113 (acc ++ numB ui ++ encB u.bucket.data.toList) u.key.data.toList (by omega) (by rw [List.length_append, List.length_append]; omega)) rfl ?_
           rintro _ _ ⟨p114, c114, rfl, rfl⟩
           refine RG.norm rfl ?_
           refine RG.bar 17 hR rfl rfl rfl rfl rfl rfl (Q.asg rfl).toC ?_
           rintro _ _ ⟨rfl, rfl⟩
           refine RG.norm rfl ?_
           refine RG.fin hR rfl ?_
           refine J.norm rfl ?_
           refine J.meetI (p114, c114) trivial ⟨rfl, rfl, rfl, rfl, rfl, rfl, trivial⟩
          ·
           refine RGi.made rfl rfl rfl rfl (C.bslG (l := [_]) Tryz.runUnderlying112 Tryz.sizeOf25 Tryz.zeroValue25 (by decide) rfl rfl rfl rfl rfl) ?_
           rintro b113
           refine RG.callkI 9 hR rfl rfl rfl rfl rfl Tryz.call21 (bytesO p100 (some ⟨b105, 0, none⟩) c100 c105 b106 (acc ++ numB ui) u.bucket.data.toList (by omega) (by rw [List.length_append]; omega)) rfl ?_
           rintro _ _ ⟨p107, c107, rfl, rfl⟩
           refine RG.normE rfl ?_
           refine RG.callI 16 hR rfl rfl rfl rfl rfl rfl Tryz.call21 (bytesO p107 (some ⟨b112, 0, none⟩) c107 c112 b113 (acc ++ numB ui ++ encB u.bucket.data.toList) u.key.data.toList (by omega) (by rw [List.length_append, List.length_append]; omega)) rfl ?_
           rintro _ _ ⟨p114, c114, rfl, rfl⟩
           refine RG.norm rfl ?_
           refine RG.bar 17 hR rfl rfl rfl rfl rfl rfl (Q.asg rfl).toC ?_
           rintro _ _ ⟨rfl, rfl⟩
           refine RG.norm rfl ?_
           refine RG.fin hR rfl ?_
           refine J.norm rfl ?_
           refine J.meetI (p114, c114) trivial ⟨rfl, rfl, rfl, rfl, rfl, rfl, trivial⟩
         ·
          refine RGi.made rfl rfl rfl rfl (C.bslG (l := [_]) Tryz.runUnderlying112 Tryz.sizeOf25 Tryz.zeroValue25 (by decide) rfl rfl rfl rfl rfl) ?_
          rintro b113
          refine RG.made 8 hR rfl rfl rfl rfl rfl (C.bslG (l := [_]) Tryz.runUnderlying112 Tryz.sizeOf25 Tryz.zeroValue25 (by decide) rfl rfl rfl rfl rfl) ?_
          rintro b106
          refine RG.callkI 9 hR rfl rfl rfl rfl rfl Tryz.call21 (bytesO p100 (some ⟨b105, 0, none⟩) c100 c105 b106 (acc ++ numB ui) u.bucket.data.toList (by omega) (by rw [List.length_append]; omega)) rfl ?_
          rintro _ _ ⟨p107, c107, rfl, rfl⟩
          refine RG.normE rfl ?_
          refine RG.callI 16 hR rfl rfl rfl rfl rfl rfl Tryz.call21 (bytesO p107 (some ⟨b112, 0, none⟩) c107 c112 b113 (acc ++ numB ui ++ encB u.bucket.data.toList) u.key.data.toList (by omega) (by rw [List.length_append, List.length_append]; omega)) rfl ?_
          rintro _ _ ⟨p114, c114, rfl, rfl⟩
          refine RG.norm rfl ?_
          refine RG.bar 17 hR rfl rfl rfl rfl rfl rfl (Q.asg rfl).toC ?_
          rintro _ _ ⟨rfl, rfl⟩
          refine RG.norm rfl ?_
          refine RG.fin hR rfl ?_
          refine J.norm rfl ?_
          refine J.meetI (p114, c114) trivial ⟨rfl, rfl, rfl, rfl, rfl, rfl, trivial⟩
       ·
        refine RGi.made2 rfl rfl rfl rfl (C.s2bL Tryz.runUnderlying9 Tryz.runUnderlying25 Tryz.runUnderlying5 rfl) ?_
        rintro b112 c112
        refine RG.many hR 7 [15] rfl ⟨?_, ⟨?_, trivial⟩⟩
        ·
         refine RGi.made2 rfl rfl rfl rfl (C.s2bL Tryz.runUnderlying9 Tryz.runUnderlying25 Tryz.runUnderlying5 rfl) ?_
         rintro b105 c105
         refine RG.many hR 8 [15] rfl ⟨?_, ⟨?_, trivial⟩⟩
         ·
          refine RGi.made rfl rfl rfl rfl (C.bslG (l := [_]) Tryz.runUnderlying112 Tryz.sizeOf25 Tryz.zeroValue25 (by decide) rfl rfl rfl rfl rfl) ?_
          rintro b106
          refine RG.many hR 9 [15] rfl ⟨?_, ⟨?_, trivial⟩⟩
          ·
           refine RGi.callkI rfl rfl rfl rfl Tryz.call21 (bytesO p100 (some ⟨b105, 0, none⟩) c100 c105 b106 (acc ++ numB ui) u.bucket.data.toList (by omega) (by rw [List.length_append]; omega)) rfl ?_
           rintro _ _ ⟨p107, c107, rfl, rfl⟩
           refine RG.normE rfl ?_
           refine RG.made 15 hR rfl rfl rfl rfl rfl (C.bslG (l := [_]) Tryz.runUnderlying112 Tryz.sizeOf25 Tryz.zeroValue25 (by decide) rfl rfl rfl rfl rfl) ?_
           rintro b113
           refine RG.callI 16 hR rfl rfl rfl rfl rfl rfl Tryz.call21 (bytesO p107 (some ⟨b112, 0, none⟩) c107 c112 b113 (acc ++ numB ui ++ encB u.bucket.data.toList) u.key.data.toList (by omega) (by rw [List.length_append, List.length_append]; omega)) rfl ?_
           rintro _ _ ⟨p114, c114, rfl, rfl⟩
           refine RG.norm rfl ?_
           refine RG.bar 17 hR rfl rfl rfl rfl rfl rfl (Q.asg rfl).toC ?_
           rintro _ _ ⟨rfl, rfl⟩
           refine RG.norm rfl ?_
           refine RG.fin hR rfl ?_
           refine J.norm rfl ?_
           refine J.meetI (p114, c114) trivial ⟨rfl, rfl, rfl, rfl, rfl, rfl, trivial⟩
          ·
           refine RGi.made rfl rfl rfl rfl (C.bslG (l := [_]) Tryz.runUnderlying112 Tryz.sizeOf25 Tryz.zeroValue25 (by decide) rfl rfl rfl rfl rfl) ?_
           rintro b113
           refine RG.callkI 9 hR rfl rfl rfl rfl rfl Tryz.call21 (bytesO p100 (some ⟨b105, 0, none⟩) c100 c105 b106 (acc ++ numB ui) u.bucket.data.toList (by omega) (by rw [List.length_append]; omega)) rfl ?_
           rintro _ _ ⟨p107, c107, rfl, rfl⟩
           refine RG.normE rfl ?_
           refine RG.callI 16 hR rfl rfl rfl rfl rfl rfl Tryz.call21 (bytesO p107 (some ⟨b112, 0, none⟩) c107 c112 b113 (acc ++ numB ui ++ encB u.bucket.data.toList) u.key.data.toList (by omega) (by rw [List.length_append, List.length_append]; omega)) rfl ?_
           rintro _ _ ⟨p114, c114, rfl, rfl⟩
           refine RG.norm rfl ?_
           refine RG.bar 17 hR rfl rfl rfl rfl rfl rfl (Q.asg rfl).toC ?_
           rintro _ _ ⟨rfl, rfl⟩
           refine RG.norm rfl ?_
           refine RG.fin hR rfl ?_
           refine J.norm rfl ?_
           refine J.meetI (p114, c114) trivial ⟨rfl, rfl, rfl, rfl, rfl, rfl, trivial⟩
         ·
          refine RGi.made rfl rfl rfl rfl (C.bslG (l := [_]) Tryz.runUnderlying112 Tryz.sizeOf25 Tryz.zeroValue25 (by decide) rfl rfl rfl rfl rfl) ?_
          rintro b113
          refine RG.made 8 hR rfl rfl rfl rfl rfl (C.bslG (l := [_]) Tryz.runUnderlying112 Tryz.sizeOf25 Tryz.zeroValue25 (by decide) rfl rfl rfl rfl rfl) ?_
          rintro b106
          refine RG.callkI 9 hR rfl rfl rfl rfl rfl Tryz.call21 (bytesO p100 (some ⟨b105, 0, none⟩) c100 c105 b106 (acc ++ numB ui) u.bucket.data.toList (by omega) (by rw [List.length_append]; omega)) rfl ?_
          rintro _ _ ⟨p107, c107, rfl, rfl⟩
          refine RG.normE rfl ?_
          refine RG.callI 16 hR rfl rfl rfl rfl rfl rfl Tryz.call21 (bytesO p107 (some ⟨b112, 0, none⟩) c107 c112 b113 (acc ++ numB ui ++ encB u.bucket.data.toList) u.key.data.toList (by omega) (by rw [List.length_append, List.length_append]; omega)) rfl ?_
          rintro _ _ ⟨p114, c114, rfl, rfl⟩
          refine RG.norm rfl ?_
          refine RG.bar 17 hR rfl rfl rfl rfl rfl rfl (Q.asg rfl).toC ?_
          rintro _ _ ⟨rfl, rfl⟩
          refine RG.norm rfl ?_
          refine RG.fin hR rfl ?_
          refine J.norm rfl ?_
          refine J.meetI (p114, c114) trivial ⟨rfl, rfl, rfl, rfl, rfl, rfl, trivial⟩
        ·
         refine RGi.made rfl rfl rfl rfl (C.bslG (l := [_]) Tryz.runUnderlying112 Tryz.sizeOf25 Tryz.zeroValue25 (by decide) rfl rfl rfl rfl rfl) ?_
         rintro b113
         refine RG.made2 7 hR rfl rfl rfl rfl rfl (C.s2bL Tryz.runUnderlying9 Tryz.runUnderlying25 Tryz.runUnderlying5 rfl) ?_
         rintro b105 c105
         refine RG.made 8 hR rfl rfl rfl rfl rfl (C.bslG (l := [_]) Tryz.runUnderlying112 Tryz.sizeOf25 Tryz.zeroValue25 (by decide) rfl rfl rfl rfl rfl) ?_
         rintro b106
         refine RG.callkI 9 hR rfl rfl rfl rfl rfl Tryz.call21 (bytesO p100 (some ⟨b105, 0, none⟩) c100 c105 b106 (acc ++ numB ui) u.bucket.data.toList (by omega) (by rw [List.length_append]; omega)) rfl ?_
         rintro _ _ ⟨p107, c107, rfl, rfl⟩
         refine RG.normE rfl ?_
         refine RG.callI 16 hR rfl rfl rfl rfl rfl rfl Tryz.call21 (bytesO p107 (some ⟨b112, 0, none⟩) c107 c112 b113 (acc ++ numB ui ++ encB u.bucket.data.toList) u.key.data.toList (by omega) (by rw [List.length_append, List.length_append]; omega)) rfl ?_
         rintro _ _ ⟨p114, c114, rfl, rfl⟩
         refine RG.norm rfl ?_
         refine RG.bar 17 hR rfl rfl rfl rfl rfl rfl (Q.asg rfl).toC ?_
         rintro _ _ ⟨rfl, rfl⟩
         refine RG.norm rfl ?_
         refine RG.fin hR rfl ?_
         refine J.norm rfl ?_
         refine J.meetI (p114, c114) trivial ⟨rfl, rfl, rfl, rfl, rfl, rfl, trivial⟩
      ·
       refine RGi.made2 rfl rfl rfl rfl (C.s2bL Tryz.runUnderlying9 Tryz.runUnderlying25 Tryz.runUnderlying5 rfl) ?_
       rintro b105 c105
       refine RG.many hR 2 [8, 14] rfl ⟨?_, ⟨?_, ⟨?_, trivial⟩⟩⟩
       ·
        refine RGi.callkI rfl rfl rfl rfl Tryz.call18 (number_spec p c acc ui (by omega) hui) rfl ?_
        rintro _ _ ⟨p100, c100, rfl, rfl⟩
        refine RG.normE rfl ?_
        refine RG.many hR 8 [14] rfl ⟨?_, ⟨?_, trivial⟩⟩
        ·
         refine RGi.made rfl rfl rfl rfl (C.bslG (l := [_]) Tryz.runUnderlying112 Tryz.sizeOf25 Tryz.zeroValue25 (by decide) rfl rfl rfl rfl rfl) ?_
         rintro b106
         refine RG.many hR 9 [14] rfl ⟨?_, ⟨?_, trivial⟩⟩
         ·
          refine RGi.callkI rfl rfl rfl rfl Tryz.call21 (bytesO p100 (some ⟨b105, 0, none⟩) c100 c105 b106 (acc ++ numB ui) u.bucket.data.toList (by omega) (by rw [List.length_append]; omega)) rfl ?_
          rintro _ _ ⟨p107, c107, rfl, rfl⟩
          refine RG.normE rfl ?_
          refine RG.made2 14 hR rfl rfl rfl rfl rfl (C.s2bL Tryz.runUnderlying9 Tryz.runUnderlying25 Tryz.runUnderlying5 rfl) ?_
          rintro b112 c112
          refine RG.made 15 hR rfl rfl rfl rfl rfl (C.bslG (l := [_]) Tryz.runUnderlying112 Tryz.sizeOf25 Tryz.zeroValue25 (by decide) rfl rfl rfl rfl rfl) ?_
          rintro b113
          refine RG.callI 16 hR rfl rfl rfl rfl rfl rfl Tryz.call21 (bytesO p107 (some ⟨b112, 0, none⟩) c107 c112 b113 (acc ++ numB ui ++ encB u.bucket.data.toList) u.key.data.toList (by omega) (by rw [List.length_append, List.length_append]; omega)) rfl ?_
          rintro _ _ ⟨p114, c114, rfl, rfl⟩
          refine RG.norm rfl ?_
          refine RG.bar 17 hR rfl rfl rfl rfl rfl rfl (Q.asg rfl).toC ?_
          rintro _ _ ⟨rfl, rfl⟩
          refine RG.norm rfl ?_
          refine RG.fin hR rfl ?_
          refine J.norm rfl ?_
          refine J.meetI (p114, c114) trivial ⟨rfl, rfl, rfl, rfl, rfl, rfl, trivial⟩
         ·
          refine RGi.made2 rfl rfl rfl rfl (C.s2bL Tryz.runUnderlying9 Tryz.runUnderlying25 Tryz.runUnderlying5 rfl) ?_
          rintro b112 c112
          refine RG.many hR 9 [15] rfl ⟨?_, ⟨?_, trivial⟩⟩
          ·
           refine RGi.callkI rfl rfl rfl rfl Tryz.call21 (bytesO p100 (some ⟨b105, 0, none⟩) c100 c105 b106 (acc ++ numB ui) u.bucket.data.toList (by omega) (by rw [List.length_append]; omega)) rfl ?_
           rintro _ _ ⟨p107, c107, rfl, rfl⟩
           refine RG.normE rfl ?_
           refine RG.made 15 hR rfl rfl rfl rfl rfl (C.bslG (l := [_]) Tryz.runUnderlying112 Tryz.sizeOf25 Tryz.zeroValue25 (by decide) rfl rfl rfl rfl rfl) ?_
           rintro b113
           refine RG.callI 16 hR rfl rfl rfl rfl rfl rfl Tryz.call21 (bytesO p107 (some ⟨b112, 0, none⟩) c107 c112 b113 (acc ++ numB ui ++ encB u.bucket.data.toList) u.key.data.toList (by omega) (by rw [List.length_append, List.length_append]; omega)) rfl ?_
           rintro _ _ ⟨p114, c114, rfl, rfl⟩
           refine RG.norm rfl ?_
           refine RG.bar 17 hR rfl rfl rfl rfl rfl rfl (Q.asg rfl).toC ?_
           rintro _ _ ⟨rfl, rfl⟩
           refine RG.norm rfl ?_
           refine RG.fin hR rfl ?_
           refine J.norm rfl ?_
           refine J.meetI (p114, c114) trivial ⟨rfl, rfl, rfl, rfl, rfl, rfl, trivial⟩
          ·
           refine RGi.made rfl rfl rfl rfl (C.bslG (l := [_]) Tryz.runUnderlying112 Tryz.sizeOf25 Tryz.zeroValue25 (by decide) rfl rfl rfl rfl rfl) ?_
           rintro b113
           refine RG.callkI 9 hR rfl rfl rfl rfl rfl Tryz.call21 (bytesO p100 (some ⟨b105, 0, none⟩) c100 c105 b106 (acc ++ numB ui) u.bucket.data.toList (by omega) (by rw [List.length_append]; omega)) rfl ?_
           rintro _ _ ⟨p107, c107, rfl, rfl⟩
           refine RG.normE rfl ?_
           refine RG.callI 16 hR rfl rfl rfl rfl rfl rfl Tryz.call21 (bytesO p107 (some ⟨b112, 0, none⟩) c107 c112 b113 (acc ++ numB ui ++ encB u.bucket.data.toList) u.key.data.toList (by omega) (by rw [List.length_append, List.length_append]; omega)) rfl ?_
           rintro _ _ ⟨p114, c114, rfl, rfl⟩
           refine RG.norm rfl ?_
           refine RG.bar 17 hR rfl rfl rfl rfl rfl rfl (Q.asg rfl).toC ?_
           rintro _ _ ⟨rfl, rfl⟩
           refine RG.norm rfl ?_
           refine RG.fin hR rfl ?_
           refine J.norm rfl ?_
           refine J.meetI (p114, c114) trivial ⟨rfl, rfl, rfl, rfl, rfl, rfl, trivial⟩
        ·
         refine RGi.made2 rfl rfl rfl rfl (C.s2bL Tryz.runUnderlying9 Tryz.runUnderlying25 Tryz.runUnderlying5 rfl) ?_
         rintro b112 c112
         refine RG.many hR 8 [15] rfl ⟨?_, ⟨?_, trivial⟩⟩
         ·
          refine RGi.made rfl rfl rfl rfl (C.bslG (l := [_]) Tryz.runUnderlying112 Tryz.sizeOf25 Tryz.zeroValue25 (by decide) rfl rfl rfl rfl rfl) ?_
          rintro b106
          refine RG.many hR 9 [15] rfl ⟨?_, ⟨?_, trivial⟩⟩
          ·
           refine RGi.callkI rfl rfl rfl rfl Tryz.call21 (bytesO p100 (some ⟨b105, 0, none⟩) c100 c105 b106 (acc ++ numB ui) u.bucket.data.toList (by omega) (by rw [List.length_append]; omega)) rfl ?_
           rintro _ _ ⟨p107, c107, rfl, rfl⟩
           refine RG.normE rfl ?_
           refine RG.made 15 hR rfl rfl rfl rfl rfl (C.bslG (l := [_]) Tryz.runUnderlying112 Tryz.sizeOf25 Tryz.zeroValue25 (by decide) rfl rfl rfl rfl rfl) ?_
           rintro b113
           refine RG.callI 16 hR rfl rfl rfl rfl rfl rfl Tryz.call21 (bytesO p107 (some ⟨b112, 0, none⟩) c107 c112 b113 (acc ++ numB ui ++ encB u.bucket.data.toList) u.key.data.toList (by omega) (by rw [List.length_append, List.length_append]; omega)) rfl ?_
           rintro _ _ ⟨p114, c114, rfl, rfl⟩
           refine RG.norm rfl ?_
           refine RG.bar 17 hR rfl rfl rfl rfl rfl rfl (Q.asg rfl).toC ?_
           rintro _ _ ⟨rfl, rfl⟩
           refine RG.norm rfl ?_
           refine RG.fin hR rfl ?_
           refine J.norm rfl ?_
           refine J.meetI (p114, c114) trivial ⟨rfl, rfl, rfl, rfl, rfl, rfl, trivial⟩
          ·
           refine RGi.made rfl rfl rfl rfl (C.bslG (l := [_]) Tryz.runUnderlying112 Tryz.sizeOf25 Tryz.zeroValue25 (by decide) rfl rfl rfl rfl rfl) ?_
           rintro b113
           refine RG.callkI 9 hR rfl rfl rfl rfl rfl Tryz.call21 (bytesO p100 (some ⟨b105, 0, none⟩) c100 c105 b106 (acc ++ numB ui) u.bucket.data.toList (by omega) (by rw [List.length_append]; omega)) rfl ?_
           rintro _ _ ⟨p107, c107, rfl, rfl⟩
           refine RG.normE rfl ?_
           refine RG.callI 16 hR rfl rfl rfl rfl rfl rfl Tryz.call21 (bytesO p107 (some ⟨b112, 0, none⟩) c107 c112 b113 (acc ++ numB ui ++ encB u.bucket.data.toList) u.key.data.toList (by omega) (by rw [List.length_append, List.length_append]; omega)) rfl ?_
           rintro _ _ ⟨p114, c114, rfl, rfl⟩
           refine RG.norm rfl ?_
           refine RG.bar 17 hR rfl rfl rfl rfl rfl rfl (Q.asg rfl).toC ?_
           rintro _ _ ⟨rfl, rfl⟩
           refine RG.norm rfl ?_
           refine RG.fin hR rfl ?_
           refine J.norm rfl ?_
           refine J.meetI (p114, c114) trivial ⟨rfl, rfl, rfl, rfl, rfl, rfl, trivial⟩
         ·
          refine RGi.made rfl rfl rfl rfl (C.bslG (l := [_]) Tryz.runUnderlying112 Tryz.sizeOf25 Tryz.zeroValue25 (by decide) rfl rfl rfl rfl rfl) ?_
          rintro b113
          refine RG.made 8 hR rfl rfl rfl rfl rfl (C.bslG (l := [_]) Tryz.runUnderlying112 Tryz.sizeOf25 Tryz.zeroValue25 (by decide) rfl rfl rfl rfl rfl) ?_
          rintro b106
          refine RG.callkI 9 hR rfl rfl rfl rfl rfl Tryz.call21 (bytesO p100 (some ⟨b105, 0, none⟩) c100 c105 b106 (acc ++ numB ui) u.bucket.data.toList (by omega) (by rw [List.length_append]; omega)) rfl ?_
          rintro _ _ ⟨p107, c107, rfl, rfl⟩
          refine RG.normE rfl ?_
          refine RG.callI 16 hR rfl rfl rfl rfl rfl rfl Tryz.call21 (bytesO p107 (some ⟨b112, 0, none⟩) c107 c112 b113 (acc ++ numB ui ++ encB u.bucket.data.toList) u.key.data.toList (by omega) (by rw [List.length_append, List.length_append]; omega)) rfl ?_
          rintro _ _ ⟨p114, c114, rfl, rfl⟩
          refine RG.norm rfl ?_
          refine RG.bar 17 hR rfl rfl rfl rfl rfl rfl (Q.asg rfl).toC ?_
          rintro _ _ ⟨rfl, rfl⟩
          refine RG.norm rfl ?_
          refine RG.fin hR rfl ?_
          refine J.norm rfl ?_
          refine J.meetI (p114, c114) trivial ⟨rfl, rfl, rfl, rfl, rfl, rfl, trivial⟩
       ·
        refine RGi.made rfl rfl rfl rfl (C.bslG (l := [_]) Tryz.runUnderlying112 Tryz.sizeOf25 Tryz.zeroValue25 (by decide) rfl rfl rfl rfl rfl) ?_
        rintro b106
        refine RG.many hR 2 [14] rfl ⟨?_, ⟨?_, trivial⟩⟩
        ·
         refine RGi.callkI rfl rfl rfl rfl Tryz.call18 (number_spec p c acc ui (by omega) hui) rfl ?_
         rintro _ _ ⟨p100, c100, rfl, rfl⟩
         refine RG.normE rfl ?_
         refine RG.many hR 9 [14] rfl ⟨?_, ⟨?_, trivial⟩⟩
         ·
          refine RGi.callkI rfl rfl rfl rfl Tryz.call21 (bytesO p100 (some ⟨b105, 0, none⟩) c100 c105 b106 (acc ++ numB ui) u.bucket.data.toList (by omega) (by rw [List.length_append]; omega)) rfl ?_
          rintro _ _ ⟨p107, c107, rfl, rfl⟩
          refine RG.normE rfl ?_
          refine RG.made2 14 hR rfl rfl rfl rfl rfl (C.s2bL Tryz.runUnderlying9 Tryz.runUnderlying25 Tryz.runUnderlying5 rfl) ?_
          rintro b112 c112
          refine RG.made 15 hR rfl rfl rfl rfl rfl (C.bslG (l := [_]) Tryz.runUnderlying112 Tryz.sizeOf25 Tryz.zeroValue25 (by decide) rfl rfl rfl rfl rfl) ?_
          rintro b113
          refine RG.callI 16 hR rfl rfl rfl rfl rfl rfl Tryz.call21 (bytesO p107 (some ⟨b112, 0, none⟩) c107 c112 b113 (acc ++ numB ui ++ encB u.bucket.data.toList) u.key.data.toList (by omega) (by rw [List.length_append, List.length_append]; omega)) rfl ?_
          rintro _ _ ⟨p114, c114, rfl, rfl⟩
          refine RG.norm rfl ?_
          refine RG.bar 17 hR rfl rfl rfl rfl rfl rfl (Q.asg rfl).toC ?_
          rintro _ _ ⟨rfl, rfl⟩
          refine RG.norm rfl ?_
          refine RG.fin hR rfl ?_
          refine J.norm rfl ?_
          refine J.meetI (p114, c114) trivial ⟨rfl, rfl, rfl, rfl, rfl, rfl, trivial⟩
         ·
          refine RGi.made2 rfl rfl rfl rfl (C.s2bL Tryz.runUnderlying9 Tryz.runUnderlying25 Tryz.runUnderlying5 rfl) ?_
          rintro b112 c112
          refine RG.many hR 9 [15] rfl ⟨?_, ⟨?_, trivial⟩⟩
          ·
           refine RGi.callkI rfl rfl rfl rfl Tryz.call21 (bytesO p100 (some ⟨b105, 0, none⟩) c100 c105 b106 (acc ++ numB ui) u.bucket.data.toList (by omega) (by rw [List.length_append]; omega)) rfl ?_
           rintro _ _ ⟨p107, c107, rfl, rfl⟩
           refine RG.normE rfl ?_
           refine RG.made 15 hR rfl rfl rfl rfl rfl (C.bslG (l := [_]) Tryz.runUnderlying112 Tryz.sizeOf25 Tryz.zeroValue25 (by decide) rfl rfl rfl rfl rfl) ?_
           rintro b113
           refine RG.callI 16 hR rfl rfl rfl rfl rfl rfl Tryz.call21 (bytesO p107 (some ⟨b112, 0, none⟩) c107 c112 b113 (acc ++ numB ui ++ encB u.bucket.data.toList) u.key.data.toList (by omega) (by rw [List.length_append, List.length_append]; omega)) rfl ?_
           rintro _ _ ⟨p114, c114, rfl, rfl⟩
           refine RG.norm rfl ?_
           refine RG.bar 17 hR rfl rfl rfl rfl rfl rfl (Q.asg rfl).toC ?_
           rintro _ _ ⟨rfl, rfl⟩
           refine RG.norm rfl ?_
           refine RG.fin hR rfl ?_
           refine J.norm rfl ?_
           refine J.meetI (p114, c114) trivial ⟨rfl, rfl, rfl, rfl, rfl, rfl, trivial⟩
          ·
           refine RGi.made rfl rfl rfl rfl (C.bslG (l := [_]) Tryz.runUnderlying112 Tryz.sizeOf25 Tryz.zeroValue25 (by decide) rfl rfl rfl rfl rfl) ?_
           rintro b113
           refine RG.callkI 9 hR rfl rfl rfl rfl rfl Tryz.call21 (bytesO p100 (some ⟨b105, 0, none⟩) c100 c105 b106 (acc ++ numB ui) u.bucket.data.toList (by omega) (by rw [List.length_append]; omega)) rfl ?_
           rintro _ _ ⟨p107, c107, rfl, rfl⟩
           refine RG.normE rfl ?_
           refine RG.callI 16 hR rfl rfl rfl rfl rfl rfl Tryz.call21 (bytesO p107 (some ⟨b112, 0, none⟩) c107 c112 b113 (acc ++ numB ui ++ encB u.bucket.data.toList) u.key.data.toList (by omega) (by rw [List.length_append, List.length_append]; omega)) rfl ?_
           rintro _ _ ⟨p114, c114, rfl, rfl⟩
           refine RG.norm rfl ?_
           refine RG.bar 17 hR rfl rfl rfl rfl rfl rfl (Q.asg rfl).toC ?_
           rintro _ _ ⟨rfl, rfl⟩
           refine RG.norm rfl ?_
           refine RG.fin hR rfl ?_
           refine J.norm rfl ?_
           refine J.meetI (p114, c114) trivial ⟨rfl, rfl, rfl, rfl, rfl, rfl, trivial⟩
        ·
         refine RGi.made2 rfl rfl rfl rfl (C.s2bL Tryz.runUnderlying9 Tryz.runUnderlying25 Tryz.runUnderlying5 rfl) ?_
         rintro b112 c112
         refine RG.many hR 2 [15] rfl ⟨?_, ⟨?_, trivial⟩⟩
         ·
          refine RGi.callkI rfl rfl rfl rfl Tryz.call18 (number_spec p c acc ui (by omega) hui) rfl ?_
          rintro _ _ ⟨p100, c100, rfl, rfl⟩
          refine RG.normE rfl ?_
          refine RG.many hR 9 [15] rfl ⟨?_, ⟨?_, trivial⟩⟩
          ·
           refine RGi.callkI rfl rfl rfl rfl Tryz.call21 (bytesO p100 (some ⟨b105, 0, none⟩) c100 c105 b106 (acc ++ numB ui) u.bucket.data.toList (by omega) (by rw [List.length_append]; omega)) rfl ?_
           rintro _ _ ⟨p107, c107, rfl, rfl⟩
           refine RG.normE rfl ?_
           refine RG.made 15 hR rfl rfl rfl rfl rfl (C.bslG (l := [_]) Tryz.runUnderlying112 Tryz.sizeOf25 Tryz.zeroValue25 (by decide) rfl rfl rfl rfl rfl) ?_
           rintro b113
           refine RG.callI 16 hR rfl rfl rfl rfl rfl rfl Tryz.call21 (bytesO p107 (some ⟨b112, 0, none⟩) c107 c112 b113 (acc ++ numB ui ++ encB u.bucket.data.toList) u.key.data.toList (by omega) (by rw [List.length_append, List.length_append]; omega)) rfl ?_
           rintro _ _ ⟨p114, c114, rfl, rfl⟩
           refine RG.norm rfl ?_
           refine RG.bar 17 hR rfl rfl rfl rfl rfl rfl (Q.asg rfl).toC ?_
           rintro _ _ ⟨rfl, rfl⟩
           refine RG.norm rfl ?_
           refine RG.fin hR rfl ?_
           refine J.norm rfl ?_
           refine J.meetI (p114, c114) trivial ⟨rfl, rfl, rfl, rfl, rfl, rfl, trivial⟩
          ·
           refine RGi.made rfl rfl rfl rfl (C.bslG (l := [_]) Tryz.runUnderlying112 Tryz.sizeOf25 Tryz.zeroValue25 (by decide) rfl rfl rfl rfl rfl) ?_
           rintro b113
           refine RG.callkI 9 hR rfl rfl rfl rfl rfl Tryz.call21 (bytesO p100 (some ⟨b105, 0, none⟩) c100 c105 b106 (acc ++ numB ui) u.bucket.data.toList (by omega) (by rw [List.length_append]; omega)) rfl ?_
           rintro _ _ ⟨p107, c107, rfl, rfl⟩
           refine RG.normE rfl ?_
           refine RG.callI 16 hR rfl rfl rfl rfl rfl rfl Tryz.call21 (bytesO p107 (some ⟨b112, 0, none⟩) c107 c112 b113 (acc ++ numB ui ++ encB u.bucket.data.toList) u.key.data.toList (by omega) (by rw [List.length_append, List.length_append]; omega)) rfl ?_
           rintro _ _ ⟨p114, c114, rfl, rfl⟩
           refine RG.norm rfl ?_
           refine RG.bar 17 hR rfl rfl rfl rfl rfl rfl (Q.asg rfl).toC ?_
           rintro _ _ ⟨rfl, rfl⟩
           refine RG.norm rfl ?_
           refine RG.fin hR rfl ?_
           refine J.norm rfl ?_
           refine J.meetI (p114, c114) trivial ⟨rfl, rfl, rfl, rfl, rfl, rfl, trivial⟩
         ·
          refine RGi.made rfl rfl rfl rfl (C.bslG (l := [_]) Tryz.runUnderlying112 Tryz.sizeOf25 Tryz.zeroValue25 (by decide) rfl rfl rfl rfl rfl) ?_
          rintro b113
          refine RG.callkI 2 hR rfl rfl rfl rfl rfl Tryz.call18 (number_spec p c acc ui (by omega) hui) rfl ?_
          rintro _ _ ⟨p100, c100, rfl, rfl⟩
          refine RG.normE rfl ?_
          refine RG.callkI 9 hR rfl rfl rfl rfl rfl Tryz.call21 (bytesO p100 (some ⟨b105, 0, none⟩) c100 c105 b106 (acc ++ numB ui) u.bucket.data.toList (by omega) (by rw [List.length_append]; omega)) rfl ?_
          rintro _ _ ⟨p107, c107, rfl, rfl⟩
          refine RG.normE rfl ?_
          refine RG.callI 16 hR rfl rfl rfl rfl rfl rfl Tryz.call21 (bytesO p107 (some ⟨b112, 0, none⟩) c107 c112 b113 (acc ++ numB ui ++ encB u.bucket.data.toList) u.key.data.toList (by omega) (by rw [List.length_append, List.length_append]; omega)) rfl ?_
          rintro _ _ ⟨p114, c114, rfl, rfl⟩
          refine RG.norm rfl ?_
          refine RG.bar 17 hR rfl rfl rfl rfl rfl rfl (Q.asg rfl).toC ?_
          rintro _ _ ⟨rfl, rfl⟩
          refine RG.norm rfl ?_
          refine RG.fin hR rfl ?_
          refine J.norm rfl ?_
          refine J.meetI (p114, c114) trivial ⟨rfl, rfl, rfl, rfl, rfl, rfl, trivial⟩
       ·
        refine RGi.made2 rfl rfl rfl rfl (C.s2bL Tryz.runUnderlying9 Tryz.runUnderlying25 Tryz.runUnderlying5 rfl) ?_
        rintro b112 c112
        refine RG.many hR 2 [8, 15] rfl ⟨?_, ⟨?_, ⟨?_, trivial⟩⟩⟩
        ·
         refine RGi.callkI rfl rfl rfl rfl Tryz.call18 (number_spec p c acc ui (by omega) hui) rfl ?_
         rintro _ _ ⟨p100, c100, rfl, rfl⟩
         refine RG.normE rfl ?_
         refine RG.many hR 8 [15] rfl ⟨?_, ⟨?_, trivial⟩⟩
         ·
          refine RGi.made rfl rfl rfl rfl (C.bslG (l := [_]) Tryz.runUnderlying112 Tryz.sizeOf25 Tryz.zeroValue25 (by decide) rfl rfl rfl rfl rfl) ?_
          rintro b106
          refine RG.many hR 9 [15] rfl ⟨?_, ⟨?_, trivial⟩⟩
          ·
           refine RGi.callkI rfl rfl rfl rfl Tryz.call21 (bytesO p100 (some ⟨b105, 0, none⟩) c100 c105 b106 (acc ++ numB ui) u.bucket.data.toList (by omega) (by rw [List.length_append]; omega)) rfl ?_
           rintro _ _ ⟨p107, c107, rfl, rfl⟩
           refine RG.normE rfl ?_
           refine RG.made 15 hR rfl rfl rfl rfl rfl (C.bslG (l := [_]) Tryz.runUnderlying112 Tryz.sizeOf25 Tryz.zeroValue25 (by decide) rfl rfl rfl rfl rfl) ?_
           rintro b113
           refine RG.callI 16 hR rfl rfl rfl rfl rfl rfl Tryz.call21 (bytesO p107 (some ⟨b112, 0, none⟩) c107 c112 b113 (acc ++ numB ui ++ encB u.bucket.data.toList) u.key.data.toList (by omega) (by rw [List.length_append, List.length_append]; omega)) rfl ?_
           rintro _ _ ⟨p114, c114, rfl, rfl⟩
           refine RG.norm rfl ?_
           refine RG.bar 17 hR rfl rfl rfl rfl rfl rfl (Q.asg rfl).toC ?_
           rintro _ _ ⟨rfl, rfl⟩
           refine RG.norm rfl ?_
           refine RG.fin hR rfl ?_
           refine J.norm rfl ?_
           refine J.meetI (p114, c114) trivial ⟨rfl, rfl, rfl, rfl, rfl, rfl, trivial⟩
          ·
           refine RGi.made rfl rfl rfl rfl (C.bslG (l := [_]) Tryz.runUnderlying112 Tryz.sizeOf25 Tryz.zeroValue25 (by decide) rfl rfl rfl rfl rfl) ?_
           rintro b113
           refine RG.callkI 9 hR rfl rfl rfl rfl rfl Tryz.call21 (bytesO p100 (some ⟨b105, 0, none⟩) c100 c105 b106 (acc ++ numB ui) u.bucket.data.toList (by omega) (by rw [List.length_append]; omega)) rfl ?_
           rintro _ _ ⟨p107, c107, rfl, rfl⟩
           refine RG.normE rfl ?_
           refine RG.callI 16 hR rfl rfl rfl rfl rfl rfl Tryz.call21 (bytesO p107 (some ⟨b112, 0, none⟩) c107 c112 b113 (acc ++ numB ui ++ encB u.bucket.data.toList) u.key.data.toList (by omega) (by rw [List.length_append, List.length_append]; omega)) rfl ?_
           rintro _ _ ⟨p114, c114, rfl, rfl⟩
           refine RG.norm rfl ?_
           refine RG.bar 17 hR rfl rfl rfl rfl rfl rfl (Q.asg rfl).toC ?_
           rintro _ _ ⟨rfl, rfl⟩
           refine RG.norm rfl ?_
           refine RG.fin hR rfl ?_
           refine J.norm rfl ?_
           refine J.meetI (p114, c114) trivial ⟨rfl, rfl, rfl, rfl, rfl, rfl, trivial⟩
         ·
          refine RGi.made rfl rfl rfl rfl (C.bslG (l := [_]) Tryz.runUnderlying112 Tryz.sizeOf25 Tryz.zeroValue25 (by decide) rfl rfl rfl rfl rfl) ?_
          rintro b113
          refine RG.made 8 hR rfl rfl rfl rfl rfl (C.bslG (l := [_]) Tryz.runUnderlying112 Tryz.sizeOf25 Tryz.zeroValue25 (by decide) rfl rfl rfl rfl rfl) ?_
          rintro b106
          refine RG.callkI 9 hR rfl rfl rfl rfl rfl Tryz.call21 (bytesO p100 (some ⟨b105, 0, none⟩) c100 c105 b106 (acc ++ numB ui) u.bucket.data.toList (by omega) (by rw [List.length_append]; omega)) rfl ?_
          rintro _ _ ⟨p107, c107, rfl, rfl⟩
          refine RG.normE rfl ?_
          refine RG.callI 16 hR rfl rfl rfl rfl rfl rfl Tryz.call21 (bytesO p107 (some ⟨b112, 0, none⟩) c107 c112 b113 (acc ++ numB ui ++ encB u.bucket.data.toList) u.key.data.toList (by omega) (by rw [List.length_append, List.length_append]; omega)) rfl ?_
          rintro _ _ ⟨p114, c114, rfl, rfl⟩
          refine RG.norm rfl ?_
          refine RG.bar 17 hR rfl rfl rfl rfl rfl rfl (Q.asg rfl).toC ?_
          rintro _ _ ⟨rfl, rfl⟩
          refine RG.norm rfl ?_
          refine RG.fin hR rfl ?_
          refine J.norm rfl ?_
          refine J.meetI (p114, c114) trivial ⟨rfl, rfl, rfl, rfl, rfl, rfl, trivial⟩
        ·
         refine RGi.made rfl rfl rfl rfl (C.bslG (l := [_]) Tryz.runUnderlying112 Tryz.sizeOf25 Tryz.zeroValue25 (by decide) rfl rfl rfl rfl rfl) ?_
         rintro b106
         refine RG.many hR 2 [15] rfl ⟨?_, ⟨?_, trivial⟩⟩
         ·
          refine RGi.callkI rfl rfl rfl rfl Tryz.call18 (number_spec p c acc ui (by omega) hui) rfl ?_
          rintro _ _ ⟨p100, c100, rfl, rfl⟩
          refine RG.normE rfl ?_
          refine RG.many hR 9 [15] rfl ⟨?_, ⟨?_, trivial⟩⟩
          ·
           refine RGi.callkI rfl rfl rfl rfl Tryz.call21 (bytesO p100 (some ⟨b105, 0, none⟩) c100 c105 b106 (acc ++ numB ui) u.bucket.data.toList (by omega) (by rw [List.length_append]; omega)) rfl ?_
           rintro _ _ ⟨p107, c107, rfl, rfl⟩
           refine RG.normE rfl ?_
           refine RG.made 15 hR rfl rfl rfl rfl rfl (C.bslG (l := [_]) Tryz.runUnderlying112 Tryz.sizeOf25 Tryz.zeroValue25 (by decide) rfl rfl rfl rfl rfl) ?_
           rintro b113
           refine RG.callI 16 hR rfl rfl rfl rfl rfl rfl Tryz.call21 (bytesO p107 (some ⟨b112, 0, none⟩) c107 c112 b113 (acc ++ numB ui ++ encB u.bucket.data.toList) u.key.data.toList (by omega) (by rw [List.length_append, List.length_append]; omega)) rfl ?_
           rintro _ _ ⟨p114, c114, rfl, rfl⟩
           refine RG.norm rfl ?_
           refine RG.bar 17 hR rfl rfl rfl rfl rfl rfl (Q.asg rfl).toC ?_
           rintro _ _ ⟨rfl, rfl⟩
           refine RG.norm rfl ?_
           refine RG.fin hR rfl ?_
           refine J.norm rfl ?_
           refine J.meetI (p114, c114) trivial ⟨rfl, rfl, rfl, rfl, rfl, rfl, trivial⟩
          ·
           refine RGi.made rfl rfl rfl rfl (C.bslG (l := [_]) Tryz.runUnderlying112 Tryz.sizeOf25 Tryz.zeroValue25 (by decide) rfl rfl rfl rfl rfl) ?_
           rintro b113
           refine RG.callkI 9 hR rfl rfl rfl rfl rfl Tryz.call21 (bytesO p100 (some ⟨b105, 0, none⟩) c100 c105 b106 (acc ++ numB ui) u.bucket.data.toList (by omega) (by rw [List.length_append]; omega)) rfl ?_
           rintro _ _ ⟨p107, c107, rfl, rfl⟩
           refine RG.normE rfl ?_
           refine RG.callI 16 hR rfl rfl rfl rfl rfl rfl Tryz.call21 (bytesO p107 (some ⟨b112, 0, none⟩) c107 c112 b113 (acc ++ numB ui ++ encB u.bucket.data.toList) u.key.data.toList (by omega) (by rw [List.length_append, List.length_append]; omega)) rfl ?_
           rintro _ _ ⟨p114, c114, rfl, rfl⟩
           refine RG.norm rfl ?_
           refine RG.bar 17 hR rfl rfl rfl rfl rfl rfl (Q.asg rfl).toC ?_
           rintro _ _ ⟨rfl, rfl⟩
           refine RG.norm rfl ?_
           refine RG.fin hR rfl ?_
           refine J.norm rfl ?_
           refine J.meetI (p114, c114) trivial ⟨rfl, rfl, rfl, rfl, rfl, rfl, trivial⟩
         ·
          refine RGi.made rfl rfl rfl rfl (C.bslG (l := [_]) Tryz.runUnderlying112 Tryz.sizeOf25 Tryz.zeroValue25 (by decide) rfl rfl rfl rfl rfl) ?_
          rintro b113
          refine RG.callkI 2 hR rfl rfl rfl rfl rfl Tryz.call18 (number_spec p c acc ui (by omega) hui) rfl ?_
          rintro _ _ ⟨p100, c100, rfl, rfl⟩
          refine RG.normE rfl ?_
          refine RG.callkI 9 hR rfl rfl rfl rfl rfl Tryz.call21 (bytesO p100 (some ⟨b105, 0, none⟩) c100 c105 b106 (acc ++ numB ui) u.bucket.data.toList (by omega) (by rw [List.length_append]; omega)) rfl ?_
          rintro _ _ ⟨p107, c107, rfl, rfl⟩
          refine RG.normE rfl ?_
          refine RG.callI 16 hR rfl rfl rfl rfl rfl rfl Tryz.call21 (bytesO p107 (some ⟨b112, 0, none⟩) c107 c112 b113 (acc ++ numB ui ++ encB u.bucket.data.toList) u.key.data.toList (by omega) (by rw [List.length_append, List.length_append]; omega)) rfl ?_
          rintro _ _ ⟨p114, c114, rfl, rfl⟩
          refine RG.norm rfl ?_
          refine RG.bar 17 hR rfl rfl rfl rfl rfl rfl (Q.asg rfl).toC ?_
          rintro _ _ ⟨rfl, rfl⟩
          refine RG.norm rfl ?_
          refine RG.fin hR rfl ?_
          refine J.norm rfl ?_
          refine J.meetI (p114, c114) trivial ⟨rfl, rfl, rfl, rfl, rfl, rfl, trivial⟩
        ·
         refine RGi.made rfl rfl rfl rfl (C.bslG (l := [_]) Tryz.runUnderlying112 Tryz.sizeOf25 Tryz.zeroValue25 (by decide) rfl rfl rfl rfl rfl) ?_
         rintro b113
         refine RG.many hR 2 [8] rfl ⟨?_, ⟨?_, trivial⟩⟩
         ·
          refine RGi.callkI rfl rfl rfl rfl Tryz.call18 (number_spec p c acc ui (by omega) hui) rfl ?_
          rintro _ _ ⟨p100, c100, rfl, rfl⟩
          refine RG.normE rfl ?_
          refine RG.made 8 hR rfl rfl rfl rfl rfl (C.bslG (l := [_]) Tryz.runUnderlying112 Tryz.sizeOf25 Tryz.zeroValue25 (by decide) rfl rfl rfl rfl rfl) ?_
          rintro b106
          refine RG.callkI 9 hR rfl rfl rfl rfl rfl Tryz.call21 (bytesO p100 (some ⟨b105, 0, none⟩) c100 c105 b106 (acc ++ numB ui) u.bucket.data.toList (by omega) (by rw [List.length_append]; omega)) rfl ?_
          rintro _ _ ⟨p107, c107, rfl, rfl⟩
          refine RG.normE rfl ?_
          refine RG.callI 16 hR rfl rfl rfl rfl rfl rfl Tryz.call21 (bytesO p107 (some ⟨b112, 0, none⟩) c107 c112 b113 (acc ++ numB ui ++ encB u.bucket.data.toList) u.key.data.toList (by omega) (by rw [List.length_append, List.length_append]; omega)) rfl ?_
          rintro _ _ ⟨p114, c114, rfl, rfl⟩
          refine RG.norm rfl ?_
          refine RG.bar 17 hR rfl rfl rfl rfl rfl rfl (Q.asg rfl).toC ?_
          rintro _ _ ⟨rfl, rfl⟩
          refine RG.norm rfl ?_
          refine RG.fin hR rfl ?_
          refine J.norm rfl ?_
          refine J.meetI (p114, c114) trivial ⟨rfl, rfl, rfl, rfl, rfl, rfl, trivial⟩
         ·
          refine RGi.made rfl rfl rfl rfl (C.bslG (l := [_]) Tryz.runUnderlying112 Tryz.sizeOf25 Tryz.zeroValue25 (by decide) rfl rfl rfl rfl rfl) ?_
          rintro b106
          refine RG.callkI 2 hR rfl rfl rfl rfl rfl Tryz.call18 (number_spec p c acc ui (by omega) hui) rfl ?_
          rintro _ _ ⟨p100, c100, rfl, rfl⟩
          refine RG.normE rfl ?_
          refine RG.callkI 9 hR rfl rfl rfl rfl rfl Tryz.call21 (bytesO p100 (some ⟨b105, 0, none⟩) c100 c105 b106 (acc ++ numB ui) u.bucket.data.toList (by omega) (by rw [List.length_append]; omega)) rfl ?_
          rintro _ _ ⟨p107, c107, rfl, rfl⟩
          refine RG.normE rfl ?_
          refine RG.callI 16 hR rfl rfl rfl rfl rfl rfl Tryz.call21 (bytesO p107 (some ⟨b112, 0, none⟩) c107 c112 b113 (acc ++ numB ui ++ encB u.bucket.data.toList) u.key.data.toList (by omega) (by rw [List.length_append, List.length_append]; omega)) rfl ?_
          rintro _ _ ⟨p114, c114, rfl, rfl⟩
          refine RG.norm rfl ?_
          refine RG.bar 17 hR rfl rfl rfl rfl rfl rfl (Q.asg rfl).toC ?_
          rintro _ _ ⟨rfl, rfl⟩
          refine RG.norm rfl ?_
          refine RG.fin hR rfl ?_
          refine J.norm rfl ?_
          refine J.meetI (p114, c114) trivial ⟨rfl, rfl, rfl, rfl, rfl, rfl, trivial⟩
      ·
       refine RGi.made2 rfl rfl rfl rfl (C.s2bL Tryz.runUnderlying9 Tryz.runUnderlying25 Tryz.runUnderlying5 rfl) ?_
       rintro b112 c112
       refine RG.many hR 2 [7, 15] rfl ⟨?_, ⟨?_, ⟨?_, trivial⟩⟩⟩
       ·
        refine RGi.callkI rfl rfl rfl rfl Tryz.call18 (number_spec p c acc ui (by omega) hui) rfl ?_
        rintro _ _ ⟨p100, c100, rfl, rfl⟩
        refine RG.normE rfl ?_
        refine RG.many hR 7 [15] rfl ⟨?_, ⟨?_, trivial⟩⟩
        ·
         refine RGi.made2 rfl rfl rfl rfl (C.s2bL Tryz.runUnderlying9 Tryz.runUnderlying25 Tryz.runUnderlying5 rfl) ?_
         rintro b105 c105
         refine RG.many hR 8 [15] rfl ⟨?_, ⟨?_, trivial⟩⟩
         ·
          refine RGi.made rfl rfl rfl rfl (C.bslG (l := [_]) Tryz.runUnderlying112 Tryz.sizeOf25 Tryz.zeroValue25 (by decide) rfl rfl rfl rfl rfl) ?_
          rintro b106
          refine RG.many hR 9 [15] rfl ⟨?_, ⟨?_, trivial⟩⟩
          ·
           refine RGi.callkI rfl rfl rfl rfl Tryz.call21 (bytesO p100 (some ⟨b105, 0, none⟩) c100 c105 b106 (acc ++ numB ui) u.bucket.data.toList (by omega) (by rw [List.length_append]; omega)) rfl ?_
           rintro _ _ ⟨p107, c107, rfl, rfl⟩
           refine RG.normE rfl ?_
           refine RG.made 15 hR rfl rfl rfl rfl rfl (C.bslG (l := [_]) Tryz.runUnderlying112 Tryz.sizeOf25 Tryz.zeroValue25 (by decide) rfl rfl rfl rfl rfl) ?_
           rintro b113
           refine RG.callI 16 hR rfl rfl rfl rfl rfl rfl Tryz.call21 (bytesO p107 (some ⟨b112, 0, none⟩) c107 c112 b113 (acc ++ numB ui ++ encB u.bucket.data.toList) u.key.data.toList (by omega) (by rw [List.length_append, List.length_append]; omega)) rfl ?_
           rintro _ _ ⟨p114, c114, rfl, rfl⟩
           refine RG.norm rfl ?_
           refine RG.bar 17 hR rfl rfl rfl rfl rfl rfl (Q.asg rfl).toC ?_
           rintro _ _ ⟨rfl, rfl⟩
           refine RG.norm rfl ?_
           refine RG.fin hR rfl ?_
           refine J.norm rfl ?_
           refine J.meetI (p114, c114) trivial ⟨rfl, rfl, rfl, rfl, rfl, rfl, trivial⟩
          ·
           refine RGi.made rfl rfl rfl rfl (C.bslG (l := [_]) Tryz.runUnderlying112 Tryz.sizeOf25 Tryz.zeroValue25 (by decide) rfl rfl rfl rfl rfl) ?_
           rintro b113
           refine RG.callkI 9 hR rfl rfl rfl rfl rfl Tryz.call21 (bytesO p100 (some ⟨b105, 0, none⟩) c100 c105 b106 (acc ++ numB ui) u.bucket.data.toList (by omega) (by rw [List.length_append]; omega)) rfl ?_
           rintro _ _ ⟨p107, c107, rfl, rfl⟩
           refine RG.normE rfl ?_
           refine RG.callI 16 hR rfl rfl rfl rfl rfl rfl Tryz.call21 (bytesO p107 (some ⟨b112, 0, none⟩) c107 c112 b113 (acc ++ numB ui ++ encB u.bucket.data.toList) u.key.data.toList (by omega) (by rw [List.length_append, List.length_append]; omega)) rfl ?_
           rintro _ _ ⟨p114, c114, rfl, rfl⟩
           refine RG.norm rfl ?_
           refine RG.bar 17 hR rfl rfl rfl rfl rfl rfl (Q.asg rfl).toC ?_
           rintro _ _ ⟨rfl, rfl⟩
           refine RG.norm rfl ?_
           refine RG.fin hR rfl ?_
           refine J.norm rfl ?_
           refine J.meetI (p114, c114) trivial ⟨rfl, rfl, rfl, rfl, rfl, rfl, trivial⟩
         ·
          refine RGi.made rfl rfl rfl rfl (C.bslG (l := [_]) Tryz.runUnderlying112 Tryz.sizeOf25 Tryz.zeroValue25 (by decide) rfl rfl rfl rfl rfl) ?_
          rintro b113
          refine RG.made 8 hR rfl rfl rfl rfl rfl (C.bslG (l := [_]) Tryz.runUnderlying112 Tryz.sizeOf25 Tryz.zeroValue25 (by decide) rfl rfl rfl rfl rfl) ?_
          rintro b106
          refine RG.callkI 9 hR rfl rfl rfl rfl rfl Tryz.call21 (bytesO p100 (some ⟨b105, 0, none⟩) c100 c105 b106 (acc ++ numB ui) u.bucket.data.toList (by omega) (by rw [List.length_append]; omega)) rfl ?_
          rintro _ _ ⟨p107, c107, rfl, rfl⟩
          refine RG.normE rfl ?_
          refine RG.callI 16 hR rfl rfl rfl rfl rfl rfl Tryz.call21 (bytesO p107 (some ⟨b112, 0, none⟩) c107 c112 b113 (acc ++ numB ui ++ encB u.bucket.data.toList) u.key.data.toList (by omega) (by rw [List.length_append, List.length_append]; omega)) rfl ?_
          rintro _ _ ⟨p114, c114, rfl, rfl⟩
          refine RG.norm rfl ?_
          refine RG.bar 17 hR rfl rfl rfl rfl rfl rfl (Q.asg rfl).toC ?_
          rintro _ _ ⟨rfl, rfl⟩
          refine RG.norm rfl ?_
          refine RG.fin hR rfl ?_
          refine J.norm rfl ?_
          refine J.meetI (p114, c114) trivial ⟨rfl, rfl, rfl, rfl, rfl, rfl, trivial⟩
        ·
         refine RGi.made rfl rfl rfl rfl (C.bslG (l := [_]) Tryz.runUnderlying112 Tryz.sizeOf25 Tryz.zeroValue25 (by decide) rfl rfl rfl rfl rfl) ?_
         rintro b113
         refine RG.made2 7 hR rfl rfl rfl rfl rfl (C.s2bL Tryz.runUnderlying9 Tryz.runUnderlying25 Tryz.runUnderlying5 rfl) ?_
         rintro b105 c105
         refine RG.made 8 hR rfl rfl rfl rfl rfl (C.bslG (l := [_]) Tryz.runUnderlying112 Tryz.sizeOf25 Tryz.zeroValue25 (by decide) rfl rfl rfl rfl rfl) ?_
         rintro b106
         refine RG.callkI 9 hR rfl rfl rfl rfl rfl Tryz.call21 (bytesO p100 (some ⟨b105, 0, none⟩) c100 c105 b106 (acc ++ numB ui) u.bucket.data.toList (by omega) (by rw [List.length_append]; omega)) rfl ?_
         rintro _ _ ⟨p107, c107, rfl, rfl⟩
         refine RG.normE rfl ?_
         refine RG.callI 16 hR rfl rfl rfl rfl rfl rfl Tryz.call21 (bytesO p107 (some ⟨b112, 0, none⟩) c107 c112 b113 (acc ++ numB ui ++ encB u.bucket.data.toList) u.key.data.toList (by omega) (by rw [List.length_append, List.length_append]; omega)) rfl ?_
         rintro _ _ ⟨p114, c114, rfl, rfl⟩
         refine RG.norm rfl ?_
         refine RG.bar 17 hR rfl rfl rfl rfl rfl rfl (Q.asg rfl).toC ?_
         rintro _ _ ⟨rfl, rfl⟩
         refine RG.norm rfl ?_
         refine RG.fin hR rfl ?_
         refine J.norm rfl ?_
         refine J.meetI (p114, c114) trivial ⟨rfl, rfl, rfl, rfl, rfl, rfl, trivial⟩
       ·
        refine RGi.made2 rfl rfl rfl rfl (C.s2bL Tryz.runUnderlying9 Tryz.runUnderlying25 Tryz.runUnderlying5 rfl) ?_
        rintro b105 c105
        refine RG.many hR 2 [8, 15] rfl ⟨?_, ⟨?_, ⟨?_, trivial⟩⟩⟩
        ·
         refine RGi.callkI rfl rfl rfl rfl Tryz.call18 (number_spec p c acc ui (by omega) hui) rfl ?_
         rintro _ _ ⟨p100, c100, rfl, rfl⟩
         refine RG.normE rfl ?_
         refine RG.many hR 8 [15] rfl ⟨?_, ⟨?_, trivial⟩⟩
         ·
          refine RGi.made rfl rfl rfl rfl (C.bslG (l := [_]) Tryz.runUnderlying112 Tryz.sizeOf25 Tryz.zeroValue25 (by decide) rfl rfl rfl rfl rfl) ?_
          rintro b106
          refine RG.many hR 9 [15] rfl ⟨?_, ⟨?_, trivial⟩⟩
          ·
           refine RGi.callkI rfl rfl rfl rfl Tryz.call21 (bytesO p100 (some ⟨b105, 0, none⟩) c100 c105 b106 (acc ++ numB ui) u.bucket.data.toList (by omega) (by rw [List.length_append]; omega)) rfl ?_
           rintro _ _ ⟨p107, c107, rfl, rfl⟩
           refine RG.normE rfl ?_
           refine RG.made 15 hR rfl rfl rfl rfl rfl (C.bslG (l := [_]) Tryz.runUnderlying112 Tryz.sizeOf25 Tryz.zeroValue25 (by decide) rfl rfl rfl rfl rfl) ?_
           rintro b113
           refine RG.callI 16 hR rfl rfl rfl rfl rfl rfl Tryz.call21 (bytesO p107 (some ⟨b112, 0, none⟩) c107 c112 b113 (acc ++ numB ui ++ encB u.bucket.data.toList) u.key.data.toList (by omega) (by rw [List.length_append, List.length_append]; omega)) rfl ?_
           rintro _ _ ⟨p114, c114, rfl, rfl⟩
           refine RG.norm rfl ?_
           refine RG.bar 17 hR rfl rfl rfl rfl rfl rfl (Q.asg rfl).toC ?_
           rintro _ _ ⟨rfl, rfl⟩
           refine RG.norm rfl ?_
           refine RG.fin hR rfl ?_
           refine J.norm rfl ?_
           refine J.meetI (p114, c114) trivial ⟨rfl, rfl, rfl, rfl, rfl, rfl, trivial⟩
          ·
           refine RGi.made rfl rfl rfl rfl (C.bslG (l := [_]) Tryz.runUnderlying112 Tryz.sizeOf25 Tryz.zeroValue25 (by decide) rfl rfl rfl rfl rfl) ?_
           rintro b113
           refine RG.callkI 9 hR rfl rfl rfl rfl rfl Tryz.call21 (bytesO p100 (some ⟨b105, 0, none⟩) c100 c105 b106 (acc ++ numB ui) u.bucket.data.toList (by omega) (by rw [List.length_append]; omega)) rfl ?_
           rintro _ _ ⟨p107, c107, rfl, rfl⟩
           refine RG.normE rfl ?_
           refine RG.callI 16 hR rfl rfl rfl rfl rfl rfl Tryz.call21 (bytesO p107 (some ⟨b112, 0, none⟩) c107 c112 b113 (acc ++ numB ui ++ encB u.bucket.data.toList) u.key.data.toList (by omega) (by rw [List.length_append, List.length_append]; omega)) rfl ?_
           rintro _ _ ⟨p114, c114, rfl, rfl⟩
           refine RG.norm rfl ?_
           refine RG.bar 17 hR rfl rfl rfl rfl rfl rfl (Q.asg rfl).toC ?_
           rintro _ _ ⟨rfl, rfl⟩
           refine RG.norm rfl ?_
           refine RG.fin hR rfl ?_
           refine J.norm rfl ?_
           refine J.meetI (p114, c114) trivial ⟨rfl, rfl, rfl, rfl, rfl, rfl, trivial⟩
         ·
          refine RGi.made rfl rfl rfl rfl (C.bslG (l := [_]) Tryz.runUnderlying112 Tryz.sizeOf25 Tryz.zeroValue25 (by decide) rfl rfl rfl rfl rfl) ?_
          rintro b113
          refine RG.made 8 hR rfl rfl rfl rfl rfl (C.bslG (l := [_]) Tryz.runUnderlying112 Tryz.sizeOf25 Tryz.zeroValue25 (by decide) rfl rfl rfl rfl rfl) ?_
          rintro b106
          refine RG.callkI 9 hR rfl rfl rfl rfl rfl Tryz.call21 (bytesO p100 (some ⟨b105, 0, none⟩) c100 c105 b106 (acc ++ numB ui) u.bucket.data.toList (by omega) (by rw [List.length_append]; omega)) rfl ?_
          rintro _ _ ⟨p107, c107, rfl, rfl⟩
          refine RG.normE rfl ?_
          refine RG.callI 16 hR rfl rfl rfl rfl rfl rfl Tryz.call21 (bytesO p107 (some ⟨b112, 0, none⟩) c107 c112 b113 (acc ++ numB ui ++ encB u.bucket.data.toList) u.key.data.toList (by omega) (by rw [List.length_append, List.length_append]; omega)) rfl ?_
          rintro _ _ ⟨p114, c114, rfl, rfl⟩
          refine RG.norm rfl ?_
          refine RG.bar 17 hR rfl rfl rfl rfl rfl rfl (Q.asg rfl).toC ?_
          rintro _ _ ⟨rfl, rfl⟩
          refine RG.norm rfl ?_
          refine RG.fin hR rfl ?_
          refine J.norm rfl ?_
          refine J.meetI (p114, c114) trivial ⟨rfl, rfl, rfl, rfl, rfl, rfl, trivial⟩
        ·
         refine RGi.made rfl rfl rfl rfl (C.bslG (l := [_]) Tryz.runUnderlying112 Tryz.sizeOf25 Tryz.zeroValue25 (by decide) rfl rfl rfl rfl rfl) ?_
         rintro b106
         refine RG.many hR 2 [15] rfl ⟨?_, ⟨?_, trivial⟩⟩
         ·
          refine RGi.callkI rfl rfl rfl rfl Tryz.call18 (number_spec p c acc ui (by omega) hui) rfl ?_
          rintro _ _ ⟨p100, c100, rfl, rfl⟩
          refine RG.normE rfl ?_
          refine RG.many hR 9 [15] rfl ⟨?_, ⟨?_, trivial⟩⟩
          ·
           refine RGi.callkI rfl rfl rfl rfl Tryz.call21 (bytesO p100 (some ⟨b105, 0, none⟩) c100 c105 b106 (acc ++ numB ui) u.bucket.data.toList (by omega) (by rw [List.length_append]; omega)) rfl ?_
           rintro _ _ ⟨p107, c107, rfl, rfl⟩
           refine RG.normE rfl ?_
           refine RG.made 15 hR rfl rfl rfl rfl rfl (C.bslG (l := [_]) Tryz.runUnderlying112 Tryz.sizeOf25 Tryz.zeroValue25 (by decide) rfl rfl rfl rfl rfl) ?_
           rintro b113
           refine RG.callI 16 hR rfl rfl rfl rfl rfl rfl Tryz.call21 (bytesO p107 (some ⟨b112, 0, none⟩) c107 c112 b113 (acc ++ numB ui ++ encB u.bucket.data.toList) u.key.data.toList (by omega) (by rw [List.length_append, List.length_append]; omega)) rfl ?_
           rintro _ _ ⟨p114, c114, rfl, rfl⟩
           refine RG.norm rfl ?_
           refine RG.bar 17 hR rfl rfl rfl rfl rfl rfl (Q.asg rfl).toC ?_
           rintro _ _ ⟨rfl, rfl⟩
           refine RG.norm rfl ?_
           refine RG.fin hR rfl ?_
           refine J.norm rfl ?_
           refine J.meetI (p114, c114) trivial ⟨rfl, rfl, rfl, rfl, rfl, rfl, trivial⟩
          ·
           refine RGi.made rfl rfl rfl rfl (C.bslG (l := [_]) Tryz.runUnderlying112 Tryz.sizeOf25 Tryz.zeroValue25 (by decide) rfl rfl rfl rfl rfl) ?_
           rintro b113
           refine RG.callkI 9 hR rfl rfl rfl rfl rfl Tryz.call21 (bytesO p100 (some ⟨b105, 0, none⟩) c100 c105 b106 (acc ++ numB ui) u.bucket.data.toList (by omega) (by rw [List.length_append]; omega)) rfl ?_
           rintro _ _ ⟨p107, c107, rfl, rfl⟩
           refine RG.normE rfl ?_
           refine RG.callI 16 hR rfl rfl rfl rfl rfl rfl Tryz.call21 (bytesO p107 (some ⟨b112, 0, none⟩) c107 c112 b113 (acc ++ numB ui ++ encB u.bucket.data.toList) u.key.data.toList (by omega) (by rw [List.length_append, List.length_append]; omega)) rfl ?_
           rintro _ _ ⟨p114, c114, rfl, rfl⟩
           refine RG.norm rfl ?_
           refine RG.bar 17 hR rfl rfl rfl rfl rfl rfl (Q.asg rfl).toC ?_
           rintro _ _ ⟨rfl, rfl⟩
           refine RG.norm rfl ?_
           refine RG.fin hR rfl ?_
           refine J.norm rfl ?_
           refine J.meetI (p114, c114) trivial ⟨rfl, rfl, rfl, rfl, rfl, rfl, trivial⟩
         ·
          refine RGi.made rfl rfl rfl rfl (C.bslG (l := [_]) Tryz.runUnderlying112 Tryz.sizeOf25 Tryz.zeroValue25 (by decide) rfl rfl rfl rfl rfl) ?_
          rintro b113
          refine RG.callkI 2 hR rfl rfl rfl rfl rfl Tryz.call18 (number_spec p c acc ui (by omega) hui) rfl ?_
          rintro _ _ ⟨p100, c100, rfl, rfl⟩
          refine RG.normE rfl ?_
          refine RG.callkI 9 hR rfl rfl rfl rfl rfl Tryz.call21 (bytesO p100 (some ⟨b105, 0, none⟩) c100 c105 b106 (acc ++ numB ui) u.bucket.data.toList (by omega) (by rw [List.length_append]; omega)) rfl ?_
          rintro _ _ ⟨p107, c107, rfl, rfl⟩
          refine RG.normE rfl ?_
          refine RG.callI 16 hR rfl rfl rfl rfl rfl rfl Tryz.call21 (bytesO p107 (some ⟨b112, 0, none⟩) c107 c112 b113 (acc ++ numB ui ++ encB u.bucket.data.toList) u.key.data.toList (by omega) (by rw [List.length_append, List.length_append]; omega)) rfl ?_
          rintro _ _ ⟨p114, c114, rfl, rfl⟩
          refine RG.norm rfl ?_
          refine RG.bar 17 hR rfl rfl rfl rfl rfl rfl (Q.asg rfl).toC ?_
          rintro _ _ ⟨rfl, rfl⟩
          refine RG.norm rfl ?_
          refine RG.fin hR rfl ?_
          refine J.norm rfl ?_
          refine J.meetI (p114, c114) trivial ⟨rfl, rfl, rfl, rfl, rfl, rfl, trivial⟩
        ·
         refine RGi.made rfl rfl rfl rfl (C.bslG (l := [_]) Tryz.runUnderlying112 Tryz.sizeOf25 Tryz.zeroValue25 (by decide) rfl rfl rfl rfl rfl) ?_
         rintro b113
         refine RG.many hR 2 [8] rfl ⟨?_, ⟨?_, trivial⟩⟩
         ·
          refine RGi.callkI rfl rfl rfl rfl Tryz.call18 (number_spec p c acc ui (by omega) hui) rfl ?_
          rintro _ _ ⟨p100, c100, rfl, rfl⟩
          refine RG.normE rfl ?_
          refine RG.made 8 hR rfl rfl rfl rfl rfl (C.bslG (l := [_]) Tryz.runUnderlying112 Tryz.sizeOf25 Tryz.zeroValue25 (by decide) rfl rfl rfl rfl rfl) ?_
          rintro b106
          refine RG.callkI 9 hR rfl rfl rfl rfl rfl Tryz.call21 (bytesO p100 (some ⟨b105, 0, none⟩) c100 c105 b106 (acc ++ numB ui) u.bucket.data.toList (by omega) (by rw [List.length_append]; omega)) rfl ?_
          rintro _ _ ⟨p107, c107, rfl, rfl⟩
          refine RG.normE rfl ?_
          refine RG.callI 16 hR rfl rfl rfl rfl rfl rfl Tryz.call21 (bytesO p107 (some ⟨b112, 0, none⟩) c107 c112 b113 (acc ++ numB ui ++ encB u.bucket.data.toList) u.key.data.toList (by omega) (by rw [List.length_append, List.length_append]; omega)) rfl ?_
          rintro _ _ ⟨p114, c114, rfl, rfl⟩
          refine RG.norm rfl ?_
          refine RG.bar 17 hR rfl rfl rfl rfl rfl rfl (Q.asg rfl).toC ?_
          rintro _ _ ⟨rfl, rfl⟩
          refine RG.norm rfl ?_
          refine RG.fin hR rfl ?_
          refine J.norm rfl ?_
          refine J.meetI (p114, c114) trivial ⟨rfl, rfl, rfl, rfl, rfl, rfl, trivial⟩
         ·
          refine RGi.made rfl rfl rfl rfl (C.bslG (l := [_]) Tryz.runUnderlying112 Tryz.sizeOf25 Tryz.zeroValue25 (by decide) rfl rfl rfl rfl rfl) ?_
          rintro b106
          refine RG.callkI 2 hR rfl rfl rfl rfl rfl Tryz.call18 (number_spec p c acc ui (by omega) hui) rfl ?_
          rintro _ _ ⟨p100, c100, rfl, rfl⟩
          refine RG.normE rfl ?_
          refine RG.callkI 9 hR rfl rfl rfl rfl rfl Tryz.call21 (bytesO p100 (some ⟨b105, 0, none⟩) c100 c105 b106 (acc ++ numB ui) u.bucket.data.toList (by omega) (by rw [List.length_append]; omega)) rfl ?_
          rintro _ _ ⟨p107, c107, rfl, rfl⟩
          refine RG.normE rfl ?_
          refine RG.callI 16 hR rfl rfl rfl rfl rfl rfl Tryz.call21 (bytesO p107 (some ⟨b112, 0, none⟩) c107 c112 b113 (acc ++ numB ui ++ encB u.bucket.data.toList) u.key.data.toList (by omega) (by rw [List.length_append, List.length_append]; omega)) rfl ?_
          rintro _ _ ⟨p114, c114, rfl, rfl⟩
          refine RG.norm rfl ?_
          refine RG.bar 17 hR rfl rfl rfl rfl rfl rfl (Q.asg rfl).toC ?_
          rintro _ _ ⟨rfl, rfl⟩
          refine RG.norm rfl ?_
          refine RG.fin hR rfl ?_
          refine J.norm rfl ?_
          refine J.meetI (p114, c114) trivial ⟨rfl, rfl, rfl, rfl, rfl, rfl, trivial⟩
       ·
        refine RGi.made rfl rfl rfl rfl (C.bslG (l := [_]) Tryz.runUnderlying112 Tryz.sizeOf25 Tryz.zeroValue25 (by decide) rfl rfl rfl rfl rfl) ?_
        rintro b113
        refine RG.many hR 2 [7] rfl ⟨?_, ⟨?_, trivial⟩⟩
        ·
         refine RGi.callkI rfl rfl rfl rfl Tryz.call18 (number_spec p c acc ui (by omega) hui) rfl ?_
         rintro _ _ ⟨p100, c100, rfl, rfl⟩
         refine RG.normE rfl ?_
         refine RG.made2 7 hR rfl rfl rfl rfl rfl (C.s2bL Tryz.runUnderlying9 Tryz.runUnderlying25 Tryz.runUnderlying5 rfl) ?_
         rintro b105 c105
         refine RG.made 8 hR rfl rfl rfl rfl rfl (C.bslG (l := [_]) Tryz.runUnderlying112 Tryz.sizeOf25 Tryz.zeroValue25 (by decide) rfl rfl rfl rfl rfl) ?_
         rintro b106
         refine RG.callkI 9 hR rfl rfl rfl rfl rfl Tryz.call21 (bytesO p100 (some ⟨b105, 0, none⟩) c100 c105 b106 (acc ++ numB ui) u.bucket.data.toList (by omega) (by rw [List.length_append]; omega)) rfl ?_
         rintro _ _ ⟨p107, c107, rfl, rfl⟩
         refine RG.normE rfl ?_
         refine RG.callI 16 hR rfl rfl rfl rfl rfl rfl Tryz.call21 (bytesO p107 (some ⟨b112, 0, none⟩) c107 c112 b113 (acc ++ numB ui ++ encB u.bucket.data.toList) u.key.data.toList (by omega) (by rw [List.length_append, List.length_append]; omega)) rfl ?_
         rintro _ _ ⟨p114, c114, rfl, rfl⟩
         refine RG.norm rfl ?_
         refine RG.bar 17 hR rfl rfl rfl rfl rfl rfl (Q.asg rfl).toC ?_
         rintro _ _ ⟨rfl, rfl⟩
         refine RG.norm rfl ?_
         refine RG.fin hR rfl ?_
         refine J.norm rfl ?_
         refine J.meetI (p114, c114) trivial ⟨rfl, rfl, rfl, rfl, rfl, rfl, trivial⟩
        ·
         refine RGi.made2 rfl rfl rfl rfl (C.s2bL Tryz.runUnderlying9 Tryz.runUnderlying25 Tryz.runUnderlying5 rfl) ?_
         rintro b105 c105
         refine RG.many hR 2 [8] rfl ⟨?_, ⟨?_, trivial⟩⟩
         ·
          refine RGi.callkI rfl rfl rfl rfl Tryz.call18 (number_spec p c acc ui (by omega) hui) rfl ?_
          rintro _ _ ⟨p100, c100, rfl, rfl⟩
          refine RG.normE rfl ?_
          refine RG.made 8 hR rfl rfl rfl rfl rfl (C.bslG (l := [_]) Tryz.runUnderlying112 Tryz.sizeOf25 Tryz.zeroValue25 (by decide) rfl rfl rfl rfl rfl) ?_
          rintro b106
          refine RG.callkI 9 hR rfl rfl rfl rfl rfl Tryz.call21 (bytesO p100 (some ⟨b105, 0, none⟩) c100 c105 b106 (acc ++ numB ui) u.bucket.data.toList (by omega) (by rw [List.length_append]; omega)) rfl ?_
          rintro _ _ ⟨p107, c107, rfl, rfl⟩
          refine RG.normE rfl ?_
          refine RG.callI 16 hR rfl rfl rfl rfl rfl rfl Tryz.call21 (bytesO p107 (some ⟨b112, 0, none⟩) c107 c112 b113 (acc ++ numB ui ++ encB u.bucket.data.toList) u.key.data.toList (by omega) (by rw [List.length_append, List.length_append]; omega)) rfl ?_
          rintro _ _ ⟨p114, c114, rfl, rfl⟩
          refine RG.norm rfl ?_
          refine RG.bar 17 hR rfl rfl rfl rfl rfl rfl (Q.asg rfl).toC ?_
          rintro _ _ ⟨rfl, rfl⟩
          refine RG.norm rfl ?_
          refine RG.fin hR rfl ?_
          refine J.norm rfl ?_
          refine J.meetI (p114, c114) trivial ⟨rfl, rfl, rfl, rfl, rfl, rfl, trivial⟩
         ·
          refine RGi.made rfl rfl rfl rfl (C.bslG (l := [_]) Tryz.runUnderlying112 Tryz.sizeOf25 Tryz.zeroValue25 (by decide) rfl rfl rfl rfl rfl) ?_
          rintro b106
          refine RG.callkI 2 hR rfl rfl rfl rfl rfl Tryz.call18 (number_spec p c acc ui (by omega) hui) rfl ?_
          rintro _ _ ⟨p100, c100, rfl, rfl⟩
          refine RG.normE rfl ?_
          refine RG.callkI 9 hR rfl rfl rfl rfl rfl Tryz.call21 (bytesO p100 (some ⟨b105, 0, none⟩) c100 c105 b106 (acc ++ numB ui) u.bucket.data.toList (by omega) (by rw [List.length_append]; omega)) rfl ?_
          rintro _ _ ⟨p107, c107, rfl, rfl⟩
          refine RG.normE rfl ?_
          refine RG.callI 16 hR rfl rfl rfl rfl rfl rfl Tryz.call21 (bytesO p107 (some ⟨b112, 0, none⟩) c107 c112 b113 (acc ++ numB ui ++ encB u.bucket.data.toList) u.key.data.toList (by omega) (by rw [List.length_append, List.length_append]; omega)) rfl ?_
          rintro _ _ ⟨p114, c114, rfl, rfl⟩
          refine RG.norm rfl ?_
          refine RG.bar 17 hR rfl rfl rfl rfl rfl rfl (Q.asg rfl).toC ?_
          rintro _ _ ⟨rfl, rfl⟩
          refine RG.norm rfl ?_
          refine RG.fin hR rfl ?_
          refine J.norm rfl ?_
          refine J.meetI (p114, c114) trivial ⟨rfl, rfl, rfl, rfl, rfl, rfl, trivial⟩
     obtain ⟨p114, c114⟩ := q
     refine J.seq ?_
     obtain ⟨acc1, ha1⟩ : ∃ acc1, acc1 = acc ++ numB ui ++ encB u.bucket.data.toList ++ encB u.key.data.toList := ⟨_, rfl⟩
     have h2 : acc1 ++ (numB u.parts.length ++ (dParts u.parts ++ (dUps (M.uploads.drop (i + 1)) ++ dT2 M))) = dumpM M := by rw [ha1, ← h1]; simp [List.append_assoc]
     have lh2 := congrArg List.length h2
     simp only [List.length_append] at lh2
     rw [← ha1]
     refine J.keepI [own 5 1 (.slice p114 acc1.length c114) (bytesV acc1), pt y.1 (.cells ([.string u.bucket, .string u.key, .map (some y.2)] : List Value).toArray 68 (0, 0)), MapAt (Value.int .i64) datRep y.2 u.parts, pt m (.cells ([.map (some z.1), .map (some z.2.1), .map (some z.2.2)] : List Value).toArray 51 (0, 0)), MapAt Value.string bRep z.1 M.buckets, MapHole encU uRep z.2.1 M.uploads ui (.pointer (some ⟨y.1, 0, none⟩)), MapAt encU dRep z.2.2 M.done, own 23 1 (.slice p86 M.uploads.length c86) ((M.uploads.map (·.1)).map encU), F] ?_
     refine J.region ?_
     refine J.q rfl rfl (Q.mv rfl) ?_
     refine J.q rfl rfl (Q.mv rfl) ?_
     refine J.q rfl rfl (Q.nil_ rfl) ?_
     refine J.q rfl rfl (Q.fa (n := 2) Tryz.runUnderlying68 rfl rfl Tryz.sizeOf66 rfl) ?_
     refine J.q rfl rfl (Q.ld Tryz.isAgg66 rfl (rdI (by exact rfl))) ?_
     refine J.q rfl rfl (X.G.Q.lenAt (i := 2) Tryz.runUnderlying66 rfl rfl) ?_
     refine J.q rfl rfl (Q.convU Tryz.runUnderlying3 Tryz.runUnderlying23 rfl (by omega)) ?_
     refine J.callI Tryz.call18 (number_spec p114 c114 acc1 u.parts.length (by omega) (by omega)) rfl rfl rfl ?_
     rintro _ _ ⟨p122, c122, rfl, rfl⟩
     refine J.norm rfl ?_
     refine J.q rfl rfl (Q.asg rfl) ?_
     refine J.nil ?_
     refine J.then_n ?_
     refine J.seq ?_
     refine J.region ?_
     refine J.q rfl rfl (Q.mv rfl) ?_
     refine J.q rfl rfl (Q.nil_ rfl) ?_
     refine J.q rfl rfl (Q.fa (n := 2) Tryz.runUnderlying68 rfl rfl Tryz.sizeOf66 rfl) ?_
     refine J.q rfl rfl (Q.ld Tryz.isAgg66 rfl (rdI (by exact rfl))) ?_
     refine J.callI Tryz.call26 (keysPt (some y.2)) rfl rfl rfl ?_
     rintro _ _ ⟨bp, rfl, rfl⟩
     refine J.norm rfl ?_
     refine J.callI Tryz.call25 (sortedPt bp y.2 u.parts hPs hpl) rfl rfl rfl ?_
     rintro _ _ ⟨p128, c128, rfl, rfl⟩
     refine J.norm rfl ?_
     refine J.slr1 0 rfl fun hs128 => ?_
     refine J.q rfl rfl (Q.lenSl Tryz.runUnderlying24 rfl) ?_
     refine J.q rfl rfl (Q.mv rfl) ?_
     refine J.nil ?_
     refine J.then_n ?_
     refine J.block ?_
     obtain ⟨acc2, ha2⟩ : ∃ acc2, acc2 = acc1 ++ numB u.parts.length := ⟨_, rfl⟩
     have h4 : acc2 ++ (dParts u.parts ++ (dUps (M.uploads.drop (i + 1)) ++ dT2 M)) = dumpM M := by rw [ha2, ← h2]; simp [List.append_assoc]
     rw [← ha2]
     refine J.sub [(0, .pointer (some ⟨m, 0, none⟩)), (3, .slice p122 acc2.length c122), (10, .pointer (some ⟨y.1, 0, none⟩)), (86, .slice p86 M.uploads.length c86), (87, .int .i64 M.uploads.length), (88, .int .i64 i), (128, .slice p128 u.parts.length c128), (129, .int .i64 u.parts.length), (130, .int .i64 0)] ⟨rfl, rfl, rfl, (by show _ = some (Value.slice p86 _ _); rw [hp86]; rfl), rfl, rfl, rfl, rfl, rfl, trivial⟩ ?_
     refine J.keepI [own 5 1 (.slice p122 acc2.length c122) (bytesV acc2), pt y.1 (.cells ([.string u.bucket, .string u.key, .map (some y.2)] : List Value).toArray 68 (0, 0)), MapAt (Value.int .i64) datRep y.2 u.parts, own 3 1 (.slice p128 u.parts.length c128) ((u.parts.map (·.1)).map (Value.int .i64)), pt m (.cells ([.map (some z.1), .map (some z.2.1), .map (some z.2.2)] : List Value).toArray 51 (0, 0)), MapAt Value.string bRep z.1 M.buckets, MapHole encU uRep z.2.1 M.uploads ui (.pointer (some ⟨y.1, 0, none⟩)), MapAt encU dRep z.2.2 M.done, own 23 1 (.slice p86 M.uploads.length c86) ((M.uploads.map (·.1)).map encU), F] ?_
     refine J.loop4 (fun (j : Nat) (acc : List UInt8) (p : Option Addr) (c : Nat) => j ≤ u.parts.length ∧ acc ++ (dParts (u.parts.drop j) ++ (dUps (M.uploads.drop (i + 1)) ++ dT2 M)) = dumpM M) (fun j _ _ _ => u.parts.length - j) (fun j acc p c => [(0, .pointer (some ⟨m, 0, none⟩)), (3, .slice p acc.length c), (10, .pointer (some ⟨y.1, 0, none⟩)), (86, .slice p86 M.uploads.length c86), (87, .int .i64 M.uploads.length), (88, .int .i64 i), (128, .slice p128 u.parts.length c128), (129, .int .i64 u.parts.length), (130, .int .i64 j)]) (fun j acc p c => [own 5 1 (.slice p acc.length c) (bytesV acc), pt y.1 (.cells ([.string u.bucket, .string u.key, .map (some y.2)] : List Value).toArray 68 (0, 0)), MapAt (Value.int .i64) datRep y.2 u.parts, own 3 1 (.slice p128 u.parts.length c128) ((u.parts.map (·.1)).map (Value.int .i64)), pt m (.cells ([.map (some z.1), .map (some z.2.1), .map (some z.2.2)] : List Value).toArray 51 (0, 0)), MapAt Value.string bRep z.1 M.buckets, MapHole encU uRep z.2.1 M.uploads ui (.pointer (some ⟨y.1, 0, none⟩)), MapAt encU dRep z.2.2 M.done, own 23 1 (.slice p86 M.uploads.length c86) ((M.uploads.map (·.1)).map encU), F]) 0 acc2 p122 c122 ⟨Nat.zero_le _, h4⟩ ⟨rfl, rfl, rfl, rfl, rfl, rfl, rfl, rfl, rfl, trivial⟩ rfl fun j acc' p' c' hz => ?_
     obtain ⟨hj, g0⟩ := hz
     refine J.seq ?_
     refine J.region ?_
     refine J.q rfl rfl (Q.lss rfl rfl) ?_
     refine J.nil ?_
     refine J.then_n ?_
     refine J.seq ?_
     refine J.cases 131 rfl (fun hc131 => ?_) (fun hc131 => ?_)
     ·
      replace hc131 := X.nm hc131
      try (first | (cases hc131; done) | (exfalso; simp at hc131; done))
      all_goals
       refine J.cond_t rfl ?_
       refine J.cskip ?_
       refine J.then_n ?_
       refine J.seq ?_
       refine J.block ?_
       refine J.seq ?_
       obtain ⟨b128, o128, hp128, hr128⟩ := hs128.some_ (by omega)
       obtain ⟨⟨pn, dd⟩, hy⟩ : ∃ y, u.parts[j]? = some y := ⟨_, List.getElem?_eq_getElem (by omega)⟩
       have hKk : sget pn u.parts = some dd := X.G.sget_of_mem (hPs.nodup ord3_int) (List.mem_of_getElem? hy)
       have g1 : acc' ++ (numB (u64N pn) ++ (encB dd ++ (dParts (u.parts.drop (j + 1)) ++ (dUps (M.uploads.drop (i + 1)) ++ dT2 M)))) = dumpM M := by
         rw [← g0, drop_at hy]; simp [dParts, List.append_assoc]
       have lg1 := congrArg List.length g1
       simp only [List.length_append] at lg1
       have hed := encB_len dd
       refine J.slot 128 (.slice (some ⟨b128, o128, none⟩) u.parts.length c128) rfl (by rw [hp128]) ?_
       refine J.region ?_
       refine J.q rfl rfl (Q.ia Tryz.runUnderlying24 Tryz.sizeOf3 rfl rfl (by omega) (by omega)) ?_
       refine J.q rfl rfl (Q.ld Tryz.isAgg3 rfl (((hr128 j (.int .i64 pn) (by simp [hy])).within (i := 3) rfl).cast (by simp))) ?_
       refine J.q rfl rfl (Q.asg rfl) ?_
       refine J.nil ?_
       refine J.then_n ?_
       refine J.mapFocus 2 hKk rfl fun val => ?_
       refine J.norm rfl ?_
       refine J.open_ 0 rfl rfl (fun _ h => h) fun v hv => ?_
       subst hv
       refine J.norm rfl ?_
       refine J.pick [3, 1, 0, 2, 4, 5, 6, 7, 8, 9, 10] rfl ?_
       refine J.drawE [3, 10, 11, 12] 2 Tryz.mixed (by kernel_rfl) rfl rfl fun hR => ?_
       refine RG.q 0 hR rfl rfl rfl rfl rfl rfl (Q.mv rfl) ?_
       refine RG.q 1 hR rfl rfl rfl rfl rfl rfl (Q.mv rfl) ?_
       refine RG.q 2 hR rfl rfl rfl rfl rfl rfl (Q.convN Tryz.runUnderlying3 Tryz.runUnderlying23 rfl) ?_
       refine RG.q 4 hR rfl rfl rfl rfl rfl rfl (Q.mv rfl) ?_
       refine RG.q 5 hR rfl rfl rfl rfl rfl rfl (Q.nil_ rfl) ?_
       refine RG.q 6 hR rfl rfl rfl rfl rfl rfl (Q.fa (n := 2) Tryz.runUnderlying68 rfl rfl Tryz.sizeOf66 rfl) ?_
       refine RG.q 7 hR rfl rfl rfl rfl rfl rfl (Q.ld Tryz.isAgg66 rfl (rdI (by exact rfl))) ?_
       refine RG.q 8 hR rfl rfl rfl rfl rfl rfl (Q.mv rfl) ?_
       refine RG.q 9 hR rfl rfl rfl rfl rfl rfl (X.G.Q.lkYes (i := 1) Tryz.runUnderlying66 keyI Tryz.zeroValue25 rfl rfl rfl) ?_
       refine RG.many hR 3 [10] rfl ⟨?_, ⟨?_, trivial⟩⟩
       ·
        refine RGi.callkI rfl rfl rfl rfl Tryz.call18 (number_spec p' c' acc' (u64N pn) (by omega) (u64N_le pn)) rfl ?_
        rintro _ _ ⟨p137, c137, rfl, rfl⟩
        refine RG.normE rfl ?_
        refine RG.made 10 hR rfl rfl rfl rfl rfl (C.bslG (l := [_]) Tryz.runUnderlying112 Tryz.sizeOf25 Tryz.zeroValue25 (by decide) rfl rfl rfl rfl rfl) ?_
        rintro b144
        refine RG.callI 11 hR rfl rfl rfl rfl rfl rfl Tryz.call21 (bytesO p137 v.1 c137 v.2 b144 (acc' ++ numB (u64N pn)) dd (by omega) (by rw [List.length_append]; omega)) rfl ?_
        rintro _ _ ⟨p145, c145, rfl, rfl⟩
        refine RG.norm rfl ?_
        refine RG.bar 12 hR rfl rfl rfl rfl rfl rfl (Q.asg rfl).toC ?_
        rintro _ _ ⟨rfl, rfl⟩
        refine RG.norm rfl ?_
        refine RG.fin hR rfl ?_
        refine J.norm rfl ?_
        refine J.blk_n ?_
        refine J.then_n ?_
        refine J.region ?_
        refine J.q rfl rfl (Q.add64 rfl rfl (by omega)) ?_
        refine J.q rfl rfl (Q.mv rfl) ?_
        refine J.nil ?_
        refine J.shutI [own 5 1 (.slice v.1 dd.length v.2) (bytesV dd)] (datRep pn dd (.slice v.1 dd.length v.2)) (fun h s => ⟨v, rfl, s⟩) ?_
        refine J.mapSameI (rep := datRep) (enc := Value.int .i64) (r := y.2) (k := pn) (val := .slice v.1 dd.length v.2) ord3_int hPs hKk ?_
        refine J.againI (j + 1, acc' ++ numB (u64N pn) ++ encB dd, p145, c145) ⟨by show j + 1 ≤ u.parts.length; omega, by rw [← g1]; simp [List.append_assoc]⟩ (by show u.parts.length - (j + 1) < u.parts.length - j; omega) ⟨rfl, rfl, rfl, rfl, rfl, rfl, (by show _ = some (Value.slice p128 _ _); rw [hp128]; rfl), rfl, rfl, trivial⟩
       ·
        refine RGi.made rfl rfl rfl rfl (C.bslG (l := [_]) Tryz.runUnderlying112 Tryz.sizeOf25 Tryz.zeroValue25 (by decide) rfl rfl rfl rfl rfl) ?_
        rintro b144
        refine RG.callkI 3 hR rfl rfl rfl rfl rfl Tryz.call18 (number_spec p' c' acc' (u64N pn) (by omega) (u64N_le pn)) rfl ?_
        rintro _ _ ⟨p137, c137, rfl, rfl⟩
        refine RG.normE rfl ?_
        refine RG.callI 11 hR rfl rfl rfl rfl rfl rfl Tryz.call21 (bytesO p137 v.1 c137 v.2 b144 (acc' ++ numB (u64N pn)) dd (by omega) (by rw [List.length_append]; omega)) rfl ?_
        rintro _ _ ⟨p145, c145, rfl, rfl⟩
        refine RG.norm rfl ?_
        refine RG.bar 12 hR rfl rfl rfl rfl rfl rfl (Q.asg rfl).toC ?_
        rintro _ _ ⟨rfl, rfl⟩
        refine RG.norm rfl ?_
        refine RG.fin hR rfl ?_
        refine J.norm rfl ?_
        refine J.blk_n ?_
        refine J.then_n ?_
        refine J.region ?_
        refine J.q rfl rfl (Q.add64 rfl rfl (by omega)) ?_
        refine J.q rfl rfl (Q.mv rfl) ?_
        refine J.nil ?_
        refine J.shutI [own 5 1 (.slice v.1 dd.length v.2) (bytesV dd)] (datRep pn dd (.slice v.1 dd.length v.2)) (fun h s => ⟨v, rfl, s⟩) ?_
        refine J.mapSameI (rep := datRep) (enc := Value.int .i64) (r := y.2) (k := pn) (val := .slice v.1 dd.length v.2) ord3_int hPs hKk ?_
        refine J.againI (j + 1, acc' ++ numB (u64N pn) ++ encB dd, p145, c145) ⟨by show j + 1 ≤ u.parts.length; omega, by rw [← g1]; simp [List.append_assoc]⟩ (by show u.parts.length - (j + 1) < u.parts.length - j; omega) ⟨rfl, rfl, rfl, rfl, rfl, rfl, (by show _ = some (Value.slice p128 _ _); rw [hp128]; rfl), rfl, rfl, trivial⟩
     replace hc131 := X.nm hc131
     try (first | (cases hc131; done) | (exfalso; simp at hc131; done))
     all_goals
      refine J.cond_f rfl ?_
      refine J.exit ?_
      refine J.then_x ?_
      refine J.lp_x ?_
      refine J.blk_x ?_
      refine J.blk_n ?_
      refine J.then_n ?_
      refine J.region ?_
      refine J.q rfl rfl (Q.add64 rfl rfl (by omega)) ?_
      refine J.q rfl rfl (Q.mv rfl) ?_
      refine J.nil ?_
      have hjl : j = u.parts.length := by omega
      subst hjl
      rw [List.drop_length] at g0
      refine J.shutI [pt y.1 (.cells ([.string u.bucket, .string u.key, .map (some y.2)] : List Value).toArray 68 (0, 0)), MapAt (Value.int .i64) datRep y.2 u.parts] (uRep ui u (.pointer (some ⟨y.1, 0, none⟩))) (fun h s => ⟨y, rfl, s⟩) ?_
      refine J.mapSameI (rep := uRep) (enc := encU) (r := z.2.1) (k := ui) (val := .pointer (some ⟨y.1, 0, none⟩)) ord3_nat hM.us hU ?_
      refine J.shutI [pt m (.cells ([.map (some z.1), .map (some z.2.1), .map (some z.2.2)] : List Value).toArray 51 (0, 0)), MapAt Value.string bRep z.1 M.buckets, MapAt encU uRep z.2.1 M.uploads, MapAt encU dRep z.2.2 M.done] (BktAt m M) (fun h s => ⟨z, s⟩) ?_
      refine J.againI (i + 1, acc', p', c') ⟨by show i + 1 ≤ M.uploads.length; omega, g0⟩ (by show M.uploads.length - (i + 1) < M.uploads.length - i; omega) ⟨rfl, rfl, rfl, rfl, rfl, trivial⟩
   replace hc89 := X.nm hc89
   try (first | (cases hc89; done) | (exfalso; simp at hc89; done))
   all_goals
    refine J.cond_f rfl ?_
    refine J.exit ?_
    refine J.then_x ?_
    refine J.lp_x ?_
    refine J.blk_x ?_
    refine J.then_n ?_
    refine J.seq ?_
    have hil : i = M.uploads.length := by omega
    subst hil
    rw [List.drop_length] at h0
    have h5 : acc ++ (numB M.done.length ++ dDone M.done) = dumpM M := by rw [← h0]; rfl
    have lh5 := congrArg List.length h5
    simp only [List.length_append] at lh5
    refine J.keepI [own 5 1 (.slice p acc.length c) (bytesV acc), BktAt m M, F] ?_
    refine J.open1 1 rfl (fun _ h => h) fun z => ?_
    refine J.norm rfl ?_
    refine J.region ?_
    refine J.q rfl rfl (Q.mv rfl) ?_
    refine J.q rfl rfl (Q.mv rfl) ?_
    refine J.q rfl rfl (Q.nil_ rfl) ?_
    refine J.q rfl rfl (Q.fa (n := 2) Tryz.runUnderlying51 rfl rfl Tryz.sizeOf49 rfl) ?_
    refine J.q rfl rfl (Q.ld Tryz.isAgg49 rfl (rdI (by exact rfl))) ?_
    refine J.q rfl rfl (X.G.Q.lenAt (i := 3) Tryz.runUnderlying49 rfl rfl) ?_
    refine J.q rfl rfl (Q.convU Tryz.runUnderlying3 Tryz.runUnderlying23 rfl (by omega)) ?_
    refine J.callI Tryz.call18 (number_spec p c acc M.done.length (by omega) (by omega)) rfl rfl rfl ?_
    rintro _ _ ⟨p155, c155, rfl, rfl⟩
    refine J.norm rfl ?_
    refine J.q rfl rfl (Q.asg rfl) ?_
    refine J.nil ?_
    refine J.then_n ?_
    refine J.seq ?_
    refine J.seq ?_
    refine J.region ?_
    refine J.q rfl rfl (Q.mv rfl) ?_
    refine J.q rfl rfl (Q.nil_ rfl) ?_
    refine J.q rfl rfl (Q.fa (n := 2) Tryz.runUnderlying51 rfl rfl Tryz.sizeOf49 rfl) ?_
    refine J.q rfl rfl (Q.ld Tryz.isAgg49 rfl (rdI (by exact rfl))) ?_
    refine J.callI Tryz.call27 (keysDn (some z.2.2)) rfl rfl rfl ?_
    rintro _ _ ⟨bd, rfl, rfl⟩
    refine J.norm rfl ?_
    refine J.callI Tryz.call23 (sortedDn bd z.2.2 M.done hM.ds (by omega)) rfl rfl rfl ?_
    rintro _ _ ⟨p161, c161, rfl, rfl⟩
    refine J.norm rfl ?_
    refine J.slr1 0 rfl fun hs161 => ?_
    refine J.shutI [pt m (.cells ([.map (some z.1), .map (some z.2.1), .map (some z.2.2)] : List Value).toArray 51 (0, 0)), MapAt Value.string bRep z.1 M.buckets, MapAt encU uRep z.2.1 M.uploads, MapAt encU dRep z.2.2 M.done] (BktAt m M) (fun h s => ⟨z, s⟩) ?_
    refine J.q rfl rfl (Q.lenSl Tryz.runUnderlying60 rfl) ?_
    refine J.q rfl rfl (Q.mv rfl) ?_
    refine J.nil ?_
    refine J.then_n ?_
    refine J.block ?_
    have b0 : (acc ++ numB M.done.length) ++ dDone M.done = dumpM M := by rw [← h5]; simp [List.append_assoc]
    refine J.keepI [own 5 1 (.slice p155 (acc ++ numB M.done.length).length c155) (bytesV (acc ++ numB M.done.length)), BktAt m M, own 23 1 (.slice p161 M.done.length c161) ((M.done.map (·.1)).map encU), F] ?_
    refine J.loop4 (fun (i : Nat) (acc : List UInt8) (p : Option Addr) (c : Nat) => i ≤ M.done.length ∧ acc ++ dDone (M.done.drop i) = dumpM M) (fun i _ _ _ => M.done.length - i) (fun i acc p c => [(0, .pointer (some ⟨m, 0, none⟩)), (3, .slice p acc.length c), (161, .slice p161 M.done.length c161), (162, .int .i64 M.done.length), (163, .int .i64 i)]) (fun i acc p c => [own 5 1 (.slice p acc.length c) (bytesV acc), BktAt m M, own 23 1 (.slice p161 M.done.length c161) ((M.done.map (·.1)).map encU), F]) 0 (acc ++ numB M.done.length) p155 c155 ⟨Nat.zero_le _, b0⟩ ⟨rfl, rfl, rfl, rfl, rfl, trivial⟩ rfl fun i acc p c hz => ?_
    obtain ⟨hi, h0⟩ := hz
    refine J.seq ?_
    refine J.region ?_
    refine J.q rfl rfl (Q.lss rfl rfl) ?_
    refine J.nil ?_
    refine J.then_n ?_
    refine J.seq ?_
    refine J.cases 164 rfl (fun hc164 => ?_) (fun hc164 => ?_)
    ·
     replace hc164 := X.nm hc164
     try (first | (cases hc164; done) | (exfalso; simp at hc164; done))
     all_goals
      refine J.cond_t rfl ?_
      refine J.cskip ?_
      refine J.then_n ?_
      refine J.seq ?_
      refine J.block ?_
      refine J.seq ?_
      obtain ⟨b161, o161, hp161, hr161⟩ := hs161.some_ (by omega)
      obtain ⟨⟨di, rr⟩, hx⟩ : ∃ x, M.done[i]? = some x := ⟨_, List.getElem?_eq_getElem (by omega)⟩
      have hU : sget di M.done = some rr := X.G.sget_of_mem (hM.ds.nodup ord3_nat) (List.mem_of_getElem? hx)
      have hdn := hF.dn _ _ hU
      have hdi : di ≤ 18446744073709551615 := hdn.1
      have h1 : acc ++ (numB di ++ (numB (u64N rr.status) ++ (numB rr.upload ++ dDone (M.done.drop (i + 1))))) = dumpM M := by
        rw [← h0, drop_at hx]; simp [dDone, List.append_assoc]
      have lh1 := congrArg List.length h1
      simp only [List.length_append] at lh1
      refine J.slot 161 (.slice (some ⟨b161, o161, none⟩) M.done.length c161) rfl (by rw [hp161]) ?_
      refine J.region ?_
      refine J.q rfl rfl (Q.ia Tryz.runUnderlying60 Tryz.sizeOf23 rfl rfl (by omega) (by omega)) ?_
      refine J.q rfl rfl (Q.ld Tryz.isAgg23 rfl (((hr161 i (encU di) (by simp [hx])).within (i := 2) rfl).cast (by simp))) ?_
      refine J.q rfl rfl (Q.asg rfl) ?_
      refine J.nil ?_
      refine J.then_n ?_
      refine J.seq ?_
      refine J.open1 1 rfl (fun _ h => h) fun z => ?_
      refine J.norm rfl ?_
      refine J.mapFocus 3 hU rfl fun val => ?_
      refine J.norm rfl ?_
      refine J.open_ 0 rfl rfl (fun _ h => h) fun y hyv => ?_
      obtain ⟨hyr, hyv⟩ := hyv
      subst hyv
      subst hyr
      refine J.norm rfl ?_
      refine J.region ?_
      refine J.q rfl rfl (Q.mv rfl) ?_
      refine J.q rfl rfl (Q.nil_ rfl) ?_
      refine J.q rfl rfl (Q.fa (n := 2) Tryz.runUnderlying51 rfl rfl Tryz.sizeOf49 rfl) ?_
      refine J.q rfl rfl (Q.ld Tryz.isAgg49 rfl (rdI (by exact rfl))) ?_
      refine J.q rfl rfl (Q.mv rfl) ?_
      refine J.q rfl rfl (X.G.Q.lkYes (i := 1) Tryz.runUnderlying49 keyU Tryz.zeroValue37 rfl rfl rfl) ?_
      refine J.c rfl rfl (C.alloc (l := [_, _, _, _, _]) Tryz.zeroValue37 rfl) ?_
      rintro _ _ ⟨b15, rfl, rfl⟩
      refine J.norm rfl ?_
      refine J.stAI (vs := [_, _, _, _, _]) rfl Tryz.sizeOf37 rfl rfl (by exact rfl) (by exact rfl) (by exact rfl) ?_
      refine J.nil ?_
      refine J.then_n ?_
      refine J.drawE [2, 6, 9, 10] 1 Tryz.mixed (by kernel_rfl) rfl rfl fun hR => ?_
      refine RG.q 0 hR rfl rfl rfl rfl rfl rfl (Q.mv rfl) ?_
      refine RG.q 1 hR rfl rfl rfl rfl rfl rfl (Q.mv rfl) ?_
      refine RG.q 3 hR rfl rfl rfl rfl rfl rfl (Q.fa (n := 0) Tryz.runUnderlying37 rfl rfl Tryz.sizeOf3 rfl) ?_
      refine RG.q 4 hR rfl rfl rfl rfl rfl rfl (Q.ld Tryz.isAgg3 rfl (rdI (by exact rfl))) ?_
      refine RG.q 5 hR rfl rfl rfl rfl rfl rfl (Q.convN Tryz.runUnderlying3 Tryz.runUnderlying23 rfl) ?_
      refine RG.q 7 hR rfl rfl rfl rfl rfl rfl (Q.fa (n := 1) Tryz.runUnderlying37 rfl rfl Tryz.sizeOf23 rfl) ?_
      refine RG.q 8 hR rfl rfl rfl rfl rfl rfl (Q.ld Tryz.isAgg23 rfl (rdI (by exact rfl))) ?_
      refine RG.callkI 2 hR rfl rfl rfl rfl rfl Tryz.call18 (number_spec p c acc di (by omega) hdi) rfl ?_
      rintro _ _ ⟨p175, c175, rfl, rfl⟩
      refine RG.normE rfl ?_
      refine RG.callkI 6 hR rfl rfl rfl rfl rfl Tryz.call18 (number_spec p175 c175 (acc ++ numB di) (u64N y.r.status) (by rw [List.length_append]; omega) (u64N_le _)) rfl ?_
      rintro _ _ ⟨p179, c179, rfl, rfl⟩
      refine RG.normE rfl ?_
      refine RG.callI 9 hR rfl rfl rfl rfl rfl rfl Tryz.call18 (number_spec p179 c179 (acc ++ numB di ++ numB (u64N y.r.status)) y.r.upload (by rw [List.length_append, List.length_append]; omega) hdn.2) rfl ?_
      rintro _ _ ⟨p182, c182, rfl, rfl⟩
      refine RG.norm rfl ?_
      refine RG.bar 10 hR rfl rfl rfl rfl rfl rfl (Q.asg rfl).toC ?_
      rintro _ _ ⟨rfl, rfl⟩
      refine RG.norm rfl ?_
      refine RG.fin hR rfl ?_
      refine J.norm rfl ?_
      refine J.blk_n ?_
      refine J.then_n ?_
      refine J.region ?_
      refine J.q rfl rfl (Q.add64 rfl rfl (by omega)) ?_
      refine J.q rfl rfl (Q.mv rfl) ?_
      refine J.nil ?_
      refine J.shutI [y.asn] (dRep di y.r (.agg y.cells.toArray)) (fun h s => ⟨y, ⟨rfl, rfl⟩, s⟩) ?_
      refine J.mapSameI (rep := dRep) (enc := encU) (r := z.2.2) (k := di) (val := .agg y.cells.toArray) ord3_nat hM.ds hU ?_
      refine J.shutI [pt m (.cells ([.map (some z.1), .map (some z.2.1), .map (some z.2.2)] : List Value).toArray 51 (0, 0)), MapAt Value.string bRep z.1 M.buckets, MapAt encU uRep z.2.1 M.uploads, MapAt encU dRep z.2.2 M.done] (BktAt m M) (fun h s => ⟨z, s⟩) ?_
      refine J.againI (i + 1, acc ++ numB di ++ numB (u64N y.r.status) ++ numB y.r.upload, p182, c182) ⟨by show i + 1 ≤ M.done.length; omega, by rw [← h1]; simp [List.append_assoc]⟩ (by show M.done.length - (i + 1) < M.done.length - i; omega) ⟨rfl, rfl, (by show _ = some (Value.slice p161 _ _); rw [hp161]; rfl), rfl, rfl, trivial⟩
    replace hc164 := X.nm hc164
    try (first | (cases hc164; done) | (exfalso; simp at hc164; done))
    all_goals
     refine J.cond_f rfl ?_
     refine J.exit ?_
     refine J.then_x ?_
     refine J.lp_x ?_
     refine J.blk_x ?_
     refine J.then_n ?_
     refine J.seq ?_
     refine J.region ?_
     refine J.q rfl rfl (Q.mv rfl) ?_
     refine J.q rfl rfl (Q.asg rfl) ?_
     refine J.nil ?_
     refine J.then_n ?_
     refine J.cret ?_
     have hil : i = M.done.length := by omega
     subst hil
     rw [List.drop_length] at h0
     have hfin : acc = dumpM M := by rw [← h0]; simp [dDone]
     rw [← hfin]
     refine J.ret1I [own 5 1 (.slice p acc.length c) (bytesV acc), BktAt m M] rfl rfl ⟨p, c, rfl, rfl⟩
end
end Go.Proofs.YtdancegklkifaaaGreat
namespace Go.X
set_option linter.unusedSectionVars false
set_option linter.unusedSimpArgs false
set_option linter.unusedVariables false
open Go.RowKit Go.WideShapes Go.ChangeShapes

/-- The memory of a world, all of it. -/
def old (W : World) : Assn := fun h => ∀ b o, W.heap[b]? = some o → h b = some o

theorem old_start (W : World) : Sat W W ([old W] ++ [fact True]) := by
  refine ⟨rfl, rfl, rfl, ?_⟩
  refine ⟨hp W, fun _ => none, fun b o e => e, ⟨fun _ => none, fun _ => none, ?_, trivial, fun _ => .inl rfl, Sub.refl _, Sub.refl _⟩, fun _ => .inr rfl, Sub.refl _, fun _ _ e => nomatch e⟩
  exact trivial

theorem old_below {W w : World} {F : Assn} (s : Sat W w ([old W] ++ [F])) : Below W.heap.size W w := by
  have hg : ∀ (b : Nat) (o : Obj), W.heap[b]? = some o → w.heap[b]? = some o := by
    obtain ⟨h1, _, a, _, _, u, _⟩ := s.heap
    exact fun b o e => u b o (a b o e)
  have hs : W.heap.size ≤ w.heap.size := by
    rcases Nat.eq_zero_or_pos W.heap.size with h | h
    · omega
    · have h1 := hg (W.heap.size - 1) _ (Array.getElem?_eq_getElem (by omega))
      have := (Array.getElem?_eq_some_iff.1 h1).1
      omega
  refine ⟨s.os, s.tape, s.out, hs, fun k hk => ?_⟩
  rw [hg k _ (Array.getElem?_eq_getElem hk), Array.getElem?_eq_getElem hk]

theorem FSpec.lift {P : Program} {f : FuncId} {args : List Value} {u : Value} {W : World} (h : FSpec P f args [old W] (fun v B => v = u ∧ B = [old W])) :
    Calls P f args.toArray W fun e w' => e = .returned u ∧ Below W.heap.size W w' :=
  (h.call W W (fact True) (old_start W)).mono fun e w' ⟨v, A, he, ⟨hv, hA⟩, s⟩ => by
    subst hv hA; exact ⟨he, old_below s⟩

theorem old_reads {W : World} {b off : Nat} {v : Value} (h : W.cell? ⟨b, off, none⟩ = some v) : Reads [old W] b off v := by
  intro k s
  obtain ⟨h1, _, a, _, _, u, _⟩ := s
  simp only [World.cell?] at h
  split at h
  · rename_i c e z hb
    simp at h
    exact ⟨c, e, z, u _ _ (a _ _ hb), h⟩
  · cases h

/-- A slice that came in: nil, or with a plain address. -/
theorem okWide_slice_plain {P : Program} {w : World} {r : Reach} {base : Nat} {t e : TypeId} {v : Value} (ht : P.underlying t = some (.slice e)) (h : Value.okWide P w r base t v) :
    v = .slice none 0 0 ∨ ∃ b off len cap, v = .slice (some ⟨b, off, none⟩) len cap := by
  simp only [Value.okWide, ht, Cell.okWide] at h
  cases v <;> try simp_all [Cell.ok]
  rename_i a len cap
  cases a with
  | none =>
    cases len with
    | zero => cases cap with
      | zero => exact .inl ⟨rfl, rfl, rfl⟩
      | succ n => simp_all [Cell.ok]
    | succ n => simp_all [Cell.ok]
  | some a =>
    right
    simp_all [Cell.ok, World.has]
    obtain ⟨b, off, spot⟩ := a
    simp_all

/-- What is known of a slice of integers that came in. -/
def IntsIn (k : IntKind) (W : World) (v : Value) (len : Nat) (zs : List Int) : Prop :=
  ∃ p cap, v = .slice p len cap ∧ len ≤ maxLen ∧ zs.length = len ∧ SlR [old W] 1 v (zs.map (Value.int k)) ∧ ∀ n ∈ zs, k.min ≤ n ∧ n ≤ k.max

theorem wf_has {k : IntKind} {n : Int} (h : (Lit.int k n).wf = true) : k.min ≤ n ∧ n ≤ k.max := by
  simpa [Lit.wf] using h

theorem intsIn {P : Program} {H : Type} {enc : TypeId × Value → H} {W : World} {base base' : Nat} {r : Reach} {t e : TypeId} {k : IntKind} {v : Value} {held : Bool} {spare : Nat → Bool} {d : DataW H} {p : List MemPlace}
    (ht : P.underlying t = some (.slice e)) (he : P.underlying e = some (.int k)) (hc : P.cellsOf e = 1) (hok : Value.okWide P W r base' t v)
    (h : DataW.Trod enc P W base spare held t v d p) : ∃ len zs, IntsIn k W v len zs := by
  obtain ⟨fuel, hf⟩ := h
  have hpl := okWide_slice_plain ht hok
  rcases open_ints ht he hc (by simpa using hf) with ⟨hcs, _⟩ | ⟨x, l, c, zs, hcs, _, hl, hm, hz, _, hcell, hwz⟩
  · refine ⟨0, [], none, 0, ?_, Nat.zero_le _, rfl, ?_, by simp⟩
    · rcases hpl with rfl | ⟨b, off, len, cap, rfl⟩
      · rfl
      · simp [Value.cells] at hcs
    · rcases hpl with rfl | ⟨b, off, len, cap, rfl⟩
      · exact .inl ⟨none, 0, rfl, rfl⟩
      · simp [Value.cells] at hcs
  · rcases hpl with rfl | ⟨b, off, len, cap, rfl⟩
    · simp [Value.cells] at hcs
    · simp [Value.cells] at hcs
      obtain ⟨rfl, rfl, rfl⟩ := hcs
      have hlz : len ≤ zs.length := by rw [hz]; split <;> omega
      refine ⟨len, zs.take len, _, _, rfl, by omega, by simp; omega, ?_, fun n hn => wf_has (hwz n (List.mem_of_mem_take hn))⟩
      refine .inr ⟨b, off, len, cap, rfl, by simp; omega, ?_⟩
      intro i u hu
      refine old_reads ?_
      have hi : i < len := by
        have := (List.getElem?_eq_some_iff.1 hu).1
        simp at this; omega
      have := hcell i (by omega)
      rw [addr_add] at this
      rw [this]
      simp [hi] at hu
      obtain ⟨n, hn, rfl⟩ := hu
      simp [List.getD, hn]

end Go.X
namespace Go.X
set_option linter.unusedSectionVars false
set_option linter.unusedSimpArgs false
set_option linter.unusedVariables false

theorem ints_bytes : ∀ zs : List Int, (∀ n ∈ zs, IntKind.u8.min ≤ n ∧ n ≤ IntKind.u8.max) → ∃ bs : List UInt8, bs.length = zs.length ∧ zs.map (Value.int .u8) = bytesV bs
  | [], _ => ⟨[], rfl, rfl⟩
  | z :: zs, h => by
    obtain ⟨bs, h1, h2⟩ := ints_bytes zs (fun n hn => h n (List.mem_cons_of_mem _ hn))
    obtain ⟨h3, h4⟩ := h z (by simp)
    have h3' : 0 ≤ z := h3
    have h4' : z ≤ 255 := h4
    refine ⟨UInt8.ofNat z.toNat :: bs, by simp [h1], ?_⟩
    simp only [List.map_cons, h2, bytesV]
    congr 1
    simp only [byteV]
    congr 1
    rw [UInt8.toNat_ofNat']
    omega

theorem IntsIn.bytes {W : World} {v : Value} {len : Nat} {zs : List Int} (h : IntsIn .u8 W v len zs) : ∃ p cap, ∃ bs : List UInt8, v = .slice p bs.length cap ∧ bs.length ≤ maxLen ∧ SlR [old W] 1 v (bytesV bs) := by
  obtain ⟨p, cap, rfl, hl, hz, hr, hw⟩ := h
  obtain ⟨bs, h1, h2⟩ := ints_bytes zs hw
  have : bs.length = len := by omega
  subst this
  exact ⟨p, cap, bs, rfl, hl, by rw [← h2]; exact hr⟩

end Go.X
namespace Go.X
set_option linter.unusedSectionVars false
set_option linter.unusedSimpArgs false
set_option linter.unusedVariables false
open Go.RowKit Go.WideShapes Go.ChangeShapes

section
variable {P : Program} {H : Type} {enc : TypeId × Value → H} {W : World} {base : Nat} {spare : Nat → Bool} {held : Bool} {fuel : Nat} {t e : TypeId} {v : Value} {x : DataW H × List MemPlace}

theorem cell_plain {a : Addr} {u : Value} (h : W.cell? a = some u) : ∃ b off, a = ⟨b, off, none⟩ := by
  have := World.cell?_spot h
  obtain ⟨b, off, s⟩ := a
  simp only at this; subst this; exact ⟨b, off, rfl⟩

theorem add_add (a : Addr) (m j : Nat) : (a.add m).add j = a.add (m + j) := by
  unfold Addr.add
  by_cases h1 : m = 0
  · subst h1; simp
  · by_cases h2 : j = 0
    · subst h2; simp
    · rw [if_neg h1, if_neg h2, if_neg (by omega)]; simp [Nat.add_assoc]

theorem cells_get {a : Addr} {n : Nat} {cs : List Value} (h : W.cells? base a n = some cs) : cs.length = n ∧ ∀ (i : Nat) u, cs[i]? = some u → W.cell? (a.add i) = some u := by
  unfold World.cells? at h
  split at h
  · have h1 := mapM_some_length h
    simp only [List.length_range] at h1
    refine ⟨h1, fun i u hu => ?_⟩
    have hi : i < n := by have := (List.getElem?_eq_some_iff.1 hu).1; omega
    have := mapM_some_get h i i (by simp [hi])
    rw [this]; exact hu
  · cases h

/-- A slice of cells as they lie in memory. -/
theorem slr_old {a : Addr} {len cap sz : Nat} {xs : List Value} (hl : xs.length = len * sz) (h : ∀ (i : Nat) u, xs[i]? = some u → W.cell? (a.add i) = some u) (hsz : 0 < sz) : SlR [old W] sz (.slice (some a) len cap) xs := by
  rcases Nat.eq_zero_or_pos len with h0 | h0
  · subst h0
    exact .inl ⟨some a, cap, rfl, by simpa using hl⟩
  · have hpos : 0 < xs.length := by rw [hl]; exact Nat.mul_pos h0 hsz
    obtain ⟨u, hu⟩ : ∃ u, xs[0]? = some u := ⟨_, List.getElem?_eq_getElem hpos⟩
    have h1 := h 0 u hu
    rw [show a.add 0 = a from rfl] at h1
    obtain ⟨b, off, rfl⟩ := cell_plain h1
    refine .inr ⟨b, off, len, cap, rfl, hl, fun i w hw => old_reads ?_⟩
    have := h i w hw
    rwa [addr_add] at this

theorem ints_in {k : IntKind} (ht : P.underlying t = some (.slice e)) (he : P.underlying e = some (.int k)) (hc : P.cellsOf e = 1) (h : DataW.trod enc P W base spare held fuel t [v] = some x) :
    ∃ p len cap, ∃ zs : List Int, v = .slice p len cap ∧ len ≤ cap ∧ zs.length = len ∧ SlR [old W] 1 v (zs.map (Value.int k)) ∧ (∀ n ∈ zs, k.min ≤ n ∧ n ≤ k.max) ∧ (x.1 = .nil ∧ len = 0 ∨ ∃ es rs, x.1 = .slice es rs ∧ es.length = len) := by
  rcases open_ints ht he hc h with ⟨hcs, rfl⟩ | ⟨a, len, cap, zs, hcs, _, hl, hm, hz, rfl, hcell, hwz⟩
  · simp at hcs
    subst hcs
    exact ⟨none, 0, 0, [], rfl, Nat.le_refl _, rfl, .inl ⟨none, 0, rfl, rfl⟩, by simp, .inl ⟨rfl, rfl⟩⟩
  · simp at hcs
    subst hcs
    have hlz : len ≤ zs.length := by rw [hz]; split <;> omega
    refine ⟨some a, len, cap, zs.take len, rfl, hl, by simp; omega, slr_old (by simp; omega) ?_ (by omega), fun n hn => wf_has (hwz n (List.mem_of_mem_take hn)), .inr ⟨_, _, rfl, by simp [lits]; omega⟩⟩
    intro i u hu
    have hi : i < len := by
      have := (List.getElem?_eq_some_iff.1 hu).1
      simp at this; omega
    rw [hcell i (by omega)]
    simp [hi] at hu
    obtain ⟨n, hn, rfl⟩ := hu
    simp [List.getD, hn]

/-- A slice of elements of whatever kind: the cells of each, and how each reads. -/
theorem elems_in {sz : Nat} (ht : P.underlying t = some (.slice e)) (hc : P.cellsOf e = sz) (h : DataW.trod enc P W base spare held fuel t [v] = some x) :
    (v = .slice none 0 0 ∧ x.1 = .nil) ∨ ∃ a len cap n, ∃ es : List (DataW H × List MemPlace), ∃ rs : List (DataW H), ∃ css : List (List Value), v = .slice (some a) len cap ∧ len ≤ cap ∧ x.1 = .slice (es.map (·.1)) rs ∧ es.length = len ∧ css.length = len ∧
      (∀ (i : Nat) cs, css[i]? = some cs → cs.length = sz ∧ (∀ (j : Nat) u, cs[j]? = some u → W.cell? (a.add (i * sz + j)) = some u) ∧ DataW.trod enc P W base spare held n e cs = es[i]?) := by
  rcases DataW.trod_slice ht h with ⟨hcs, rfl⟩ | ⟨a, len, cap, es, rs, n, rfl, hcs, rfl, hb, hl, hm, hle, hel, _, _⟩
  · simp at hcs; exact .inl ⟨hcs, rfl⟩
  · simp at hcs
    right
    have hx : ∀ i, i < len → ∃ cs, W.cells? base (a.add (i * sz)) sz = some cs ∧ DataW.trod enc P W base spare held n e cs = es[i]? := by
      intro i hi
      have := hel i hi
      rw [hc] at this
      obtain ⟨y, hy⟩ : ∃ y, es[i]? = some y := ⟨_, List.getElem?_eq_getElem (by omega)⟩
      rw [hy, Option.bind_eq_some_iff] at this
      obtain ⟨cs, h1, h2⟩ := this
      exact ⟨cs, h1, by rw [h2, hy]⟩
    obtain ⟨css, hcl, hcss⟩ : ∃ css : List (List Value), css.length = len ∧ ∀ (i : Nat) cs, css[i]? = some cs → W.cells? base (a.add (i * sz)) sz = some cs ∧ DataW.trod enc P W base spare held n e cs = es[i]? := by
      refine ⟨(List.range len).attach.map fun ⟨i, hi⟩ => Classical.choose (hx i (by simpa using hi)), by simp, fun i cs hi => ?_⟩
      simp only [List.getElem?_map, Option.map_eq_some_iff] at hi
      obtain ⟨⟨j, hj⟩, h1, rfl⟩ := hi
      have hji : j = i := by
        have := congrArg (Option.map Subtype.val) h1
        simp only [← List.getElem?_map, List.attach_map_subtype_val, Option.map_some] at this
        have hr := (List.getElem?_eq_some_iff.1 this).2
        simpa using hr.symm
      subst hji
      exact Classical.choose_spec (hx j (by simpa using hj))
    refine ⟨a, len, cap, n, es, rs.map (·.1), css, hcs, hl, rfl, hle, hcl, fun i cs hi => ?_⟩
    obtain ⟨h1, h2⟩ := hcss i cs hi
    obtain ⟨g1, g2⟩ := cells_get h1
    refine ⟨g1, fun j u hu => ?_, h2⟩
    have := g2 j u hu
    rw [← this, add_add]
end
end Go.X
namespace Go.Proofs.YtdancegklkifaaaGreat
set_option linter.unusedSectionVars false
set_option linter.unusedSimpArgs false
set_option linter.unusedVariables false
open Go.X

theorem bulk_one {H : Type} (d : DataW H) : 1 ≤ Rows.uptoBulk d := by
  cases d with
  | lit l => cases l <;> simp [Rows.uptoBulk]
  | nil => simp [Rows.uptoBulk]
  | ptr d => simp [Rows.uptoBulk]
  | slice elems spare => simp [Rows.uptoBulk]
  | agg parts => simp [Rows.uptoBulk]
  | iface t d => simp [Rows.uptoBulk]
  | map entries => simp [Rows.uptoBulk]
  | held h => simp [Rows.uptoBulk]
theorem bulk_part {H : Type} {d : DataW H} {l : List (DataW H)} (h : d ∈ l) : Rows.uptoBulk d ≤ Rows.uptoBulkAll l := by
  induction l with
  | nil => cases h
  | cons x r ih =>
    simp only [Rows.uptoBulkAll]
    cases List.mem_cons.1 h with
    | inl e => subst e; omega
    | inr e => have := ih e; omega
theorem bulk_len {H : Type} (l : List (DataW H)) : l.length ≤ Rows.uptoBulkAll l := by
  induction l with
  | nil => simp [Rows.uptoBulkAll]
  | cons x r ih => have := bulk_one x; simp only [Rows.uptoBulkAll, List.length_cons]; omega

section
variable {H : Type} {enc : TypeId × Value → H} {W : World} {base : Nat} {spare : Nat → Bool} {held : Bool} {fuel : Nat} {v : Value} {x : DataW H × List MemPlace} {cs : List Value}

theorem cellsInt : Tryz.prog.cellsOf 3 = 1 := by kernel_rfl
theorem cellsU64 : Tryz.prog.cellsOf 23 = 1 := by kernel_rfl
theorem cellsU8 : Tryz.prog.cellsOf 5 = 1 := by kernel_rfl
theorem cellsStr : Tryz.prog.cellsOf 9 = 1 := by kernel_rfl
theorem cellsInts : Tryz.prog.cellsOf 24 = 1 := by kernel_rfl
theorem cellsBytes : Tryz.prog.cellsOf 25 = 1 := by kernel_rfl
theorem cellsOp : Tryz.prog.cellsOf 27 = 9 := by kernel_rfl

theorem nine {α : Type} {l : List α} (h : l.length = 9) : ∃ c0 c1 c2 c3 c4 c5 c6 c7 c8, l = [c0, c1, c2, c3, c4, c5, c6, c7, c8] := by
  match l with
  | [a, b, c, d, e, f, g, i, j] => exact ⟨a, b, c, d, e, f, g, i, j, rfl⟩

def OM.bulk (o : OM) : Nat := o.bucket.size + o.key.size + o.after.size + o.parts.length + o.data.length

theorem len_le {es rs : List (DataW H)} : es.length ≤ Rows.uptoBulk (.slice es rs) := by
  have := bulk_len es; simp only [Rows.uptoBulk]; omega

theorem slice_small {t e : TypeId} {p : Option Addr} {len cap : Nat} (ht : Tryz.prog.underlying t = some (.slice e)) (h : DataW.trod enc Tryz.prog W base spare held fuel t [.slice p len cap] = some x) : len ≤ 9223372036854775807 := by
  rcases DataW.trod_slice ht h with ⟨hcs, rfl⟩ | ⟨a, l, c, es, rs, n, rfl, hcs, rfl, hb, hl, hm, _⟩
  · simp at hcs; omega
  · simp at hcs
    have : maxLen = 9223372036854775807 := rfl
    omega

set_option maxRecDepth 100000 in
theorem op_in (h : DataW.trod enc Tryz.prog W base spare held fuel 27 cs = some x) : ∃ y : OW, cs = y.cells ∧ y.ok (old W) ∧ y.o.bulk ≤ Rows.uptoBulk x.1 ∧ y.o.id ≤ 18446744073709551615 := by
  obtain ⟨xs, m, rfl, rfl, hl, hxl, hf⟩ := DataW.trod_struct Tryz.underlying27 h
  rw [cellsOp] at hl
  obtain ⟨c0, c1, c2, c3, c4, c5, c6, c7, c8, rfl⟩ : ∃ c0 c1 c2 c3 c4 c5 c6 c7 c8, cs = [c0, c1, c2, c3, c4, c5, c6, c7, c8] := nine hl
  obtain ⟨x0, x1, x2, x3, x4, x5, x6, x7, x8, rfl⟩ : ∃ x0 x1 x2 x3 x4 x5 x6 x7 x8, xs = [x0, x1, x2, x3, x4, x5, x6, x7, x8] := nine hxl
  have f0 : DataW.trod enc Tryz.prog W base spare held m 23 (([c0, c1, c2, c3, c4, c5, c6, c7, c8].drop 0).take (Tryz.prog.cellsOf 23)) = [x0, x1, x2, x3, x4, x5, x6, x7, x8][0]? := hf 0 _ rfl
  have f1 : DataW.trod enc Tryz.prog W base spare held m 3 (([c0, c1, c2, c3, c4, c5, c6, c7, c8].drop 1).take (Tryz.prog.cellsOf 3)) = [x0, x1, x2, x3, x4, x5, x6, x7, x8][1]? := hf 1 _ rfl
  have f2 : DataW.trod enc Tryz.prog W base spare held m 9 (([c0, c1, c2, c3, c4, c5, c6, c7, c8].drop 2).take (Tryz.prog.cellsOf 9)) = [x0, x1, x2, x3, x4, x5, x6, x7, x8][2]? := hf 2 _ rfl
  have f3 : DataW.trod enc Tryz.prog W base spare held m 9 (([c0, c1, c2, c3, c4, c5, c6, c7, c8].drop 3).take (Tryz.prog.cellsOf 9)) = [x0, x1, x2, x3, x4, x5, x6, x7, x8][3]? := hf 3 _ rfl
  have f4 : DataW.trod enc Tryz.prog W base spare held m 9 (([c0, c1, c2, c3, c4, c5, c6, c7, c8].drop 4).take (Tryz.prog.cellsOf 9)) = [x0, x1, x2, x3, x4, x5, x6, x7, x8][4]? := hf 4 _ rfl
  have f5 : DataW.trod enc Tryz.prog W base spare held m 3 (([c0, c1, c2, c3, c4, c5, c6, c7, c8].drop 5).take (Tryz.prog.cellsOf 3)) = [x0, x1, x2, x3, x4, x5, x6, x7, x8][5]? := hf 5 _ rfl
  have f6 : DataW.trod enc Tryz.prog W base spare held m 23 (([c0, c1, c2, c3, c4, c5, c6, c7, c8].drop 6).take (Tryz.prog.cellsOf 23)) = [x0, x1, x2, x3, x4, x5, x6, x7, x8][6]? := hf 6 _ rfl
  have f7 : DataW.trod enc Tryz.prog W base spare held m 24 (([c0, c1, c2, c3, c4, c5, c6, c7, c8].drop 7).take (Tryz.prog.cellsOf 24)) = [x0, x1, x2, x3, x4, x5, x6, x7, x8][7]? := hf 7 _ rfl
  have f8 : DataW.trod enc Tryz.prog W base spare held m 25 (([c0, c1, c2, c3, c4, c5, c6, c7, c8].drop 8).take (Tryz.prog.cellsOf 25)) = [x0, x1, x2, x3, x4, x5, x6, x7, x8][8]? := hf 8 _ rfl
  simp only [cellsInt, cellsStr, cellsU64, cellsInts, cellsBytes, List.drop_zero, List.drop_succ_cons, List.take_succ_cons, List.take_zero, List.getElem?_cons_zero, List.getElem?_cons_succ] at f0 f1 f2 f3 f4 f5 f6 f7 f8
  obtain ⟨n0, e0, rfl, w0⟩ := DataW.trod_int Tryz.underlying23 f0
  obtain ⟨n1, e1, rfl, w1⟩ := DataW.trod_int Tryz.underlying3 f1
  obtain ⟨s2, e2, rfl, z2⟩ := DataW.trod_string Tryz.underlying9 f2
  obtain ⟨s3, e3, rfl, z3⟩ := DataW.trod_string Tryz.underlying9 f3
  obtain ⟨s4, e4, rfl, z4⟩ := DataW.trod_string Tryz.underlying9 f4
  obtain ⟨n5, e5, rfl, w5⟩ := DataW.trod_int Tryz.underlying3 f5
  obtain ⟨n6, e6, rfl, w6⟩ := DataW.trod_int Tryz.underlying23 f6
  simp at e0 e1 e2 e3 e4 e5 e6
  subst e0 e1 e2 e3 e4 e5 e6
  have u0 := (wf_has w0).1
  have u6 := (wf_has w6).1
  obtain ⟨m0, rfl⟩ : ∃ k : Nat, n0 = k := ⟨n0.toNat, by have : (0 : Int) ≤ n0 := u0; omega⟩
  obtain ⟨m6, rfl⟩ : ∃ k : Nat, n6 = k := ⟨n6.toNat, by have : (0 : Int) ≤ n6 := u6; omega⟩
  obtain ⟨p7, len7, cap7, zs7, rfl, hc7, hz7, hr7, hw7, hx7⟩ := ints_in Tryz.underlying24 Tryz.underlying3 cellsInt f7
  obtain ⟨p8, len8, cap8, zs8, rfl, hc8, hz8, hr8, hw8, hx8⟩ := ints_in Tryz.underlying25 Tryz.underlying5 cellsU8 f8
  obtain ⟨bs, hb1, hb2⟩ := ints_bytes zs8 hw8
  have l7 := slice_small Tryz.underlying24 f7
  have l8 := slice_small Tryz.underlying25 f8
  have h8 : len8 = bs.length := by omega
  subst h8
  have h7 : len7 = zs7.length := by omega
  subst h7
  refine ⟨⟨⟨m0, n1, s2, s3, s4, n5, m6, zs7, bs⟩, p7, cap7, p8, cap8⟩, rfl, ⟨hr7, by rw [← hb2]; exact hr8, ?_⟩, ?_, by have h : (m0 : Int) ≤ 18446744073709551615 := (wf_has w0).2; show m0 ≤ _; omega⟩
  · exact ⟨z2, z3, z4, l7, l8⟩
  · have hs2 : s2.data.toList.length = s2.size := by simp
    have hs3 : s3.data.toList.length = s3.size := by simp
    have hs4 : s4.data.toList.length = s4.size := by simp
    have b7 : zs7.length ≤ Rows.uptoBulk x7.1 := by
      rcases hx7 with ⟨_, h0⟩ | ⟨es, rs, hx, hl⟩
      · omega
      · rw [hx]; have := len_le (es := es) (rs := rs); omega
    have b8 : bs.length ≤ Rows.uptoBulk x8.1 := by
      rcases hx8 with ⟨_, h0⟩ | ⟨es, rs, hx, hl⟩
      · omega
      · rw [hx]; have := len_le (es := es) (rs := rs); omega
    simp only [Rows.uptoBulk, List.map_cons, List.map_nil, Rows.uptoBulkAll, OM.bulk]
    omega
end
end Go.Proofs.YtdancegklkifaaaGreat
namespace Go.Proofs.YtdancegklkifaaaGreat
set_option linter.unusedSectionVars false
set_option linter.unusedSimpArgs false
set_option linter.unusedVariables false
open Go.X
open Go.X.G (Ord3 ord3_nat ord3_int ord3_str ltB sget sput sdel Srtd MapAt MapHole)

def bulks (l : List OW) : Nat := (l.map fun x => x.o.bulk).sum
theorem bulks_take {l : List OW} {i : Nat} {x : OW} (h : l[i]? = some x) : bulks (l.take (i + 1)) = bulks (l.take i) + x.o.bulk := by
  obtain ⟨h1, h2⟩ := List.getElem?_eq_some_iff.1 h
  unfold bulks
  rw [List.take_succ_eq_append_getElem h1, List.map_append, List.sum_append, h2]; simp
theorem bulks_le {l : List OW} (i : Nat) : bulks (l.take i) ≤ bulks l := by
  unfold bulks
  conv => rhs; rw [← List.take_append_drop i l, List.map_append, List.sum_append]
  omega

theorem few_spec (G : Assn) (lp : Option Addr) (ln lc : Nat) (l : List OW) (hl : Ops G lp ln lc l) (hb : bulks l ≤ 1048576) : FSpec Tryz.prog 6 [.slice lp ln lc] [G] (fun v B => ∃ b : Bool, (b = true → ln ≤ 400 ∧ bulks l ≤ 131072) ∧ v = .bool b ∧ B = [G]) := by
  have hlen := hl.len
  have hsml := hl.small
  refine FSpec.of Tryz.func6 rfl Tryz.ntmps6 rfl fun W0 F => ?_
  refine J.seq ?_
  refine J.region ?_
  refine J.q rfl rfl (Q.asg rfl) ?_
  refine J.nil ?_
  refine J.then_n ?_
  refine J.seq ?_
  refine J.region ?_
  refine J.q rfl rfl (Q.asg rfl) ?_
  refine J.nil ?_
  refine J.then_n ?_
  refine J.seq ?_
  refine J.seq ?_
  refine J.region ?_
  refine J.q rfl rfl (Q.asg rfl) ?_
  refine J.nil ?_
  refine J.then_n ?_
  refine J.block ?_
  refine J.loop (fun z : Nat × Int => z.1 ≤ ln ∧ 0 ≤ z.2 ∧ z.2 = bulks (l.take z.1)) (fun z => ln - z.1) (fun z => [(0, .slice lp ln lc), (3, .int .i64 z.2), (4, .int .i64 z.1)]) (fun _ => [G, F]) (0, 0) ⟨Nat.zero_le _, Int.le_refl _, by show (0 : Int) = ((bulks (l.take 0) : Nat) : Int); simp [bulks]⟩ ⟨rfl, rfl, rfl, trivial⟩ rfl fun z hz => ?_
  obtain ⟨i, n⟩ := z
  obtain ⟨hi, hn0, hn1⟩ := hz
  dsimp only at hi hn0 hn1
  refine J.seq ?_
  refine J.seq ?_
  refine J.region ?_
  refine J.q rfl rfl (Q.mv rfl) ?_
  refine J.q rfl rfl (Q.mv rfl) ?_
  refine J.q rfl rfl (Q.lenSl Tryz.runUnderlying22 rfl) ?_
  refine J.q rfl rfl (Q.lss rfl rfl) ?_
  refine J.nil ?_
  refine J.then_n ?_
  refine J.cases 8 rfl (fun hc8 => ?_) (fun hc8 => ?_)
  ·
   replace hc8 := X.nm hc8
   try (first | (cases hc8; done) | (exfalso; simp at hc8; done))
   all_goals
    refine J.cond_t rfl ?_
    refine J.cskip ?_
    refine J.then_n ?_
    refine J.seq ?_
    refine J.block ?_
    obtain ⟨b, off, hlp, hrd⟩ := hl.rd.some_ (by omega)
    obtain ⟨x, hx⟩ : ∃ x, l[i]? = some x := ⟨_, List.getElem?_eq_getElem (by omega)⟩
    have hbt := bulks_take hx
    have hbl := bulks_le (l := l) (i + 1)
    have hbk : x.o.bulk = x.o.bucket.size + x.o.key.size + x.o.after.size + x.o.parts.length + x.o.data.length := rfl
    refine J.slot 0 (.slice (some ⟨b, off, none⟩) ln lc) rfl (by rw [hlp]) ?_
    refine J.draw [36] Tryz.mixed (by kernel_rfl) fun hR => ?_
    refine RG.q 0 hR rfl rfl rfl rfl rfl rfl (Q.mv rfl) ?_
    refine RG.q 1 hR rfl rfl rfl rfl rfl rfl (Q.mv rfl) ?_
    refine RG.q 2 hR rfl rfl rfl rfl rfl rfl (Q.mv rfl) ?_
    refine RG.q 3 hR rfl rfl rfl rfl rfl rfl (Q.ia Tryz.runUnderlying22 Tryz.sizeOf27 rfl rfl (by omega) (by omega)) ?_
    refine RG.q 4 hR rfl rfl rfl rfl rfl rfl (Q.fa (n := 2) Tryz.runUnderlying27 rfl rfl Tryz.sizeOf9 rfl) ?_
    refine RG.q 5 hR rfl rfl rfl rfl rfl rfl (Q.ld Tryz.isAgg9 rfl (((rd_field OW.cells_length hrd hx (k := 2) (u := .string x.o.bucket) rfl rfl).within (i := 0) rfl).cast (by first | (simp; done) | (simp; omega)))) ?_
    refine RG.q 6 hR rfl rfl rfl rfl rfl rfl (Q.lenS Tryz.runUnderlying9 rfl) ?_
    refine RG.q 7 hR rfl rfl rfl rfl rfl rfl (Q.add64 rfl rfl (by omega)) ?_
    refine RG.q 8 hR rfl rfl rfl rfl rfl rfl (Q.mv rfl) ?_
    refine RG.q 9 hR rfl rfl rfl rfl rfl rfl (Q.mv rfl) ?_
    refine RG.q 10 hR rfl rfl rfl rfl rfl rfl (Q.ia Tryz.runUnderlying22 Tryz.sizeOf27 rfl rfl (by omega) (by omega)) ?_
    refine RG.q 11 hR rfl rfl rfl rfl rfl rfl (Q.fa (n := 3) Tryz.runUnderlying27 rfl rfl Tryz.sizeOf9 rfl) ?_
    refine RG.q 12 hR rfl rfl rfl rfl rfl rfl (Q.ld Tryz.isAgg9 rfl (((rd_field OW.cells_length hrd hx (k := 3) (u := .string x.o.key) rfl rfl).within (i := 0) rfl).cast (by first | (simp; done) | (simp; omega)))) ?_
    refine RG.q 13 hR rfl rfl rfl rfl rfl rfl (Q.lenS Tryz.runUnderlying9 rfl) ?_
    refine RG.q 14 hR rfl rfl rfl rfl rfl rfl (Q.add64 rfl rfl (by omega)) ?_
    refine RG.q 15 hR rfl rfl rfl rfl rfl rfl (Q.mv rfl) ?_
    refine RG.q 16 hR rfl rfl rfl rfl rfl rfl (Q.mv rfl) ?_
    refine RG.q 17 hR rfl rfl rfl rfl rfl rfl (Q.ia Tryz.runUnderlying22 Tryz.sizeOf27 rfl rfl (by omega) (by omega)) ?_
    refine RG.q 18 hR rfl rfl rfl rfl rfl rfl (Q.fa (n := 4) Tryz.runUnderlying27 rfl rfl Tryz.sizeOf9 rfl) ?_
    refine RG.q 19 hR rfl rfl rfl rfl rfl rfl (Q.ld Tryz.isAgg9 rfl (((rd_field OW.cells_length hrd hx (k := 4) (u := .string x.o.after) rfl rfl).within (i := 0) rfl).cast (by first | (simp; done) | (simp; omega)))) ?_
    refine RG.q 20 hR rfl rfl rfl rfl rfl rfl (Q.lenS Tryz.runUnderlying9 rfl) ?_
    refine RG.q 21 hR rfl rfl rfl rfl rfl rfl (Q.add64 rfl rfl (by omega)) ?_
    refine RG.q 22 hR rfl rfl rfl rfl rfl rfl (Q.mv rfl) ?_
    refine RG.q 23 hR rfl rfl rfl rfl rfl rfl (Q.mv rfl) ?_
    refine RG.q 24 hR rfl rfl rfl rfl rfl rfl (Q.ia Tryz.runUnderlying22 Tryz.sizeOf27 rfl rfl (by omega) (by omega)) ?_
    refine RG.q 25 hR rfl rfl rfl rfl rfl rfl (Q.fa (n := 7) Tryz.runUnderlying27 rfl rfl Tryz.sizeOf24 rfl) ?_
    refine RG.q 26 hR rfl rfl rfl rfl rfl rfl (Q.ld Tryz.isAgg24 rfl (((rd_field OW.cells_length hrd hx (k := 7) (u := .slice x.pp x.o.parts.length x.pc) rfl rfl).within (i := 0) rfl).cast (by first | (simp; done) | (simp; omega)))) ?_
    refine RG.q 27 hR rfl rfl rfl rfl rfl rfl (Q.lenSl Tryz.runUnderlying24 rfl) ?_
    refine RG.q 28 hR rfl rfl rfl rfl rfl rfl (Q.add64 rfl rfl (by omega)) ?_
    refine RG.q 29 hR rfl rfl rfl rfl rfl rfl (Q.mv rfl) ?_
    refine RG.q 30 hR rfl rfl rfl rfl rfl rfl (Q.mv rfl) ?_
    refine RG.q 31 hR rfl rfl rfl rfl rfl rfl (Q.ia Tryz.runUnderlying22 Tryz.sizeOf27 rfl rfl (by omega) (by omega)) ?_
    refine RG.q 32 hR rfl rfl rfl rfl rfl rfl (Q.fa (n := 8) Tryz.runUnderlying27 rfl rfl Tryz.sizeOf25 rfl) ?_
    refine RG.q 33 hR rfl rfl rfl rfl rfl rfl (Q.ld Tryz.isAgg25 rfl (((rd_field OW.cells_length hrd hx (k := 8) (u := .slice x.dp x.o.data.length x.dc) rfl rfl).within (i := 0) rfl).cast (by first | (simp; done) | (simp; omega)))) ?_
    refine RG.q 34 hR rfl rfl rfl rfl rfl rfl (Q.lenSl Tryz.runUnderlying25 rfl) ?_
    refine RG.q 35 hR rfl rfl rfl rfl rfl rfl (Q.add64 rfl rfl (by omega)) ?_
    refine RG.bar 36 hR rfl rfl rfl rfl rfl rfl (Q.asg rfl).toC ?_
    rintro _ _ ⟨rfl, rfl⟩
    refine RG.norm rfl ?_
    refine RG.fin hR rfl ?_
    refine J.norm rfl ?_
    refine J.blk_n ?_
    refine J.then_n ?_
    refine J.region ?_
    refine J.q rfl rfl (Q.mv rfl) ?_
    refine J.q rfl rfl (Q.add64 rfl rfl (by omega)) ?_
    refine J.q rfl rfl (Q.asg rfl) ?_
    refine J.nil ?_
    refine J.again (i + 1, n + x.o.bucket.size + x.o.key.size + x.o.after.size + x.o.parts.length + x.o.data.length) ⟨by show i + 1 ≤ ln; omega, by show 0 ≤ n + x.o.bucket.size + x.o.key.size + x.o.after.size + x.o.parts.length + x.o.data.length; omega, by show n + x.o.bucket.size + x.o.key.size + x.o.after.size + x.o.parts.length + x.o.data.length = ((bulks (l.take (i + 1)) : Nat) : Int); omega⟩ (by show ln - (i + 1) < ln - i; omega) ⟨(by show _ = some (Value.slice lp ln lc); rw [hlp]; rfl), rfl, rfl, trivial⟩ rfl
  replace hc8 := X.nm hc8
  try (first | (cases hc8; done) | (exfalso; simp at hc8; done))
  all_goals
   refine J.cond_f rfl ?_
   refine J.exit ?_
   refine J.then_x ?_
   refine J.lp_x ?_
   refine J.blk_x ?_
   refine J.then_n ?_
   refine J.seq ?_
   refine J.region ?_
   refine J.q rfl rfl (Q.mv rfl) ?_
   refine J.q rfl rfl (Q.lenSl Tryz.runUnderlying22 rfl) ?_
   refine J.q rfl rfl (Q.leq rfl rfl) ?_
   refine J.q rfl rfl (Q.mv rfl) ?_
   refine J.cases 50 rfl (fun hb50 => ?_) (fun hb50 => ?_)
   ·
    replace hb50 := X.nm hb50
    try (first | (cases hb50; done) | (exfalso; simp at hb50; done))
    all_goals
     refine J.q rfl rfl (Q.mv rfl) ?_
     refine J.q rfl rfl (Q.leq rfl rfl) ?_
     refine J.q rfl rfl (Q.pick_t rfl rfl) ?_
     refine J.q rfl rfl (Q.asg rfl) ?_
     refine J.nil ?_
     refine J.then_n ?_
     refine J.cret ?_
     have hil : i = ln := by omega
     have htk : l.take i = l := List.take_of_length_le (by omega)
     rw [htk] at hn1
     refine J.ret1 (B := [G]) rfl rfl ⟨_, ?_, rfl, rfl⟩ rfl
     intro hbt
     first
       | (simp at hbt; exact ⟨by omega, by omega⟩)
       | (simp at hbt; done)
   replace hb50 := X.nm hb50
   try (first | (cases hb50; done) | (exfalso; simp at hb50; done))
   all_goals
    refine J.skip rfl rfl ?_
    refine J.skip rfl rfl ?_
    refine J.q rfl rfl (Q.pick_f rfl rfl) ?_
    refine J.q rfl rfl (Q.asg rfl) ?_
    refine J.nil ?_
    refine J.then_n ?_
    refine J.cret ?_
    have hil : i = ln := by omega
    have htk : l.take i = l := List.take_of_length_le (by omega)
    rw [htk] at hn1
    refine J.ret1 (B := [G]) rfl rfl ⟨_, ?_, rfl, rfl⟩ rfl
    intro hbt
    first
      | (simp at hbt; exact ⟨by omega, by omega⟩)
      | (simp at hbt; done)
end Go.Proofs.YtdancegklkifaaaGreat
namespace Go.Proofs.YtdancegklkifaaaGreat
set_option linter.unusedSectionVars false
set_option linter.unusedSimpArgs false
set_option linter.unusedVariables false
open Go.X
open Go.X.G (Ord3 ord3_nat ord3_int ord3_str ltB sget sput sdel Srtd MapAt MapHole Ent Ents sget_put)

theorem same_own (x y : RW) (sx : x.r.keys.length ≤ 1099511627776 ∧ x.r.data.length ≤ 1099511627776) (sy : y.r.keys.length ≤ 1099511627776 ∧ y.r.data.length ≤ 1099511627776) :
    FSpec Tryz.prog 13 [.agg x.cells.toArray, .agg y.cells.toArray] [x.asn, y.asn] (fun v B => v = .bool (sameM x.r y.r) ∧ B = [x.asn, y.asn]) := by
  refine ⟨fun W0 w F s => ?_⟩
  obtain ⟨k1, h1, _⟩ := s.heap.at_ (i := 0) rfl
  obtain ⟨k2, h2, _⟩ := s.heap.at_ (i := 1) rfl
  have hx := asn_ok sx k1 h1
  have hy := asn_ok sy k2 h2
  refine ((same_spec (star [x.asn, y.asn]) x y ⟨hx.keys.into 0 rfl, hx.data.into 0 rfl, hx.small⟩ ⟨hy.keys.into 1 rfl, hy.data.into 1 rfl, hy.small⟩).call W0 w F ⟨s.os, s.tape, s.out, HSat.pack (As := [x.asn, y.asn]) (Bs := [F]) s.heap⟩).mono ?_
  rintro e w' ⟨v, B, rfl, ⟨rfl, rfl⟩, t⟩
  exact ⟨_, _, rfl, ⟨rfl, rfl⟩, ⟨t.os, t.tape, t.out, HSat.unpack (As := [x.asn, y.asn]) (Bs := [F]) t.heap⟩⟩


theorem flat_bound {α : Type} {f : α → List UInt8} {C : Nat} : ∀ (l : List α), (∀ x, x ∈ l → (f x).length ≤ C) → (l.flatMap f).length ≤ l.length * C
  | [], _ => by simp
  | x :: l, h => by
    have h1 := h x List.mem_cons_self
    have h2 := flat_bound l fun y hy => h y (List.mem_cons_of_mem _ hy)
    simp only [List.flatMap_cons, List.length_append, List.length_cons, Nat.add_mul]; omega
theorem encB_le {bs : List UInt8} {C : Nat} (h : bs.length ≤ C) (hC : C ≤ 18446744073709551615) : (encB bs).length ≤ C + 10 := by
  have := numB_len bs.length (by omega)
  unfold encB; rw [List.length_append]; omega
theorem bsz (b : ByteArray) : b.data.toList.length = b.size := by simp

theorem dump_len {k : Nat} {M : BM} (hM : M.ok k) (hK : M.kok) (hF : M.fit k 131072) (hk : k ≤ 500) : (dumpM M).length ≤ 35184372088832 := by
  have hl := hM.len
  have hkB : k * 131072 ≤ 65536000 := by omega
  have n1 := numB_len M.buckets.length (by omega)
  have n2 := numB_len M.uploads.length (by omega)
  have n3 := numB_len M.done.length (by omega)
  have b1 : (dBkts M.buckets).length ≤ M.buckets.length * (74 + (10 + 500 * 65538000)) := by
    refine flat_bound _ fun p hp => ?_
    have hg := sget_in ord3_str hM.bs hp
    have ho := hM.os _ _ hg
    have hob := hF.ob _ _ hg
    have e1 := encB_le (bs := p.1.data.toList) (C := 64) (by rw [bsz]; exact hob.1) (by omega)
    have e2 := numB_len p.2.length (by omega)
    have e3 : (dObjs p.2).length ≤ p.2.length * 65538000 := by
      refine flat_bound _ fun q hq => ?_
      have f1 := encB_le (bs := q.1.data.toList) (C := 1024) (by rw [bsz]; exact hK.ob _ _ hg q hq) (by omega)
      have f2 := encB_le (bs := q.2) (C := 65536000) (Nat.le_trans (hob.2 q hq) hkB) (by omega)
      rw [List.length_append]; omega
    have e4 : p.2.length * 65538000 ≤ 500 * 65538000 := Nat.mul_le_mul_right _ (by omega)
    rw [List.length_append, List.length_append]; omega
  have b2 : (dUps M.uploads).length ≤ M.uploads.length * (10 + 74 + 1034 + 10 + 500 * 131092) := by
    refine flat_bound _ fun p hp => ?_
    have hg := sget_in ord3_nat hM.us hp
    have hup := hF.up _ _ hg
    obtain ⟨q, hq⟩ := Option.isSome_iff_exists.1 (hM.ps _ _ hg).2.1
    have e0 := numB_len p.1 hup.1
    have e1 := encB_le (bs := p.2.bucket.data.toList) (C := 64) (by rw [bsz]; exact (hF.ob _ _ hq).1) (by omega)
    have e2 := encB_le (bs := p.2.key.data.toList) (C := 1024) (by rw [bsz]; exact hK.up _ _ hg) (by omega)
    have e3 := numB_len p.2.parts.length (by have := hup.2.1; omega)
    have e4 : (dParts p.2.parts).length ≤ p.2.parts.length * 131092 := by
      refine flat_bound _ fun q hq => ?_
      have f1 := numB_len (u64N q.1) (u64N_le _)
      have f2 := encB_le (bs := q.2) (C := 131072) (hup.2.2 q hq) (by omega)
      rw [List.length_append]; omega
    have e5 : p.2.parts.length * 131092 ≤ 500 * 131092 := Nat.mul_le_mul_right _ (by have := hup.2.1; omega)
    rw [List.length_append, List.length_append, List.length_append, List.length_append]; omega
  have b3 : (dDone M.done).length ≤ M.done.length * 30 := by
    refine flat_bound _ fun p hp => ?_
    have hg := sget_in ord3_nat hM.ds hp
    have hd := hF.dn _ _ hg
    have e0 := numB_len p.1 hd.1
    have e1 := numB_len (u64N p.2.status) (u64N_le _)
    have e2 := numB_len p.2.upload hd.2
    rw [List.length_append, List.length_append]; omega
  have c1 : M.buckets.length * (74 + (10 + 500 * 65538000)) ≤ 500 * (74 + (10 + 500 * 65538000)) := Nat.mul_le_mul_right _ (by omega)
  have c2 : M.uploads.length * (10 + 74 + 1034 + 10 + 500 * 131092) ≤ 500 * (10 + 74 + 1034 + 10 + 500 * 131092) := Nat.mul_le_mul_right _ (by omega)
  unfold dumpM dT1 dT2
  simp only [List.length_append]
  omega

theorem runs_kok {k : Nat} {M : BM} (hM : M.ok k) (h : M.kok) : ∀ l : List OM, (M.runs l).2.kok
  | [] => h
  | x :: l => runs_kok (run_ok hM x) (run_kok hM h x) l
theorem runs_fit {k B : Nat} {M : BM} (hM : M.ok k) (h : M.fit k B) : ∀ l : List OM, (∀ x, x ∈ l → x.data.length ≤ B ∧ x.id ≤ U64) → (M.runs l).2.fit (k + l.length) B
  | [], _ => h
  | x :: l, hl => by
    have h1 := hl x List.mem_cons_self
    have := runs_fit (run_ok hM x) (run_fit hM h h1.1 h1.2) l fun y hy => hl y (List.mem_cons_of_mem _ hy)
    simp only [BM.runs, List.length_cons]
    rw [show k + (l.length + 1) = k + 1 + l.length from by omega]; exact this

theorem run_all {k : Nat} (m : Nat) (M : BM) (hM : M.ok k) (hKok : M.kok) (G : Assn) (lp : Option Addr) (ln lc : Nat) (l : List OW) (hl : Ops G lp ln lc l) (hK : k + ln ≤ 32768) :
    FSpec Tryz.prog 8 [.pointer (some ⟨m, 0, none⟩), .slice lp ln lc] [BktAt m M, G] (fun v B => ∃ (rs : List RW) (p : Option Addr) (c : Nat), v = .slice p rs.length c ∧ rs.map (·.r) = (M.runs (l.map (·.o))).1 ∧
      B = [own 37 5 (.slice p rs.length c) (rs.flatMap RW.cells), star (rs.map RW.asn), BktAt m (M.runs (l.map (·.o))).2, G]) := by
  have hlen := hl.len
  have hsml := hl.small
  refine FSpec.of Tryz.func8 rfl Tryz.ntmps8 rfl fun W0 F => ?_
  refine J.seq ?_
  refine J.region ?_
  refine J.q rfl rfl (Q.asg rfl) ?_
  refine J.nil ?_
  refine J.then_n ?_
  refine J.seq ?_
  refine J.region ?_
  refine J.q rfl rfl (Q.asg rfl) ?_
  refine J.nil ?_
  refine J.then_n ?_
  refine J.seq ?_
  refine J.seq ?_
  refine J.region ?_
  refine J.q rfl rfl (Q.mv rfl) ?_
  refine J.q rfl rfl (Q.lenSl Tryz.runUnderlying22 rfl) ?_
  refine J.q rfl rfl (Q.mv rfl) ?_
  refine J.nil ?_
  refine J.then_n ?_
  refine J.block ?_
  refine J.give (own.nil 37 5 _) ?_
  refine J.give (X := star (([] : List RW).map RW.asn)) trivial ?_
  refine J.pick [1, 0, 2, 3, 4] rfl ?_
  refine J.loop (fun z : Nat × List RW × Option Addr × Nat => z.1 ≤ ln ∧ z.2.1.length = z.1 ∧ z.2.1.map (·.r) = (M.runs ((l.map (·.o)).take z.1)).1) (fun z => ln - z.1) (fun z => [(0, .pointer (some ⟨m, 0, none⟩)), (5, .slice z.2.2.1 z.2.1.length z.2.2.2), (8, .slice lp ln lc), (9, .int .i64 ln), (10, .int .i64 z.1)])
    (fun z => [own 37 5 (.slice z.2.2.1 z.2.1.length z.2.2.2) (z.2.1.flatMap RW.cells), star (z.2.1.map RW.asn), BktAt m (M.runs ((l.map (·.o)).take z.1)).2, G, F]) (0, [], none, 0) ⟨Nat.zero_le _, rfl, rfl⟩ ⟨rfl, rfl, rfl, rfl, rfl, trivial⟩ rfl fun z hz => ?_
  obtain ⟨j, rs, p, c⟩ := z
  obtain ⟨hj, hrl, hrs⟩ := hz
  dsimp only at hj hrl hrs
  refine J.seq ?_
  refine J.region ?_
  refine J.q rfl rfl (Q.lss rfl rfl) ?_
  refine J.nil ?_
  refine J.then_n ?_
  refine J.seq ?_
  refine J.cases 11 rfl (fun hc11 => ?_) (fun hc11 => ?_)
  ·
   replace hc11 := X.nm hc11
   refine J.cond_t rfl ?_
   refine J.cskip ?_
   refine J.then_n ?_
   refine J.seq ?_
   refine J.block ?_
   refine J.seq ?_
   obtain ⟨b, off, hlp, hrd⟩ := hl.rd.some_ (by omega)
   obtain ⟨x, hx⟩ : ∃ x, l[j]? = some x := ⟨_, List.getElem?_eq_getElem (by omega)⟩
   have hxm := List.mem_of_getElem? hx
   have hxo := hl.ok x hxm
   have hxt := runs_take M (l := l.map (·.o)) (k := j) (o := x.o) (by rw [List.getElem?_map, hx]; rfl)
   obtain ⟨Mj, hMj⟩ : ∃ Mj, Mj = (M.runs ((l.map (·.o)).take j)).2 := ⟨_, rfl⟩
   have hkj : Mj.kok := by rw [hMj]; exact runs_kok hM hKok _
   have hokj : Mj.ok (k + j) := by
     rw [hMj]
     have := runs_ok hM ((l.map (·.o)).take j)
     exact this.mono (by rw [List.length_take]; omega)
   show J _ _ _ [_, _, BktAt m (M.runs ((l.map (·.o)).take j)).2, _, _] _
   rw [← hMj] at hxt ⊢
   refine J.slot 8 (.slice (some ⟨b, off, none⟩) ln lc) rfl (by rw [hlp]) ?_
   refine J.region ?_
   refine J.q rfl rfl (Q.ia Tryz.runUnderlying22 Tryz.sizeOf27 rfl rfl (by omega) (by omega)) ?_
   refine J.q rfl rfl (Q.ldN (vs := [_, _, _, _, _, _, _, _, _]) Tryz.isAgg27 Tryz.sizeOf27 rfl ((rd_elem OW.cells_length hrd hx (by simp)).within (i := 3) rfl)) ?_
   refine J.c rfl rfl (C.alloc (l := [_, _, _, _, _, _, _, _, _]) Tryz.zeroValue27 rfl) ?_
   rintro _ _ ⟨b7, rfl, rfl⟩
   refine J.norm rfl ?_
   refine J.stAI (vs := [_, _, _, _, _, _, _, _, _]) rfl Tryz.sizeOf27 rfl rfl (by exact rfl) (by exact rfl) (by exact rfl) ?_
   refine J.nil ?_
   refine J.then_n ?_
   refine J.region ?_
   refine J.q rfl rfl (Q.mv rfl) ?_
   refine J.q rfl rfl (Q.mv rfl) ?_
   refine J.q rfl rfl (Q.ldN (vs := [_, _, _, _, _, _, _, _, _]) Tryz.isAgg27 Tryz.sizeOf27 rfl rnI) ?_
   refine J.call Tryz.call10 (do_all m Mj hokj hkj (by omega) x G hxo) [3, 4] rfl rfl rfl rfl ?_
   rintro _ _ ⟨y, rfl, hy, rfl⟩
   refine J.norm rfl ?_
   refine J.c rfl rfl (C.bslG (l := [_, _, _, _, _]) Tryz.runUnderlying32 Tryz.sizeOf37 Tryz.zeroValue37 (by decide) rfl rfl rfl rfl rfl) ?_
   rintro _ _ ⟨b18, rfl, rfl⟩
   refine J.norm rfl ?_
   refine J.conv (Y := own 37 5 (.slice (some ⟨b18, 0, none⟩) 1 1) y.cells) 0 rfl (own_of_block rfl) ?_
   refine J.slr1 0 rfl fun hs18 => ?_
   refine J.c rfl rfl (C.app (i := 5) Tryz.runUnderlying32 Tryz.runUnderlying32 Tryz.typeInfo37 Tryz.sizeOf37 Tryz.zeroValue37 rfl rfl rfl (hs18.within (i := 0) rfl) (by have := RW.cells_one (l := [y]); simpa using this) (by rw [show Tryz.t37.bytes = 72 from rfl]; show (rs.length + 1) * 72 ≤ _; omega) (by decide)) ?_
   rintro _ _ ⟨p19, c19, rfl, rfl⟩
   refine J.norm rfl ?_
   refine J.q rfl rfl (Q.asg rfl) ?_
   refine J.nil ?_
   refine J.blk_n ?_
   refine J.then_n ?_
   refine J.region ?_
   refine J.q rfl rfl (Q.add64 rfl rfl (by omega)) ?_
   refine J.q rfl rfl (Q.mv rfl) ?_
   refine J.nil ?_
   refine J.addone (f := RW.asn) (l := rs) 2 6 y rfl ?_
   have hfl : (rs ++ [y]).flatMap RW.cells = rs.flatMap RW.cells ++ y.cells := by simp
   refine J.keep [5, 0, 2, 3, 6] rfl ?_
   refine J.again (j + 1, rs ++ [y], p19, c19) ⟨by show j + 1 ≤ ln; omega, by show (rs ++ [y]).length = j + 1; simp [hrl], by show (rs ++ [y]).map (·.r) = (M.runs ((l.map (·.o)).take (j + 1))).1; rw [hxt, List.map_append, hrs, List.map_cons, hy]; rfl⟩ (by show ln - (j + 1) < ln - j; omega) ⟨rfl, (by show _ = some (Value.slice p19 (rs ++ [y]).length c19); rw [List.length_append]; rfl), (by show _ = some (Value.slice lp ln lc); rw [hlp]; rfl), rfl, rfl, trivial⟩ ?_
   show _ = [own 37 5 (.slice p19 (rs ++ [y]).length c19) ((rs ++ [y]).flatMap RW.cells), _, BktAt m (M.runs ((l.map (·.o)).take (j + 1))).2, _, _]
   rw [hxt, hfl, List.length_append]
   rfl
  replace hc11 := X.nm hc11
  refine J.cond_f rfl ?_
  refine J.exit ?_
  refine J.then_x ?_
  refine J.lp_x ?_
  refine J.blk_x ?_
  refine J.then_n ?_
  refine J.seq ?_
  refine J.region ?_
  refine J.q rfl rfl (Q.mv rfl) ?_
  refine J.q rfl rfl (Q.asg rfl) ?_
  refine J.nil ?_
  refine J.then_n ?_
  refine J.cret ?_
  have hjn : j = ln := by omega
  subst hjn
  have htk : (l.map (·.o)).take j = l.map (·.o) := List.take_of_length_le (by rw [List.length_map]; omega)
  rw [htk] at hrs
  refine J.ret1 (B := [own 37 5 (.slice p rs.length c) (rs.flatMap RW.cells), star (rs.map RW.asn), BktAt m (M.runs (l.map (·.o))).2, G]) rfl rfl ⟨rs, p, c, rfl, hrs, rfl⟩ ?_
  show [_, _, BktAt m (M.runs ((l.map (·.o)).take j)).2, _, _] = _
  rw [htk]; rfl

theorem le_sum : ∀ {l : List Nat} {x : Nat}, x ∈ l → x ≤ l.sum
  | [], _, h => by cases h
  | y :: l, x, h => by
    rw [List.sum_cons]
    rcases List.mem_cons.1 h with rfl | h
    · omega
    · have := le_sum h; omega

theorem run_idle {M : BM} {o : OM} (h : readsK o.kind = true ∨ o.chkB = false) : (M.run o).2 = M := by
  unfold BM.run
  split
  · rename_i hc
    rcases h with h | h
    · rw [if_pos h]
      unfold BM.act
      have hk : o.kind = 4 ∨ o.kind = 6 := by simpa [readsK] using h
      rcases hk with e | e
      · rw [if_neg (by omega), if_neg (by omega), if_neg (by omega), if_pos e]
        unfold BM.get; repeat' split
        all_goals rfl
      · rw [if_neg (by omega), if_neg (by omega), if_neg (by omega), if_neg (by omega), if_neg (by omega), if_pos e]
        unfold BM.list; split <;> rfl
    · rw [h] at hc; cases hc
  · rfl
theorem run_done {M : BM} {o : OM} (hc : o.chkB = true) (hr : readsK o.kind = false) : sget o.id (M.run o).2.done = some (M.run o).1 := by
  unfold BM.run
  rw [if_pos hc, if_neg (by rw [hr]; exact Bool.false_ne_true)]
  split
  · rename_i r h; exact h
  · show sget o.id (sput ltN o.id (M.act o).1 M.done) = _
    rw [sget_put ord3_nat, if_pos rfl]
theorem run_kept {M : BM} {o : OM} {r : RM} (hc : o.chkB = true) (hr : readsK o.kind = false) (h : sget o.id M.done = some r) : M.run o = (r, M) := by
  unfold BM.run
  rw [if_pos hc, if_neg (by rw [hr]; exact Bool.false_ne_true), h]

theorem OW.ok.into {G : Assn} {As : List Assn} {x : OW} (i : Nat) (h : x.ok G) (e : As[i]? = some G) : x.ok (star As) := ⟨h.parts.into i e, h.data.into i e, h.small⟩

theorem once_spec (G : Assn) (lp : Option Addr) (ln lc : Nat) (l : List OW) (hl : Ops G lp ln lc l) (hb : bulks l ≤ 1048576) (hid : ∀ x, x ∈ l → x.o.id ≤ 18446744073709551615) (x y : OW) (hx : x.ok G) (hy : y.ok G) (hxy : x.o.bulk + y.o.bulk ≤ 1048576) (hxi : x.o.id ≤ 18446744073709551615) :
    FSpec Tryz.prog 3 [.slice lp ln lc, .agg x.cells.toArray, .agg y.cells.toArray] [G] (fun v B => v = .bool true ∧ B = [G]) := by
  have hlen := hl.len
  refine FSpec.of Tryz.func3 rfl Tryz.ntmps3 rfl fun W0 F => ?_
  refine J.seq ?_
  refine J.region ?_
  refine J.c rfl rfl (C.box (l := [_, _, _, _, _, _, _, _, _]) rfl rfl) ?_
  rintro _ _ ⟨b4, rfl, rfl⟩
  refine J.norm rfl ?_
  refine J.c rfl rfl (C.box (l := [_, _, _, _, _, _, _, _, _]) rfl rfl) ?_
  rintro _ _ ⟨b5, rfl, rfl⟩
  refine J.norm rfl ?_
  refine J.q rfl rfl (Q.asg rfl) ?_
  refine J.nil ?_
  refine J.then_n ?_
  refine J.seq ?_
  refine J.seq ?_
  refine J.region ?_
  refine J.callI Tryz.call5 (known_spec) rfl rfl rfl ?_
  rintro _ _ ⟨rfl, rfl⟩
  refine J.norm rfl ?_
  refine J.q rfl rfl (Q.not rfl) ?_
  refine J.nil ?_
  refine J.then_n ?_
  refine J.cases 14 rfl (fun hc14 => ?_) (fun hc14 => ?_)
  ·
   cases hc14
  replace hc14 := X.nm hc14
  refine J.cond_f rfl ?_
  refine J.cskip ?_
  refine J.then_n ?_
  refine J.seq ?_
  refine J.seq ?_
  refine J.region ?_
  refine J.q rfl rfl (Q.mv rfl) ?_
  refine J.callI Tryz.call6 (few_spec G lp ln lc l hl hb) rfl rfl rfl ?_
  rintro _ _ ⟨few, hfew, rfl, rfl⟩
  refine J.norm rfl ?_
  refine J.q rfl rfl (Q.not rfl) ?_
  refine J.q rfl rfl (Q.mv rfl) ?_
  refine J.cases 18 rfl (fun hb18 => ?_) (fun hb18 => ?_)
  ·
   replace hb18 := X.nm hb18
   refine J.skip rfl rfl ?_
   refine J.skip rfl rfl ?_
   refine J.skip rfl rfl ?_
   refine J.skip rfl rfl ?_
   refine J.skip rfl rfl ?_
   refine J.q rfl rfl (Q.pick_t rfl rfl) ?_
   refine J.nil ?_
   refine J.then_n ?_
   refine J.cond_t rfl ?_
   refine J.seq ?_
   refine J.region ?_
   refine J.q rfl rfl (Q.asg rfl) ?_
   refine J.nil ?_
   refine J.then_n ?_
   refine J.cret ?_
   refine J.then_r ?_
   refine J.ret1I [G] rfl rfl ⟨rfl, rfl⟩
  replace hb18 := X.nm hb18
  refine J.q rfl rfl (Q.ldN (vs := [_, _, _, _, _, _, _, _, _]) Tryz.isAgg27 Tryz.sizeOf27 rfl rnI) ?_
  refine J.q rfl rfl (Q.ldN (vs := [_, _, _, _, _, _, _, _, _]) Tryz.isAgg27 Tryz.sizeOf27 rfl rnI) ?_
  refine J.c rfl rfl (C.bslG (l := [_, _, _, _, _, _, _, _, _, _, _, _, _, _, _, _, _, _]) Tryz.runUnderlying22 Tryz.sizeOf27 Tryz.zeroValue27 (by decide) rfl rfl rfl rfl rfl) ?_
  rintro _ _ ⟨b21, rfl, rfl⟩
  refine J.norm rfl ?_
  refine J.pickI [G] ?_
  refine J.norm rfl ?_
  refine J.pick [1, 0, 2, 3, 4] rfl ?_
  refine J.pack [0, 1] rfl ?_
  obtain ⟨G2, hG2⟩ : ∃ G2, G2 = star [pt b21 (.cells ([x, y].flatMap OW.cells).toArray 27 (0, 0)), G] := ⟨_, rfl⟩
  refine J.conv (Y := G2) 0 rfl (fun h hh => by rw [hG2]; exact hh) ?_
  have hl2 : Ops G2 (some ⟨b21, 0, none⟩) 2 2 [x, y] := by
    refine ⟨?_, ?_, by decide⟩
    · rw [hG2]; exact (SlR.pt (D := [pt b21 (.cells ([x, y].flatMap OW.cells).toArray 27 (0, 0))]) 0 rfl rfl (fun j u h => by rw [Nat.zero_add]; exact h)).into 0 rfl
    · intro q hq
      rw [hG2]
      simp only [List.mem_cons, List.not_mem_nil, or_false] at hq
      rcases hq with rfl | rfl
      · exact hx.into 1 rfl
      · exact hy.into 1 rfl
  refine J.callI Tryz.call6 (few_spec G2 (some ⟨b21, 0, none⟩) 2 2 [x, y] hl2 (by simp [bulks]; omega)) rfl rfl rfl ?_
  rintro _ _ ⟨few2, hfew2, rfl, rfl⟩
  refine J.norm rfl ?_
  refine J.convI G2 (star [pt b21 (.cells ([x, y].flatMap OW.cells).toArray 27 (0, 0)), G]) (fun h hh => by rw [← hG2]; exact hh) ?_
  refine J.unpack 0 rfl rfl ?_
  refine J.q rfl rfl (Q.not rfl) ?_
  refine J.q rfl rfl (Q.pick_f rfl rfl) ?_
  refine J.nil ?_
  refine J.then_n ?_
  refine J.cases 24 rfl (fun hc24 => ?_) (fun hc24 => ?_)
  ·
   replace hc24 := X.nm hc24
   refine J.cond_t rfl ?_
   refine J.seq ?_
   refine J.region ?_
   refine J.q rfl rfl (Q.asg rfl) ?_
   refine J.nil ?_
   refine J.then_n ?_
   refine J.cret ?_
   refine J.then_r ?_
   first
     | refine J.ret1I [G] rfl rfl ⟨rfl, rfl⟩
     | refine J.ret1I [G] rfl rfl ⟨by rw [hidle]; simp, rfl⟩
     | refine J.ret1I [G] rfl rfl ⟨by simp, rfl⟩
     | skip
  replace hc24 := X.nm hc24
  refine J.cond_f rfl ?_
  refine J.cskip ?_
  refine J.then_n ?_
  refine J.seq ?_
  have hf1 := hfew (by simpa using hb18)
  have hf2 := hfew2 (by simpa using hc24)
  have hbx : ∀ q, q ∈ l → q.o.data.length ≤ 131072 := fun q hq => by
    have h1 : q.o.bulk ≤ bulks l := by
      unfold bulks
      exact le_sum (List.mem_map.2 ⟨q, hq, rfl⟩)
    unfold OM.bulk at h1; omega
  have hxd : x.o.data.length ≤ 131072 := by
    have h1 : bulks [x, y] = x.o.bulk + y.o.bulk := by simp [bulks]
    have h2 : x.o.data.length ≤ x.o.bulk := by unfold OM.bulk; omega
    omega
  have hyd : y.o.data.length ≤ 131072 := by
    have h1 : bulks [x, y] = x.o.bulk + y.o.bulk := by simp [bulks]
    have h2 : y.o.data.length ≤ y.o.bulk := by unfold OM.bulk; omega
    omega
  refine J.sub [(0, .slice lp ln lc), (4, .pointer (some ⟨b4, 0, none⟩)), (5, .pointer (some ⟨b5, 0, none⟩))] ⟨rfl, rfl, rfl, trivial⟩ ?_
  refine J.keep [3, 2, 1, 4] rfl ?_
  refine J.same (B := [pt b4 (.cells x.cells.toArray 27 (0, 0)), pt b5 (.cells y.cells.toArray 27 (0, 0)), G, F]) rfl ?_
  refine J.region ?_
  refine J.callI Tryz.call7 (new_spec) rfl rfl rfl ?_
  rintro _ _ ⟨m, rfl, rfl⟩
  refine J.norm rfl ?_
  refine J.q rfl rfl (Q.asg rfl) ?_
  refine J.nil ?_
  refine J.then_n ?_
  refine J.seq ?_
  refine J.seq ?_
  refine J.region ?_
  refine J.q rfl rfl (Q.mv rfl) ?_
  refine J.q rfl rfl (Q.eqlp Tryz.runUnderlying30 rfl rfl) ?_
  refine J.nil ?_
  refine J.then_n ?_
  refine J.cases 27 rfl (fun hc27 => ?_) (fun hc27 => ?_)
  ·
   cases hc27
  replace hc27 := X.nm hc27
  refine J.cond_f rfl ?_
  refine J.cskip ?_
  refine J.then_n ?_
  refine J.seq ?_
  refine J.region ?_
  refine J.q rfl rfl (Q.mv rfl) ?_
  refine J.q rfl rfl (Q.mv rfl) ?_
  refine J.callI Tryz.call8 (run_all m ⟨[], [], []⟩ BM.ok.new kok_new G lp ln lc l hl (by omega)) rfl rfl rfl ?_
  rintro _ _ ⟨rs, p30, c30, rfl, hrs, rfl⟩
  refine J.norm rfl ?_
  obtain ⟨M1, hM1⟩ : ∃ M1, M1 = ((⟨[], [], []⟩ : BM).runs (l.map (·.o))).2 := ⟨_, rfl⟩
  have ok1 : M1.ok (0 + (l.map (·.o)).length) := by rw [hM1]; exact runs_ok BM.ok.new _
  have kok1 : M1.kok := by rw [hM1]; exact runs_kok BM.ok.new kok_new _
  have fit1 : M1.fit (0 + (l.map (·.o)).length) 131072 := by
    rw [hM1]
    refine runs_fit BM.ok.new (fit_new _) _ fun o ho => ?_
    obtain ⟨q, hq, rfl⟩ := List.mem_map.1 ho
    exact ⟨hbx q hq, hid q hq⟩
  rw [List.length_map, Nat.zero_add] at ok1 fit1
  rw [← hM1]
  refine J.nil ?_
  refine J.then_n ?_
  refine J.seq ?_
  refine J.keepI [BktAt m M1, pt b4 (.cells x.cells.toArray 27 (0, 0)), pt b5 (.cells y.cells.toArray 27 (0, 0)), G, F] ?_
  refine J.region ?_
  refine J.q rfl rfl (Q.mv rfl) ?_
  refine J.callI Tryz.call9 (dump_spec m M1 ok1 kok1 (by omega) fit1 (dump_len ok1 kok1 fit1 (by omega))) rfl rfl rfl ?_
  rintro _ _ ⟨p32, c32, rfl, rfl⟩
  refine J.norm rfl ?_
  obtain ⟨M2, hM2⟩ : ∃ M2, M2 = (M1.run x.o).2 := ⟨_, rfl⟩
  have ok2 : M2.ok (l.length + 1) := by rw [hM2]; exact run_ok ok1 _
  have kok2 : M2.kok := by rw [hM2]; exact run_kok ok1 kok1 _
  have fit2 : M2.fit (l.length + 1) 131072 := by rw [hM2]; exact run_fit ok1 fit1 hxd hxi
  have sm2 := run_small ok1 x.o
  refine J.q rfl rfl (Q.asg rfl) ?_
  refine J.nil ?_
  refine J.then_n ?_
  refine J.seq ?_
  refine J.region ?_
  refine J.q rfl rfl (Q.mv rfl) ?_
  refine J.q rfl rfl (Q.ldN (vs := [_, _, _, _, _, _, _, _, _]) Tryz.isAgg27 Tryz.sizeOf27 rfl rnI) ?_
  refine J.callI Tryz.call10 (do_all m M1 ok1 kok1 (by omega) x G hx) rfl rfl rfl ?_
  rintro _ _ ⟨ya, rfl, hya, rfl⟩
  refine J.norm rfl ?_
  rw [← hM2]
  refine J.c rfl rfl (C.alloc (l := [_, _, _, _, _]) Tryz.zeroValue37 rfl) ?_
  rintro _ _ ⟨b9, rfl, rfl⟩
  refine J.norm rfl ?_
  refine J.stAI (vs := [_, _, _, _, _]) rfl Tryz.sizeOf37 rfl rfl (by exact rfl) (by exact rfl) (by exact rfl) ?_
  refine J.nil ?_
  refine J.then_n ?_
  refine J.seq ?_
  refine J.region ?_
  refine J.q rfl rfl (Q.mv rfl) ?_
  refine J.callI Tryz.call9 (dump_spec m M2 ok2 kok2 (by omega) fit2 (dump_len ok2 kok2 fit2 (by omega))) rfl rfl rfl ?_
  rintro _ _ ⟨p37, c37, rfl, rfl⟩
  refine J.norm rfl ?_
  refine J.q rfl rfl (Q.asg rfl) ?_
  refine J.nil ?_
  refine J.then_n ?_
  refine J.seq ?_
  refine J.seq ?_
  refine J.slrI (E0 := 5) (sz := 1) (p := p37) (n := (dumpM M2).length) (c := c37) (xs := bytesV (dumpM M2)) fun hs37 => ?_
  refine J.region ?_
  refine J.q rfl rfl (Q.fa (n := 1) Tryz.runUnderlying27 rfl rfl Tryz.sizeOf3 rfl) ?_
  refine J.q rfl rfl (Q.ld Tryz.isAgg3 rfl (rdI (by exact rfl))) ?_
  refine J.callI Tryz.call11 (reads_spec x.o.kind) rfl rfl rfl ?_
  rintro _ _ ⟨rfl, rfl⟩
  refine J.norm rfl ?_
  refine J.q rfl rfl (Q.mv rfl) ?_
  refine J.cases 41 rfl (fun hb41 => ?_) (fun hb41 => ?_)
  ·
   replace hb41 := X.nm hb41
   refine J.skip rfl rfl ?_
   refine J.skip rfl rfl ?_
   refine J.skip rfl rfl ?_
   refine J.q rfl rfl (Q.pick_t rfl rfl) ?_
   refine J.nil ?_
   refine J.then_n ?_
   refine J.cond_t rfl ?_
   refine J.seq ?_
   have hidle : M2 = M1 := by
     rw [hM2]
     refine run_idle ?_
     first
       | (left; simpa [readsK] using hb41)
       | (right; cases hck : x.o.chkB with
          | true => rw [hck] at hc45; exact absurd rfl hc45
          | false => rfl)
   refine J.slrI (E0 := 5) (sz := 1) (p := p32) (n := (dumpM M1).length) (c := c32) (xs := bytesV (dumpM M1)) fun hs32 => ?_
   refine J.region ?_
   refine J.q rfl rfl (Q.mv rfl) ?_
   refine J.q rfl rfl (Q.b2s Tryz.runUnderlying25 Tryz.runUnderlying9 Tryz.runUnderlying5 rfl hs37.inI) ?_
   refine J.q rfl rfl (Q.mv rfl) ?_
   refine J.q rfl rfl (Q.b2s Tryz.runUnderlying25 Tryz.runUnderlying9 Tryz.runUnderlying5 rfl hs32.inI) ?_
   refine J.q rfl rfl (Q.eqls rfl rfl) ?_
   refine J.q rfl rfl (Q.asg rfl) ?_
   refine J.nil ?_
   refine J.then_n ?_
   refine J.cret ?_
   refine J.then_r ?_
   first
     | refine J.ret1I [G] rfl rfl ⟨rfl, rfl⟩
     | refine J.ret1I [G] rfl rfl ⟨by rw [hidle]; simp, rfl⟩
     | refine J.ret1I [G] rfl rfl ⟨by simp, rfl⟩
     | skip
  replace hb41 := X.nm hb41
  refine J.q rfl rfl (Q.ldN (vs := [_, _, _, _, _, _, _, _, _]) Tryz.isAgg27 Tryz.sizeOf27 rfl rnI) ?_
  refine J.callI Tryz.call12 (check_spec G x hx) rfl rfl rfl ?_
  rintro _ _ ⟨rfl, rfl⟩
  refine J.norm rfl ?_
  refine J.q rfl rfl (Q.neq rfl rfl) ?_
  refine J.q rfl rfl (Q.pick_f rfl rfl) ?_
  refine J.nil ?_
  refine J.then_n ?_
  refine J.cases 45 rfl (fun hc45 => ?_) (fun hc45 => ?_)
  ·
   replace hc45 := X.nm hc45
   refine J.cond_t rfl ?_
   refine J.seq ?_
   have hidle : M2 = M1 := by
     rw [hM2]
     refine run_idle ?_
     first
       | (left; simpa [readsK] using hb41)
       | (right; cases hck : x.o.chkB with
          | true => rw [hck] at hc45; exact absurd rfl hc45
          | false => rfl)
   refine J.slrI (E0 := 5) (sz := 1) (p := p32) (n := (dumpM M1).length) (c := c32) (xs := bytesV (dumpM M1)) fun hs32 => ?_
   refine J.region ?_
   refine J.q rfl rfl (Q.mv rfl) ?_
   refine J.q rfl rfl (Q.b2s Tryz.runUnderlying25 Tryz.runUnderlying9 Tryz.runUnderlying5 rfl hs37.inI) ?_
   refine J.q rfl rfl (Q.mv rfl) ?_
   refine J.q rfl rfl (Q.b2s Tryz.runUnderlying25 Tryz.runUnderlying9 Tryz.runUnderlying5 rfl hs32.inI) ?_
   refine J.q rfl rfl (Q.eqls rfl rfl) ?_
   refine J.q rfl rfl (Q.asg rfl) ?_
   refine J.nil ?_
   refine J.then_n ?_
   refine J.cret ?_
   refine J.then_r ?_
   first
     | refine J.ret1I [G] rfl rfl ⟨rfl, rfl⟩
     | refine J.ret1I [G] rfl rfl ⟨by rw [hidle]; simp, rfl⟩
     | refine J.ret1I [G] rfl rfl ⟨by simp, rfl⟩
     | skip
  replace hc45 := X.nm hc45
  refine J.cond_f rfl ?_
  refine J.cskip ?_
  refine J.then_n ?_
  refine J.seq ?_
  have hck : x.o.chkB = true := by
    cases hck : x.o.chkB with
    | true => rfl
    | false => rw [hck] at hc45; simp at hc45
  have hrd : readsK x.o.kind = false := by simpa [readsK] using hb41
  have hdn := run_done (M := M1) hck hrd
  rw [← hM2] at hdn
  have hx2 := run_kept hck hrd hdn
  refine J.sub [(4, .pointer (some ⟨b4, 0, none⟩)), (5, .pointer (some ⟨b5, 0, none⟩)), (7, .pointer (some ⟨m, 0, none⟩)), (9, .pointer (some ⟨b9, 0, none⟩)), (10, .slice p37 (dumpM M2).length c37)] ⟨rfl, rfl, rfl, rfl, rfl, trivial⟩ ?_
  refine J.region ?_
  refine J.q rfl rfl (Q.mv rfl) ?_
  refine J.q rfl rfl (Q.ldN (vs := [_, _, _, _, _, _, _, _, _]) Tryz.isAgg27 Tryz.sizeOf27 rfl rnI) ?_
  refine J.callI Tryz.call10 (do_all m M2 ok2 kok2 (by omega) x G hx) rfl rfl rfl ?_
  rintro _ _ ⟨yb, rfl, hyb, rfl⟩
  refine J.norm rfl ?_
  rw [hx2] at hyb
  rw [show (M2.run x.o).2 = M2 from by rw [hx2]]
  replace hyb : yb.r = (M1.run x.o).1 := hyb
  refine J.c rfl rfl (C.alloc (l := [_, _, _, _, _]) Tryz.zeroValue37 rfl) ?_
  rintro _ _ ⟨b11, rfl, rfl⟩
  refine J.norm rfl ?_
  refine J.stAI (vs := [_, _, _, _, _]) rfl Tryz.sizeOf37 rfl rfl (by exact rfl) (by exact rfl) (by exact rfl) ?_
  refine J.nil ?_
  refine J.then_n ?_
  refine J.seq ?_
  refine J.convI (pt b5 (.cells y.cells.toArray 27 (0, 0))) (pt b5 (.cells ([.int .u64 y.o.id, .int .i64 y.o.kind, .string y.o.bucket, .string y.o.key, .string y.o.after, .int .i64 y.o.n, .int .u64 y.o.upload, .slice y.pp y.o.parts.length y.pc, .slice y.dp y.o.data.length y.dc] : List Value).toArray 27 (0, 0))) (fun h hh => hh) ?_
  refine J.region ?_
  refine J.q rfl rfl (Q.fa (n := 0) Tryz.runUnderlying27 rfl rfl Tryz.sizeOf23 rfl) ?_
  refine J.q rfl rfl (Q.ld Tryz.isAgg23 rfl (rdI (by exact rfl))) ?_
  refine J.q rfl rfl (Q.fa (n := 0) Tryz.runUnderlying27 rfl rfl Tryz.sizeOf23 rfl) ?_
  refine J.stI rfl Tryz.sizeOf23 rfl rfl rfl (by exact rfl) (by exact rfl) (by exact rfl) ?_
  obtain ⟨y', hy'⟩ : ∃ y' : OW, y' = ⟨⟨x.o.id, y.o.kind, y.o.bucket, y.o.key, y.o.after, y.o.n, y.o.upload, y.o.parts, y.o.data⟩, y.pp, y.pc, y.dp, y.dc⟩ := ⟨_, rfl⟩
  have hyo : y'.ok G := by rw [hy']; exact ⟨hy.parts, hy.data, hy.small⟩
  have hyi : y'.o.id = x.o.id := by rw [hy']
  have hyk : y'.o.kind = y.o.kind := by rw [hy']
  refine J.conv (Y := pt b5 (.cells y'.cells.toArray 27 (0, 0))) 0 rfl (fun h hh => by rw [hy']; exact hh) ?_
  refine J.nil ?_
  refine J.then_n ?_
  refine J.cut (fun w : OW => w.ok G ∧ w.o.chkB = true ∧ readsK w.o.kind = false ∧ w.o.id = x.o.id) (fun _ => [(4, .pointer (some ⟨b4, 0, none⟩)), (5, .pointer (some ⟨b5, 0, none⟩)), (7, .pointer (some ⟨m, 0, none⟩)), (9, .pointer (some ⟨b9, 0, none⟩)), (10, .slice p37 (dumpM M2).length c37), (11, .pointer (some ⟨b11, 0, none⟩))]) (fun w => [pt b5 (.cells w.cells.toArray 27 (0, 0)), BktAt m M2, ya.asn, yb.asn, pt b9 (.cells ya.cells.toArray 37 (0, 0)), pt b11 (.cells yb.cells.toArray 37 (0, 0)), own 5 1 (.slice p37 (dumpM M2).length c37) (bytesV (dumpM M2)), G, F]) ?_ fun w hw => ?_
  ·
   refine J.seq ?_
   refine J.region ?_
   refine J.q rfl rfl (Q.fa (n := 1) Tryz.runUnderlying27 rfl rfl Tryz.sizeOf3 rfl) ?_
   refine J.q rfl rfl (Q.ld Tryz.isAgg3 rfl (Reads.pt 0 rfl rfl)) ?_
   refine J.callI Tryz.call11 (reads_spec y'.o.kind) rfl rfl rfl ?_
   rintro _ _ ⟨rfl, rfl⟩
   refine J.norm rfl ?_
   refine J.q rfl rfl (Q.mv rfl) ?_
   refine J.cases 60 rfl (fun hb60 => ?_) (fun hb60 => ?_)
   ·
    replace hb60 := X.nm hb60
    refine J.skip rfl rfl ?_
    refine J.skip rfl rfl ?_
    refine J.skip rfl rfl ?_
    refine J.q rfl rfl (Q.pick_t rfl rfl) ?_
    refine J.nil ?_
    refine J.then_n ?_
    refine J.cond_t rfl ?_
    refine J.region ?_
    refine J.q rfl rfl (Q.ldN (vs := [_, _, _, _, _, _, _, _, _]) Tryz.isAgg27 Tryz.sizeOf27 rfl rnI) ?_
    refine J.stAI (vs := [_, _, _, _, _, _, _, _, _]) rfl Tryz.sizeOf27 rfl rfl (by exact rfl) (by exact rfl) (by exact rfl) ?_
    refine J.nil ?_
    first
      | (have hyc : y'.o.chkB = true := by
           cases hyk2 : y'.o.chkB with
           | true => rfl
           | false => rw [hyk2] at hc64; simp at hc64
         refine J.meetI y' ⟨hyo, hyc, by simpa [readsK] using hb60, hyi⟩ ⟨rfl, rfl, rfl, rfl, rfl, rfl, trivial⟩)
      | (refine J.convI (pt b5 (.cells ([.int .u64 x.o.id, .int .i64 x.o.kind, .string x.o.bucket, .string x.o.key, .string x.o.after, .int .i64 x.o.n, .int .u64 x.o.upload, .slice x.pp x.o.parts.length x.pc, .slice x.dp x.o.data.length x.dc] : List Value).toArray 27 (0, 0))) (pt b5 (.cells x.cells.toArray 27 (0, 0))) (fun h hh => hh) ?_
         refine J.meetI x ⟨hx, hck, hrd, rfl⟩ ⟨rfl, rfl, rfl, rfl, rfl, rfl, trivial⟩)
   replace hb60 := X.nm hb60
   refine J.q rfl rfl (Q.ldN (vs := [_, _, _, _, _, _, _, _, _]) Tryz.isAgg27 Tryz.sizeOf27 rfl (ReadsN.pt 0 rfl)) ?_
   refine J.callI Tryz.call12 (check_spec G y' hyo) rfl rfl rfl ?_
   rintro _ _ ⟨rfl, rfl⟩
   refine J.norm rfl ?_
   refine J.q rfl rfl (Q.neq rfl rfl) ?_
   refine J.q rfl rfl (Q.pick_f rfl rfl) ?_
   refine J.nil ?_
   refine J.then_n ?_
   refine J.cases 64 rfl (fun hc64 => ?_) (fun hc64 => ?_)
   ·
    replace hc64 := X.nm hc64
    refine J.cond_t rfl ?_
    refine J.region ?_
    refine J.q rfl rfl (Q.ldN (vs := [_, _, _, _, _, _, _, _, _]) Tryz.isAgg27 Tryz.sizeOf27 rfl rnI) ?_
    refine J.stAI (vs := [_, _, _, _, _, _, _, _, _]) rfl Tryz.sizeOf27 rfl rfl (by exact rfl) (by exact rfl) (by exact rfl) ?_
    refine J.nil ?_
    first
      | (have hyc : y'.o.chkB = true := by
           cases hyk2 : y'.o.chkB with
           | true => rfl
           | false => rw [hyk2] at hc64; simp at hc64
         refine J.meetI y' ⟨hyo, hyc, by simpa [readsK] using hb60, hyi⟩ ⟨rfl, rfl, rfl, rfl, rfl, rfl, trivial⟩)
      | (refine J.convI (pt b5 (.cells ([.int .u64 x.o.id, .int .i64 x.o.kind, .string x.o.bucket, .string x.o.key, .string x.o.after, .int .i64 x.o.n, .int .u64 x.o.upload, .slice x.pp x.o.parts.length x.pc, .slice x.dp x.o.data.length x.dc] : List Value).toArray 27 (0, 0))) (pt b5 (.cells x.cells.toArray 27 (0, 0))) (fun h hh => hh) ?_
         refine J.meetI x ⟨hx, hck, hrd, rfl⟩ ⟨rfl, rfl, rfl, rfl, rfl, rfl, trivial⟩)
   replace hc64 := X.nm hc64
   refine J.cond_f rfl ?_
   refine J.cskip ?_
   first
     | (have hyc : y'.o.chkB = true := by
          cases hyk2 : y'.o.chkB with
          | true => rfl
          | false => rw [hyk2] at hc64; simp at hc64
        refine J.meetI y' ⟨hyo, hyc, by simpa [readsK] using hb60, hyi⟩ ⟨rfl, rfl, rfl, rfl, rfl, rfl, trivial⟩)
     | (refine J.convI (pt b5 (.cells ([.int .u64 x.o.id, .int .i64 x.o.kind, .string x.o.bucket, .string x.o.key, .string x.o.after, .int .i64 x.o.n, .int .u64 x.o.upload, .slice x.pp x.o.parts.length x.pc, .slice x.dp x.o.data.length x.dc] : List Value).toArray 27 (0, 0))) (pt b5 (.cells x.cells.toArray 27 (0, 0))) (fun h hh => hh) ?_
        refine J.meetI x ⟨hx, hck, hrd, rfl⟩ ⟨rfl, rfl, rfl, rfl, rfl, rfl, trivial⟩)
  obtain ⟨hwo, hwc, hwr, hwi⟩ := hw
  have hw2 := run_kept (M := M2) hwc hwr (by rw [hwi]; exact hdn)
  refine J.seq ?_
  refine J.region ?_
  refine J.q rfl rfl (Q.mv rfl) ?_
  refine J.q rfl rfl (Q.ldN (vs := [_, _, _, _, _, _, _, _, _]) Tryz.isAgg27 Tryz.sizeOf27 rfl rnI) ?_
  refine J.callI Tryz.call10 (do_all m M2 ok2 kok2 (by omega) w G hwo) rfl rfl rfl ?_
  rintro _ _ ⟨yc, rfl, hyc, rfl⟩
  refine J.norm rfl ?_
  rw [hw2] at hyc
  rw [show (M2.run w.o).2 = M2 from by rw [hw2]]
  replace hyc : yc.r = (M1.run x.o).1 := hyc
  have hab : sameM ya.r yb.r = true := (sameM_iff _ _).2 (by rw [hya, hyb])
  have hac : sameM ya.r yc.r = true := (sameM_iff _ _).2 (by rw [hya, hyc])
  have sma : ya.r.keys.length ≤ 1099511627776 ∧ ya.r.data.length ≤ 1099511627776 := by rw [hya]; omega
  have smb : yb.r.keys.length ≤ 1099511627776 ∧ yb.r.data.length ≤ 1099511627776 := by rw [hyb]; omega
  have smc : yc.r.keys.length ≤ 1099511627776 ∧ yc.r.data.length ≤ 1099511627776 := by rw [hyc]; omega
  refine J.c rfl rfl (C.alloc (l := [_, _, _, _, _]) Tryz.zeroValue37 rfl) ?_
  rintro _ _ ⟨b12, rfl, rfl⟩
  refine J.norm rfl ?_
  refine J.stAI (vs := [_, _, _, _, _]) rfl Tryz.sizeOf37 rfl rfl (by exact rfl) (by exact rfl) (by exact rfl) ?_
  refine J.nil ?_
  refine J.then_n ?_
  refine J.seq ?_
  refine J.draw [2, 6, 10, 16] Tryz.mixed (by kernel_rfl) fun hR => ?_
  refine RG.q 0 hR rfl rfl rfl rfl rfl rfl (Q.ldN (vs := [_, _, _, _, _]) Tryz.isAgg37 Tryz.sizeOf37 rfl rnI) ?_
  refine RG.q 1 hR rfl rfl rfl rfl rfl rfl (Q.ldN (vs := [_, _, _, _, _]) Tryz.isAgg37 Tryz.sizeOf37 rfl rnI) ?_
  refine RG.callI 2 hR rfl rfl rfl rfl rfl rfl Tryz.call13 (same_own ya yb sma smb) rfl ?_
  rintro _ _ ⟨rfl, rfl⟩
  refine RG.norm rfl ?_
  refine RG.q 3 hR rfl rfl rfl rfl rfl rfl (Q.mv rfl) ?_
  refine RG.cases 72 rfl (fun hb72 => ?_) (fun hb72 => ?_)
  ·
   replace hb72 := X.nm hb72
   refine RG.q 4 hR rfl rfl rfl rfl rfl rfl (Q.ldN (vs := [_, _, _, _, _]) Tryz.isAgg37 Tryz.sizeOf37 rfl rnI) ?_
   refine RG.q 5 hR rfl rfl rfl rfl rfl rfl (Q.ldN (vs := [_, _, _, _, _]) Tryz.isAgg37 Tryz.sizeOf37 rfl rnI) ?_
   refine RG.callI 6 hR rfl rfl rfl rfl rfl rfl Tryz.call13 (same_own ya yc sma smc) rfl ?_
   rintro _ _ ⟨rfl, rfl⟩
   refine RG.norm rfl ?_
   refine RG.q 7 hR rfl rfl rfl rfl rfl rfl (Q.pick_t rfl rfl) ?_
   refine RG.q 8 hR rfl rfl rfl rfl rfl rfl (Q.mv rfl) ?_
   refine RG.cases 77 rfl (fun hb77 => ?_) (fun hb77 => ?_)
   ·
    replace hb77 := X.nm hb77
    refine RG.q 9 hR rfl rfl rfl rfl rfl rfl (Q.mv rfl) ?_
    refine RG.q 12 hR rfl rfl rfl rfl rfl rfl (Q.mv rfl) ?_
    refine RG.q 13 hR rfl rfl rfl rfl rfl rfl (Q.b2s Tryz.runUnderlying25 Tryz.runUnderlying9 Tryz.runUnderlying5 rfl hs37.inI) ?_
    refine RG.callkR 10 hR rfl rfl rfl rfl rfl Tryz.call9 (dump_spec m M2 ok2 kok2 (by omega) fit2 (dump_len ok2 kok2 fit2 (by omega))) rfl ?_
    rintro _ _ ⟨p79, c79, rfl, rfl⟩
    refine ⟨_, inferInstance, ?_⟩
    refine RG.normE rfl ?_
    refine RG.slr1 (E0 := 5) (sz := 1) (p := p79) (n := (dumpM M2).length) (c := c79) (xs := bytesV (dumpM M2)) fun hs79 => ?_
    refine RG.hold ?_
    refine RG.norm rfl ?_
    refine RG.q 11 hR rfl rfl rfl rfl rfl rfl (Q.b2s Tryz.runUnderlying25 Tryz.runUnderlying9 Tryz.runUnderlying5 rfl hs79.inI) ?_
    refine RG.q 14 hR rfl rfl rfl rfl rfl rfl (Q.eqls rfl rfl) ?_
    refine RG.q 15 hR rfl rfl rfl rfl rfl rfl (Q.pick_t rfl rfl) ?_
    refine RG.bar 16 hR rfl rfl rfl rfl rfl rfl (Q.asg rfl).toC ?_
    rintro _ _ ⟨rfl, rfl⟩
    refine RG.norm rfl ?_
    refine RG.fin hR rfl ?_
    refine J.norm rfl ?_
    refine J.then_n ?_
    refine J.cret ?_
    first
      | refine J.ret1I [G] rfl rfl ⟨rfl, rfl⟩
      | refine J.ret1I [G] rfl rfl ⟨by rw [hidle]; simp, rfl⟩
      | refine J.ret1I [G] rfl rfl ⟨by simp, rfl⟩
      | skip
   exfalso; rw [hac] at hb77; cases hb77
  exfalso; rw [hab] at hb72; cases hb72
end Go.Proofs.YtdancegklkifaaaGreat
namespace Go.Proofs.YtdancegklkifaaaGreat
set_option linter.unusedSectionVars false
set_option linter.unusedSimpArgs false
set_option linter.unusedVariables false
open Go.RowKit
open Go.X

section
variable {H : Type} {enc : TypeId × Value → H} {W : World} {base : Nat} {spare : Nat → Bool} {held : Bool} {v : Value}
theorem ops_all : ∀ (es : List (DataW H × List MemPlace)) (css : List (List Value)), css.length = es.length → (∀ (i : Nat) cs, css[i]? = some cs → ∃ n, DataW.trod enc Tryz.prog W base spare held n 27 cs = es[i]?) →
    ∃ l : List OW, css = l.map OW.cells ∧ (∀ x, x ∈ l → x.ok (old W) ∧ x.o.id ≤ 18446744073709551615) ∧ bulks l ≤ Rows.uptoBulkAll (es.map (·.1))
  | [], css, h, _ => by
    obtain rfl : css = [] := List.eq_nil_of_length_eq_zero h
    exact ⟨[], rfl, by simp, by simp [bulks]⟩
  | e :: es, [], h, _ => by simp at h
  | e :: es, cs :: css, h, hg => by
    obtain ⟨n, h0⟩ := hg 0 cs rfl
    obtain ⟨y, rfl, hy, hb, hid⟩ := op_in (x := e) h0
    obtain ⟨l, rfl, hl, hbl⟩ := ops_all es css (by simpa using h) fun i c hc => hg (i + 1) c hc
    refine ⟨y :: l, rfl, fun x hx => ?_, ?_⟩
    · cases List.mem_cons.1 hx with
      | inl e => rw [e]; exact ⟨hy, hid⟩
      | inr e => exact hl x e
    · simp only [bulks, List.map_cons, List.sum_cons, Rows.uptoBulkAll] at hbl ⊢
      omega

theorem ops_in {d : DataW H} {ps : List MemPlace} {a0 : Option Addr} {ln lc : Nat} (h : DataW.Trod enc Tryz.prog W base spare held 22 (.slice a0 ln lc) d ps) (hb : Rows.uptoBulk d ≤ 1048576) : ∃ l, Ops (old W) a0 ln lc l ∧ bulks l ≤ Rows.uptoBulk d ∧ ∀ x, x ∈ l → x.o.id ≤ 18446744073709551615 := by
  obtain ⟨fuel, hf⟩ := h
  rcases elems_in (x := (d, ps)) Tryz.underlying22 cellsOp hf with ⟨e, _⟩ | ⟨a, len, cap, n, es, rs, css, e, hl, hx, hle, hcl, hcs⟩
  · cases e
    exact ⟨[], ⟨.inl ⟨none, 0, rfl, rfl⟩, by simp, by simp⟩, by simp [bulks], by simp⟩
  · cases e
    dsimp only at hx
    rw [hx] at hb
    simp only [Rows.uptoBulk] at hb
    have hbl := bulk_len (es.map (·.1))
    rw [List.length_map, hle] at hbl
    obtain ⟨l, rfl, hok, hbk⟩ := ops_all (enc := enc) (W := W) (base := base) (spare := spare) (held := held) es css (by omega) fun i cs hc => ⟨n, (hcs i cs hc).2.2⟩
    have hll : l.length = ln := by rw [← hcl, List.length_map]
    refine ⟨l, ⟨slr_old (by rw [flat_length OW.cells_length, hll]) ?_ (by omega), fun x hx => (hok x hx).1, by omega⟩, by rw [hx]; simp only [Rows.uptoBulk]; omega, fun x hx => (hok x hx).2⟩
    intro k u hu
    have hk : k < l.length * 9 := by
      have := (List.getElem?_eq_some_iff.1 hu).1
      rwa [flat_length OW.cells_length] at this
    obtain ⟨y, hy⟩ : ∃ y, l[k / 9]? = some y := ⟨_, List.getElem?_eq_getElem (by omega)⟩
    obtain ⟨u', hu'⟩ : ∃ u', y.cells[k % 9]? = some u' := ⟨_, List.getElem?_eq_getElem (by rw [OW.cells_length]; omega)⟩
    have hfl := flat_get OW.cells_length hy hu'
    rw [show k / 9 * 9 + k % 9 = k from by omega, hu] at hfl
    cases hfl
    obtain ⟨_, h2, _⟩ := hcs (k / 9) y.cells (by rw [List.getElem?_map, hy]; rfl)
    have := h2 _ u hu'
    rwa [show k / 9 * 9 + k % 9 = k from by omega] at this
end
end Go.Proofs.YtdancegklkifaaaGreat
namespace Go.Proofs.YtdancegklkifaaaGreat
set_option linter.unusedSectionVars false
set_option linter.unusedSimpArgs false
set_option linter.unusedVariables false
open Go.ChangeShapes Go.WideShapes Go.ChangeAt Go.RowKit
open Go.X

namespace bucketOnce
set_option linter.unusedVariables false
theorem own : ownKnob Tryz.prog.godebug = none := by kernel_rfl
theorem laidOut : laidOutB Tryz.prog = true := by kernel_rfl

theorem walk (a0 : Option Addr) (ln lc : Nat) (l : List OW) (x y : OW) (W : World) (w0 : Ops (old W) a0 ln lc l) (hb : bulks l ≤ 1048576) (hid : ∀ x, x ∈ l → x.o.id ≤ 18446744073709551615) (hx : x.ok (old W)) (hy : y.ok (old W)) (hxy : x.o.bulk + y.o.bulk ≤ 1048576) (hxi : x.o.id ≤ 18446744073709551615) :
    Calls Tryz.prog 3 #[.slice a0 ln lc, .agg x.cells.toArray, .agg y.cells.toArray] W fun e w' => e = .returned (.bool true) ∧ Below W.heap.size W w' := (once_spec (old W) a0 ln lc l w0 hb hid x y hx hy hxy hxi).lift

set_option maxRecDepth 100000 in
theorem lifted (os : Os) (started : os.Started) (H : Type) (enc : TypeId × Value → H) (F : Stop.Interp) :
    ReturnsInHanded {} Tryz.checked os 3 .any ((Rows.OpenSpec.upto Rows.bucketOnceSpec).pre6 enc Tryz.prog Tryz.f3 Rows.bucketOnceUptoRow.domain false) (((Rows.OpenSpec.upto Rows.bucketOnceSpec).at F).post enc Tryz.prog Tryz.f3 false true false false) := by
  refine returnsInHanded_of_cond (C := Tryz.checked) (s := Rows.OpenSpec.upto Rows.bucketOnceSpec) (k := Rows.uptoSmall) rfl own started (by kernel_rfl) Tryz.func3
    (OpenSpec.witness (enc := enc) (C := Tryz.checked) (s := Rows.OpenSpec.upto Rows.bucketOnceSpec) (k := Rows.uptoSmall) rfl false ⟨#[], #[.slice none 0 0, .agg #[.int .u64 0, .int .i64 0, .string ⟨#[]⟩, .string ⟨#[]⟩, .string ⟨#[]⟩, .int .i64 0, .int .u64 0, .slice none 0 0, .slice none 0 0], .agg #[.int .u64 0, .int .i64 0, .string ⟨#[]⟩, .string ⟨#[]⟩, .string ⟨#[]⟩, .int .i64 0, .int .u64 0, .slice none 0 0, .slice none 0 0]], []⟩ 8 (by kernel_rfl) (by kernel_rfl) (by kernel_rfl)
      (x := ([.nil, .agg [.lit (.int .u64 0), .lit (.int .i64 0), .lit (.string []), .lit (.string []), .lit (.string []), .lit (.int .i64 0), .lit (.int .u64 0), .nil, .nil], .agg [.lit (.int .u64 0), .lit (.int .i64 0), .lit (.string []), .lit (.string []), .lit (.string []), .lit (.int .i64 0), .lit (.int .u64 0), .nil, .nil]], [], [])) (by kernel_rfl) rfl (by kernel_rfl)) ?_
  intro W base args ds gs before hval0 hW hcnd hk _
  have hval : ∀ (j : Nat) t v, Tryz.f3.params[j]? = some t → args[j]? = some v → Value.okWide Tryz.prog W .any base t v := hval0
  have hW' := hW
  obtain ⟨p, q, hA0, hV, rfl, hfz, hnd⟩ := hW
  have hA : DataW.TrodAll enc Tryz.prog W 0 (fun _ => true) true Tryz.f3.params.toList args.toList ds p := hA0
  rw [Tryz.params3] at hA hval
  obtain ⟨v0, vs0, d0, ds0, p0, q0, hargs, rfl, rfl, h0, r0⟩ := trodAll_cons hA
  obtain ⟨v1, vs1, d1, ds1, p1, q1, rfl, rfl, rfl, h1, r1⟩ := trodAll_cons r0
  obtain ⟨v2, vs2, d2, ds2, p2, q2, rfl, rfl, rfl, h2, r2⟩ := trodAll_cons r1
  obtain ⟨rfl, rfl, rfl⟩ := trodAll_nil r2
  obtain rfl : args = #[v0, v1, v2] := by cases args; simp_all
  obtain ⟨rfl, rfl⟩ := trodVars_none hV
  have hbk := of_decide_eq_true hk
  simp only [List.append_nil, Rows.uptoBulkAll] at hbk
  have lt0 : ∀ x ∈ p0, x.block < W.heap.size := by obtain ⟨m, hm⟩ := h0; exact DataW.trod_lt m _ _ _ hm
  have lt1 : ∀ x ∈ p1, x.block < W.heap.size := by obtain ⟨m, hm⟩ := h1; exact DataW.trod_lt m _ _ _ hm
  have lt2 : ∀ x ∈ p2, x.block < W.heap.size := by obtain ⟨m, hm⟩ := h2; exact DataW.trod_lt m _ _ _ hm
  obtain ⟨a0, ln, lc, rfl⟩ := okWide_slice Tryz.underlying22 (hval 0 22 v0 rfl rfl)
  obtain ⟨cs1, rfl, hc1⟩ := okWide_struct Tryz.underlying27 (hval 1 27 v1 rfl rfl)
  obtain ⟨cs2, rfl, hc2⟩ := okWide_struct Tryz.underlying27 (hval 2 27 v2 rfl rfl)
  obtain ⟨l, w0, wb, wid⟩ := ops_in h0 (by omega)
  obtain ⟨x, hxc, hx, hxb, hxi⟩ : ∃ x : OW, cs1.toList = x.cells ∧ x.ok (old W) ∧ x.o.bulk ≤ Rows.uptoBulk d1 ∧ x.o.id ≤ 18446744073709551615 := by
    obtain ⟨m, hm⟩ := h1
    exact op_in hm
  obtain ⟨y, hyc, hy, hyb, hyi⟩ : ∃ y : OW, cs2.toList = y.cells ∧ y.ok (old W) ∧ y.o.bulk ≤ Rows.uptoBulk d2 ∧ y.o.id ≤ 18446744073709551615 := by
    obtain ⟨m, hm⟩ := h2
    exact op_in hm
  obtain rfl : cs1 = x.cells.toArray := by rw [← hxc]
  obtain rfl : cs2 = y.cells.toArray := by rw [← hyc]
  clear hA0 hval0
  refine (walk a0 ln lc l x y W w0 (by omega) wid hx hy (by omega) hxi).mono fun e W' ⟨he, bel⟩ => ?_
  subst he
  exact ⟨_, rfl, _, _, _, [], _, [], hW', trodAll_mk1 (shut_bool Tryz.underlying4 _), (trodAll_cons_mk (Below.trod laidOut (by kernel_rfl) (of_decide_eq_true (by kernel_rfl)) h0 bel lt0) (trodAll_cons_mk (Below.trod laidOut (by kernel_rfl) (of_decide_eq_true (by kernel_rfl)) h1 bel lt1) (trodAll_cons_mk (Below.trod laidOut (by kernel_rfl) (of_decide_eq_true (by kernel_rfl)) h2 bel lt2) trodAll_mk0))), rfl, bel.frame _, fun h => by cases h⟩

theorem over : Rows.bucketOnceUptoRow.holds Tryz.pinned (Rows.OpenSpec.upto Rows.bucketOnceSpec) :=
  OpenClaim.holds_of_cond 3 Tryz.f3 rfl rfl rfl rfl rfl rfl rfl ⟨rfl, rfl, rfl, rfl, rfl⟩ rfl rfl rfl rfl rfl (by kernel_rfl) Tryz.func3 (by kernel_rfl)
    (of_decide_eq_true (by kernel_rfl)) (by unfold Func.isWrapper; first | (rw [if_pos (by decide +kernel)]; kernel_rfl) | (rw [if_neg (by decide +kernel)]; exact ⟨rfl, rfl⟩))
    (fun os started H enc _ F => lifted os started H enc F)
end bucketOnce

theorem bucketOnce_holds : Rows.BucketOnceUptoSaid := bucketOnce.over
end Go.Proofs.YtdancegklkifaaaGreat
