/-
  What the proof of the last of these texts leans on: part 6 of 7.
-/
import Derived.ProofKit
import Derived.OpenShut
import Derived.ShutString
import Derived.ChangeOld
import Derived.Below
import Derived.WideShapes
import Derived.ChangeArms
import Derived.Test.YtdancegklkifaaaGreatTb5
namespace Go.Proofs.YtdancegklkifaaaGreat
set_option linter.unusedSectionVars false
set_option linter.unusedSimpArgs false
set_option linter.unusedVariables false
open Go.X
open Go.X.G (Ord3 ord3_nat ord3_int ord3_str ltB sget sput sdel Srtd MapAt MapHole Ent Ents)

def dObjs (o : Objs) : List UInt8 := o.flatMap fun p => encB p.1.data.toList ++ encB p.2
def dBkts (l : List (ByteArray × Objs)) : List UInt8 := l.flatMap fun p => encB p.1.data.toList ++ (numB p.2.length ++ dObjs p.2)
def dParts (l : Parts) : List UInt8 := l.flatMap fun p => numB (u64N p.1) ++ encB p.2
def dUps (l : List (Nat × UM)) : List UInt8 := l.flatMap fun p => numB p.1 ++ (encB p.2.bucket.data.toList ++ (encB p.2.key.data.toList ++ (numB p.2.parts.length ++ dParts p.2.parts)))
def dDone (l : List (Nat × RM)) : List UInt8 := l.flatMap fun p => numB p.1 ++ (numB (u64N p.2.status) ++ numB p.2.upload)
def dT2 (M : BM) : List UInt8 := numB M.done.length ++ dDone M.done
def dT1 (M : BM) : List UInt8 := numB M.uploads.length ++ (dUps M.uploads ++ dT2 M)
def dumpM (M : BM) : List UInt8 := numB M.buckets.length ++ (dBkts M.buckets ++ dT1 M)

theorem encB_len (bs : List UInt8) : bs.length ≤ (encB bs).length := by unfold encB; simp
theorem drop_at {α : Type} {l : List α} {i : Nat} {x : α} (h : l[i]? = some x) : l.drop i = x :: l.drop (i + 1) := by
  obtain ⟨h1, h2⟩ := List.getElem?_eq_some_iff.1 h
  rw [List.drop_eq_getElem_cons h1, h2]

theorem bytesO (p q : Option Addr) (c e b : Nat) (acc bs : List UInt8) (hn : bs.length ≤ 70368744100000) (ha : acc.length ≤ 70368744100000) :
    FSpec Tryz.prog 21 [.slice p acc.length c, .slice (some ⟨b, 0, none⟩) 1 1] [own 5 1 (.slice p acc.length c) (bytesV acc), pt b (.cells [.slice q bs.length e].toArray 25 (0, 0)), own 5 1 (.slice q bs.length e) (bytesV bs)]
    (fun u B => ∃ p' c', u = .slice p' (acc ++ encB bs).length c' ∧ B = [own 5 1 (.slice p' (acc ++ encB bs).length c') (bytesV (acc ++ encB bs)), own 5 1 (.slice q bs.length e) (bytesV bs)]) := by
  refine ⟨fun W0 w F s => ?_⟩
  obtain ⟨k, hk, _⟩ := s.heap.at_ (i := 2) rfl
  exact (bytes_spec _ q e bs (own.slr (i := 0) rfl ⟨k, X.G.HSat.one hk⟩) hn b p c acc ha).call W0 w F s

section
variable {k : Nat} (m : Nat) (M : BM) (hM : M.ok k) (hK : M.kok) (hk : k ≤ 32768) {B : Nat} (hF : M.fit k B) (hD : (dumpM M).length ≤ 70368744100000)
include hM hK hk hF hD
set_option maxHeartbeats 4000000 in
theorem dump_spec : FSpec Tryz.prog 9 [.pointer (some ⟨m, 0, none⟩)] [BktAt m M] (fun v B => ∃ p c, v = .slice p (dumpM M).length c ∧ B = [own 5 1 (.slice p (dumpM M).length c) (bytesV (dumpM M)), BktAt m M]) := by
  have hlen := hM.len
  refine FSpec.of Tryz.func9 rfl Tryz.ntmps9 rfl fun W0 F => ?_
  refine J.seq <| J.region <| J.p rfl (Q.asg rfl) <| J.nil <| J.then_n <| J.seq ?_
  refine J.open1 0 rfl (fun _ h => h) fun z => ?_
  refine J.norm rfl <| J.region <| J.m rfl <| J.p rfl (Q.nil_ rfl) <| J.p rfl (Q.fa (n := 0) Tryz.runUnderlying51 rfl rfl Tryz.sizeOf47 rfl) ?_
  refine J.p rfl (Q.ld Tryz.isAgg47 rfl (rdI (by exact rfl))) ?_
  refine J.p rfl (X.G.Q.lenAt (i := 1) Tryz.runUnderlying47 rfl rfl) ?_
  refine J.p rfl (Q.convU Tryz.runUnderlying3 Tryz.runUnderlying23 rfl (by omega)) ?_
  refine J.give (X := own 5 1 (.slice none ([] : List UInt8).length 0) (bytesV [])) (own.nil 5 1 _) ?_
  refine J.callI Tryz.call18 (number_spec none 0 [] M.buckets.length (by decide) (by omega)) rfl rfl rfl ?_
  rintro _ _ ⟨p22, c22, rfl, rfl⟩
  refine J.norm rfl ?_
  have a0 : ([] ++ numB M.buckets.length) ++ (dBkts M.buckets ++ dT1 M) = dumpM M := by rw [List.nil_append]; rfl
  refine J.p rfl (Q.asg rfl) <| J.nil <| J.then_n <| J.seq <| J.seq <| J.region <| J.m rfl <| J.p rfl (Q.nil_ rfl) <| J.p rfl (Q.fa (n := 0) Tryz.runUnderlying51 rfl rfl Tryz.sizeOf47 rfl) ?_
  refine J.p rfl (Q.ld Tryz.isAgg47 rfl (rdI (by exact rfl))) ?_
  refine J.callI Tryz.call20 (keysBk (some z.1)) rfl rfl rfl ?_
  rintro _ _ ⟨bk, rfl, rfl⟩
  refine J.norm rfl ?_
  refine J.callI Tryz.call19 (sortedBk bk z.1 M.buckets hM.bs (by omega)) rfl rfl rfl ?_
  rintro _ _ ⟨p28, c28, rfl, rfl⟩
  refine J.norm rfl ?_
  refine J.slr1 0 rfl fun hs28 => ?_
  refine J.shutI [pt m (.cells ([.map (some z.1), .map (some z.2.1), .map (some z.2.2)] : List Value).toArray 51 (0, 0)), MapAt Value.string bRep z.1 M.buckets, MapAt encU uRep z.2.1 M.uploads, MapAt encU dRep z.2.2 M.done] (BktAt m M) (fun h s => ⟨z, s⟩) ?_
  refine J.p rfl (Q.lenSl Tryz.runUnderlying35 rfl) <| J.m rfl <| J.nil <| J.then_n <| J.block ?_
  refine J.keepI [own 5 1 (.slice p22 ([] ++ numB M.buckets.length).length c22) (bytesV ([] ++ numB M.buckets.length)), BktAt m M, own 9 1 (.slice p28 M.buckets.length c28) ((M.buckets.map (·.1)).map Value.string), F] ?_
  refine J.loop4 (fun (i : Nat) (acc : List UInt8) (p : Option Addr) (c : Nat) => i ≤ M.buckets.length ∧ acc ++ (dBkts (M.buckets.drop i) ++ dT1 M) = dumpM M) (fun i _ _ _ => M.buckets.length - i) (fun i acc p c => [(0, .pointer (some ⟨m, 0, none⟩)), (3, .slice p acc.length c), (28, .slice p28 M.buckets.length c28), (29, .int .i64 M.buckets.length), (30, .int .i64 i)]) (fun i acc p c => [own 5 1 (.slice p acc.length c) (bytesV acc), BktAt m M, own 9 1 (.slice p28 M.buckets.length c28) ((M.buckets.map (·.1)).map Value.string), F]) 0 ([] ++ numB M.buckets.length) p22 c22 ⟨Nat.zero_le _, a0⟩ ⟨rfl, rfl, rfl, rfl, rfl, trivial⟩ (by rfl) fun i acc p c hz => ?_
  obtain ⟨hi, h0⟩ := hz
  refine J.seq <| J.region <| J.p rfl (Q.lss rfl rfl) <| J.nil <| J.then_n <| J.seq ?_
  refine J.cases 31 rfl (fun hc31 => ?_) (fun hc31 => ?_)
  ·
   replace hc31 := X.nm hc31
   try (first | (cases hc31; done) | (exfalso; simp at hc31; done))
   all_goals
    refine J.cond_t rfl <| J.cskip <| J.then_n <| J.seq <| J.block <| J.seq ?_
    obtain ⟨b28, o28, hp28, hr28⟩ := hs28.some_ (by omega)
    obtain ⟨⟨nm, objs⟩, hx⟩ : ∃ x, M.buckets[i]? = some x := ⟨_, List.getElem?_eq_getElem (by omega)⟩
    have hB : sget nm M.buckets = some objs := X.G.sget_of_mem (hM.bs.nodup ord3_str) (List.mem_of_getElem? hx)
    have hO := hM.os _ _ hB
    have hnm := (hF.ob _ _ hB).1
    have h1 : acc ++ (encB nm.data.toList ++ (numB objs.length ++ (dObjs objs ++ (dBkts (M.buckets.drop (i + 1)) ++ dT1 M)))) = dumpM M := by
      rw [← h0, drop_at hx]; simp [dBkts, List.append_assoc]
    have lh1 := congrArg List.length h1
    simp only [List.length_append] at lh1
    have hel := encB_len nm.data.toList
    refine J.slot 28 (.slice (some ⟨b28, o28, none⟩) M.buckets.length c28) rfl (by rw [hp28]) ?_
    refine J.region <| J.p rfl (Q.ia Tryz.runUnderlying35 Tryz.sizeOf9 rfl rfl (by omega) (by omega)) ?_
    refine J.p rfl (Q.ld Tryz.isAgg9 rfl (((hr28 i (.string nm) (by simp [hx])).within (i := 2) rfl).cast (by simp))) ?_
    refine J.p rfl (Q.asg rfl) <| J.nil <| J.then_n <| J.seq ?_
    refine J.open1 1 rfl (fun _ h => h) fun z => ?_
    refine J.norm rfl ?_
    refine J.mapFocus 1 hB rfl fun val => ?_
    refine J.norm rfl ?_
    refine J.open_ 0 rfl rfl (fun _ h => h) fun r hr => ?_
    subst hr
    refine J.norm rfl ?_
    refine J.pick [2, 1, 0, 3, 4, 5, 6, 7] rfl ?_
    refine J.drawE [2, 3, 4, 13, 14] 3 Tryz.mixed (by kernel_rfl) rfl rfl fun hR => ?_
    refine RG.p 0 hR rfl (Q.mv rfl) <| RG.p 1 hR rfl (Q.mv rfl) <| RG.p 5 hR rfl (Q.mv rfl) <| RG.p 6 hR rfl (Q.nil_ rfl) <| RG.p 7 hR rfl (Q.fa (n := 0) Tryz.runUnderlying51 rfl rfl Tryz.sizeOf47 rfl) ?_
    refine RG.p 8 hR rfl (Q.ld Tryz.isAgg47 rfl (rdI (by exact rfl))) ?_
    refine RG.p 9 hR rfl (Q.mv rfl) ?_
    refine RG.p 10 hR rfl (X.G.Q.lkYes (i := 1) Tryz.runUnderlying47 keyS Tryz.zeroValue57 rfl rfl rfl) ?_
    refine RG.made2 2 hR rfl rfl rfl rfl rfl (C.s2bL Tryz.runUnderlying9 Tryz.runUnderlying25 Tryz.runUnderlying5 rfl) ?_
    rintro b36 c36
    refine RG.made 3 hR rfl rfl rfl rfl rfl (C.bslG (l := [_]) Tryz.runUnderlying112 Tryz.sizeOf25 Tryz.zeroValue25 (by decide) rfl rfl rfl rfl rfl) ?_
    rintro b37
    refine RG.callkI 4 hR rfl rfl rfl rfl rfl Tryz.call21 (bytesO p (some ⟨b36, 0, none⟩) c c36 b37 acc nm.data.toList (by omega) (by omega)) rfl ?_
    rintro _ _ ⟨p38, c38, rfl, rfl⟩
    refine RG.normE rfl ?_
    refine RG.p 11 hR rfl (X.G.Q.lenAt (i := 2) Tryz.runUnderlying57 rfl rfl) ?_
    refine RG.p 12 hR rfl (Q.convU Tryz.runUnderlying3 Tryz.runUnderlying23 rfl (by omega)) ?_
    refine RG.callI 13 hR rfl rfl rfl rfl rfl rfl Tryz.call18 (number_spec p38 c38 (acc ++ encB nm.data.toList) objs.length (by rw [List.length_append]; omega) (by omega)) rfl ?_
    rintro _ _ ⟨p47, c47, rfl, rfl⟩
    refine RG.norm rfl ?_
    refine RG.bar 14 hR rfl rfl rfl rfl rfl rfl (Q.asg rfl).toC ?_
    rintro _ _ ⟨rfl, rfl⟩
    refine RG.norm rfl ?_
    refine RG.fin hR rfl ?_
    refine J.norm rfl <| J.then_n <| J.seq ?_
    refine J.shutI [MapAt Value.string datRep r objs] (bRep nm objs (.map (some r))) (fun h s => ⟨r, rfl, s⟩) ?_
    refine J.mapSameI (rep := bRep) (enc := Value.string) (r := z.1) (k := nm) (val := .map (some r)) ord3_str hM.bs hB ?_
    refine J.shutI [pt m (.cells ([.map (some z.1), .map (some z.2.1), .map (some z.2.2)] : List Value).toArray 51 (0, 0)), MapAt Value.string bRep z.1 M.buckets, MapAt encU uRep z.2.1 M.uploads, MapAt encU dRep z.2.2 M.done] (BktAt m M) (fun h s => ⟨z, s⟩) ?_
    refine J.region <| J.m rfl <| J.m rfl ?_
    refine J.callI Tryz.call22 (objects_spec m M hM hK hk nm) rfl rfl rfl ?_
    rintro _ _ ⟨p50, c50, rfl, rfl⟩
    refine J.norm rfl ?_
    have hkm : keysM M nm = objs.map (·.1) := by unfold keysM; rw [hB]
    rw [hkm, List.length_map]
    refine J.slr1 0 rfl fun hs50 => ?_
    refine J.p rfl (Q.lenSl Tryz.runUnderlying35 rfl) <| J.m rfl <| J.nil <| J.then_n <| J.block ?_
    obtain ⟨acc1, ha1⟩ : ∃ acc1, acc1 = acc ++ encB nm.data.toList ++ numB objs.length := ⟨_, rfl⟩
    have h2 : acc1 ++ (dObjs objs ++ (dBkts (M.buckets.drop (i + 1)) ++ dT1 M)) = dumpM M := by rw [ha1, ← h1]; simp [List.append_assoc]
    rw [← ha1]
    refine J.sub [(0, .pointer (some ⟨m, 0, none⟩)), (3, .slice p47 acc1.length c47), (5, .string nm), (28, .slice p28 M.buckets.length c28), (29, .int .i64 M.buckets.length), (30, .int .i64 i), (50, .slice p50 objs.length c50), (51, .int .i64 objs.length), (52, .int .i64 0)] ⟨rfl, rfl, rfl, (by show _ = some (Value.slice p28 _ _); rw [hp28]; rfl), rfl, rfl, rfl, rfl, rfl, trivial⟩ ?_
    refine J.keepI [own 5 1 (.slice p47 acc1.length c47) (bytesV acc1), BktAt m M, own 9 1 (.slice p28 M.buckets.length c28) ((M.buckets.map (·.1)).map Value.string), own 9 1 (.slice p50 objs.length c50) ((objs.map (·.1)).map Value.string), F] ?_
    refine J.loop4 (fun (j : Nat) (acc : List UInt8) (p : Option Addr) (c : Nat) => j ≤ objs.length ∧ acc ++ (dObjs (objs.drop j) ++ (dBkts (M.buckets.drop (i + 1)) ++ dT1 M)) = dumpM M) (fun j _ _ _ => objs.length - j) (fun j acc p c => [(0, .pointer (some ⟨m, 0, none⟩)), (3, .slice p acc.length c), (5, .string nm), (28, .slice p28 M.buckets.length c28), (29, .int .i64 M.buckets.length), (30, .int .i64 i), (50, .slice p50 objs.length c50), (51, .int .i64 objs.length), (52, .int .i64 j)]) (fun j acc p c => [own 5 1 (.slice p acc.length c) (bytesV acc), BktAt m M, own 9 1 (.slice p28 M.buckets.length c28) ((M.buckets.map (·.1)).map Value.string), own 9 1 (.slice p50 objs.length c50) ((objs.map (·.1)).map Value.string), F]) 0 acc1 p47 c47 ⟨Nat.zero_le _, h2⟩ ⟨rfl, rfl, rfl, rfl, rfl, rfl, rfl, rfl, rfl, trivial⟩ rfl fun j acc' p' c' hz => ?_
    obtain ⟨hj, g0⟩ := hz
    refine J.seq <| J.region <| J.p rfl (Q.lss rfl rfl) <| J.nil <| J.then_n <| J.seq ?_
    refine J.cases 53 rfl (fun hc53 => ?_) (fun hc53 => ?_)
    ·
     replace hc53 := X.nm hc53
     try (first | (cases hc53; done) | (exfalso; simp at hc53; done))
     all_goals
      refine J.cond_t rfl <| J.cskip <| J.then_n <| J.seq <| J.block <| J.seq ?_
      obtain ⟨b50, o50, hp50, hr50⟩ := hs50.some_ (by omega)
      obtain ⟨⟨kk, dd⟩, hy⟩ : ∃ y, objs[j]? = some y := ⟨_, List.getElem?_eq_getElem (by omega)⟩
      have hKk : sget kk objs = some dd := X.G.sget_of_mem (hO.1.nodup ord3_str) (List.mem_of_getElem? hy)
      have g1 : acc' ++ (encB kk.data.toList ++ (encB dd ++ (dObjs (objs.drop (j + 1)) ++ (dBkts (M.buckets.drop (i + 1)) ++ dT1 M)))) = dumpM M := by
        rw [← g0, drop_at hy]; simp [dObjs, List.append_assoc]
      have lg1 := congrArg List.length g1
      simp only [List.length_append] at lg1
      have hek := encB_len kk.data.toList
      have hed := encB_len dd
      refine J.slot 50 (.slice (some ⟨b50, o50, none⟩) objs.length c50) rfl (by rw [hp50]) ?_
      refine J.region <| J.p rfl (Q.ia Tryz.runUnderlying35 Tryz.sizeOf9 rfl rfl (by omega) (by omega)) ?_
      refine J.p rfl (Q.ld Tryz.isAgg9 rfl (((hr50 j (.string kk) (by simp [hy])).within (i := 3) rfl).cast (by simp))) ?_
      refine J.p rfl (Q.asg rfl) <| J.nil <| J.then_n ?_
      refine J.open1 1 rfl (fun _ h => h) fun z => ?_
      refine J.norm rfl ?_
      refine J.mapFocus 1 hB rfl fun val => ?_
      refine J.norm rfl ?_
      refine J.open_ 0 rfl rfl (fun _ h => h) fun r hr => ?_
      subst hr
      refine J.norm rfl ?_
      refine J.mapFocus 0 hKk rfl fun val => ?_
      refine J.norm rfl ?_
      refine J.open_ 0 rfl rfl (fun _ h => h) fun y hyv => ?_
      subst hyv
      refine J.norm rfl ?_
      refine J.pick [3, 2, 1, 0, 4, 5, 6, 7, 8, 9] rfl ?_
      refine J.drawE [2, 3, 4, 13, 14, 15] 3 Tryz.mixed (by kernel_rfl) rfl rfl fun hR => ?_
      refine RG.p 0 hR rfl (Q.mv rfl) <| RG.p 1 hR rfl (Q.mv rfl) <| RG.p 5 hR rfl (Q.mv rfl) <| RG.p 6 hR rfl (Q.nil_ rfl) <| RG.p 7 hR rfl (Q.fa (n := 0) Tryz.runUnderlying51 rfl rfl Tryz.sizeOf47 rfl) ?_
      refine RG.p 8 hR rfl (Q.ld Tryz.isAgg47 rfl (rdI (by exact rfl))) ?_
      refine RG.p 9 hR rfl (Q.mv rfl) ?_
      refine RG.p 10 hR rfl (X.G.Q.lkYes (i := 1) Tryz.runUnderlying47 keyS Tryz.zeroValue57 rfl rfl rfl) ?_
      refine RG.p 11 hR rfl (Q.mv rfl) ?_
      refine RG.p 12 hR rfl (X.G.Q.lkYes (i := 2) Tryz.runUnderlying57 keyS Tryz.zeroValue25 rfl rfl rfl) ?_
      refine RG.many hR 2 [13] rfl ⟨?_, ⟨?_, trivial⟩⟩
      ·
       refine RGi.made2 rfl rfl rfl rfl (C.s2bL Tryz.runUnderlying9 Tryz.runUnderlying25 Tryz.runUnderlying5 rfl) ?_
       rintro b58 c58
       refine RG.many hR 3 [13] rfl ⟨?_, ⟨?_, trivial⟩⟩
       ·
        refine RGi.made rfl rfl rfl rfl (C.bslG (l := [_]) Tryz.runUnderlying112 Tryz.sizeOf25 Tryz.zeroValue25 (by decide) rfl rfl rfl rfl rfl) ?_
        rintro b59
        refine RG.many hR 4 [13] rfl ⟨?_, ⟨?_, trivial⟩⟩
        ·
         refine RGi.callkI rfl rfl rfl rfl Tryz.call21 (bytesO p' (some ⟨b58, 0, none⟩) c' c58 b59 acc' kk.data.toList (by omega) (by omega)) rfl ?_
         rintro _ _ ⟨p60, c60, rfl, rfl⟩
         refine RG.normE rfl ?_
         refine RG.made 13 hR rfl rfl rfl rfl rfl (C.bslG (l := [_]) Tryz.runUnderlying112 Tryz.sizeOf25 Tryz.zeroValue25 (by decide) rfl rfl rfl rfl rfl) ?_
         rintro b69
         refine RG.callI 14 hR rfl rfl rfl rfl rfl rfl Tryz.call21 (bytesO p60 y.1 c60 y.2 b69 (acc' ++ encB kk.data.toList) dd (by omega) (by rw [List.length_append]; omega)) rfl ?_
         rintro _ _ ⟨p70, c70, rfl, rfl⟩
         refine RG.norm rfl ?_
         refine RG.bar 15 hR rfl rfl rfl rfl rfl rfl (Q.asg rfl).toC ?_
         rintro _ _ ⟨rfl, rfl⟩
         refine RG.norm rfl ?_
         refine RG.fin hR rfl ?_
         refine J.norm rfl <| J.blk_n <| J.then_n <| J.region <| J.p rfl (Q.add64 rfl rfl (by omega)) <| J.m rfl <| J.nil ?_
         refine J.shutI [own 5 1 (.slice y.1 dd.length y.2) (bytesV dd)] (datRep kk dd (.slice y.1 dd.length y.2)) (fun h s => ⟨y, rfl, s⟩) ?_
         refine J.mapSameI (rep := datRep) (enc := Value.string) (r := r) (k := kk) (val := .slice y.1 dd.length y.2) ord3_str hO.1 hKk ?_
         refine J.shutI [MapAt Value.string datRep r objs] (bRep nm objs (.map (some r))) (fun h s => ⟨r, rfl, s⟩) ?_
         refine J.mapSameI (rep := bRep) (enc := Value.string) (r := z.1) (k := nm) (val := .map (some r)) ord3_str hM.bs hB ?_
         refine J.shutI [pt m (.cells ([.map (some z.1), .map (some z.2.1), .map (some z.2.2)] : List Value).toArray 51 (0, 0)), MapAt Value.string bRep z.1 M.buckets, MapAt encU uRep z.2.1 M.uploads, MapAt encU dRep z.2.2 M.done] (BktAt m M) (fun h s => ⟨z, s⟩) ?_
         refine J.againI (j + 1, acc' ++ encB kk.data.toList ++ encB dd, p70, c70) ⟨by show j + 1 ≤ objs.length; omega, by rw [← g1]; simp [List.append_assoc]⟩ (by show objs.length - (j + 1) < objs.length - j; omega) ⟨rfl, rfl, rfl, rfl, rfl, rfl, (by show _ = some (Value.slice p50 _ _); rw [hp50]; rfl), rfl, rfl, trivial⟩
        ·
         refine RGi.made rfl rfl rfl rfl (C.bslG (l := [_]) Tryz.runUnderlying112 Tryz.sizeOf25 Tryz.zeroValue25 (by decide) rfl rfl rfl rfl rfl) ?_
         rintro b69
         refine RG.callkI 4 hR rfl rfl rfl rfl rfl Tryz.call21 (bytesO p' (some ⟨b58, 0, none⟩) c' c58 b59 acc' kk.data.toList (by omega) (by omega)) rfl ?_
         rintro _ _ ⟨p60, c60, rfl, rfl⟩
         refine RG.normE rfl ?_
         refine RG.callI 14 hR rfl rfl rfl rfl rfl rfl Tryz.call21 (bytesO p60 y.1 c60 y.2 b69 (acc' ++ encB kk.data.toList) dd (by omega) (by rw [List.length_append]; omega)) rfl ?_
         rintro _ _ ⟨p70, c70, rfl, rfl⟩
         refine RG.norm rfl ?_
         refine RG.bar 15 hR rfl rfl rfl rfl rfl rfl (Q.asg rfl).toC ?_
         rintro _ _ ⟨rfl, rfl⟩
         refine RG.norm rfl ?_
         refine RG.fin hR rfl ?_
         refine J.norm rfl <| J.blk_n <| J.then_n <| J.region <| J.p rfl (Q.add64 rfl rfl (by omega)) <| J.m rfl <| J.nil ?_
         refine J.shutI [own 5 1 (.slice y.1 dd.length y.2) (bytesV dd)] (datRep kk dd (.slice y.1 dd.length y.2)) (fun h s => ⟨y, rfl, s⟩) ?_
         refine J.mapSameI (rep := datRep) (enc := Value.string) (r := r) (k := kk) (val := .slice y.1 dd.length y.2) ord3_str hO.1 hKk ?_
         refine J.shutI [MapAt Value.string datRep r objs] (bRep nm objs (.map (some r))) (fun h s => ⟨r, rfl, s⟩) ?_
         refine J.mapSameI (rep := bRep) (enc := Value.string) (r := z.1) (k := nm) (val := .map (some r)) ord3_str hM.bs hB ?_
         refine J.shutI [pt m (.cells ([.map (some z.1), .map (some z.2.1), .map (some z.2.2)] : List Value).toArray 51 (0, 0)), MapAt Value.string bRep z.1 M.buckets, MapAt encU uRep z.2.1 M.uploads, MapAt encU dRep z.2.2 M.done] (BktAt m M) (fun h s => ⟨z, s⟩) ?_
         refine J.againI (j + 1, acc' ++ encB kk.data.toList ++ encB dd, p70, c70) ⟨by show j + 1 ≤ objs.length; omega, by rw [← g1]; simp [List.append_assoc]⟩ (by show objs.length - (j + 1) < objs.length - j; omega) ⟨rfl, rfl, rfl, rfl, rfl, rfl, (by show _ = some (Value.slice p50 _ _); rw [hp50]; rfl), rfl, rfl, trivial⟩
       ·
        refine RGi.made rfl rfl rfl rfl (C.bslG (l := [_]) Tryz.runUnderlying112 Tryz.sizeOf25 Tryz.zeroValue25 (by decide) rfl rfl rfl rfl rfl) ?_
        rintro b69
        refine RG.made 3 hR rfl rfl rfl rfl rfl (C.bslG (l := [_]) Tryz.runUnderlying112 Tryz.sizeOf25 Tryz.zeroValue25 (by decide) rfl rfl rfl rfl rfl) ?_
        rintro b59
        refine RG.callkI 4 hR rfl rfl rfl rfl rfl Tryz.call21 (bytesO p' (some ⟨b58, 0, none⟩) c' c58 b59 acc' kk.data.toList (by omega) (by omega)) rfl ?_
        rintro _ _ ⟨p60, c60, rfl, rfl⟩
        refine RG.normE rfl ?_
        refine RG.callI 14 hR rfl rfl rfl rfl rfl rfl Tryz.call21 (bytesO p60 y.1 c60 y.2 b69 (acc' ++ encB kk.data.toList) dd (by omega) (by rw [List.length_append]; omega)) rfl ?_
        rintro _ _ ⟨p70, c70, rfl, rfl⟩
        refine RG.norm rfl ?_
        refine RG.bar 15 hR rfl rfl rfl rfl rfl rfl (Q.asg rfl).toC ?_
        rintro _ _ ⟨rfl, rfl⟩
        refine RG.norm rfl ?_
        refine RG.fin hR rfl ?_
        refine J.norm rfl <| J.blk_n <| J.then_n <| J.region <| J.p rfl (Q.add64 rfl rfl (by omega)) <| J.m rfl <| J.nil ?_
        refine J.shutI [own 5 1 (.slice y.1 dd.length y.2) (bytesV dd)] (datRep kk dd (.slice y.1 dd.length y.2)) (fun h s => ⟨y, rfl, s⟩) ?_
        refine J.mapSameI (rep := datRep) (enc := Value.string) (r := r) (k := kk) (val := .slice y.1 dd.length y.2) ord3_str hO.1 hKk ?_
        refine J.shutI [MapAt Value.string datRep r objs] (bRep nm objs (.map (some r))) (fun h s => ⟨r, rfl, s⟩) ?_
        refine J.mapSameI (rep := bRep) (enc := Value.string) (r := z.1) (k := nm) (val := .map (some r)) ord3_str hM.bs hB ?_
        refine J.shutI [pt m (.cells ([.map (some z.1), .map (some z.2.1), .map (some z.2.2)] : List Value).toArray 51 (0, 0)), MapAt Value.string bRep z.1 M.buckets, MapAt encU uRep z.2.1 M.uploads, MapAt encU dRep z.2.2 M.done] (BktAt m M) (fun h s => ⟨z, s⟩) ?_
        refine J.againI (j + 1, acc' ++ encB kk.data.toList ++ encB dd, p70, c70) ⟨by show j + 1 ≤ objs.length; omega, by rw [← g1]; simp [List.append_assoc]⟩ (by show objs.length - (j + 1) < objs.length - j; omega) ⟨rfl, rfl, rfl, rfl, rfl, rfl, (by show _ = some (Value.slice p50 _ _); rw [hp50]; rfl), rfl, rfl, trivial⟩
      ·
       refine RGi.made rfl rfl rfl rfl (C.bslG (l := [_]) Tryz.runUnderlying112 Tryz.sizeOf25 Tryz.zeroValue25 (by decide) rfl rfl rfl rfl rfl) ?_
       rintro b69
       refine RG.made2 2 hR rfl rfl rfl rfl rfl (C.s2bL Tryz.runUnderlying9 Tryz.runUnderlying25 Tryz.runUnderlying5 rfl) ?_
       rintro b58 c58
       refine RG.made 3 hR rfl rfl rfl rfl rfl (C.bslG (l := [_]) Tryz.runUnderlying112 Tryz.sizeOf25 Tryz.zeroValue25 (by decide) rfl rfl rfl rfl rfl) ?_
       rintro b59
       refine RG.callkI 4 hR rfl rfl rfl rfl rfl Tryz.call21 (bytesO p' (some ⟨b58, 0, none⟩) c' c58 b59 acc' kk.data.toList (by omega) (by omega)) rfl ?_
       rintro _ _ ⟨p60, c60, rfl, rfl⟩
       refine RG.normE rfl ?_
       refine RG.callI 14 hR rfl rfl rfl rfl rfl rfl Tryz.call21 (bytesO p60 y.1 c60 y.2 b69 (acc' ++ encB kk.data.toList) dd (by omega) (by rw [List.length_append]; omega)) rfl ?_
       rintro _ _ ⟨p70, c70, rfl, rfl⟩
       refine RG.norm rfl ?_
       refine RG.bar 15 hR rfl rfl rfl rfl rfl rfl (Q.asg rfl).toC ?_
       rintro _ _ ⟨rfl, rfl⟩
       refine RG.norm rfl ?_
       refine RG.fin hR rfl ?_
       refine J.norm rfl <| J.blk_n <| J.then_n <| J.region <| J.p rfl (Q.add64 rfl rfl (by omega)) <| J.m rfl <| J.nil ?_
       refine J.shutI [own 5 1 (.slice y.1 dd.length y.2) (bytesV dd)] (datRep kk dd (.slice y.1 dd.length y.2)) (fun h s => ⟨y, rfl, s⟩) ?_
       refine J.mapSameI (rep := datRep) (enc := Value.string) (r := r) (k := kk) (val := .slice y.1 dd.length y.2) ord3_str hO.1 hKk ?_
       refine J.shutI [MapAt Value.string datRep r objs] (bRep nm objs (.map (some r))) (fun h s => ⟨r, rfl, s⟩) ?_
       refine J.mapSameI (rep := bRep) (enc := Value.string) (r := z.1) (k := nm) (val := .map (some r)) ord3_str hM.bs hB ?_
       refine J.shutI [pt m (.cells ([.map (some z.1), .map (some z.2.1), .map (some z.2.2)] : List Value).toArray 51 (0, 0)), MapAt Value.string bRep z.1 M.buckets, MapAt encU uRep z.2.1 M.uploads, MapAt encU dRep z.2.2 M.done] (BktAt m M) (fun h s => ⟨z, s⟩) ?_
       refine J.againI (j + 1, acc' ++ encB kk.data.toList ++ encB dd, p70, c70) ⟨by show j + 1 ≤ objs.length; omega, by rw [← g1]; simp [List.append_assoc]⟩ (by show objs.length - (j + 1) < objs.length - j; omega) ⟨rfl, rfl, rfl, rfl, rfl, rfl, (by show _ = some (Value.slice p50 _ _); rw [hp50]; rfl), rfl, rfl, trivial⟩
    replace hc53 := X.nm hc53
    try (first | (cases hc53; done) | (exfalso; simp at hc53; done))
    all_goals
     refine J.cond_f rfl <| J.exit <| J.then_x <| J.lp_x <| J.blk_x <| J.blk_n <| J.then_n <| J.region <| J.p rfl (Q.add64 rfl rfl (by omega)) <| J.m rfl <| J.nil ?_
     have hjl : j = objs.length := by omega
     subst hjl
     rw [List.drop_length] at g0
     refine J.againI (i + 1, acc', p', c') ⟨by show i + 1 ≤ M.buckets.length; omega, g0⟩ (by show M.buckets.length - (i + 1) < M.buckets.length - i; omega) ⟨rfl, rfl, rfl, rfl, rfl, trivial⟩
  replace hc31 := X.nm hc31
  try (first | (cases hc31; done) | (exfalso; simp at hc31; done))
  all_goals
   refine J.cond_f rfl <| J.exit <| J.then_x <| J.lp_x <| J.blk_x <| J.then_n <| J.seq ?_
   have hil : i = M.buckets.length := by omega
   subst hil
   rw [List.drop_length] at h0
   have h3 : acc ++ (numB M.uploads.length ++ (dUps M.uploads ++ dT2 M)) = dumpM M := by rw [← h0]; rfl
   have lh3 := congrArg List.length h3
   simp only [List.length_append] at lh3
   refine J.keepI [own 5 1 (.slice p acc.length c) (bytesV acc), BktAt m M, F] ?_
   refine J.open1 1 rfl (fun _ h => h) fun z => ?_
   refine J.norm rfl <| J.region <| J.m rfl <| J.m rfl <| J.p rfl (Q.nil_ rfl) <| J.p rfl (Q.fa (n := 1) Tryz.runUnderlying51 rfl rfl Tryz.sizeOf48 rfl) ?_
   refine J.p rfl (Q.ld Tryz.isAgg48 rfl (rdI (by exact rfl))) ?_
   refine J.p rfl (X.G.Q.lenAt (i := 2) Tryz.runUnderlying48 rfl rfl) ?_
   refine J.p rfl (Q.convU Tryz.runUnderlying3 Tryz.runUnderlying23 rfl (by omega)) ?_
   refine J.callI Tryz.call18 (number_spec p c acc M.uploads.length (by omega) (by omega)) rfl rfl rfl ?_
   rintro _ _ ⟨p80, c80, rfl, rfl⟩
   refine J.norm rfl <| J.p rfl (Q.asg rfl) <| J.nil <| J.then_n <| J.seq <| J.seq <| J.region <| J.m rfl <| J.p rfl (Q.nil_ rfl) <| J.p rfl (Q.fa (n := 1) Tryz.runUnderlying51 rfl rfl Tryz.sizeOf48 rfl) ?_
   refine J.p rfl (Q.ld Tryz.isAgg48 rfl (rdI (by exact rfl))) ?_
   refine J.callI Tryz.call24 (keysUp (some z.2.1)) rfl rfl rfl ?_
   rintro _ _ ⟨bu, rfl, rfl⟩
   refine J.norm rfl ?_
   refine J.callI Tryz.call23 (sortedUp bu z.2.1 M.uploads hM.us (by omega)) rfl rfl rfl ?_
   rintro _ _ ⟨p86, c86, rfl, rfl⟩
   refine J.norm rfl ?_
   refine J.slr1 0 rfl fun hs86 => ?_
   refine J.shutI [pt m (.cells ([.map (some z.1), .map (some z.2.1), .map (some z.2.2)] : List Value).toArray 51 (0, 0)), MapAt Value.string bRep z.1 M.buckets, MapAt encU uRep z.2.1 M.uploads, MapAt encU dRep z.2.2 M.done] (BktAt m M) (fun h s => ⟨z, s⟩) ?_
   refine J.p rfl (Q.lenSl Tryz.runUnderlying60 rfl) <| J.m rfl <| J.nil <| J.then_n <| J.block ?_
   have b0 : (acc ++ numB M.uploads.length) ++ (dUps M.uploads ++ dT2 M) = dumpM M := by rw [← h3]; simp [List.append_assoc]
   refine J.keepI [own 5 1 (.slice p80 (acc ++ numB M.uploads.length).length c80) (bytesV (acc ++ numB M.uploads.length)), BktAt m M, own 23 1 (.slice p86 M.uploads.length c86) ((M.uploads.map (·.1)).map encU), F] ?_
   refine J.loop4 (fun (i : Nat) (acc : List UInt8) (p : Option Addr) (c : Nat) => i ≤ M.uploads.length ∧ acc ++ (dUps (M.uploads.drop i) ++ dT2 M) = dumpM M) (fun i _ _ _ => M.uploads.length - i) (fun i acc p c => [(0, .pointer (some ⟨m, 0, none⟩)), (3, .slice p acc.length c), (86, .slice p86 M.uploads.length c86), (87, .int .i64 M.uploads.length), (88, .int .i64 i)]) (fun i acc p c => [own 5 1 (.slice p acc.length c) (bytesV acc), BktAt m M, own 23 1 (.slice p86 M.uploads.length c86) ((M.uploads.map (·.1)).map encU), F]) 0 (acc ++ numB M.uploads.length) p80 c80 ⟨Nat.zero_le _, b0⟩ ⟨rfl, rfl, rfl, rfl, rfl, trivial⟩ rfl fun i acc p c hz => ?_
   obtain ⟨hi, h0⟩ := hz
   refine J.seq <| J.region <| J.p rfl (Q.lss rfl rfl) <| J.nil <| J.then_n <| J.seq ?_
   refine J.cases 89 rfl (fun hc89 => ?_) (fun hc89 => ?_)
   ·
    replace hc89 := X.nm hc89
    try (first | (cases hc89; done) | (exfalso; simp at hc89; done))
    all_goals
     refine J.cond_t rfl <| J.cskip <| J.then_n <| J.seq <| J.block <| J.seq ?_
     obtain ⟨b86, o86, hp86, hr86⟩ := hs86.some_ (by omega)
     obtain ⟨⟨ui, u⟩, hx⟩ : ∃ x, M.uploads[i]? = some x := ⟨_, List.getElem?_eq_getElem (by omega)⟩
     have hU : sget ui M.uploads = some u := X.G.sget_of_mem (hM.us.nodup ord3_nat) (List.mem_of_getElem? hx)
     have hPs := (hM.ps _ _ hU).1
     have hup := hF.up _ _ hU
     have hui : ui ≤ 18446744073709551615 := hup.1
     have h1 : acc ++ (numB ui ++ (encB u.bucket.data.toList ++ (encB u.key.data.toList ++ (numB u.parts.length ++ (dParts u.parts ++ (dUps (M.uploads.drop (i + 1)) ++ dT2 M)))))) = dumpM M := by
       rw [← h0, drop_at hx]; simp [dUps, List.append_assoc]
     have lh1 := congrArg List.length h1
     simp only [List.length_append] at lh1
     have he1 := encB_len u.bucket.data.toList
     have he2 := encB_len u.key.data.toList
     have hpl : u.parts.length ≤ 32768 := by have := hup.2.1; omega
     refine J.slot 86 (.slice (some ⟨b86, o86, none⟩) M.uploads.length c86) rfl (by rw [hp86]) ?_
     refine J.region <| J.p rfl (Q.ia Tryz.runUnderlying60 Tryz.sizeOf23 rfl rfl (by omega) (by omega)) ?_
     refine J.p rfl (Q.ld Tryz.isAgg23 rfl (((hr86 i (encU ui) (by simp [hx])).within (i := 2) rfl).cast (by simp))) ?_
     refine J.p rfl (Q.asg rfl) <| J.nil <| J.then_n <| J.seq ?_
     refine J.open1 1 rfl (fun _ h => h) fun z => ?_
     refine J.norm rfl ?_
     refine J.mapFocus 2 hU rfl fun val => ?_
     refine J.norm rfl ?_
     refine J.open_ 0 rfl rfl (fun _ h => h) fun y hyv => ?_
     subst hyv
     refine J.norm rfl <| J.region <| J.m rfl <| J.p rfl (Q.nil_ rfl) <| J.p rfl (Q.fa (n := 1) Tryz.runUnderlying51 rfl rfl Tryz.sizeOf48 rfl) ?_
     refine J.p rfl (Q.ld Tryz.isAgg48 rfl (rdI (by exact rfl))) ?_
     refine J.m rfl ?_
     refine J.p rfl (X.G.Q.lkYes (i := 2) Tryz.runUnderlying48 keyU Tryz.zeroValue65 rfl rfl rfl) ?_
     refine J.p rfl (Q.asg rfl) <| J.nil <| J.then_n ?_
     refine J.cut (fun _ : Option Addr × Nat => True) (fun q => [(0, .pointer (some ⟨m, 0, none⟩)), (3, .slice q.1 (acc ++ numB ui ++ encB u.bucket.data.toList ++ encB u.key.data.toList).length q.2), (10, .pointer (some ⟨y.1, 0, none⟩)), (86, .slice (some ⟨b86, o86, none⟩) M.uploads.length c86), (87, .int .i64 M.uploads.length), (88, .int .i64 i)]) (fun q => [own 5 1 (.slice q.1 (acc ++ numB ui ++ encB u.bucket.data.toList ++ encB u.key.data.toList).length q.2) (bytesV (acc ++ numB ui ++ encB u.bucket.data.toList ++ encB u.key.data.toList)), pt y.1 (.cells ([.string u.bucket, .string u.key, .map (some y.2)] : List Value).toArray 68 (0, 0)), MapAt (Value.int .i64) datRep y.2 u.parts, pt m (.cells ([.map (some z.1), .map (some z.2.1), .map (some z.2.2)] : List Value).toArray 51 (0, 0)), MapAt Value.string bRep z.1 M.buckets, MapHole encU uRep z.2.1 M.uploads ui (.pointer (some ⟨y.1, 0, none⟩)), MapAt encU dRep z.2.2 M.done, own 23 1 (.slice p86 M.uploads.length c86) ((M.uploads.map (·.1)).map encU), F]) ?_ fun q _ => ?_
     ·
      refine J.drawE [2, 7, 8, 9, 14, 15, 16, 17] 1 Tryz.mixed (by kernel_rfl) rfl rfl fun hR => ?_
      refine RG.p 0 hR rfl (Q.mv rfl) <| RG.p 1 hR rfl (Q.mv rfl) <| RG.p 3 hR rfl (Q.mv rfl) <| RG.p 4 hR rfl (Q.nil_ rfl) <| RG.p 5 hR rfl (Q.fa (n := 0) Tryz.runUnderlying68 rfl rfl Tryz.sizeOf9 rfl) ?_
      refine RG.p 6 hR rfl (Q.ld Tryz.isAgg9 rfl (rdI (by exact rfl))) ?_
      refine RG.p 10 hR rfl (Q.mv rfl) <| RG.p 11 hR rfl (Q.nil_ rfl) <| RG.p 12 hR rfl (Q.fa (n := 1) Tryz.runUnderlying68 rfl rfl Tryz.sizeOf9 rfl) ?_
      refine RG.p 13 hR rfl (Q.ld Tryz.isAgg9 rfl (rdI (by exact rfl))) ?_
      refine RG.many hR 2 [7, 14] rfl ⟨?_, ⟨?_, ⟨?_, trivial⟩⟩⟩
      ·
       refine RGi.callkI rfl rfl rfl rfl Tryz.call18 (number_spec p c acc ui (by omega) hui) rfl ?_
       rintro _ _ ⟨p100, c100, rfl, rfl⟩
       refine RG.normE rfl ?_
       refine RG.many hR 7 [14] rfl ⟨?_, ⟨?_, trivial⟩⟩
       ·
        refine RGi.made2 rfl rfl rfl rfl (C.s2bL Tryz.runUnderlying9 Tryz.runUnderlying25 Tryz.runUnderlying5 rfl) ?_
        rintro b105 c105
        refine RG.many hR 8 [14] rfl ⟨?_, ⟨?_, trivial⟩⟩
        ·
         refine RGi.made rfl rfl rfl rfl (C.bslG (l := [_]) Tryz.runUnderlying112 Tryz.sizeOf25 Tryz.zeroValue25 (by decide) rfl rfl rfl rfl rfl) ?_
         rintro b106
         refine RG.many hR 9 [14] rfl ⟨?_, ⟨?_, trivial⟩⟩
         ·
          refine RGi.callkI rfl rfl rfl rfl Tryz.call21 (bytesO p100 (some ⟨b105, 0, none⟩) c100 c105 b106 (acc ++ numB ui) u.bucket.data.toList (by omega) (by rw [List.length_append]; omega)) rfl ?_
          rintro _ _ ⟨p107, c107, rfl, rfl⟩
          refine RG.normE rfl ?_
          refine RG.made2 14 hR rfl rfl rfl rfl rfl (C.s2bL Tryz.runUnderlying9 Tryz.runUnderlying25 Tryz.runUnderlying5 rfl) ?_
          rintro b112 c112
          refine RG.made 15 hR rfl rfl rfl rfl rfl (C.bslG (l := [_]) Tryz.runUnderlying112 Tryz.sizeOf25 Tryz.zeroValue25 (by decide) rfl rfl rfl rfl rfl) ?_
          rintro b113
          refine RG.callI 16 hR rfl rfl rfl rfl rfl rfl Tryz.call21 (bytesO p107 (some ⟨b112, 0, none⟩) c107 c112 b113 (acc ++ numB ui ++ encB u.bucket.data.toList) u.key.data.toList (by omega) (by rw [List.length_append, List.length_append]; omega)) rfl ?_
          rintro _ _ ⟨p114, c114, rfl, rfl⟩
          refine RG.norm rfl ?_
          refine RG.bar 17 hR rfl rfl rfl rfl rfl rfl (Q.asg rfl).toC ?_
          rintro _ _ ⟨rfl, rfl⟩
          refine RG.norm rfl ?_
          refine RG.fin hR rfl ?_
          refine J.norm rfl ?_
          refine J.meetI (p114, c114) trivial ⟨rfl, rfl, rfl, rfl, rfl, rfl, trivial⟩
         ·
          refine RGi.made2 rfl rfl rfl rfl (C.s2bL Tryz.runUnderlying9 Tryz.runUnderlying25 Tryz.runUnderlying5 rfl) ?_
          rintro b112 c112
          refine RG.many hR 9 [15] rfl ⟨?_, ⟨?_, trivial⟩⟩
          ·
           refine RGi.callkI rfl rfl rfl rfl Tryz.call21 (bytesO p100 (some ⟨b105, 0, none⟩) c100 c105 b106 (acc ++ numB ui) u.bucket.data.toList (by omega) (by rw [List.length_append]; omega)) rfl ?_
           rintro _ _ ⟨p107, c107, rfl, rfl⟩
           refine RG.normE rfl ?_
           refine RG.made 15 hR rfl rfl rfl rfl rfl (C.bslG (l := [_]) Tryz.runUnderlying112 Tryz.sizeOf25 Tryz.zeroValue25 (by decide) rfl rfl rfl rfl rfl) ?_
           rintro b113
           refine RG.callI 16 hR rfl rfl rfl rfl rfl rfl Tryz.call21 (bytesO p107 (some ⟨b112, 0, none⟩) c107 c112 b113 (acc ++ numB ui ++ encB u.bucket.data.toList) u.key.data.toList (by omega) (by rw [List.length_append, List.length_append]; omega)) rfl ?_
           rintro _ _ ⟨p114, c114, rfl, rfl⟩
           refine RG.norm rfl ?_
           refine RG.bar 17 hR rfl rfl rfl rfl rfl rfl (Q.asg rfl).toC ?_
           rintro _ _ ⟨rfl, rfl⟩
           refine RG.norm rfl ?_
           refine RG.fin hR rfl ?_
           refine J.norm rfl ?_
           refine J.meetI (p114, c114) trivial ⟨rfl, rfl, rfl, rfl, rfl, rfl, trivial⟩
          ·
           refine RGi.made rfl rfl rfl rfl (C.bslG (l := [_]) Tryz.runUnderlying112 Tryz.sizeOf25 Tryz.zeroValue25 (by decide) rfl rfl rfl rfl rfl) ?_
           rintro b113
           refine RG.callkI 9 hR rfl rfl rfl rfl rfl Tryz.call21 (bytesO p100 (some ⟨b105, 0, none⟩) c100 c105 b106 (acc ++ numB ui) u.bucket.data.toList (by omega) (by rw [List.length_append]; omega)) rfl ?_
           rintro _ _ ⟨p107, c107, rfl, rfl⟩
           refine RG.normE rfl ?_
           refine RG.callI 16 hR rfl rfl rfl rfl rfl rfl Tryz.call21 (bytesO p107 (some ⟨b112, 0, none⟩) c107 c112 b113 (acc ++ numB ui ++ encB u.bucket.data.toList) u.key.data.toList (by omega) (by rw [List.length_append, List.length_append]; omega)) rfl ?_
           rintro _ _ ⟨p114, c114, rfl, rfl⟩
           refine RG.norm rfl ?_
           refine RG.bar 17 hR rfl rfl rfl rfl rfl rfl (Q.asg rfl).toC ?_
           rintro _ _ ⟨rfl, rfl⟩
           refine RG.norm rfl ?_
           refine RG.fin hR rfl ?_
           refine J.norm rfl ?_
           refine J.meetI (p114, c114) trivial ⟨rfl, rfl, rfl, rfl, rfl, rfl, trivial⟩
        ·
         refine RGi.made2 rfl rfl rfl rfl (C.s2bL Tryz.runUnderlying9 Tryz.runUnderlying25 Tryz.runUnderlying5 rfl) ?_
         rintro b112 c112
         refine RG.many hR 8 [15] rfl ⟨?_, ⟨?_, trivial⟩⟩
         ·
          refine RGi.made rfl rfl rfl rfl (C.bslG (l := [_]) Tryz.runUnderlying112 Tryz.sizeOf25 Tryz.zeroValue25 (by decide) rfl rfl rfl rfl rfl) ?_
          rintro b106
          refine RG.many hR 9 [15] rfl ⟨?_, ⟨?_, trivial⟩⟩
          ·
           refine RGi.callkI rfl rfl rfl rfl Tryz.call21 (bytesO p100 (some ⟨b105, 0, none⟩) c100 c105 b106 (acc ++ numB ui) u.bucket.data.toList (by omega) (by rw [List.length_append]; omega)) rfl ?_
           rintro _ _ ⟨p107, c107, rfl, rfl⟩
           refine RG.normE rfl ?_
           refine RG.made 15 hR rfl rfl rfl rfl rfl (C.bslG (l := [_]) Tryz.runUnderlying112 Tryz.sizeOf25 Tryz.zeroValue25 (by decide) rfl rfl rfl rfl rfl) ?_
           rintro b113
           refine RG.callI 16 hR rfl rfl rfl rfl rfl rfl Tryz.call21 (bytesO p107 (some ⟨b112, 0, none⟩) c107 c112 b113 (acc ++ numB ui ++ encB u.bucket.data.toList) u.key.data.toList (by omega) (by rw [List.length_append, List.length_append]; omega)) rfl ?_
           rintro _ _ ⟨p114, c114, rfl, rfl⟩
           refine RG.norm rfl ?_
           refine RG.bar 17 hR rfl rfl rfl rfl rfl rfl (Q.asg rfl).toC ?_
           rintro _ _ ⟨rfl, rfl⟩
           refine RG.norm rfl ?_
           refine RG.fin hR rfl ?_
           refine J.norm rfl ?_
           refine J.meetI (p114, c114) trivial ⟨rfl, rfl, rfl, rfl, rfl, rfl, trivial⟩
          ·
           refine RGi.made rfl rfl rfl rfl (C.bslG (l := [_]) Tryz.runUnderlying112 Tryz.sizeOf25 Tryz.zeroValue25 (by decide) rfl rfl rfl rfl rfl) ?_
           rintro b113
           refine RG.callkI 9 hR rfl rfl rfl rfl rfl Tryz.call21 (bytesO p100 (some ⟨b105, 0, none⟩) c100 c105 b106 (acc ++ numB ui) u.bucket.data.toList (by omega) (by rw [List.length_append]; omega)) rfl ?_
           rintro _ _ ⟨p107, c107, rfl, rfl⟩
           refine RG.normE rfl ?_
           refine RG.callI 16 hR rfl rfl rfl rfl rfl rfl Tryz.call21 (bytesO p107 (some ⟨b112, 0, none⟩) c107 c112 b113 (acc ++ numB ui ++ encB u.bucket.data.toList) u.key.data.toList (by omega) (by rw [List.length_append, List.length_append]; omega)) rfl ?_
           rintro _ _ ⟨p114, c114, rfl, rfl⟩
           refine RG.norm rfl ?_
           refine RG.bar 17 hR rfl rfl rfl rfl rfl rfl (Q.asg rfl).toC ?_
           rintro _ _ ⟨rfl, rfl⟩
           refine RG.norm rfl ?_
           refine RG.fin hR rfl ?_
           refine J.norm rfl ?_
           refine J.meetI (p114, c114) trivial ⟨rfl, rfl, rfl, rfl, rfl, rfl, trivial⟩
         ·
          refine RGi.made rfl rfl rfl rfl (C.bslG (l := [_]) Tryz.runUnderlying112 Tryz.sizeOf25 Tryz.zeroValue25 (by decide) rfl rfl rfl rfl rfl) ?_
          rintro b113
          refine RG.made 8 hR rfl rfl rfl rfl rfl (C.bslG (l := [_]) Tryz.runUnderlying112 Tryz.sizeOf25 Tryz.zeroValue25 (by decide) rfl rfl rfl rfl rfl) ?_
          rintro b106
          refine RG.callkI 9 hR rfl rfl rfl rfl rfl Tryz.call21 (bytesO p100 (some ⟨b105, 0, none⟩) c100 c105 b106 (acc ++ numB ui) u.bucket.data.toList (by omega) (by rw [List.length_append]; omega)) rfl ?_
          rintro _ _ ⟨p107, c107, rfl, rfl⟩
          refine RG.normE rfl ?_
          refine RG.callI 16 hR rfl rfl rfl rfl rfl rfl Tryz.call21 (bytesO p107 (some ⟨b112, 0, none⟩) c107 c112 b113 (acc ++ numB ui ++ encB u.bucket.data.toList) u.key.data.toList (by omega) (by rw [List.length_append, List.length_append]; omega)) rfl ?_
          rintro _ _ ⟨p114, c114, rfl, rfl⟩
          refine RG.norm rfl ?_
          refine RG.bar 17 hR rfl rfl rfl rfl rfl rfl (Q.asg rfl).toC ?_
          rintro _ _ ⟨rfl, rfl⟩
          refine RG.norm rfl ?_
          refine RG.fin hR rfl ?_
          refine J.norm rfl ?_
          refine J.meetI (p114, c114) trivial ⟨rfl, rfl, rfl, rfl, rfl, rfl, trivial⟩
       ·
        refine RGi.made2 rfl rfl rfl rfl (C.s2bL Tryz.runUnderlying9 Tryz.runUnderlying25 Tryz.runUnderlying5 rfl) ?_
        rintro b112 c112
        refine RG.many hR 7 [15] rfl ⟨?_, ⟨?_, trivial⟩⟩
        ·
         refine RGi.made2 rfl rfl rfl rfl (C.s2bL Tryz.runUnderlying9 Tryz.runUnderlying25 Tryz.runUnderlying5 rfl) ?_
         rintro b105 c105
         refine RG.many hR 8 [15] rfl ⟨?_, ⟨?_, trivial⟩⟩
         ·
          refine RGi.made rfl rfl rfl rfl (C.bslG (l := [_]) Tryz.runUnderlying112 Tryz.sizeOf25 Tryz.zeroValue25 (by decide) rfl rfl rfl rfl rfl) ?_
          rintro b106
          refine RG.many hR 9 [15] rfl ⟨?_, ⟨?_, trivial⟩⟩
          ·
           refine RGi.callkI rfl rfl rfl rfl Tryz.call21 (bytesO p100 (some ⟨b105, 0, none⟩) c100 c105 b106 (acc ++ numB ui) u.bucket.data.toList (by omega) (by rw [List.length_append]; omega)) rfl ?_
           rintro _ _ ⟨p107, c107, rfl, rfl⟩
           refine RG.normE rfl ?_
           refine RG.made 15 hR rfl rfl rfl rfl rfl (C.bslG (l := [_]) Tryz.runUnderlying112 Tryz.sizeOf25 Tryz.zeroValue25 (by decide) rfl rfl rfl rfl rfl) ?_
           rintro b113
           refine RG.callI 16 hR rfl rfl rfl rfl rfl rfl Tryz.call21 (bytesO p107 (some ⟨b112, 0, none⟩) c107 c112 b113 (acc ++ numB ui ++ encB u.bucket.data.toList) u.key.data.toList (by omega) (by rw [List.length_append, List.length_append]; omega)) rfl ?_
           rintro _ _ ⟨p114, c114, rfl, rfl⟩
           refine RG.norm rfl ?_
           refine RG.bar 17 hR rfl rfl rfl rfl rfl rfl (Q.asg rfl).toC ?_
           rintro _ _ ⟨rfl, rfl⟩
           refine RG.norm rfl ?_
           refine RG.fin hR rfl ?_
           refine J.norm rfl ?_
           refine J.meetI (p114, c114) trivial ⟨rfl, rfl, rfl, rfl, rfl, rfl, trivial⟩
          ·
           refine RGi.made rfl rfl rfl rfl (C.bslG (l := [_]) Tryz.runUnderlying112 Tryz.sizeOf25 Tryz.zeroValue25 (by decide) rfl rfl rfl rfl rfl) ?_
           rintro b113
           refine RG.callkI 9 hR rfl rfl rfl rfl rfl Tryz.call21 (bytesO p100 (some ⟨b105, 0, none⟩) c100 c105 b106 (acc ++ numB ui) u.bucket.data.toList (by omega) (by rw [List.length_append]; omega)) rfl ?_
           rintro _ _ ⟨p107, c107, rfl, rfl⟩
           refine RG.normE rfl ?_
           refine RG.callI 16 hR rfl rfl rfl rfl rfl rfl Tryz.call21 (bytesO p107 (some ⟨b112, 0, none⟩) c107 c112 b113 (acc ++ numB ui ++ encB u.bucket.data.toList) u.key.data.toList (by omega) (by rw [List.length_append, List.length_append]; omega)) rfl ?_
           rintro _ _ ⟨p114, c114, rfl, rfl⟩
           refine RG.norm rfl ?_
           refine RG.bar 17 hR rfl rfl rfl rfl rfl rfl (Q.asg rfl).toC ?_
           rintro _ _ ⟨rfl, rfl⟩
           refine RG.norm rfl ?_
           refine RG.fin hR rfl ?_
           refine J.norm rfl ?_
           refine J.meetI (p114, c114) trivial ⟨rfl, rfl, rfl, rfl, rfl, rfl, trivial⟩
         ·
          refine RGi.made rfl rfl rfl rfl (C.bslG (l := [_]) Tryz.runUnderlying112 Tryz.sizeOf25 Tryz.zeroValue25 (by decide) rfl rfl rfl rfl rfl) ?_
          rintro b113
          refine RG.made 8 hR rfl rfl rfl rfl rfl (C.bslG (l := [_]) Tryz.runUnderlying112 Tryz.sizeOf25 Tryz.zeroValue25 (by decide) rfl rfl rfl rfl rfl) ?_
          rintro b106
          refine RG.callkI 9 hR rfl rfl rfl rfl rfl Tryz.call21 (bytesO p100 (some ⟨b105, 0, none⟩) c100 c105 b106 (acc ++ numB ui) u.bucket.data.toList (by omega) (by rw [List.length_append]; omega)) rfl ?_
          rintro _ _ ⟨p107, c107, rfl, rfl⟩
          refine RG.normE rfl ?_
          refine RG.callI 16 hR rfl rfl rfl rfl rfl rfl Tryz.call21 (bytesO p107 (some ⟨b112, 0, none⟩) c107 c112 b113 (acc ++ numB ui ++ encB u.bucket.data.toList) u.key.data.toList (by omega) (by rw [List.length_append, List.length_append]; omega)) rfl ?_
          rintro _ _ ⟨p114, c114, rfl, rfl⟩
          refine RG.norm rfl ?_
          refine RG.bar 17 hR rfl rfl rfl rfl rfl rfl (Q.asg rfl).toC ?_
          rintro _ _ ⟨rfl, rfl⟩
          refine RG.norm rfl ?_
          refine RG.fin hR rfl ?_
          refine J.norm rfl ?_
          refine J.meetI (p114, c114) trivial ⟨rfl, rfl, rfl, rfl, rfl, rfl, trivial⟩
        ·
         refine RGi.made rfl rfl rfl rfl (C.bslG (l := [_]) Tryz.runUnderlying112 Tryz.sizeOf25 Tryz.zeroValue25 (by decide) rfl rfl rfl rfl rfl) ?_
         rintro b113
         refine RG.made2 7 hR rfl rfl rfl rfl rfl (C.s2bL Tryz.runUnderlying9 Tryz.runUnderlying25 Tryz.runUnderlying5 rfl) ?_
         rintro b105 c105
         refine RG.made 8 hR rfl rfl rfl rfl rfl (C.bslG (l := [_]) Tryz.runUnderlying112 Tryz.sizeOf25 Tryz.zeroValue25 (by decide) rfl rfl rfl rfl rfl) ?_
         rintro b106
         refine RG.callkI 9 hR rfl rfl rfl rfl rfl Tryz.call21 (bytesO p100 (some ⟨b105, 0, none⟩) c100 c105 b106 (acc ++ numB ui) u.bucket.data.toList (by omega) (by rw [List.length_append]; omega)) rfl ?_
         rintro _ _ ⟨p107, c107, rfl, rfl⟩
         refine RG.normE rfl ?_
         refine RG.callI 16 hR rfl rfl rfl rfl rfl rfl Tryz.call21 (bytesO p107 (some ⟨b112, 0, none⟩) c107 c112 b113 (acc ++ numB ui ++ encB u.bucket.data.toList) u.key.data.toList (by omega) (by rw [List.length_append, List.length_append]; omega)) rfl ?_
         rintro _ _ ⟨p114, c114, rfl, rfl⟩
         refine RG.norm rfl ?_
         refine RG.bar 17 hR rfl rfl rfl rfl rfl rfl (Q.asg rfl).toC ?_
         rintro _ _ ⟨rfl, rfl⟩
         refine RG.norm rfl ?_
         refine RG.fin hR rfl ?_
         refine J.norm rfl ?_
         refine J.meetI (p114, c114) trivial ⟨rfl, rfl, rfl, rfl, rfl, rfl, trivial⟩
      ·
       refine RGi.made2 rfl rfl rfl rfl (C.s2bL Tryz.runUnderlying9 Tryz.runUnderlying25 Tryz.runUnderlying5 rfl) ?_
       rintro b105 c105
       refine RG.many hR 2 [8, 14] rfl ⟨?_, ⟨?_, ⟨?_, trivial⟩⟩⟩
       ·
        refine RGi.callkI rfl rfl rfl rfl Tryz.call18 (number_spec p c acc ui (by omega) hui) rfl ?_
        rintro _ _ ⟨p100, c100, rfl, rfl⟩
        refine RG.normE rfl ?_
        refine RG.many hR 8 [14] rfl ⟨?_, ⟨?_, trivial⟩⟩
        ·
         refine RGi.made rfl rfl rfl rfl (C.bslG (l := [_]) Tryz.runUnderlying112 Tryz.sizeOf25 Tryz.zeroValue25 (by decide) rfl rfl rfl rfl rfl) ?_
         rintro b106
         refine RG.many hR 9 [14] rfl ⟨?_, ⟨?_, trivial⟩⟩
         ·
          refine RGi.callkI rfl rfl rfl rfl Tryz.call21 (bytesO p100 (some ⟨b105, 0, none⟩) c100 c105 b106 (acc ++ numB ui) u.bucket.data.toList (by omega) (by rw [List.length_append]; omega)) rfl ?_
          rintro _ _ ⟨p107, c107, rfl, rfl⟩
          refine RG.normE rfl ?_
          refine RG.made2 14 hR rfl rfl rfl rfl rfl (C.s2bL Tryz.runUnderlying9 Tryz.runUnderlying25 Tryz.runUnderlying5 rfl) ?_
          rintro b112 c112
          refine RG.made 15 hR rfl rfl rfl rfl rfl (C.bslG (l := [_]) Tryz.runUnderlying112 Tryz.sizeOf25 Tryz.zeroValue25 (by decide) rfl rfl rfl rfl rfl) ?_
          rintro b113
          refine RG.callI 16 hR rfl rfl rfl rfl rfl rfl Tryz.call21 (bytesO p107 (some ⟨b112, 0, none⟩) c107 c112 b113 (acc ++ numB ui ++ encB u.bucket.data.toList) u.key.data.toList (by omega) (by rw [List.length_append, List.length_append]; omega)) rfl ?_
          rintro _ _ ⟨p114, c114, rfl, rfl⟩
          refine RG.norm rfl ?_
          refine RG.bar 17 hR rfl rfl rfl rfl rfl rfl (Q.asg rfl).toC ?_
          rintro _ _ ⟨rfl, rfl⟩
          refine RG.norm rfl ?_
          refine RG.fin hR rfl ?_
          refine J.norm rfl ?_
          refine J.meetI (p114, c114) trivial ⟨rfl, rfl, rfl, rfl, rfl, rfl, trivial⟩
         ·
          refine RGi.made2 rfl rfl rfl rfl (C.s2bL Tryz.runUnderlying9 Tryz.runUnderlying25 Tryz.runUnderlying5 rfl) ?_
          rintro b112 c112
          refine RG.many hR 9 [15] rfl ⟨?_, ⟨?_, trivial⟩⟩
          ·
           refine RGi.callkI rfl rfl rfl rfl Tryz.call21 (bytesO p100 (some ⟨b105, 0, none⟩) c100 c105 b106 (acc ++ numB ui) u.bucket.data.toList (by omega) (by rw [List.length_append]; omega)) rfl ?_
           rintro _ _ ⟨p107, c107, rfl, rfl⟩
           refine RG.normE rfl ?_
           refine RG.made 15 hR rfl rfl rfl rfl rfl (C.bslG (l := [_]) Tryz.runUnderlying112 Tryz.sizeOf25 Tryz.zeroValue25 (by decide) rfl rfl rfl rfl rfl) ?_
           rintro b113
           refine RG.callI 16 hR rfl rfl rfl rfl rfl rfl Tryz.call21 (bytesO p107 (some ⟨b112, 0, none⟩) c107 c112 b113 (acc ++ numB ui ++ encB u.bucket.data.toList) u.key.data.toList (by omega) (by rw [List.length_append, List.length_append]; omega)) rfl ?_
           rintro _ _ ⟨p114, c114, rfl, rfl⟩
           refine RG.norm rfl ?_
           refine RG.bar 17 hR rfl rfl rfl rfl rfl rfl (Q.asg rfl).toC ?_
           rintro _ _ ⟨rfl, rfl⟩
           refine RG.norm rfl ?_
           refine RG.fin hR rfl ?_
           refine J.norm rfl ?_
           refine J.meetI (p114, c114) trivial ⟨rfl, rfl, rfl, rfl, rfl, rfl, trivial⟩
          ·
           refine RGi.made rfl rfl rfl rfl (C.bslG (l := [_]) Tryz.runUnderlying112 Tryz.sizeOf25 Tryz.zeroValue25 (by decide) rfl rfl rfl rfl rfl) ?_
           rintro b113
           refine RG.callkI 9 hR rfl rfl rfl rfl rfl Tryz.call21 (bytesO p100 (some ⟨b105, 0, none⟩) c100 c105 b106 (acc ++ numB ui) u.bucket.data.toList (by omega) (by rw [List.length_append]; omega)) rfl ?_
           rintro _ _ ⟨p107, c107, rfl, rfl⟩
           refine RG.normE rfl ?_
           refine RG.callI 16 hR rfl rfl rfl rfl rfl rfl Tryz.call21 (bytesO p107 (some ⟨b112, 0, none⟩) c107 c112 b113 (acc ++ numB ui ++ encB u.bucket.data.toList) u.key.data.toList (by omega) (by rw [List.length_append, List.length_append]; omega)) rfl ?_
           rintro _ _ ⟨p114, c114, rfl, rfl⟩
           refine RG.norm rfl ?_
           refine RG.bar 17 hR rfl rfl rfl rfl rfl rfl (Q.asg rfl).toC ?_
           rintro _ _ ⟨rfl, rfl⟩
           refine RG.norm rfl ?_
           refine RG.fin hR rfl ?_
           refine J.norm rfl ?_
           refine J.meetI (p114, c114) trivial ⟨rfl, rfl, rfl, rfl, rfl, rfl, trivial⟩
        ·
         refine RGi.made2 rfl rfl rfl rfl (C.s2bL Tryz.runUnderlying9 Tryz.runUnderlying25 Tryz.runUnderlying5 rfl) ?_
         rintro b112 c112
         refine RG.many hR 8 [15] rfl ⟨?_, ⟨?_, trivial⟩⟩
         ·
          refine RGi.made rfl rfl rfl rfl (C.bslG (l := [_]) Tryz.runUnderlying112 Tryz.sizeOf25 Tryz.zeroValue25 (by decide) rfl rfl rfl rfl rfl) ?_
          rintro b106
          refine RG.many hR 9 [15] rfl ⟨?_, ⟨?_, trivial⟩⟩
          ·
           refine RGi.callkI rfl rfl rfl rfl Tryz.call21 (bytesO p100 (some ⟨b105, 0, none⟩) c100 c105 b106 (acc ++ numB ui) u.bucket.data.toList (by omega) (by rw [List.length_append]; omega)) rfl ?_
           rintro _ _ ⟨p107, c107, rfl, rfl⟩
           refine RG.normE rfl ?_
           refine RG.made 15 hR rfl rfl rfl rfl rfl (C.bslG (l := [_]) Tryz.runUnderlying112 Tryz.sizeOf25 Tryz.zeroValue25 (by decide) rfl rfl rfl rfl rfl) ?_
           rintro b113
           refine RG.callI 16 hR rfl rfl rfl rfl rfl rfl Tryz.call21 (bytesO p107 (some ⟨b112, 0, none⟩) c107 c112 b113 (acc ++ numB ui ++ encB u.bucket.data.toList) u.key.data.toList (by omega) (by rw [List.length_append, List.length_append]; omega)) rfl ?_
           rintro _ _ ⟨p114, c114, rfl, rfl⟩
           refine RG.norm rfl ?_
           refine RG.bar 17 hR rfl rfl rfl rfl rfl rfl (Q.asg rfl).toC ?_
           rintro _ _ ⟨rfl, rfl⟩
           refine RG.norm rfl ?_
           refine RG.fin hR rfl ?_
           refine J.norm rfl ?_
           refine J.meetI (p114, c114) trivial ⟨rfl, rfl, rfl, rfl, rfl, rfl, trivial⟩
          ·
           refine RGi.made rfl rfl rfl rfl (C.bslG (l := [_]) Tryz.runUnderlying112 Tryz.sizeOf25 Tryz.zeroValue25 (by decide) rfl rfl rfl rfl rfl) ?_
           rintro b113
           refine RG.callkI 9 hR rfl rfl rfl rfl rfl Tryz.call21 (bytesO p100 (some ⟨b105, 0, none⟩) c100 c105 b106 (acc ++ numB ui) u.bucket.data.toList (by omega) (by rw [List.length_append]; omega)) rfl ?_
           rintro _ _ ⟨p107, c107, rfl, rfl⟩
           refine RG.normE rfl ?_
           refine RG.callI 16 hR rfl rfl rfl rfl rfl rfl Tryz.call21 (bytesO p107 (some ⟨b112, 0, none⟩) c107 c112 b113 (acc ++ numB ui ++ encB u.bucket.data.toList) u.key.data.toList (by omega) (by rw [List.length_append, List.length_append]; omega)) rfl ?_
           rintro _ _ ⟨p114, c114, rfl, rfl⟩
           refine RG.norm rfl ?_
           refine RG.bar 17 hR rfl rfl rfl rfl rfl rfl (Q.asg rfl).toC ?_
           rintro _ _ ⟨rfl, rfl⟩
           refine RG.norm rfl ?_
           refine RG.fin hR rfl ?_
           refine J.norm rfl ?_
           refine J.meetI (p114, c114) trivial ⟨rfl, rfl, rfl, rfl, rfl, rfl, trivial⟩
         ·
          refine RGi.made rfl rfl rfl rfl (C.bslG (l := [_]) Tryz.runUnderlying112 Tryz.sizeOf25 Tryz.zeroValue25 (by decide) rfl rfl rfl rfl rfl) ?_
          rintro b113
          refine RG.made 8 hR rfl rfl rfl rfl rfl (C.bslG (l := [_]) Tryz.runUnderlying112 Tryz.sizeOf25 Tryz.zeroValue25 (by decide) rfl rfl rfl rfl rfl) ?_
          rintro b106
          refine RG.callkI 9 hR rfl rfl rfl rfl rfl Tryz.call21 (bytesO p100 (some ⟨b105, 0, none⟩) c100 c105 b106 (acc ++ numB ui) u.bucket.data.toList (by omega) (by rw [List.length_append]; omega)) rfl ?_
          rintro _ _ ⟨p107, c107, rfl, rfl⟩
          refine RG.normE rfl ?_
          refine RG.callI 16 hR rfl rfl rfl rfl rfl rfl Tryz.call21 (bytesO p107 (some ⟨b112, 0, none⟩) c107 c112 b113 (acc ++ numB ui ++ encB u.bucket.data.toList) u.key.data.toList (by omega) (by rw [List.length_append, List.length_append]; omega)) rfl ?_
          rintro _ _ ⟨p114, c114, rfl, rfl⟩
          refine RG.norm rfl ?_
          refine RG.bar 17 hR rfl rfl rfl rfl rfl rfl (Q.asg rfl).toC ?_
          rintro _ _ ⟨rfl, rfl⟩
          refine RG.norm rfl ?_
          refine RG.fin hR rfl ?_
          refine J.norm rfl ?_
          refine J.meetI (p114, c114) trivial ⟨rfl, rfl, rfl, rfl, rfl, rfl, trivial⟩
       ·
        refine RGi.made rfl rfl rfl rfl (C.bslG (l := [_]) Tryz.runUnderlying112 Tryz.sizeOf25 Tryz.zeroValue25 (by decide) rfl rfl rfl rfl rfl) ?_
        rintro b106
        refine RG.many hR 2 [14] rfl ⟨?_, ⟨?_, trivial⟩⟩
        ·
         refine RGi.callkI rfl rfl rfl rfl Tryz.call18 (number_spec p c acc ui (by omega) hui) rfl ?_
         rintro _ _ ⟨p100, c100, rfl, rfl⟩
         refine RG.normE rfl ?_
         refine RG.many hR 9 [14] rfl ⟨?_, ⟨?_, trivial⟩⟩
         ·
          refine RGi.callkI rfl rfl rfl rfl Tryz.call21 (bytesO p100 (some ⟨b105, 0, none⟩) c100 c105 b106 (acc ++ numB ui) u.bucket.data.toList (by omega) (by rw [List.length_append]; omega)) rfl ?_
          rintro _ _ ⟨p107, c107, rfl, rfl⟩
          refine RG.normE rfl ?_
          refine RG.made2 14 hR rfl rfl rfl rfl rfl (C.s2bL Tryz.runUnderlying9 Tryz.runUnderlying25 Tryz.runUnderlying5 rfl) ?_
          rintro b112 c112
          refine RG.made 15 hR rfl rfl rfl rfl rfl (C.bslG (l := [_]) Tryz.runUnderlying112 Tryz.sizeOf25 Tryz.zeroValue25 (by decide) rfl rfl rfl rfl rfl) ?_
          rintro b113
          refine RG.callI 16 hR rfl rfl rfl rfl rfl rfl Tryz.call21 (bytesO p107 (some ⟨b112, 0, none⟩) c107 c112 b113 (acc ++ numB ui ++ encB u.bucket.data.toList) u.key.data.toList (by omega) (by rw [List.length_append, List.length_append]; omega)) rfl ?_
          rintro _ _ ⟨p114, c114, rfl, rfl⟩
          refine RG.norm rfl ?_
          refine RG.bar 17 hR rfl rfl rfl rfl rfl rfl (Q.asg rfl).toC ?_
          rintro _ _ ⟨rfl, rfl⟩
          refine RG.norm rfl ?_
          refine RG.fin hR rfl ?_
          refine J.norm rfl ?_
          refine J.meetI (p114, c114) trivial ⟨rfl, rfl, rfl, rfl, rfl, rfl, trivial⟩
         ·
          refine RGi.made2 rfl rfl rfl rfl (C.s2bL Tryz.runUnderlying9 Tryz.runUnderlying25 Tryz.runUnderlying5 rfl) ?_
          rintro b112 c112
          refine RG.many hR 9 [15] rfl ⟨?_, ⟨?_, trivial⟩⟩
          ·
           refine RGi.callkI rfl rfl rfl rfl Tryz.call21 (bytesO p100 (some ⟨b105, 0, none⟩) c100 c105 b106 (acc ++ numB ui) u.bucket.data.toList (by omega) (by rw [List.length_append]; omega)) rfl ?_
           rintro _ _ ⟨p107, c107, rfl, rfl⟩
           refine RG.normE rfl ?_
           refine RG.made 15 hR rfl rfl rfl rfl rfl (C.bslG (l := [_]) Tryz.runUnderlying112 Tryz.sizeOf25 Tryz.zeroValue25 (by decide) rfl rfl rfl rfl rfl) ?_
           rintro b113
           refine RG.callI 16 hR rfl rfl rfl rfl rfl rfl Tryz.call21 (bytesO p107 (some ⟨b112, 0, none⟩) c107 c112 b113 (acc ++ numB ui ++ encB u.bucket.data.toList) u.key.data.toList (by omega) (by rw [List.length_append, List.length_append]; omega)) rfl ?_
           rintro _ _ ⟨p114, c114, rfl, rfl⟩
           refine RG.norm rfl ?_
           refine RG.bar 17 hR rfl rfl rfl rfl rfl rfl (Q.asg rfl).toC ?_
           rintro _ _ ⟨rfl, rfl⟩
           refine RG.norm rfl ?_
           refine RG.fin hR rfl ?_
           refine J.norm rfl ?_
           refine J.meetI (p114, c114) trivial ⟨rfl, rfl, rfl, rfl, rfl, rfl, trivial⟩
          ·
           refine RGi.made rfl rfl rfl rfl (C.bslG (l := [_]) Tryz.runUnderlying112 Tryz.sizeOf25 Tryz.zeroValue25 (by decide) rfl rfl rfl rfl rfl) ?_
           rintro b113
           refine RG.callkI 9 hR rfl rfl rfl rfl rfl Tryz.call21 (bytesO p100 (some ⟨b105, 0, none⟩) c100 c105 b106 (acc ++ numB ui) u.bucket.data.toList (by omega) (by rw [List.length_append]; omega)) rfl ?_
           rintro _ _ ⟨p107, c107, rfl, rfl⟩
           refine RG.normE rfl ?_
           refine RG.callI 16 hR rfl rfl rfl rfl rfl rfl Tryz.call21 (bytesO p107 (some ⟨b112, 0, none⟩) c107 c112 b113 (acc ++ numB ui ++ encB u.bucket.data.toList) u.key.data.toList (by omega) (by rw [List.length_append, List.length_append]; omega)) rfl ?_
           rintro _ _ ⟨p114, c114, rfl, rfl⟩
           refine RG.norm rfl ?_
           refine RG.bar 17 hR rfl rfl rfl rfl rfl rfl (Q.asg rfl).toC ?_
           rintro _ _ ⟨rfl, rfl⟩
           refine RG.norm rfl ?_
           refine RG.fin hR rfl ?_
           refine J.norm rfl ?_
           refine J.meetI (p114, c114) trivial ⟨rfl, rfl, rfl, rfl, rfl, rfl, trivial⟩
        ·
         refine RGi.made2 rfl rfl rfl rfl (C.s2bL Tryz.runUnderlying9 Tryz.runUnderlying25 Tryz.runUnderlying5 rfl) ?_
         rintro b112 c112
         refine RG.many hR 2 [15] rfl ⟨?_, ⟨?_, trivial⟩⟩
         ·
          refine RGi.callkI rfl rfl rfl rfl Tryz.call18 (number_spec p c acc ui (by omega) hui) rfl ?_
          rintro _ _ ⟨p100, c100, rfl, rfl⟩
          refine RG.normE rfl ?_
          refine RG.many hR 9 [15] rfl ⟨?_, ⟨?_, trivial⟩⟩
          ·
           refine RGi.callkI rfl rfl rfl rfl Tryz.call21 (bytesO p100 (some ⟨b105, 0, none⟩) c100 c105 b106 (acc ++ numB ui) u.bucket.data.toList (by omega) (by rw [List.length_append]; omega)) rfl ?_
           rintro _ _ ⟨p107, c107, rfl, rfl⟩
           refine RG.normE rfl ?_
           refine RG.made 15 hR rfl rfl rfl rfl rfl (C.bslG (l := [_]) Tryz.runUnderlying112 Tryz.sizeOf25 Tryz.zeroValue25 (by decide) rfl rfl rfl rfl rfl) ?_
           rintro b113
           refine RG.callI 16 hR rfl rfl rfl rfl rfl rfl Tryz.call21 (bytesO p107 (some ⟨b112, 0, none⟩) c107 c112 b113 (acc ++ numB ui ++ encB u.bucket.data.toList) u.key.data.toList (by omega) (by rw [List.length_append, List.length_append]; omega)) rfl ?_
           rintro _ _ ⟨p114, c114, rfl, rfl⟩
           refine RG.norm rfl ?_
           refine RG.bar 17 hR rfl rfl rfl rfl rfl rfl (Q.asg rfl).toC ?_
           rintro _ _ ⟨rfl, rfl⟩
           refine RG.norm rfl ?_
           refine RG.fin hR rfl ?_
           refine J.norm rfl ?_
           refine J.meetI (p114, c114) trivial ⟨rfl, rfl, rfl, rfl, rfl, rfl, trivial⟩
          ·
           refine RGi.made rfl rfl rfl rfl (C.bslG (l := [_]) Tryz.runUnderlying112 Tryz.sizeOf25 Tryz.zeroValue25 (by decide) rfl rfl rfl rfl rfl) ?_
           rintro b113
           refine RG.callkI 9 hR rfl rfl rfl rfl rfl Tryz.call21 (bytesO p100 (some ⟨b105, 0, none⟩) c100 c105 b106 (acc ++ numB ui) u.bucket.data.toList (by omega) (by rw [List.length_append]; omega)) rfl ?_
           rintro _ _ ⟨p107, c107, rfl, rfl⟩
           refine RG.normE rfl ?_
           refine RG.callI 16 hR rfl rfl rfl rfl rfl rfl Tryz.call21 (bytesO p107 (some ⟨b112, 0, none⟩) c107 c112 b113 (acc ++ numB ui ++ encB u.bucket.data.toList) u.key.data.toList (by omega) (by rw [List.length_append, List.length_append]; omega)) rfl ?_
           rintro _ _ ⟨p114, c114, rfl, rfl⟩
           refine RG.norm rfl ?_
           refine RG.bar 17 hR rfl rfl rfl rfl rfl rfl (Q.asg rfl).toC ?_
           rintro _ _ ⟨rfl, rfl⟩
           refine RG.norm rfl ?_
           refine RG.fin hR rfl ?_
           refine J.norm rfl ?_
           refine J.meetI (p114, c114) trivial ⟨rfl, rfl, rfl, rfl, rfl, rfl, trivial⟩
         ·
          refine RGi.made rfl rfl rfl rfl (C.bslG (l := [_]) Tryz.runUnderlying112 Tryz.sizeOf25 Tryz.zeroValue25 (by decide) rfl rfl rfl rfl rfl) ?_
          rintro b113
          refine RG.callkI 2 hR rfl rfl rfl rfl rfl Tryz.call18 (number_spec p c acc ui (by omega) hui) rfl ?_
          rintro _ _ ⟨p100, c100, rfl, rfl⟩
          refine RG.normE rfl ?_
          refine RG.callkI 9 hR rfl rfl rfl rfl rfl Tryz.call21 (bytesO p100 (some ⟨b105, 0, none⟩) c100 c105 b106 (acc ++ numB ui) u.bucket.data.toList (by omega) (by rw [List.length_append]; omega)) rfl ?_
          rintro _ _ ⟨p107, c107, rfl, rfl⟩
          refine RG.normE rfl ?_
          refine RG.callI 16 hR rfl rfl rfl rfl rfl rfl Tryz.call21 (bytesO p107 (some ⟨b112, 0, none⟩) c107 c112 b113 (acc ++ numB ui ++ encB u.bucket.data.toList) u.key.data.toList (by omega) (by rw [List.length_append, List.length_append]; omega)) rfl ?_
          rintro _ _ ⟨p114, c114, rfl, rfl⟩
          refine RG.norm rfl ?_
          refine RG.bar 17 hR rfl rfl rfl rfl rfl rfl (Q.asg rfl).toC ?_
          rintro _ _ ⟨rfl, rfl⟩
          refine RG.norm rfl ?_
          refine RG.fin hR rfl ?_
          refine J.norm rfl ?_
          refine J.meetI (p114, c114) trivial ⟨rfl, rfl, rfl, rfl, rfl, rfl, trivial⟩
       ·
        refine RGi.made2 rfl rfl rfl rfl (C.s2bL Tryz.runUnderlying9 Tryz.runUnderlying25 Tryz.runUnderlying5 rfl) ?_
        rintro b112 c112
        refine RG.many hR 2 [8, 15] rfl ⟨?_, ⟨?_, ⟨?_, trivial⟩⟩⟩
        ·
         refine RGi.callkI rfl rfl rfl rfl Tryz.call18 (number_spec p c acc ui (by omega) hui) rfl ?_
         rintro _ _ ⟨p100, c100, rfl, rfl⟩
         refine RG.normE rfl ?_
         refine RG.many hR 8 [15] rfl ⟨?_, ⟨?_, trivial⟩⟩
         ·
          refine RGi.made rfl rfl rfl rfl (C.bslG (l := [_]) Tryz.runUnderlying112 Tryz.sizeOf25 Tryz.zeroValue25 (by decide) rfl rfl rfl rfl rfl) ?_
          rintro b106
          refine RG.many hR 9 [15] rfl ⟨?_, ⟨?_, trivial⟩⟩
          ·
           refine RGi.callkI rfl rfl rfl rfl Tryz.call21 (bytesO p100 (some ⟨b105, 0, none⟩) c100 c105 b106 (acc ++ numB ui) u.bucket.data.toList (by omega) (by rw [List.length_append]; omega)) rfl ?_
           rintro _ _ ⟨p107, c107, rfl, rfl⟩
           refine RG.normE rfl ?_
           refine RG.made 15 hR rfl rfl rfl rfl rfl (C.bslG (l := [_]) Tryz.runUnderlying112 Tryz.sizeOf25 Tryz.zeroValue25 (by decide) rfl rfl rfl rfl rfl) ?_
           rintro b113
           refine RG.callI 16 hR rfl rfl rfl rfl rfl rfl Tryz.call21 (bytesO p107 (some ⟨b112, 0, none⟩) c107 c112 b113 (acc ++ numB ui ++ encB u.bucket.data.toList) u.key.data.toList (by omega) (by rw [List.length_append, List.length_append]; omega)) rfl ?_
           rintro _ _ ⟨p114, c114, rfl, rfl⟩
           refine RG.norm rfl ?_
           refine RG.bar 17 hR rfl rfl rfl rfl rfl rfl (Q.asg rfl).toC ?_
           rintro _ _ ⟨rfl, rfl⟩
           refine RG.norm rfl ?_
           refine RG.fin hR rfl ?_
           refine J.norm rfl ?_
           refine J.meetI (p114, c114) trivial ⟨rfl, rfl, rfl, rfl, rfl, rfl, trivial⟩
          ·
           refine RGi.made rfl rfl rfl rfl (C.bslG (l := [_]) Tryz.runUnderlying112 Tryz.sizeOf25 Tryz.zeroValue25 (by decide) rfl rfl rfl rfl rfl) ?_
           rintro b113
           refine RG.callkI 9 hR rfl rfl rfl rfl rfl Tryz.call21 (bytesO p100 (some ⟨b105, 0, none⟩) c100 c105 b106 (acc ++ numB ui) u.bucket.data.toList (by omega) (by rw [List.length_append]; omega)) rfl ?_
           rintro _ _ ⟨p107, c107, rfl, rfl⟩
           refine RG.normE rfl ?_
           refine RG.callI 16 hR rfl rfl rfl rfl rfl rfl Tryz.call21 (bytesO p107 (some ⟨b112, 0, none⟩) c107 c112 b113 (acc ++ numB ui ++ encB u.bucket.data.toList) u.key.data.toList (by omega) (by rw [List.length_append, List.length_append]; omega)) rfl ?_
           rintro _ _ ⟨p114, c114, rfl, rfl⟩
           refine RG.norm rfl ?_
           refine RG.bar 17 hR rfl rfl rfl rfl rfl rfl (Q.asg rfl).toC ?_
           rintro _ _ ⟨rfl, rfl⟩
           refine RG.norm rfl ?_
           refine RG.fin hR rfl ?_
           refine J.norm rfl ?_
           refine J.meetI (p114, c114) trivial ⟨rfl, rfl, rfl, rfl, rfl, rfl, trivial⟩
         ·
          refine RGi.made rfl rfl rfl rfl (C.bslG (l := [_]) Tryz.runUnderlying112 Tryz.sizeOf25 Tryz.zeroValue25 (by decide) rfl rfl rfl rfl rfl) ?_
          rintro b113
          refine RG.made 8 hR rfl rfl rfl rfl rfl (C.bslG (l := [_]) Tryz.runUnderlying112 Tryz.sizeOf25 Tryz.zeroValue25 (by decide) rfl rfl rfl rfl rfl) ?_
          rintro b106
          refine RG.callkI 9 hR rfl rfl rfl rfl rfl Tryz.call21 (bytesO p100 (some ⟨b105, 0, none⟩) c100 c105 b106 (acc ++ numB ui) u.bucket.data.toList (by omega) (by rw [List.length_append]; omega)) rfl ?_
          rintro _ _ ⟨p107, c107, rfl, rfl⟩
          refine RG.normE rfl ?_
          refine RG.callI 16 hR rfl rfl rfl rfl rfl rfl Tryz.call21 (bytesO p107 (some ⟨b112, 0, none⟩) c107 c112 b113 (acc ++ numB ui ++ encB u.bucket.data.toList) u.key.data.toList (by omega) (by rw [List.length_append, List.length_append]; omega)) rfl ?_
          rintro _ _ ⟨p114, c114, rfl, rfl⟩
          refine RG.norm rfl ?_
          refine RG.bar 17 hR rfl rfl rfl rfl rfl rfl (Q.asg rfl).toC ?_
          rintro _ _ ⟨rfl, rfl⟩
          refine RG.norm rfl ?_
          refine RG.fin hR rfl ?_
          refine J.norm rfl ?_
          refine J.meetI (p114, c114) trivial ⟨rfl, rfl, rfl, rfl, rfl, rfl, trivial⟩
        ·
         refine RGi.made rfl rfl rfl rfl (C.bslG (l := [_]) Tryz.runUnderlying112 Tryz.sizeOf25 Tryz.zeroValue25 (by decide) rfl rfl rfl rfl rfl) ?_
         rintro b106
         refine RG.many hR 2 [15] rfl ⟨?_, ⟨?_, trivial⟩⟩
         ·
          refine RGi.callkI rfl rfl rfl rfl Tryz.call18 (number_spec p c acc ui (by omega) hui) rfl ?_
          rintro _ _ ⟨p100, c100, rfl, rfl⟩
          refine RG.normE rfl ?_
          refine RG.many hR 9 [15] rfl ⟨?_, ⟨?_, trivial⟩⟩
          ·
           refine RGi.callkI rfl rfl rfl rfl Tryz.call21 (bytesO p100 (some ⟨b105, 0, none⟩) c100 c105 b106 (acc ++ numB ui) u.bucket.data.toList (by omega) (by rw [List.length_append]; omega)) rfl ?_
           rintro _ _ ⟨p107, c107, rfl, rfl⟩
           refine RG.normE rfl ?_
           refine RG.made 15 hR rfl rfl rfl rfl rfl (C.bslG (l := [_]) Tryz.runUnderlying112 Tryz.sizeOf25 Tryz.zeroValue25 (by decide) rfl rfl rfl rfl rfl) ?_
           rintro b113
           refine RG.callI 16 hR rfl rfl rfl rfl rfl rfl Tryz.call21 (bytesO p107 (some ⟨b112, 0, none⟩) c107 c112 b113 (acc ++ numB ui ++ encB u.bucket.data.toList) u.key.data.toList (by omega) (by rw [List.length_append, List.length_append]; omega)) rfl ?_
           rintro _ _ ⟨p114, c114, rfl, rfl⟩
           refine RG.norm rfl ?_
           refine RG.bar 17 hR rfl rfl rfl rfl rfl rfl (Q.asg rfl).toC ?_
           rintro _ _ ⟨rfl, rfl⟩
           refine RG.norm rfl ?_
           refine RG.fin hR rfl ?_
           refine J.norm rfl ?_
           refine J.meetI (p114, c114) trivial ⟨rfl, rfl, rfl, rfl, rfl, rfl, trivial⟩
          ·
           refine RGi.made rfl rfl rfl rfl (C.bslG (l := [_]) Tryz.runUnderlying112 Tryz.sizeOf25 Tryz.zeroValue25 (by decide) rfl rfl rfl rfl rfl) ?_
           rintro b113
           refine RG.callkI 9 hR rfl rfl rfl rfl rfl Tryz.call21 (bytesO p100 (some ⟨b105, 0, none⟩) c100 c105 b106 (acc ++ numB ui) u.bucket.data.toList (by omega) (by rw [List.length_append]; omega)) rfl ?_
           rintro _ _ ⟨p107, c107, rfl, rfl⟩
           refine RG.normE rfl ?_
           refine RG.callI 16 hR rfl rfl rfl rfl rfl rfl Tryz.call21 (bytesO p107 (some ⟨b112, 0, none⟩) c107 c112 b113 (acc ++ numB ui ++ encB u.bucket.data.toList) u.key.data.toList (by omega) (by rw [List.length_append, List.length_append]; omega)) rfl ?_
           rintro _ _ ⟨p114, c114, rfl, rfl⟩
           refine RG.norm rfl ?_
           refine RG.bar 17 hR rfl rfl rfl rfl rfl rfl (Q.asg rfl).toC ?_
           rintro _ _ ⟨rfl, rfl⟩
           refine RG.norm rfl ?_
           refine RG.fin hR rfl ?_
           refine J.norm rfl ?_
           refine J.meetI (p114, c114) trivial ⟨rfl, rfl, rfl, rfl, rfl, rfl, trivial⟩
         ·
          refine RGi.made rfl rfl rfl rfl (C.bslG (l := [_]) Tryz.runUnderlying112 Tryz.sizeOf25 Tryz.zeroValue25 (by decide) rfl rfl rfl rfl rfl) ?_
          rintro b113
          refine RG.callkI 2 hR rfl rfl rfl rfl rfl Tryz.call18 (number_spec p c acc ui (by omega) hui) rfl ?_
          rintro _ _ ⟨p100, c100, rfl, rfl⟩
          refine RG.normE rfl ?_
          refine RG.callkI 9 hR rfl rfl rfl rfl rfl Tryz.call21 (bytesO p100 (some ⟨b105, 0, none⟩) c100 c105 b106 (acc ++ numB ui) u.bucket.data.toList (by omega) (by rw [List.length_append]; omega)) rfl ?_
          rintro _ _ ⟨p107, c107, rfl, rfl⟩
          refine RG.normE rfl ?_
          refine RG.callI 16 hR rfl rfl rfl rfl rfl rfl Tryz.call21 (bytesO p107 (some ⟨b112, 0, none⟩) c107 c112 b113 (acc ++ numB ui ++ encB u.bucket.data.toList) u.key.data.toList (by omega) (by rw [List.length_append, List.length_append]; omega)) rfl ?_
          rintro _ _ ⟨p114, c114, rfl, rfl⟩
          refine RG.norm rfl ?_
          refine RG.bar 17 hR rfl rfl rfl rfl rfl rfl (Q.asg rfl).toC ?_
          rintro _ _ ⟨rfl, rfl⟩
          refine RG.norm rfl ?_
          refine RG.fin hR rfl ?_
          refine J.norm rfl ?_
          refine J.meetI (p114, c114) trivial ⟨rfl, rfl, rfl, rfl, rfl, rfl, trivial⟩
        ·
         refine RGi.made rfl rfl rfl rfl (C.bslG (l := [_]) Tryz.runUnderlying112 Tryz.sizeOf25 Tryz.zeroValue25 (by decide) rfl rfl rfl rfl rfl) ?_
         rintro b113
         refine RG.many hR 2 [8] rfl ⟨?_, ⟨?_, trivial⟩⟩
         ·
          refine RGi.callkI rfl rfl rfl rfl Tryz.call18 (number_spec p c acc ui (by omega) hui) rfl ?_
          rintro _ _ ⟨p100, c100, rfl, rfl⟩
          refine RG.normE rfl ?_
          refine RG.made 8 hR rfl rfl rfl rfl rfl (C.bslG (l := [_]) Tryz.runUnderlying112 Tryz.sizeOf25 Tryz.zeroValue25 (by decide) rfl rfl rfl rfl rfl) ?_
          rintro b106
          refine RG.callkI 9 hR rfl rfl rfl rfl rfl Tryz.call21 (bytesO p100 (some ⟨b105, 0, none⟩) c100 c105 b106 (acc ++ numB ui) u.bucket.data.toList (by omega) (by rw [List.length_append]; omega)) rfl ?_
          rintro _ _ ⟨p107, c107, rfl, rfl⟩
          refine RG.normE rfl ?_
          refine RG.callI 16 hR rfl rfl rfl rfl rfl rfl Tryz.call21 (bytesO p107 (some ⟨b112, 0, none⟩) c107 c112 b113 (acc ++ numB ui ++ encB u.bucket.data.toList) u.key.data.toList (by omega) (by rw [List.length_append, List.length_append]; omega)) rfl ?_
          rintro _ _ ⟨p114, c114, rfl, rfl⟩
          refine RG.norm rfl ?_
          refine RG.bar 17 hR rfl rfl rfl rfl rfl rfl (Q.asg rfl).toC ?_
          rintro _ _ ⟨rfl, rfl⟩
          refine RG.norm rfl ?_
          refine RG.fin hR rfl ?_
          refine J.norm rfl ?_
          refine J.meetI (p114, c114) trivial ⟨rfl, rfl, rfl, rfl, rfl, rfl, trivial⟩
         ·
          refine RGi.made rfl rfl rfl rfl (C.bslG (l := [_]) Tryz.runUnderlying112 Tryz.sizeOf25 Tryz.zeroValue25 (by decide) rfl rfl rfl rfl rfl) ?_
          rintro b106
          refine RG.callkI 2 hR rfl rfl rfl rfl rfl Tryz.call18 (number_spec p c acc ui (by omega) hui) rfl ?_
          rintro _ _ ⟨p100, c100, rfl, rfl⟩
          refine RG.normE rfl ?_
          refine RG.callkI 9 hR rfl rfl rfl rfl rfl Tryz.call21 (bytesO p100 (some ⟨b105, 0, none⟩) c100 c105 b106 (acc ++ numB ui) u.bucket.data.toList (by omega) (by rw [List.length_append]; omega)) rfl ?_
          rintro _ _ ⟨p107, c107, rfl, rfl⟩
          refine RG.normE rfl ?_
          refine RG.callI 16 hR rfl rfl rfl rfl rfl rfl Tryz.call21 (bytesO p107 (some ⟨b112, 0, none⟩) c107 c112 b113 (acc ++ numB ui ++ encB u.bucket.data.toList) u.key.data.toList (by omega) (by rw [List.length_append, List.length_append]; omega)) rfl ?_
          rintro _ _ ⟨p114, c114, rfl, rfl⟩
          refine RG.norm rfl ?_
          refine RG.bar 17 hR rfl rfl rfl rfl rfl rfl (Q.asg rfl).toC ?_
          rintro _ _ ⟨rfl, rfl⟩
          refine RG.norm rfl ?_
          refine RG.fin hR rfl ?_
          refine J.norm rfl ?_
          refine J.meetI (p114, c114) trivial ⟨rfl, rfl, rfl, rfl, rfl, rfl, trivial⟩
      ·
       refine RGi.made2 rfl rfl rfl rfl (C.s2bL Tryz.runUnderlying9 Tryz.runUnderlying25 Tryz.runUnderlying5 rfl) ?_
       rintro b112 c112
       refine RG.many hR 2 [7, 15] rfl ⟨?_, ⟨?_, ⟨?_, trivial⟩⟩⟩
       ·
        refine RGi.callkI rfl rfl rfl rfl Tryz.call18 (number_spec p c acc ui (by omega) hui) rfl ?_
        rintro _ _ ⟨p100, c100, rfl, rfl⟩
        refine RG.normE rfl ?_
        refine RG.many hR 7 [15] rfl ⟨?_, ⟨?_, trivial⟩⟩
        ·
         refine RGi.made2 rfl rfl rfl rfl (C.s2bL Tryz.runUnderlying9 Tryz.runUnderlying25 Tryz.runUnderlying5 rfl) ?_
         rintro b105 c105
         refine RG.many hR 8 [15] rfl ⟨?_, ⟨?_, trivial⟩⟩
         ·
          refine RGi.made rfl rfl rfl rfl (C.bslG (l := [_]) Tryz.runUnderlying112 Tryz.sizeOf25 Tryz.zeroValue25 (by decide) rfl rfl rfl rfl rfl) ?_
          rintro b106
          refine RG.many hR 9 [15] rfl ⟨?_, ⟨?_, trivial⟩⟩
          ·
           refine RGi.callkI rfl rfl rfl rfl Tryz.call21 (bytesO p100 (some ⟨b105, 0, none⟩) c100 c105 b106 (acc ++ numB ui) u.bucket.data.toList (by omega) (by rw [List.length_append]; omega)) rfl ?_
           rintro _ _ ⟨p107, c107, rfl, rfl⟩
           refine RG.normE rfl ?_
           refine RG.made 15 hR rfl rfl rfl rfl rfl (C.bslG (l := [_]) Tryz.runUnderlying112 Tryz.sizeOf25 Tryz.zeroValue25 (by decide) rfl rfl rfl rfl rfl) ?_
           rintro b113
           refine RG.callI 16 hR rfl rfl rfl rfl rfl rfl Tryz.call21 (bytesO p107 (some ⟨b112, 0, none⟩) c107 c112 b113 (acc ++ numB ui ++ encB u.bucket.data.toList) u.key.data.toList (by omega) (by rw [List.length_append, List.length_append]; omega)) rfl ?_
           rintro _ _ ⟨p114, c114, rfl, rfl⟩
           refine RG.norm rfl ?_
           refine RG.bar 17 hR rfl rfl rfl rfl rfl rfl (Q.asg rfl).toC ?_
           rintro _ _ ⟨rfl, rfl⟩
           refine RG.norm rfl ?_
           refine RG.fin hR rfl ?_
           refine J.norm rfl ?_
           refine J.meetI (p114, c114) trivial ⟨rfl, rfl, rfl, rfl, rfl, rfl, trivial⟩
          ·
           refine RGi.made rfl rfl rfl rfl (C.bslG (l := [_]) Tryz.runUnderlying112 Tryz.sizeOf25 Tryz.zeroValue25 (by decide) rfl rfl rfl rfl rfl) ?_
           rintro b113
           refine RG.callkI 9 hR rfl rfl rfl rfl rfl Tryz.call21 (bytesO p100 (some ⟨b105, 0, none⟩) c100 c105 b106 (acc ++ numB ui) u.bucket.data.toList (by omega) (by rw [List.length_append]; omega)) rfl ?_
           rintro _ _ ⟨p107, c107, rfl, rfl⟩
           refine RG.normE rfl ?_
           refine RG.callI 16 hR rfl rfl rfl rfl rfl rfl Tryz.call21 (bytesO p107 (some ⟨b112, 0, none⟩) c107 c112 b113 (acc ++ numB ui ++ encB u.bucket.data.toList) u.key.data.toList (by omega) (by rw [List.length_append, List.length_append]; omega)) rfl ?_
           rintro _ _ ⟨p114, c114, rfl, rfl⟩
           refine RG.norm rfl ?_
           refine RG.bar 17 hR rfl rfl rfl rfl rfl rfl (Q.asg rfl).toC ?_
           rintro _ _ ⟨rfl, rfl⟩
           refine RG.norm rfl ?_
           refine RG.fin hR rfl ?_
           refine J.norm rfl ?_
           refine J.meetI (p114, c114) trivial ⟨rfl, rfl, rfl, rfl, rfl, rfl, trivial⟩
         ·
          refine RGi.made rfl rfl rfl rfl (C.bslG (l := [_]) Tryz.runUnderlying112 Tryz.sizeOf25 Tryz.zeroValue25 (by decide) rfl rfl rfl rfl rfl) ?_
          rintro b113
          refine RG.made 8 hR rfl rfl rfl rfl rfl (C.bslG (l := [_]) Tryz.runUnderlying112 Tryz.sizeOf25 Tryz.zeroValue25 (by decide) rfl rfl rfl rfl rfl) ?_
          rintro b106
          refine RG.callkI 9 hR rfl rfl rfl rfl rfl Tryz.call21 (bytesO p100 (some ⟨b105, 0, none⟩) c100 c105 b106 (acc ++ numB ui) u.bucket.data.toList (by omega) (by rw [List.length_append]; omega)) rfl ?_
          rintro _ _ ⟨p107, c107, rfl, rfl⟩
          refine RG.normE rfl ?_
          refine RG.callI 16 hR rfl rfl rfl rfl rfl rfl Tryz.call21 (bytesO p107 (some ⟨b112, 0, none⟩) c107 c112 b113 (acc ++ numB ui ++ encB u.bucket.data.toList) u.key.data.toList (by omega) (by rw [List.length_append, List.length_append]; omega)) rfl ?_
          rintro _ _ ⟨p114, c114, rfl, rfl⟩
          refine RG.norm rfl ?_
          refine RG.bar 17 hR rfl rfl rfl rfl rfl rfl (Q.asg rfl).toC ?_
          rintro _ _ ⟨rfl, rfl⟩
          refine RG.norm rfl ?_
          refine RG.fin hR rfl ?_
          refine J.norm rfl ?_
          refine J.meetI (p114, c114) trivial ⟨rfl, rfl, rfl, rfl, rfl, rfl, trivial⟩
        ·
         refine RGi.made rfl rfl rfl rfl (C.bslG (l := [_]) Tryz.runUnderlying112 Tryz.sizeOf25 Tryz.zeroValue25 (by decide) rfl rfl rfl rfl rfl) ?_
         rintro b113
         refine RG.made2 7 hR rfl rfl rfl rfl rfl (C.s2bL Tryz.runUnderlying9 Tryz.runUnderlying25 Tryz.runUnderlying5 rfl) ?_
         rintro b105 c105
         refine RG.made 8 hR rfl rfl rfl rfl rfl (C.bslG (l := [_]) Tryz.runUnderlying112 Tryz.sizeOf25 Tryz.zeroValue25 (by decide) rfl rfl rfl rfl rfl) ?_
         rintro b106
         refine RG.callkI 9 hR rfl rfl rfl rfl rfl Tryz.call21 (bytesO p100 (some ⟨b105, 0, none⟩) c100 c105 b106 (acc ++ numB ui) u.bucket.data.toList (by omega) (by rw [List.length_append]; omega)) rfl ?_
         rintro _ _ ⟨p107, c107, rfl, rfl⟩
         refine RG.normE rfl ?_
         refine RG.callI 16 hR rfl rfl rfl rfl rfl rfl Tryz.call21 (bytesO p107 (some ⟨b112, 0, none⟩) c107 c112 b113 (acc ++ numB ui ++ encB u.bucket.data.toList) u.key.data.toList (by omega) (by rw [List.length_append, List.length_append]; omega)) rfl ?_
         rintro _ _ ⟨p114, c114, rfl, rfl⟩
         refine RG.norm rfl ?_
         refine RG.bar 17 hR rfl rfl rfl rfl rfl rfl (Q.asg rfl).toC ?_
         rintro _ _ ⟨rfl, rfl⟩
         refine RG.norm rfl ?_
         refine RG.fin hR rfl ?_
         refine J.norm rfl ?_
         refine J.meetI (p114, c114) trivial ⟨rfl, rfl, rfl, rfl, rfl, rfl, trivial⟩
       ·
        refine RGi.made2 rfl rfl rfl rfl (C.s2bL Tryz.runUnderlying9 Tryz.runUnderlying25 Tryz.runUnderlying5 rfl) ?_
        rintro b105 c105
        refine RG.many hR 2 [8, 15] rfl ⟨?_, ⟨?_, ⟨?_, trivial⟩⟩⟩
        ·
         refine RGi.callkI rfl rfl rfl rfl Tryz.call18 (number_spec p c acc ui (by omega) hui) rfl ?_
         rintro _ _ ⟨p100, c100, rfl, rfl⟩
         refine RG.normE rfl ?_
         refine RG.many hR 8 [15] rfl ⟨?_, ⟨?_, trivial⟩⟩
         ·
          refine RGi.made rfl rfl rfl rfl (C.bslG (l := [_]) Tryz.runUnderlying112 Tryz.sizeOf25 Tryz.zeroValue25 (by decide) rfl rfl rfl rfl rfl) ?_
          rintro b106
          refine RG.many hR 9 [15] rfl ⟨?_, ⟨?_, trivial⟩⟩
          ·
           refine RGi.callkI rfl rfl rfl rfl Tryz.call21 (bytesO p100 (some ⟨b105, 0, none⟩) c100 c105 b106 (acc ++ numB ui) u.bucket.data.toList (by omega) (by rw [List.length_append]; omega)) rfl ?_
           rintro _ _ ⟨p107, c107, rfl, rfl⟩
           refine RG.normE rfl ?_
           refine RG.made 15 hR rfl rfl rfl rfl rfl (C.bslG (l := [_]) Tryz.runUnderlying112 Tryz.sizeOf25 Tryz.zeroValue25 (by decide) rfl rfl rfl rfl rfl) ?_
           rintro b113
           refine RG.callI 16 hR rfl rfl rfl rfl rfl rfl Tryz.call21 (bytesO p107 (some ⟨b112, 0, none⟩) c107 c112 b113 (acc ++ numB ui ++ encB u.bucket.data.toList) u.key.data.toList (by omega) (by rw [List.length_append, List.length_append]; omega)) rfl ?_
           rintro _ _ ⟨p114, c114, rfl, rfl⟩
           refine RG.norm rfl ?_
           refine RG.bar 17 hR rfl rfl rfl rfl rfl rfl (Q.asg rfl).toC ?_
           rintro _ _ ⟨rfl, rfl⟩
           refine RG.norm rfl ?_
           refine RG.fin hR rfl ?_
           refine J.norm rfl ?_
           refine J.meetI (p114, c114) trivial ⟨rfl, rfl, rfl, rfl, rfl, rfl, trivial⟩
          ·
           refine RGi.made rfl rfl rfl rfl (C.bslG (l := [_]) Tryz.runUnderlying112 Tryz.sizeOf25 Tryz.zeroValue25 (by decide) rfl rfl rfl rfl rfl) ?_
           rintro b113
           refine RG.callkI 9 hR rfl rfl rfl rfl rfl Tryz.call21 (bytesO p100 (some ⟨b105, 0, none⟩) c100 c105 b106 (acc ++ numB ui) u.bucket.data.toList (by omega) (by rw [List.length_append]; omega)) rfl ?_
           rintro _ _ ⟨p107, c107, rfl, rfl⟩
           refine RG.normE rfl ?_
           refine RG.callI 16 hR rfl rfl rfl rfl rfl rfl Tryz.call21 (bytesO p107 (some ⟨b112, 0, none⟩) c107 c112 b113 (acc ++ numB ui ++ encB u.bucket.data.toList) u.key.data.toList (by omega) (by rw [List.length_append, List.length_append]; omega)) rfl ?_
           rintro _ _ ⟨p114, c114, rfl, rfl⟩
           refine RG.norm rfl ?_
           refine RG.bar 17 hR rfl rfl rfl rfl rfl rfl (Q.asg rfl).toC ?_
           rintro _ _ ⟨rfl, rfl⟩
           refine RG.norm rfl ?_
           refine RG.fin hR rfl ?_
           refine J.norm rfl ?_
           refine J.meetI (p114, c114) trivial ⟨rfl, rfl, rfl, rfl, rfl, rfl, trivial⟩
         ·
          refine RGi.made rfl rfl rfl rfl (C.bslG (l := [_]) Tryz.runUnderlying112 Tryz.sizeOf25 Tryz.zeroValue25 (by decide) rfl rfl rfl rfl rfl) ?_
          rintro b113
          refine RG.made 8 hR rfl rfl rfl rfl rfl (C.bslG (l := [_]) Tryz.runUnderlying112 Tryz.sizeOf25 Tryz.zeroValue25 (by decide) rfl rfl rfl rfl rfl) ?_
          rintro b106
          refine RG.callkI 9 hR rfl rfl rfl rfl rfl Tryz.call21 (bytesO p100 (some ⟨b105, 0, none⟩) c100 c105 b106 (acc ++ numB ui) u.bucket.data.toList (by omega) (by rw [List.length_append]; omega)) rfl ?_
          rintro _ _ ⟨p107, c107, rfl, rfl⟩
          refine RG.normE rfl ?_
          refine RG.callI 16 hR rfl rfl rfl rfl rfl rfl Tryz.call21 (bytesO p107 (some ⟨b112, 0, none⟩) c107 c112 b113 (acc ++ numB ui ++ encB u.bucket.data.toList) u.key.data.toList (by omega) (by rw [List.length_append, List.length_append]; omega)) rfl ?_
          rintro _ _ ⟨p114, c114, rfl, rfl⟩
          refine RG.norm rfl ?_
          refine RG.bar 17 hR rfl rfl rfl rfl rfl rfl (Q.asg rfl).toC ?_
          rintro _ _ ⟨rfl, rfl⟩
          refine RG.norm rfl ?_
          refine RG.fin hR rfl ?_
          refine J.norm rfl ?_
          refine J.meetI (p114, c114) trivial ⟨rfl, rfl, rfl, rfl, rfl, rfl, trivial⟩
        ·
         refine RGi.made rfl rfl rfl rfl (C.bslG (l := [_]) Tryz.runUnderlying112 Tryz.sizeOf25 Tryz.zeroValue25 (by decide) rfl rfl rfl rfl rfl) ?_
         rintro b106
         refine RG.many hR 2 [15] rfl ⟨?_, ⟨?_, trivial⟩⟩
         ·
          refine RGi.callkI rfl rfl rfl rfl Tryz.call18 (number_spec p c acc ui (by omega) hui) rfl ?_
          rintro _ _ ⟨p100, c100, rfl, rfl⟩
          refine RG.normE rfl ?_
          refine RG.many hR 9 [15] rfl ⟨?_, ⟨?_, trivial⟩⟩
          ·
           refine RGi.callkI rfl rfl rfl rfl Tryz.call21 (bytesO p100 (some ⟨b105, 0, none⟩) c100 c105 b106 (acc ++ numB ui) u.bucket.data.toList (by omega) (by rw [List.length_append]; omega)) rfl ?_
           rintro _ _ ⟨p107, c107, rfl, rfl⟩
           refine RG.normE rfl ?_
           refine RG.made 15 hR rfl rfl rfl rfl rfl (C.bslG (l := [_]) Tryz.runUnderlying112 Tryz.sizeOf25 Tryz.zeroValue25 (by decide) rfl rfl rfl rfl rfl) ?_
           rintro b113
           refine RG.callI 16 hR rfl rfl rfl rfl rfl rfl Tryz.call21 (bytesO p107 (some ⟨b112, 0, none⟩) c107 c112 b113 (acc ++ numB ui ++ encB u.bucket.data.toList) u.key.data.toList (by omega) (by rw [List.length_append, List.length_append]; omega)) rfl ?_
           rintro _ _ ⟨p114, c114, rfl, rfl⟩
           refine RG.norm rfl ?_
           refine RG.bar 17 hR rfl rfl rfl rfl rfl rfl (Q.asg rfl).toC ?_
           rintro _ _ ⟨rfl, rfl⟩
           refine RG.norm rfl ?_
           refine RG.fin hR rfl ?_
           refine J.norm rfl ?_
           refine J.meetI (p114, c114) trivial ⟨rfl, rfl, rfl, rfl, rfl, rfl, trivial⟩
          ·
           refine RGi.made rfl rfl rfl rfl (C.bslG (l := [_]) Tryz.runUnderlying112 Tryz.sizeOf25 Tryz.zeroValue25 (by decide) rfl rfl rfl rfl rfl) ?_
           rintro b113
           refine RG.callkI 9 hR rfl rfl rfl rfl rfl Tryz.call21 (bytesO p100 (some ⟨b105, 0, none⟩) c100 c105 b106 (acc ++ numB ui) u.bucket.data.toList (by omega) (by rw [List.length_append]; omega)) rfl ?_
           rintro _ _ ⟨p107, c107, rfl, rfl⟩
           refine RG.normE rfl ?_
           refine RG.callI 16 hR rfl rfl rfl rfl rfl rfl Tryz.call21 (bytesO p107 (some ⟨b112, 0, none⟩) c107 c112 b113 (acc ++ numB ui ++ encB u.bucket.data.toList) u.key.data.toList (by omega) (by rw [List.length_append, List.length_append]; omega)) rfl ?_
           rintro _ _ ⟨p114, c114, rfl, rfl⟩
           refine RG.norm rfl ?_
           refine RG.bar 17 hR rfl rfl rfl rfl rfl rfl (Q.asg rfl).toC ?_
           rintro _ _ ⟨rfl, rfl⟩
           refine RG.norm rfl ?_
           refine RG.fin hR rfl ?_
           refine J.norm rfl ?_
           refine J.meetI (p114, c114) trivial ⟨rfl, rfl, rfl, rfl, rfl, rfl, trivial⟩
         ·
          refine RGi.made rfl rfl rfl rfl (C.bslG (l := [_]) Tryz.runUnderlying112 Tryz.sizeOf25 Tryz.zeroValue25 (by decide) rfl rfl rfl rfl rfl) ?_
          rintro b113
          refine RG.callkI 2 hR rfl rfl rfl rfl rfl Tryz.call18 (number_spec p c acc ui (by omega) hui) rfl ?_
          rintro _ _ ⟨p100, c100, rfl, rfl⟩
          refine RG.normE rfl ?_
          refine RG.callkI 9 hR rfl rfl rfl rfl rfl Tryz.call21 (bytesO p100 (some ⟨b105, 0, none⟩) c100 c105 b106 (acc ++ numB ui) u.bucket.data.toList (by omega) (by rw [List.length_append]; omega)) rfl ?_
          rintro _ _ ⟨p107, c107, rfl, rfl⟩
          refine RG.normE rfl ?_
          refine RG.callI 16 hR rfl rfl rfl rfl rfl rfl Tryz.call21 (bytesO p107 (some ⟨b112, 0, none⟩) c107 c112 b113 (acc ++ numB ui ++ encB u.bucket.data.toList) u.key.data.toList (by omega) (by rw [List.length_append, List.length_append]; omega)) rfl ?_
          rintro _ _ ⟨p114, c114, rfl, rfl⟩
          refine RG.norm rfl ?_
          refine RG.bar 17 hR rfl rfl rfl rfl rfl rfl (Q.asg rfl).toC ?_
          rintro _ _ ⟨rfl, rfl⟩
          refine RG.norm rfl ?_
          refine RG.fin hR rfl ?_
          refine J.norm rfl ?_
          refine J.meetI (p114, c114) trivial ⟨rfl, rfl, rfl, rfl, rfl, rfl, trivial⟩
        ·
         refine RGi.made rfl rfl rfl rfl (C.bslG (l := [_]) Tryz.runUnderlying112 Tryz.sizeOf25 Tryz.zeroValue25 (by decide) rfl rfl rfl rfl rfl) ?_
         rintro b113
         refine RG.many hR 2 [8] rfl ⟨?_, ⟨?_, trivial⟩⟩
         ·
          refine RGi.callkI rfl rfl rfl rfl Tryz.call18 (number_spec p c acc ui (by omega) hui) rfl ?_
          rintro _ _ ⟨p100, c100, rfl, rfl⟩
          refine RG.normE rfl ?_
          refine RG.made 8 hR rfl rfl rfl rfl rfl (C.bslG (l := [_]) Tryz.runUnderlying112 Tryz.sizeOf25 Tryz.zeroValue25 (by decide) rfl rfl rfl rfl rfl) ?_
          rintro b106
          refine RG.callkI 9 hR rfl rfl rfl rfl rfl Tryz.call21 (bytesO p100 (some ⟨b105, 0, none⟩) c100 c105 b106 (acc ++ numB ui) u.bucket.data.toList (by omega) (by rw [List.length_append]; omega)) rfl ?_
          rintro _ _ ⟨p107, c107, rfl, rfl⟩
          refine RG.normE rfl ?_
          refine RG.callI 16 hR rfl rfl rfl rfl rfl rfl Tryz.call21 (bytesO p107 (some ⟨b112, 0, none⟩) c107 c112 b113 (acc ++ numB ui ++ encB u.bucket.data.toList) u.key.data.toList (by omega) (by rw [List.length_append, List.length_append]; omega)) rfl ?_
          rintro _ _ ⟨p114, c114, rfl, rfl⟩
          refine RG.norm rfl ?_
          refine RG.bar 17 hR rfl rfl rfl rfl rfl rfl (Q.asg rfl).toC ?_
          rintro _ _ ⟨rfl, rfl⟩
          refine RG.norm rfl ?_
          refine RG.fin hR rfl ?_
          refine J.norm rfl ?_
          refine J.meetI (p114, c114) trivial ⟨rfl, rfl, rfl, rfl, rfl, rfl, trivial⟩
         ·
          refine RGi.made rfl rfl rfl rfl (C.bslG (l := [_]) Tryz.runUnderlying112 Tryz.sizeOf25 Tryz.zeroValue25 (by decide) rfl rfl rfl rfl rfl) ?_
          rintro b106
          refine RG.callkI 2 hR rfl rfl rfl rfl rfl Tryz.call18 (number_spec p c acc ui (by omega) hui) rfl ?_
          rintro _ _ ⟨p100, c100, rfl, rfl⟩
          refine RG.normE rfl ?_
          refine RG.callkI 9 hR rfl rfl rfl rfl rfl Tryz.call21 (bytesO p100 (some ⟨b105, 0, none⟩) c100 c105 b106 (acc ++ numB ui) u.bucket.data.toList (by omega) (by rw [List.length_append]; omega)) rfl ?_
          rintro _ _ ⟨p107, c107, rfl, rfl⟩
          refine RG.normE rfl ?_
          refine RG.callI 16 hR rfl rfl rfl rfl rfl rfl Tryz.call21 (bytesO p107 (some ⟨b112, 0, none⟩) c107 c112 b113 (acc ++ numB ui ++ encB u.bucket.data.toList) u.key.data.toList (by omega) (by rw [List.length_append, List.length_append]; omega)) rfl ?_
          rintro _ _ ⟨p114, c114, rfl, rfl⟩
          refine RG.norm rfl ?_
          refine RG.bar 17 hR rfl rfl rfl rfl rfl rfl (Q.asg rfl).toC ?_
          rintro _ _ ⟨rfl, rfl⟩
          refine RG.norm rfl ?_
          refine RG.fin hR rfl ?_
          refine J.norm rfl ?_
          refine J.meetI (p114, c114) trivial ⟨rfl, rfl, rfl, rfl, rfl, rfl, trivial⟩
       ·
        refine RGi.made rfl rfl rfl rfl (C.bslG (l := [_]) Tryz.runUnderlying112 Tryz.sizeOf25 Tryz.zeroValue25 (by decide) rfl rfl rfl rfl rfl) ?_
        rintro b113
        refine RG.many hR 2 [7] rfl ⟨?_, ⟨?_, trivial⟩⟩
        ·
         refine RGi.callkI rfl rfl rfl rfl Tryz.call18 (number_spec p c acc ui (by omega) hui) rfl ?_
         rintro _ _ ⟨p100, c100, rfl, rfl⟩
         refine RG.normE rfl ?_
         refine RG.made2 7 hR rfl rfl rfl rfl rfl (C.s2bL Tryz.runUnderlying9 Tryz.runUnderlying25 Tryz.runUnderlying5 rfl) ?_
         rintro b105 c105
         refine RG.made 8 hR rfl rfl rfl rfl rfl (C.bslG (l := [_]) Tryz.runUnderlying112 Tryz.sizeOf25 Tryz.zeroValue25 (by decide) rfl rfl rfl rfl rfl) ?_
         rintro b106
         refine RG.callkI 9 hR rfl rfl rfl rfl rfl Tryz.call21 (bytesO p100 (some ⟨b105, 0, none⟩) c100 c105 b106 (acc ++ numB ui) u.bucket.data.toList (by omega) (by rw [List.length_append]; omega)) rfl ?_
         rintro _ _ ⟨p107, c107, rfl, rfl⟩
         refine RG.normE rfl ?_
         refine RG.callI 16 hR rfl rfl rfl rfl rfl rfl Tryz.call21 (bytesO p107 (some ⟨b112, 0, none⟩) c107 c112 b113 (acc ++ numB ui ++ encB u.bucket.data.toList) u.key.data.toList (by omega) (by rw [List.length_append, List.length_append]; omega)) rfl ?_
         rintro _ _ ⟨p114, c114, rfl, rfl⟩
         refine RG.norm rfl ?_
         refine RG.bar 17 hR rfl rfl rfl rfl rfl rfl (Q.asg rfl).toC ?_
         rintro _ _ ⟨rfl, rfl⟩
         refine RG.norm rfl ?_
         refine RG.fin hR rfl ?_
         refine J.norm rfl ?_
         refine J.meetI (p114, c114) trivial ⟨rfl, rfl, rfl, rfl, rfl, rfl, trivial⟩
        ·
         refine RGi.made2 rfl rfl rfl rfl (C.s2bL Tryz.runUnderlying9 Tryz.runUnderlying25 Tryz.runUnderlying5 rfl) ?_
         rintro b105 c105
         refine RG.many hR 2 [8] rfl ⟨?_, ⟨?_, trivial⟩⟩
         ·
          refine RGi.callkI rfl rfl rfl rfl Tryz.call18 (number_spec p c acc ui (by omega) hui) rfl ?_
          rintro _ _ ⟨p100, c100, rfl, rfl⟩
          refine RG.normE rfl ?_
          refine RG.made 8 hR rfl rfl rfl rfl rfl (C.bslG (l := [_]) Tryz.runUnderlying112 Tryz.sizeOf25 Tryz.zeroValue25 (by decide) rfl rfl rfl rfl rfl) ?_
          rintro b106
          refine RG.callkI 9 hR rfl rfl rfl rfl rfl Tryz.call21 (bytesO p100 (some ⟨b105, 0, none⟩) c100 c105 b106 (acc ++ numB ui) u.bucket.data.toList (by omega) (by rw [List.length_append]; omega)) rfl ?_
          rintro _ _ ⟨p107, c107, rfl, rfl⟩
          refine RG.normE rfl ?_
          refine RG.callI 16 hR rfl rfl rfl rfl rfl rfl Tryz.call21 (bytesO p107 (some ⟨b112, 0, none⟩) c107 c112 b113 (acc ++ numB ui ++ encB u.bucket.data.toList) u.key.data.toList (by omega) (by rw [List.length_append, List.length_append]; omega)) rfl ?_
          rintro _ _ ⟨p114, c114, rfl, rfl⟩
          refine RG.norm rfl ?_
          refine RG.bar 17 hR rfl rfl rfl rfl rfl rfl (Q.asg rfl).toC ?_
          rintro _ _ ⟨rfl, rfl⟩
          refine RG.norm rfl ?_
          refine RG.fin hR rfl ?_
          refine J.norm rfl ?_
          refine J.meetI (p114, c114) trivial ⟨rfl, rfl, rfl, rfl, rfl, rfl, trivial⟩
         ·
          refine RGi.made rfl rfl rfl rfl (C.bslG (l := [_]) Tryz.runUnderlying112 Tryz.sizeOf25 Tryz.zeroValue25 (by decide) rfl rfl rfl rfl rfl) ?_
          rintro b106
          refine RG.callkI 2 hR rfl rfl rfl rfl rfl Tryz.call18 (number_spec p c acc ui (by omega) hui) rfl ?_
          rintro _ _ ⟨p100, c100, rfl, rfl⟩
          refine RG.normE rfl ?_
          refine RG.callkI 9 hR rfl rfl rfl rfl rfl Tryz.call21 (bytesO p100 (some ⟨b105, 0, none⟩) c100 c105 b106 (acc ++ numB ui) u.bucket.data.toList (by omega) (by rw [List.length_append]; omega)) rfl ?_
          rintro _ _ ⟨p107, c107, rfl, rfl⟩
          refine RG.normE rfl ?_
          refine RG.callI 16 hR rfl rfl rfl rfl rfl rfl Tryz.call21 (bytesO p107 (some ⟨b112, 0, none⟩) c107 c112 b113 (acc ++ numB ui ++ encB u.bucket.data.toList) u.key.data.toList (by omega) (by rw [List.length_append, List.length_append]; omega)) rfl ?_
          rintro _ _ ⟨p114, c114, rfl, rfl⟩
          refine RG.norm rfl ?_
          refine RG.bar 17 hR rfl rfl rfl rfl rfl rfl (Q.asg rfl).toC ?_
          rintro _ _ ⟨rfl, rfl⟩
          refine RG.norm rfl ?_
          refine RG.fin hR rfl ?_
          refine J.norm rfl ?_
          refine J.meetI (p114, c114) trivial ⟨rfl, rfl, rfl, rfl, rfl, rfl, trivial⟩
     obtain ⟨p114, c114⟩ := q
     refine J.seq ?_
     obtain ⟨acc1, ha1⟩ : ∃ acc1, acc1 = acc ++ numB ui ++ encB u.bucket.data.toList ++ encB u.key.data.toList := ⟨_, rfl⟩
     have h2 : acc1 ++ (numB u.parts.length ++ (dParts u.parts ++ (dUps (M.uploads.drop (i + 1)) ++ dT2 M))) = dumpM M := by rw [ha1, ← h1]; simp [List.append_assoc]
     have lh2 := congrArg List.length h2
     simp only [List.length_append] at lh2
     rw [← ha1]
     refine J.keepI [own 5 1 (.slice p114 acc1.length c114) (bytesV acc1), pt y.1 (.cells ([.string u.bucket, .string u.key, .map (some y.2)] : List Value).toArray 68 (0, 0)), MapAt (Value.int .i64) datRep y.2 u.parts, pt m (.cells ([.map (some z.1), .map (some z.2.1), .map (some z.2.2)] : List Value).toArray 51 (0, 0)), MapAt Value.string bRep z.1 M.buckets, MapHole encU uRep z.2.1 M.uploads ui (.pointer (some ⟨y.1, 0, none⟩)), MapAt encU dRep z.2.2 M.done, own 23 1 (.slice p86 M.uploads.length c86) ((M.uploads.map (·.1)).map encU), F] ?_
     refine J.region <| J.m rfl <| J.m rfl <| J.p rfl (Q.nil_ rfl) <| J.p rfl (Q.fa (n := 2) Tryz.runUnderlying68 rfl rfl Tryz.sizeOf66 rfl) ?_
     refine J.p rfl (Q.ld Tryz.isAgg66 rfl (rdI (by exact rfl))) ?_
     refine J.p rfl (X.G.Q.lenAt (i := 2) Tryz.runUnderlying66 rfl rfl) ?_
     refine J.p rfl (Q.convU Tryz.runUnderlying3 Tryz.runUnderlying23 rfl (by omega)) ?_
     refine J.callI Tryz.call18 (number_spec p114 c114 acc1 u.parts.length (by omega) (by omega)) rfl rfl rfl ?_
     rintro _ _ ⟨p122, c122, rfl, rfl⟩
     refine J.norm rfl <| J.p rfl (Q.asg rfl) <| J.nil <| J.then_n <| J.seq <| J.region <| J.m rfl <| J.p rfl (Q.nil_ rfl) <| J.p rfl (Q.fa (n := 2) Tryz.runUnderlying68 rfl rfl Tryz.sizeOf66 rfl) ?_
     refine J.p rfl (Q.ld Tryz.isAgg66 rfl (rdI (by exact rfl))) ?_
     refine J.callI Tryz.call26 (keysPt (some y.2)) rfl rfl rfl ?_
     rintro _ _ ⟨bp, rfl, rfl⟩
     refine J.norm rfl ?_
     refine J.callI Tryz.call25 (sortedPt bp y.2 u.parts hPs hpl) rfl rfl rfl ?_
     rintro _ _ ⟨p128, c128, rfl, rfl⟩
     refine J.norm rfl ?_
     refine J.slr1 0 rfl fun hs128 => ?_
     refine J.p rfl (Q.lenSl Tryz.runUnderlying24 rfl) <| J.m rfl <| J.nil <| J.then_n <| J.block ?_
     obtain ⟨acc2, ha2⟩ : ∃ acc2, acc2 = acc1 ++ numB u.parts.length := ⟨_, rfl⟩
     have h4 : acc2 ++ (dParts u.parts ++ (dUps (M.uploads.drop (i + 1)) ++ dT2 M)) = dumpM M := by rw [ha2, ← h2]; simp [List.append_assoc]
     rw [← ha2]
     refine J.sub [(0, .pointer (some ⟨m, 0, none⟩)), (3, .slice p122 acc2.length c122), (10, .pointer (some ⟨y.1, 0, none⟩)), (86, .slice p86 M.uploads.length c86), (87, .int .i64 M.uploads.length), (88, .int .i64 i), (128, .slice p128 u.parts.length c128), (129, .int .i64 u.parts.length), (130, .int .i64 0)] ⟨rfl, rfl, rfl, (by show _ = some (Value.slice p86 _ _); rw [hp86]; rfl), rfl, rfl, rfl, rfl, rfl, trivial⟩ ?_
     refine J.keepI [own 5 1 (.slice p122 acc2.length c122) (bytesV acc2), pt y.1 (.cells ([.string u.bucket, .string u.key, .map (some y.2)] : List Value).toArray 68 (0, 0)), MapAt (Value.int .i64) datRep y.2 u.parts, own 3 1 (.slice p128 u.parts.length c128) ((u.parts.map (·.1)).map (Value.int .i64)), pt m (.cells ([.map (some z.1), .map (some z.2.1), .map (some z.2.2)] : List Value).toArray 51 (0, 0)), MapAt Value.string bRep z.1 M.buckets, MapHole encU uRep z.2.1 M.uploads ui (.pointer (some ⟨y.1, 0, none⟩)), MapAt encU dRep z.2.2 M.done, own 23 1 (.slice p86 M.uploads.length c86) ((M.uploads.map (·.1)).map encU), F] ?_
     refine J.loop4 (fun (j : Nat) (acc : List UInt8) (p : Option Addr) (c : Nat) => j ≤ u.parts.length ∧ acc ++ (dParts (u.parts.drop j) ++ (dUps (M.uploads.drop (i + 1)) ++ dT2 M)) = dumpM M) (fun j _ _ _ => u.parts.length - j) (fun j acc p c => [(0, .pointer (some ⟨m, 0, none⟩)), (3, .slice p acc.length c), (10, .pointer (some ⟨y.1, 0, none⟩)), (86, .slice p86 M.uploads.length c86), (87, .int .i64 M.uploads.length), (88, .int .i64 i), (128, .slice p128 u.parts.length c128), (129, .int .i64 u.parts.length), (130, .int .i64 j)]) (fun j acc p c => [own 5 1 (.slice p acc.length c) (bytesV acc), pt y.1 (.cells ([.string u.bucket, .string u.key, .map (some y.2)] : List Value).toArray 68 (0, 0)), MapAt (Value.int .i64) datRep y.2 u.parts, own 3 1 (.slice p128 u.parts.length c128) ((u.parts.map (·.1)).map (Value.int .i64)), pt m (.cells ([.map (some z.1), .map (some z.2.1), .map (some z.2.2)] : List Value).toArray 51 (0, 0)), MapAt Value.string bRep z.1 M.buckets, MapHole encU uRep z.2.1 M.uploads ui (.pointer (some ⟨y.1, 0, none⟩)), MapAt encU dRep z.2.2 M.done, own 23 1 (.slice p86 M.uploads.length c86) ((M.uploads.map (·.1)).map encU), F]) 0 acc2 p122 c122 ⟨Nat.zero_le _, h4⟩ ⟨rfl, rfl, rfl, rfl, rfl, rfl, rfl, rfl, rfl, trivial⟩ rfl fun j acc' p' c' hz => ?_
     obtain ⟨hj, g0⟩ := hz
     refine J.seq <| J.region <| J.p rfl (Q.lss rfl rfl) <| J.nil <| J.then_n <| J.seq ?_
     refine J.cases 131 rfl (fun hc131 => ?_) (fun hc131 => ?_)
     ·
      replace hc131 := X.nm hc131
      try (first | (cases hc131; done) | (exfalso; simp at hc131; done))
      all_goals
       refine J.cond_t rfl <| J.cskip <| J.then_n <| J.seq <| J.block <| J.seq ?_
       obtain ⟨b128, o128, hp128, hr128⟩ := hs128.some_ (by omega)
       obtain ⟨⟨pn, dd⟩, hy⟩ : ∃ y, u.parts[j]? = some y := ⟨_, List.getElem?_eq_getElem (by omega)⟩
       have hKk : sget pn u.parts = some dd := X.G.sget_of_mem (hPs.nodup ord3_int) (List.mem_of_getElem? hy)
       have g1 : acc' ++ (numB (u64N pn) ++ (encB dd ++ (dParts (u.parts.drop (j + 1)) ++ (dUps (M.uploads.drop (i + 1)) ++ dT2 M)))) = dumpM M := by
         rw [← g0, drop_at hy]; simp [dParts, List.append_assoc]
       have lg1 := congrArg List.length g1
       simp only [List.length_append] at lg1
       have hed := encB_len dd
       refine J.slot 128 (.slice (some ⟨b128, o128, none⟩) u.parts.length c128) rfl (by rw [hp128]) ?_
       refine J.region <| J.p rfl (Q.ia Tryz.runUnderlying24 Tryz.sizeOf3 rfl rfl (by omega) (by omega)) ?_
       refine J.p rfl (Q.ld Tryz.isAgg3 rfl (((hr128 j (.int .i64 pn) (by simp [hy])).within (i := 3) rfl).cast (by simp))) ?_
       refine J.p rfl (Q.asg rfl) <| J.nil <| J.then_n ?_
       refine J.mapFocus 2 hKk rfl fun val => ?_
       refine J.norm rfl ?_
       refine J.open_ 0 rfl rfl (fun _ h => h) fun v hv => ?_
       subst hv
       refine J.norm rfl ?_
       refine J.pick [3, 1, 0, 2, 4, 5, 6, 7, 8, 9, 10] rfl ?_
       refine J.drawE [3, 10, 11, 12] 2 Tryz.mixed (by kernel_rfl) rfl rfl fun hR => ?_
       refine RG.p 0 hR rfl (Q.mv rfl) <| RG.p 1 hR rfl (Q.mv rfl) <| RG.p 2 hR rfl (Q.convN Tryz.runUnderlying3 Tryz.runUnderlying23 rfl) <| RG.p 4 hR rfl (Q.mv rfl) <| RG.p 5 hR rfl (Q.nil_ rfl) <| RG.p 6 hR rfl (Q.fa (n := 2) Tryz.runUnderlying68 rfl rfl Tryz.sizeOf66 rfl) ?_
       refine RG.p 7 hR rfl (Q.ld Tryz.isAgg66 rfl (rdI (by exact rfl))) ?_
       refine RG.p 8 hR rfl (Q.mv rfl) ?_
       refine RG.p 9 hR rfl (X.G.Q.lkYes (i := 1) Tryz.runUnderlying66 keyI Tryz.zeroValue25 rfl rfl rfl) ?_
       refine RG.many hR 3 [10] rfl ⟨?_, ⟨?_, trivial⟩⟩
       ·
        refine RGi.callkI rfl rfl rfl rfl Tryz.call18 (number_spec p' c' acc' (u64N pn) (by omega) (u64N_le pn)) rfl ?_
        rintro _ _ ⟨p137, c137, rfl, rfl⟩
        refine RG.normE rfl ?_
        refine RG.made 10 hR rfl rfl rfl rfl rfl (C.bslG (l := [_]) Tryz.runUnderlying112 Tryz.sizeOf25 Tryz.zeroValue25 (by decide) rfl rfl rfl rfl rfl) ?_
        rintro b144
        refine RG.callI 11 hR rfl rfl rfl rfl rfl rfl Tryz.call21 (bytesO p137 v.1 c137 v.2 b144 (acc' ++ numB (u64N pn)) dd (by omega) (by rw [List.length_append]; omega)) rfl ?_
        rintro _ _ ⟨p145, c145, rfl, rfl⟩
        refine RG.norm rfl ?_
        refine RG.bar 12 hR rfl rfl rfl rfl rfl rfl (Q.asg rfl).toC ?_
        rintro _ _ ⟨rfl, rfl⟩
        refine RG.norm rfl ?_
        refine RG.fin hR rfl ?_
        refine J.norm rfl <| J.blk_n <| J.then_n <| J.region <| J.p rfl (Q.add64 rfl rfl (by omega)) <| J.m rfl <| J.nil ?_
        refine J.shutI [own 5 1 (.slice v.1 dd.length v.2) (bytesV dd)] (datRep pn dd (.slice v.1 dd.length v.2)) (fun h s => ⟨v, rfl, s⟩) ?_
        refine J.mapSameI (rep := datRep) (enc := Value.int .i64) (r := y.2) (k := pn) (val := .slice v.1 dd.length v.2) ord3_int hPs hKk ?_
        refine J.againI (j + 1, acc' ++ numB (u64N pn) ++ encB dd, p145, c145) ⟨by show j + 1 ≤ u.parts.length; omega, by rw [← g1]; simp [List.append_assoc]⟩ (by show u.parts.length - (j + 1) < u.parts.length - j; omega) ⟨rfl, rfl, rfl, rfl, rfl, rfl, (by show _ = some (Value.slice p128 _ _); rw [hp128]; rfl), rfl, rfl, trivial⟩
       ·
        refine RGi.made rfl rfl rfl rfl (C.bslG (l := [_]) Tryz.runUnderlying112 Tryz.sizeOf25 Tryz.zeroValue25 (by decide) rfl rfl rfl rfl rfl) ?_
        rintro b144
        refine RG.callkI 3 hR rfl rfl rfl rfl rfl Tryz.call18 (number_spec p' c' acc' (u64N pn) (by omega) (u64N_le pn)) rfl ?_
        rintro _ _ ⟨p137, c137, rfl, rfl⟩
        refine RG.normE rfl ?_
        refine RG.callI 11 hR rfl rfl rfl rfl rfl rfl Tryz.call21 (bytesO p137 v.1 c137 v.2 b144 (acc' ++ numB (u64N pn)) dd (by omega) (by rw [List.length_append]; omega)) rfl ?_
        rintro _ _ ⟨p145, c145, rfl, rfl⟩
        refine RG.norm rfl ?_
        refine RG.bar 12 hR rfl rfl rfl rfl rfl rfl (Q.asg rfl).toC ?_
        rintro _ _ ⟨rfl, rfl⟩
        refine RG.norm rfl ?_
        refine RG.fin hR rfl ?_
        refine J.norm rfl <| J.blk_n <| J.then_n <| J.region <| J.p rfl (Q.add64 rfl rfl (by omega)) <| J.m rfl <| J.nil ?_
        refine J.shutI [own 5 1 (.slice v.1 dd.length v.2) (bytesV dd)] (datRep pn dd (.slice v.1 dd.length v.2)) (fun h s => ⟨v, rfl, s⟩) ?_
        refine J.mapSameI (rep := datRep) (enc := Value.int .i64) (r := y.2) (k := pn) (val := .slice v.1 dd.length v.2) ord3_int hPs hKk ?_
        refine J.againI (j + 1, acc' ++ numB (u64N pn) ++ encB dd, p145, c145) ⟨by show j + 1 ≤ u.parts.length; omega, by rw [← g1]; simp [List.append_assoc]⟩ (by show u.parts.length - (j + 1) < u.parts.length - j; omega) ⟨rfl, rfl, rfl, rfl, rfl, rfl, (by show _ = some (Value.slice p128 _ _); rw [hp128]; rfl), rfl, rfl, trivial⟩
     replace hc131 := X.nm hc131
     try (first | (cases hc131; done) | (exfalso; simp at hc131; done))
     all_goals
      refine J.cond_f rfl <| J.exit <| J.then_x <| J.lp_x <| J.blk_x <| J.blk_n <| J.then_n <| J.region <| J.p rfl (Q.add64 rfl rfl (by omega)) <| J.m rfl <| J.nil ?_
      have hjl : j = u.parts.length := by omega
      subst hjl
      rw [List.drop_length] at g0
      refine J.shutI [pt y.1 (.cells ([.string u.bucket, .string u.key, .map (some y.2)] : List Value).toArray 68 (0, 0)), MapAt (Value.int .i64) datRep y.2 u.parts] (uRep ui u (.pointer (some ⟨y.1, 0, none⟩))) (fun h s => ⟨y, rfl, s⟩) ?_
      refine J.mapSameI (rep := uRep) (enc := encU) (r := z.2.1) (k := ui) (val := .pointer (some ⟨y.1, 0, none⟩)) ord3_nat hM.us hU ?_
      refine J.shutI [pt m (.cells ([.map (some z.1), .map (some z.2.1), .map (some z.2.2)] : List Value).toArray 51 (0, 0)), MapAt Value.string bRep z.1 M.buckets, MapAt encU uRep z.2.1 M.uploads, MapAt encU dRep z.2.2 M.done] (BktAt m M) (fun h s => ⟨z, s⟩) ?_
      refine J.againI (i + 1, acc', p', c') ⟨by show i + 1 ≤ M.uploads.length; omega, g0⟩ (by show M.uploads.length - (i + 1) < M.uploads.length - i; omega) ⟨rfl, rfl, rfl, rfl, rfl, trivial⟩
   replace hc89 := X.nm hc89
   try (first | (cases hc89; done) | (exfalso; simp at hc89; done))
   all_goals
    refine J.cond_f rfl <| J.exit <| J.then_x <| J.lp_x <| J.blk_x <| J.then_n <| J.seq ?_
    have hil : i = M.uploads.length := by omega
    subst hil
    rw [List.drop_length] at h0
    have h5 : acc ++ (numB M.done.length ++ dDone M.done) = dumpM M := by rw [← h0]; rfl
    have lh5 := congrArg List.length h5
    simp only [List.length_append] at lh5
    refine J.keepI [own 5 1 (.slice p acc.length c) (bytesV acc), BktAt m M, F] ?_
    refine J.open1 1 rfl (fun _ h => h) fun z => ?_
    refine J.norm rfl <| J.region <| J.m rfl <| J.m rfl <| J.p rfl (Q.nil_ rfl) <| J.p rfl (Q.fa (n := 2) Tryz.runUnderlying51 rfl rfl Tryz.sizeOf49 rfl) ?_
    refine J.p rfl (Q.ld Tryz.isAgg49 rfl (rdI (by exact rfl))) ?_
    refine J.p rfl (X.G.Q.lenAt (i := 3) Tryz.runUnderlying49 rfl rfl) ?_
    refine J.p rfl (Q.convU Tryz.runUnderlying3 Tryz.runUnderlying23 rfl (by omega)) ?_
    refine J.callI Tryz.call18 (number_spec p c acc M.done.length (by omega) (by omega)) rfl rfl rfl ?_
    rintro _ _ ⟨p155, c155, rfl, rfl⟩
    refine J.norm rfl <| J.p rfl (Q.asg rfl) <| J.nil <| J.then_n <| J.seq <| J.seq <| J.region <| J.m rfl <| J.p rfl (Q.nil_ rfl) <| J.p rfl (Q.fa (n := 2) Tryz.runUnderlying51 rfl rfl Tryz.sizeOf49 rfl) ?_
    refine J.p rfl (Q.ld Tryz.isAgg49 rfl (rdI (by exact rfl))) ?_
    refine J.callI Tryz.call27 (keysDn (some z.2.2)) rfl rfl rfl ?_
    rintro _ _ ⟨bd, rfl, rfl⟩
    refine J.norm rfl ?_
    refine J.callI Tryz.call23 (sortedDn bd z.2.2 M.done hM.ds (by omega)) rfl rfl rfl ?_
    rintro _ _ ⟨p161, c161, rfl, rfl⟩
    refine J.norm rfl ?_
    refine J.slr1 0 rfl fun hs161 => ?_
    refine J.shutI [pt m (.cells ([.map (some z.1), .map (some z.2.1), .map (some z.2.2)] : List Value).toArray 51 (0, 0)), MapAt Value.string bRep z.1 M.buckets, MapAt encU uRep z.2.1 M.uploads, MapAt encU dRep z.2.2 M.done] (BktAt m M) (fun h s => ⟨z, s⟩) ?_
    refine J.p rfl (Q.lenSl Tryz.runUnderlying60 rfl) <| J.m rfl <| J.nil <| J.then_n <| J.block ?_
    have b0 : (acc ++ numB M.done.length) ++ dDone M.done = dumpM M := by rw [← h5]; simp [List.append_assoc]
    refine J.keepI [own 5 1 (.slice p155 (acc ++ numB M.done.length).length c155) (bytesV (acc ++ numB M.done.length)), BktAt m M, own 23 1 (.slice p161 M.done.length c161) ((M.done.map (·.1)).map encU), F] ?_
    refine J.loop4 (fun (i : Nat) (acc : List UInt8) (p : Option Addr) (c : Nat) => i ≤ M.done.length ∧ acc ++ dDone (M.done.drop i) = dumpM M) (fun i _ _ _ => M.done.length - i) (fun i acc p c => [(0, .pointer (some ⟨m, 0, none⟩)), (3, .slice p acc.length c), (161, .slice p161 M.done.length c161), (162, .int .i64 M.done.length), (163, .int .i64 i)]) (fun i acc p c => [own 5 1 (.slice p acc.length c) (bytesV acc), BktAt m M, own 23 1 (.slice p161 M.done.length c161) ((M.done.map (·.1)).map encU), F]) 0 (acc ++ numB M.done.length) p155 c155 ⟨Nat.zero_le _, b0⟩ ⟨rfl, rfl, rfl, rfl, rfl, trivial⟩ rfl fun i acc p c hz => ?_
    obtain ⟨hi, h0⟩ := hz
    refine J.seq <| J.region <| J.p rfl (Q.lss rfl rfl) <| J.nil <| J.then_n <| J.seq ?_
    refine J.cases 164 rfl (fun hc164 => ?_) (fun hc164 => ?_)
    ·
     replace hc164 := X.nm hc164
     try (first | (cases hc164; done) | (exfalso; simp at hc164; done))
     all_goals
      refine J.cond_t rfl <| J.cskip <| J.then_n <| J.seq <| J.block <| J.seq ?_
      obtain ⟨b161, o161, hp161, hr161⟩ := hs161.some_ (by omega)
      obtain ⟨⟨di, rr⟩, hx⟩ : ∃ x, M.done[i]? = some x := ⟨_, List.getElem?_eq_getElem (by omega)⟩
      have hU : sget di M.done = some rr := X.G.sget_of_mem (hM.ds.nodup ord3_nat) (List.mem_of_getElem? hx)
      have hdn := hF.dn _ _ hU
      have hdi : di ≤ 18446744073709551615 := hdn.1
      have h1 : acc ++ (numB di ++ (numB (u64N rr.status) ++ (numB rr.upload ++ dDone (M.done.drop (i + 1))))) = dumpM M := by
        rw [← h0, drop_at hx]; simp [dDone, List.append_assoc]
      have lh1 := congrArg List.length h1
      simp only [List.length_append] at lh1
      refine J.slot 161 (.slice (some ⟨b161, o161, none⟩) M.done.length c161) rfl (by rw [hp161]) ?_
      refine J.region <| J.p rfl (Q.ia Tryz.runUnderlying60 Tryz.sizeOf23 rfl rfl (by omega) (by omega)) ?_
      refine J.p rfl (Q.ld Tryz.isAgg23 rfl (((hr161 i (encU di) (by simp [hx])).within (i := 2) rfl).cast (by simp))) ?_
      refine J.p rfl (Q.asg rfl) <| J.nil <| J.then_n <| J.seq ?_
      refine J.open1 1 rfl (fun _ h => h) fun z => ?_
      refine J.norm rfl ?_
      refine J.mapFocus 3 hU rfl fun val => ?_
      refine J.norm rfl ?_
      refine J.open_ 0 rfl rfl (fun _ h => h) fun y hyv => ?_
      obtain ⟨hyr, hyv⟩ := hyv
      subst hyv
      subst hyr
      refine J.norm rfl <| J.region <| J.m rfl <| J.p rfl (Q.nil_ rfl) <| J.p rfl (Q.fa (n := 2) Tryz.runUnderlying51 rfl rfl Tryz.sizeOf49 rfl) ?_
      refine J.p rfl (Q.ld Tryz.isAgg49 rfl (rdI (by exact rfl))) ?_
      refine J.m rfl ?_
      refine J.p rfl (X.G.Q.lkYes (i := 1) Tryz.runUnderlying49 keyU Tryz.zeroValue37 rfl rfl rfl) ?_
      refine J.c rfl rfl (C.alloc (l := [_, _, _, _, _]) Tryz.zeroValue37 rfl) ?_
      rintro _ _ ⟨b15, rfl, rfl⟩
      refine J.norm rfl ?_
      refine J.stAI (vs := [_, _, _, _, _]) rfl Tryz.sizeOf37 rfl rfl (by exact rfl) (by exact rfl) (by exact rfl) ?_
      refine J.nil <| J.then_n ?_
      refine J.drawE [2, 6, 9, 10] 1 Tryz.mixed (by kernel_rfl) rfl rfl fun hR => ?_
      refine RG.p 0 hR rfl (Q.mv rfl) <| RG.p 1 hR rfl (Q.mv rfl) <| RG.p 3 hR rfl (Q.fa (n := 0) Tryz.runUnderlying37 rfl rfl Tryz.sizeOf3 rfl) ?_
      refine RG.p 4 hR rfl (Q.ld Tryz.isAgg3 rfl (rdI (by exact rfl))) ?_
      refine RG.p 5 hR rfl (Q.convN Tryz.runUnderlying3 Tryz.runUnderlying23 rfl) <| RG.p 7 hR rfl (Q.fa (n := 1) Tryz.runUnderlying37 rfl rfl Tryz.sizeOf23 rfl) ?_
      refine RG.p 8 hR rfl (Q.ld Tryz.isAgg23 rfl (rdI (by exact rfl))) ?_
      refine RG.callkI 2 hR rfl rfl rfl rfl rfl Tryz.call18 (number_spec p c acc di (by omega) hdi) rfl ?_
      rintro _ _ ⟨p175, c175, rfl, rfl⟩
      refine RG.normE rfl ?_
      refine RG.callkI 6 hR rfl rfl rfl rfl rfl Tryz.call18 (number_spec p175 c175 (acc ++ numB di) (u64N y.r.status) (by rw [List.length_append]; omega) (u64N_le _)) rfl ?_
      rintro _ _ ⟨p179, c179, rfl, rfl⟩
      refine RG.normE rfl ?_
      refine RG.callI 9 hR rfl rfl rfl rfl rfl rfl Tryz.call18 (number_spec p179 c179 (acc ++ numB di ++ numB (u64N y.r.status)) y.r.upload (by rw [List.length_append, List.length_append]; omega) hdn.2) rfl ?_
      rintro _ _ ⟨p182, c182, rfl, rfl⟩
      refine RG.norm rfl ?_
      refine RG.bar 10 hR rfl rfl rfl rfl rfl rfl (Q.asg rfl).toC ?_
      rintro _ _ ⟨rfl, rfl⟩
      refine RG.norm rfl ?_
      refine RG.fin hR rfl ?_
      refine J.norm rfl <| J.blk_n <| J.then_n <| J.region <| J.p rfl (Q.add64 rfl rfl (by omega)) <| J.m rfl <| J.nil ?_
      refine J.shutI [y.asn] (dRep di y.r (.agg y.cells.toArray)) (fun h s => ⟨y, ⟨rfl, rfl⟩, s⟩) ?_
      refine J.mapSameI (rep := dRep) (enc := encU) (r := z.2.2) (k := di) (val := .agg y.cells.toArray) ord3_nat hM.ds hU ?_
      refine J.shutI [pt m (.cells ([.map (some z.1), .map (some z.2.1), .map (some z.2.2)] : List Value).toArray 51 (0, 0)), MapAt Value.string bRep z.1 M.buckets, MapAt encU uRep z.2.1 M.uploads, MapAt encU dRep z.2.2 M.done] (BktAt m M) (fun h s => ⟨z, s⟩) ?_
      refine J.againI (i + 1, acc ++ numB di ++ numB (u64N y.r.status) ++ numB y.r.upload, p182, c182) ⟨by show i + 1 ≤ M.done.length; omega, by rw [← h1]; simp [List.append_assoc]⟩ (by show M.done.length - (i + 1) < M.done.length - i; omega) ⟨rfl, rfl, (by show _ = some (Value.slice p161 _ _); rw [hp161]; rfl), rfl, rfl, trivial⟩
    replace hc164 := X.nm hc164
    try (first | (cases hc164; done) | (exfalso; simp at hc164; done))
    all_goals
     refine J.cond_f rfl <| J.exit <| J.then_x <| J.lp_x <| J.blk_x <| J.then_n <| J.seq <| J.region <| J.m rfl <| J.p rfl (Q.asg rfl) <| J.nil <| J.then_n <| J.cret ?_
     have hil : i = M.done.length := by omega
     subst hil
     rw [List.drop_length] at h0
     have hfin : acc = dumpM M := by rw [← h0]; simp [dDone]
     rw [← hfin]
     refine J.ret1I [own 5 1 (.slice p acc.length c) (bytesV acc), BktAt m M] rfl rfl ⟨p, c, rfl, rfl⟩
end
end Go.Proofs.YtdancegklkifaaaGreat
namespace Go.Proofs.YtdancegklkifaaaGreat
set_option linter.unusedSectionVars false
set_option linter.unusedSimpArgs false
set_option linter.unusedVariables false
open Go.X
open Go.X.G (Ord3 ord3_nat ord3_int ord3_str ltB sget sput sdel Srtd)

theorem rnumber_spec (p : Option Addr) (c : Nat) (bs : List UInt8) (v : Nat) (hn : bs.length ≤ 70368744100000) (hv : v ≤ 18446744073709551615) : FSpec Tryz.prog 47 [.slice p bs.length c, .int .u64 v] [own 5 1 (.slice p bs.length c) (bytesV bs)]
    (fun u B => ∃ p' c', u = .slice p' (bs ++ numB v).length c' ∧ B = [own 5 1 (.slice p' (bs ++ numB v).length c') (bytesV (bs ++ numB v))]) := by
  refine FSpec.of Tryz.func47 rfl Tryz.ntmps47 rfl fun W0 F => ?_
  refine J.seq <| J.region <| J.p rfl (Q.asg rfl) <| J.nil <| J.then_n <| J.seq <| J.block ?_
  refine J.loop (fun z : List UInt8 × Nat × Option Addr × Nat => z.1 ++ numB z.2.1 = bs ++ numB v ∧ z.2.1 ≤ 18446744073709551615 ∧ z.1.length ≤ bs.length + (numB v).length) (fun z => z.2.1) (fun z => [(0, .slice z.2.2.1 z.1.length z.2.2.2), (1, .int .u64 z.2.1)]) (fun z => [own 5 1 (.slice z.2.2.1 z.1.length z.2.2.2) (bytesV z.1), F]) (bs, v, p, c) ⟨rfl, hv, by show bs.length ≤ _; omega⟩ ⟨rfl, rfl, trivial⟩ rfl fun z hz => ?_
  obtain ⟨acc, w, q, d⟩ := z
  obtain ⟨hz1, hz2, hz3⟩ := hz
  dsimp only at hz1 hz2 hz3
  refine J.seq <| J.seq <| J.region <| J.m rfl <| J.p rfl (Q.geq rfl rfl) <| J.nil <| J.then_n ?_
  refine J.cases 6 rfl (fun hc6 => ?_) (fun hc6 => ?_)
  ·
   replace hc6 := X.nm hc6
   refine J.cond_t rfl <| J.cskip <| J.then_n <| J.block <| J.seq ?_
   have hw : ¬ w < 128 := by have h := hc6; dsimp only at h; omega
   have hst := numB_step (v := w) hw
   refine J.region <| J.m rfl <| J.m rfl <| J.p rfl (Q.conv Tryz.runUnderlying23 Tryz.runUnderlying5 rfl) <| J.p rfl (Q.or rfl rfl) ?_
   refine J.slot 10 (byteV (UInt8.ofNat (w % 128 + 128))) rfl (by show Value.int .u8 _ = _; rw [or128 w]; rfl) ?_
   refine J.c rfl rfl (C.bslG (l := [_]) Tryz.runUnderlying25 Tryz.sizeOf5 Tryz.zeroValue5 (by decide) rfl rfl rfl rfl rfl) ?_
   rintro _ _ ⟨b11, rfl, rfl⟩
   refine J.norm rfl ?_
   refine J.conv (Y := own 5 1 (.slice (some ⟨b11, 0, none⟩) 1 1) (bytesV [UInt8.ofNat (w % 128 + 128)])) 0 rfl (own_of_block rfl) ?_
   refine J.slr1 0 rfl fun hs11 => ?_
   refine J.c rfl rfl (C.app (i := 1) Tryz.runUnderlying25 Tryz.runUnderlying25 Tryz.typeInfo5 Tryz.sizeOf5 Tryz.zeroValue5 rfl rfl rfl (hs11.within (i := 0) rfl) (bytesV_one _) (by rw [show Tryz.t5.bytes = 1 from rfl]; show (acc.length + 1) * 1 ≤ _; have := numB_len v hv; omega) (by decide)) ?_
   rintro _ _ ⟨p12, c12, rfl, rfl⟩
   refine J.norm rfl <| J.p rfl (Q.asg rfl) <| J.nil <| J.then_n <| J.region <| J.m rfl <| J.p rfl (Q.shr rfl rfl (by omega)) ?_
   refine J.slot 14 (.int .u64 ((w / 128 : Nat) : Int)) rfl (by show Value.int .u64 _ = _; congr 1; show (w : Int).fdiv (2 ^ 7) = _; rw [Int.fdiv_eq_ediv_of_nonneg _ (by decide)]; omega) ?_
   refine J.p rfl (Q.asg rfl) <| J.nil <| J.blk_n ?_
   refine J.keep [1, 2] rfl ?_
   have hbl : (acc ++ [UInt8.ofNat (w % 128 + 128)]).length = acc.length + 1 := by simp
   refine J.again (acc ++ [UInt8.ofNat (w % 128 + 128)], w / 128, p12, c12) ⟨?_, by show w / 128 ≤ _; omega, ?_⟩ (by show w / 128 < w; omega) ⟨(by show _ = some (Value.slice p12 _ c12); rw [hbl]; rfl), rfl, trivial⟩ ?_
   · show (acc ++ [UInt8.ofNat (w % 128 + 128)]) ++ numB (w / 128) = bs ++ numB v
     rw [← hz1, hst, List.append_assoc]; rfl
   · have h1 := congrArg List.length hz1
     rw [hst] at h1
     simp only [List.length_append, List.length_cons] at h1
     show (acc ++ [UInt8.ofNat (w % 128 + 128)]).length ≤ _
     rw [hbl]; omega
   · show _ = [own 5 1 (.slice p12 (acc ++ [UInt8.ofNat (w % 128 + 128)]).length c12) (bytesV (acc ++ [UInt8.ofNat (w % 128 + 128)])), _]
     rw [hbl, ← bytesV_append]
  replace hc6 := X.nm hc6
  refine J.cond_f rfl <| J.exit <| J.then_x <| J.lp_x <| J.blk_x <| J.then_n <| J.seq ?_
  have hlt : w < 128 := by have h := hc6; dsimp only at h; omega
  rw [numB_small hlt] at hz1
  refine J.region <| J.m rfl <| J.m rfl <| J.p rfl (Q.conv Tryz.runUnderlying23 Tryz.runUnderlying5 rfl) ?_
  refine J.slot 17 (byteV (UInt8.ofNat w)) rfl (by show Value.int .u8 _ = _; rw [low8 hlt]; rfl) ?_
  refine J.c rfl rfl (C.bslG (l := [_]) Tryz.runUnderlying25 Tryz.sizeOf5 Tryz.zeroValue5 (by decide) rfl rfl rfl rfl rfl) ?_
  rintro _ _ ⟨b18, rfl, rfl⟩
  refine J.norm rfl ?_
  refine J.conv (Y := own 5 1 (.slice (some ⟨b18, 0, none⟩) 1 1) (bytesV [UInt8.ofNat w])) 0 rfl (own_of_block rfl) ?_
  refine J.slr1 0 rfl fun hs18 => ?_
  refine J.c rfl rfl (C.app (i := 1) Tryz.runUnderlying25 Tryz.runUnderlying25 Tryz.typeInfo5 Tryz.sizeOf5 Tryz.zeroValue5 rfl rfl rfl (hs18.within (i := 0) rfl) (bytesV_one _) (by rw [show Tryz.t5.bytes = 1 from rfl]; show (acc.length + 1) * 1 ≤ _; have := numB_len v hv; omega) (by decide)) ?_
  rintro _ _ ⟨p19, c19, rfl, rfl⟩
  refine J.norm rfl <| J.p rfl (Q.asg rfl) <| J.nil <| J.then_n <| J.cret ?_
  rw [← hz1]
  have hbl : (acc ++ [UInt8.ofNat w]).length = acc.length + 1 := by simp
  refine J.keep [1, 2] rfl ?_
  refine J.ret1 (B := [own 5 1 (.slice p19 (acc ++ [UInt8.ofNat w]).length c19) (bytesV (acc ++ [UInt8.ofNat w]))]) rfl rfl ⟨p19, c19, by rw [hbl], rfl⟩ ?_
  show _ = [own 5 1 (.slice p19 (acc ++ [UInt8.ofNat w]).length c19) (bytesV (acc ++ [UInt8.ofNat w])), F]
  rw [hbl, ← bytesV_append]
theorem rnum_spec (p : Option Addr) (c : Nat) (bs : List UInt8) (n : Int) (hn : bs.length ≤ 70368744100000) : FSpec Tryz.prog 45 [.slice p bs.length c, .int .i64 n] [own 5 1 (.slice p bs.length c) (bytesV bs)]
    (fun u B => ∃ p' c', u = .slice p' (bs ++ numB (u64N n)).length c' ∧ B = [own 5 1 (.slice p' (bs ++ numB (u64N n)).length c') (bytesV (bs ++ numB (u64N n)))]) := by
  refine FSpec.of Tryz.func45 rfl Tryz.ntmps45 rfl fun W0 F => ?_
  refine J.seq <| J.region <| J.p rfl (Q.asg rfl) <| J.nil <| J.then_n <| J.seq <| J.region <| J.m rfl <| J.m rfl <| J.p rfl (Q.convN Tryz.runUnderlying3 Tryz.runUnderlying23 rfl) ?_
  refine J.callI Tryz.call47 (rnumber_spec p c bs (u64N n) hn (u64N_le n)) rfl rfl rfl ?_
  rintro _ _ ⟨p1, c1, rfl, rfl⟩
  refine J.norm rfl <| J.p rfl (Q.asg rfl) <| J.nil <| J.then_n <| J.cret ?_
  refine J.ret1I [own 5 1 (.slice p1 (bs ++ numB (u64N n)).length c1) (bytesV (bs ++ numB (u64N n)))] rfl rfl ⟨p1, c1, rfl, rfl⟩
theorem rbytes_spec (G : Assn) (p q : Option Addr) (c e : Nat) (acc bs : List UInt8) (hs : SlR [G] 1 (.slice q bs.length e) (bytesV bs)) (ha : acc.length ≤ 70368744100000) (hn : bs.length ≤ 70368744100000) : FSpec Tryz.prog 46 [.slice p acc.length c, .slice q bs.length e] [own 5 1 (.slice p acc.length c) (bytesV acc), G]
    (fun u B => ∃ p' c', u = .slice p' (acc ++ encB bs).length c' ∧ B = [own 5 1 (.slice p' (acc ++ encB bs).length c') (bytesV (acc ++ encB bs)), G]) := by
  refine FSpec.of Tryz.func46 rfl Tryz.ntmps46 rfl fun W0 F => ?_
  refine J.seq <| J.region <| J.p rfl (Q.asg rfl) <| J.nil <| J.then_n <| J.seq <| J.region <| J.m rfl <| J.m rfl <| J.p rfl (Q.lenSl Tryz.runUnderlying25 rfl) <| J.p rfl (Q.conv Tryz.runUnderlying3 Tryz.runUnderlying23 rfl) ?_
  refine J.slot 8 (.int .u64 (bs.length : Int)) rfl (by congr 1; exact wrap64 (by omega)) ?_
  refine J.callI Tryz.call47 (rnumber_spec p c acc bs.length (by omega) (by omega)) rfl rfl rfl ?_
  rintro _ _ ⟨p1, c1, rfl, rfl⟩
  refine J.norm rfl ?_
  have hnl := numB_len bs.length (by omega)
  refine J.m rfl ?_
  refine J.c rfl rfl (C.appI Tryz.runUnderlying25 Tryz.runUnderlying25 Tryz.typeInfo5 Tryz.sizeOf5 Tryz.zeroValue5 rfl rfl (hs.inI) (bytesV_one _) (by simp [Tryz.t5] <;> omega) (by decide)) ?_
  rintro _ _ ⟨p11, c11, rfl, rfl⟩
  refine J.norm rfl <| J.p rfl (Q.asg rfl) <| J.nil <| J.then_n <| J.cret ?_
  have e1 : (acc ++ numB bs.length).length + bs.length = (acc ++ encB bs).length := by unfold encB; simp [Nat.add_assoc]
  have e2 : bytesV (acc ++ numB bs.length) ++ bytesV bs = bytesV (acc ++ encB bs) := by unfold encB; simp [bytesV]
  rw [e1, e2]
  refine J.ret1I [own 5 1 (.slice p11 (acc ++ encB bs).length c11) (bytesV (acc ++ encB bs)), G] rfl rfl ⟨p11, c11, rfl, rfl⟩
theorem rnumN_spec (p : Option Addr) (c : Nat) (bs : List UInt8) (n : Nat) (hn : bs.length ≤ 70368744100000) (h : n < 18446744073709551616) : FSpec Tryz.prog 45 [.slice p bs.length c, .int .i64 n] [own 5 1 (.slice p bs.length c) (bytesV bs)]
    (fun u B => ∃ p' c', u = .slice p' (bs ++ numB n).length c' ∧ B = [own 5 1 (.slice p' (bs ++ numB n).length c') (bytesV (bs ++ numB n))]) := by
  have := rnum_spec p c bs n hn
  rwa [u64N_nat h] at this
theorem rbytesO (p q : Option Addr) (c e : Nat) (acc bs : List UInt8) (hn : bs.length ≤ 70368744100000) (ha : acc.length ≤ 70368744100000) : FSpec Tryz.prog 46 [.slice p acc.length c, .slice q bs.length e] [own 5 1 (.slice p acc.length c) (bytesV acc), own 5 1 (.slice q bs.length e) (bytesV bs)]
    (fun u B => ∃ p' c', u = .slice p' (acc ++ encB bs).length c' ∧ B = [own 5 1 (.slice p' (acc ++ encB bs).length c') (bytesV (acc ++ encB bs)), own 5 1 (.slice q bs.length e) (bytesV bs)]) := by
  refine ⟨fun W0 w F s => ?_⟩
  obtain ⟨k, hk, _⟩ := s.heap.at_ (i := 1) rfl
  exact (rbytes_spec _ p q c e acc bs (own.slr (i := 0) rfl ⟨k, X.G.HSat.one hk⟩) ha hn).call W0 w F s

section
variable {k : Nat} (m : Nat) (M : BM) (hM : M.lite) (hok : M.ok k) (hk : k ≤ 32768) {B : Nat} (hF : M.fit k B) (hD : (dumpM M).length ≤ 70368744100000)
include hM hok hk hF hD
set_option maxHeartbeats 4000000 in
theorem rdump_spec : FSpec Tryz.prog 17 [.pointer (some ⟨m, 0, none⟩)] [RefAt m M] (fun v B => ∃ p c, v = .slice p (dumpM M).length c ∧ B = [own 5 1 (.slice p (dumpM M).length c) (bytesV (dumpM M)), RefAt m M]) := by
  refine FSpec.of Tryz.func17 rfl Tryz.ntmps17 rfl fun W0 F => ?_
  refine J.seq <| J.region <| J.p rfl (Q.asg rfl) <| J.nil <| J.then_n <| J.seq ?_
  refine J.openRef (m := m) (M := M) fun p1 c1 bs p2 c2 us p3 c3 hyb hyu hyk => ?_
  refine J.norm rfl ?_
  have hbs : Srtd ltB (bs.map RBk.kv) := by rw [hyb]; exact hM.bs
  have hus : Srtd ltN (us.map RUp.kv) := by rw [hyu]; exact hM.us
  have hbl : bs.length = M.buckets.length := by rw [← hyb, List.length_map]
  have hul : us.length = M.uploads.length := by rw [← hyu, List.length_map]
  have hlen := hM.len
  refine J.slrI (E0 := 101) (sz := 2) (p := p1) (n := bs.length) (c := c1) (xs := bs.flatMap RBk.cells) fun hsb => ?_
  refine J.slrI (E0 := 107) (sz := 4) (p := p2) (n := us.length) (c := c2) (xs := us.flatMap RUp.cells) fun hsu => ?_
  refine J.slrI (E0 := 96) (sz := 6) (p := p3) (n := M.done.length) (c := c3) (xs := M.done.flatMap RKp.cells) fun hsk => ?_
  refine J.region <| J.m rfl <| J.p rfl (Q.nil_ rfl) <| J.p rfl (Q.fa (n := 0) Tryz.runUnderlying92 rfl rfl Tryz.sizeOf88 rfl) ?_
  refine J.p rfl (Q.ld Tryz.isAgg88 rfl (rdI (by exact rfl))) ?_
  refine J.p rfl (Q.lenSl Tryz.runUnderlying88 rfl) ?_
  refine J.give (X := own 5 1 (.slice none ([] : List UInt8).length 0) (bytesV [])) (own.nil 5 1 _) ?_
  refine J.callI Tryz.call45 (rnumN_spec none 0 [] bs.length (by decide) (by omega)) rfl rfl rfl ?_
  rintro _ _ ⟨p16, c16, rfl, rfl⟩
  refine J.norm rfl ?_
  have a0 : ([] ++ numB bs.length) ++ (dBkts M.buckets ++ dT1 M) = dumpM M := by rw [List.nil_append, hbl]; rfl
  refine J.p rfl (Q.asg rfl) <| J.nil <| J.then_n <| J.seq <| J.seq <| J.region <| J.p rfl (Q.asg rfl) <| J.nil <| J.then_n <| J.block ?_
  refine J.keepI [own 5 1 (.slice p16 ([] ++ numB bs.length).length c16) (bytesV ([] ++ numB bs.length)), refP m (.slice p1 bs.length c1) (.slice p2 us.length c2) (.slice p3 M.done.length c3), bksO p1 c1 bs, upsO p2 c2 us, kpsO p3 c3 M.done, star (bs.map RBk.asn), star (us.map RUp.asn), F] ?_
  refine J.loop4 (fun (i : Nat) (acc : List UInt8) (p : Option Addr) (c : Nat) => i ≤ bs.length ∧ acc ++ (dBkts (M.buckets.drop i) ++ dT1 M) = dumpM M) (fun i _ _ _ => bs.length - i) (fun i acc p c => [(0, .pointer (some ⟨m, 0, none⟩)), (3, .slice p acc.length c), (4, .int .i64 i)]) (fun i acc p c => [own 5 1 (.slice p acc.length c) (bytesV acc), refP m (.slice p1 bs.length c1) (.slice p2 us.length c2) (.slice p3 M.done.length c3), bksO p1 c1 bs, upsO p2 c2 us, kpsO p3 c3 M.done, star (bs.map RBk.asn), star (us.map RUp.asn), F]) 0 ([] ++ numB bs.length) p16 c16 ⟨Nat.zero_le _, a0⟩ ⟨rfl, rfl, rfl, trivial⟩ rfl fun i acc p c hz => ?_
  obtain ⟨hi, h0⟩ := hz
  refine J.seq <| J.seq <| J.region <| J.m rfl <| J.m rfl <| J.p rfl (Q.nil_ rfl) <| J.p rfl (Q.fa (n := 0) Tryz.runUnderlying92 rfl rfl Tryz.sizeOf88 rfl) ?_
  refine J.p rfl (Q.ld Tryz.isAgg88 rfl (rdI (by exact rfl))) ?_
  refine J.p rfl (Q.lenSl Tryz.runUnderlying88 rfl) <| J.p rfl (Q.lss rfl rfl) <| J.nil <| J.then_n ?_
  refine J.cases 23 rfl (fun hc23 => ?_) (fun hc23 => ?_)
  ·
   replace hc23 := X.nm hc23
   refine J.cond_t rfl <| J.cskip <| J.then_n <| J.seq <| J.block <| J.seq ?_
   obtain ⟨b1, o1, rfl, hrd⟩ := hsb.some_ (by omega)
   obtain ⟨y, hy⟩ : ∃ y, bs[i]? = some y := ⟨_, List.getElem?_eq_getElem (by omega)⟩
   have hyi := (List.getElem?_eq_some_iff.1 hy).1
   have hx : M.buckets[i]? = some y.kv := by rw [← hyb, List.getElem?_map, hy]; rfl
   have hB : sget y.k M.buckets = some (y.l.map ROb.kv) := X.G.sget_of_mem (hM.bs.nodup ord3_str) (List.mem_of_getElem? hx)
   have hob := hok.os _ _ hB
   have hyl : y.l.length ≤ 32768 := by have := hob.2.1; rw [List.length_map] at this; omega
   have h1 : acc ++ (encB y.k.data.toList ++ (numB y.l.length ++ (dObjs (y.l.map ROb.kv) ++ (dBkts (M.buckets.drop (i + 1)) ++ dT1 M)))) = dumpM M := by
    rw [← h0, drop_at hx]; simp [dBkts, List.append_assoc]
   have lh1 := congrArg List.length h1
   simp only [List.length_append] at lh1
   have hel := encB_len y.k.data.toList
   obtain ⟨yk, yp, yc, yl⟩ := y
   dsimp only at hx hB hob hyl h1 lh1 hel
   refine J.region <| J.m rfl <| J.p rfl (Q.nil_ rfl) <| J.p rfl (Q.fa (n := 0) Tryz.runUnderlying92 rfl rfl Tryz.sizeOf88 rfl) ?_
   refine J.p rfl (Q.ld Tryz.isAgg88 rfl (rdI (by exact rfl))) ?_
   refine J.m rfl <| J.p rfl (Q.ia Tryz.runUnderlying88 Tryz.sizeOf101 rfl rfl (by omega) (by omega)) <| J.p rfl (Q.ldN (vs := [_, _]) Tryz.isAgg101 Tryz.sizeOf101 rfl (rnOd (vs := [Value.string yk, .slice yp yl.length yc]) 0 RBk.len hy (fun _ _ h => h) (by omega))) ?_
   refine J.c rfl rfl (C.alloc (l := [_, _]) Tryz.zeroValue101 rfl) ?_
   rintro _ _ ⟨b5, rfl, rfl⟩
   refine J.norm rfl ?_
   refine J.stAI (vs := [_, _]) rfl Tryz.sizeOf101 rfl rfl (by exact rfl) (by exact rfl) (by exact rfl) ?_
   refine J.nil <| J.then_n <| J.seq <| J.region <| J.m rfl <| J.p rfl (Q.fa (n := 0) Tryz.runUnderlying101 rfl rfl Tryz.sizeOf9 rfl) ?_
   refine J.p rfl (Q.ld Tryz.isAgg9 rfl (rdI (by exact rfl))) ?_
   refine J.c rfl rfl (C.s2bL Tryz.runUnderlying9 Tryz.runUnderlying25 Tryz.runUnderlying5 rfl) ?_
   rintro _ _ ⟨b36, c36, rfl, rfl⟩
   refine J.norm rfl ?_
   refine J.callI Tryz.call46 (rbytesO p (some ⟨b36, 0, none⟩) c c36 acc yk.data.toList (by omega) (by omega)) rfl rfl rfl ?_
   rintro _ _ ⟨p37, c37, rfl, rfl⟩
   refine J.norm rfl <| J.p rfl (Q.asg rfl) <| J.nil <| J.then_n <| J.seq <| J.region <| J.m rfl <| J.p rfl (Q.fa (n := 1) Tryz.runUnderlying101 rfl rfl Tryz.sizeOf99 rfl) ?_
   refine J.p rfl (Q.ld Tryz.isAgg99 rfl (rdI (by exact rfl))) ?_
   refine J.p rfl (Q.lenSl Tryz.runUnderlying99 rfl) ?_
   refine J.callI Tryz.call45 (rnumN_spec p37 c37 (acc ++ encB yk.data.toList) yl.length (by rw [List.length_append]; omega) (by omega)) rfl rfl rfl ?_
   rintro _ _ ⟨p42, c42, rfl, rfl⟩
   refine J.norm rfl <| J.p rfl (Q.asg rfl) <| J.nil <| J.then_n <| J.seq <| J.region <| J.p rfl (Q.asg rfl) <| J.nil <| J.then_n <| J.block ?_
   obtain ⟨acc1, ha1⟩ : ∃ acc1, acc1 = acc ++ encB yk.data.toList ++ numB yl.length := ⟨_, rfl⟩
   have h2 : acc1 ++ (dObjs (yl.map ROb.kv) ++ (dBkts (M.buckets.drop (i + 1)) ++ dT1 M)) = dumpM M := by rw [ha1, ← h1]; simp [List.append_assoc]
   rw [← ha1]
   refine J.focusI (f := RBk.asn) i hy ?_
   refine J.openI (RBk.asn ⟨yk, yp, yc, yl⟩) (Bs := fun _ : Unit => [own 104 2 (.slice yp yl.length yc) (yl.flatMap ROb.cells), star (yl.map ROb.asn)]) (p := fun _ => True) (fun _ h => ⟨(), trivial, h⟩) fun _ _ => ?_
   refine J.norm rfl ?_
   refine J.slrI (E0 := 104) (sz := 2) (p := yp) (n := yl.length) (c := yc) (xs := yl.flatMap ROb.cells) fun hso => ?_
   refine J.keepI [own 5 1 (.slice p42 acc1.length c42) (bytesV acc1), refP m (.slice (some ⟨b1, o1, none⟩) bs.length c1) (.slice p2 us.length c2) (.slice p3 M.done.length c3), bksO (some ⟨b1, o1, none⟩) c1 bs, upsO p2 c2 us, kpsO p3 c3 M.done, star ((bs.eraseIdx i).map RBk.asn), star (us.map RUp.asn), own 104 2 (.slice yp yl.length yc) (yl.flatMap ROb.cells), star (yl.map ROb.asn), pt b5 (.cells [Value.string yk, .slice yp yl.length yc].toArray 101 (0, 0)), F] ?_
   refine J.loop4 (fun (j : Nat) (acc : List UInt8) (p : Option Addr) (c : Nat) => j ≤ yl.length ∧ acc ++ (dObjs ((yl.map ROb.kv).drop j) ++ (dBkts (M.buckets.drop (i + 1)) ++ dT1 M)) = dumpM M) (fun j _ _ _ => yl.length - j) (fun j acc p c => [(0, .pointer (some ⟨m, 0, none⟩)), (3, .slice p acc.length c), (4, .int .i64 i), (5, .pointer (some ⟨b5, 0, none⟩)), (6, .int .i64 j)]) (fun j acc p c => [own 5 1 (.slice p acc.length c) (bytesV acc), refP m (.slice (some ⟨b1, o1, none⟩) bs.length c1) (.slice p2 us.length c2) (.slice p3 M.done.length c3), bksO (some ⟨b1, o1, none⟩) c1 bs, upsO p2 c2 us, kpsO p3 c3 M.done, star ((bs.eraseIdx i).map RBk.asn), star (us.map RUp.asn), own 104 2 (.slice yp yl.length yc) (yl.flatMap ROb.cells), star (yl.map ROb.asn), pt b5 (.cells [Value.string yk, .slice yp yl.length yc].toArray 101 (0, 0)), F]) 0 acc1 p42 c42 ⟨Nat.zero_le _, h2⟩ ⟨rfl, rfl, rfl, rfl, rfl, trivial⟩ rfl fun j acc2 p2x c2x hz2 => ?_
   obtain ⟨hj, h3⟩ := hz2
   refine J.seq <| J.seq <| J.region <| J.m rfl <| J.p rfl (Q.fa (n := 1) Tryz.runUnderlying101 rfl rfl Tryz.sizeOf99 rfl) ?_
   refine J.p rfl (Q.ld Tryz.isAgg99 rfl (rdI (by exact rfl))) ?_
   refine J.p rfl (Q.lenSl Tryz.runUnderlying99 rfl) <| J.p rfl (Q.lss rfl rfl) <| J.nil <| J.then_n ?_
   refine J.cases 47 rfl (fun hc47 => ?_) (fun hc47 => ?_)
   ·
    replace hc47 := X.nm hc47
    refine J.cond_t rfl <| J.cskip <| J.then_n <| J.seq <| J.block <| J.seq ?_
    obtain ⟨b2, o2, rfl, hrd2⟩ := hso.some_ (by omega)
    obtain ⟨q, hq⟩ : ∃ q, yl[j]? = some q := ⟨_, List.getElem?_eq_getElem (by omega)⟩
    have h4 : acc2 ++ (encB q.k.data.toList ++ (encB q.d ++ (dObjs ((yl.map ROb.kv).drop (j + 1)) ++ (dBkts (M.buckets.drop (i + 1)) ++ dT1 M)))) = dumpM M := by
     rw [← h3, drop_at (show (yl.map ROb.kv)[j]? = some q.kv from by rw [List.getElem?_map, hq]; rfl)]; simp [dObjs, List.append_assoc]
    have lh4 := congrArg List.length h4
    simp only [List.length_append] at lh4
    have hek := encB_len q.k.data.toList
    have hed := encB_len q.d
    refine J.slrStarI (f := ROb.asn) (E := 5) (sz := 1) (p := q.p) (n := q.d.length) (c := q.c) (xs := bytesV q.d) j hq rfl fun hsd => ?_
    refine J.region <| J.m rfl <| J.p rfl (Q.fa (n := 1) Tryz.runUnderlying101 rfl rfl Tryz.sizeOf99 rfl) ?_
    refine J.p rfl (Q.ld Tryz.isAgg99 rfl (rdI (by exact rfl))) ?_
    refine J.m rfl <| J.p rfl (Q.ia Tryz.runUnderlying99 Tryz.sizeOf104 rfl rfl (by omega) (by omega)) <| J.p rfl (Q.fa (n := 0) Tryz.runUnderlying104 rfl rfl Tryz.sizeOf9 rfl) <| J.p rfl (Q.ld Tryz.isAgg9 rfl (rfO 0 ROb.len hq (show _ = some (Value.string q.k) from rfl) (by omega))) ?_
    refine J.c rfl rfl (C.s2bL Tryz.runUnderlying9 Tryz.runUnderlying25 Tryz.runUnderlying5 rfl) ?_
    rintro _ _ ⟨b57, c57, rfl, rfl⟩
    refine J.norm rfl ?_
    refine J.callI Tryz.call46 (rbytesO p2x (some ⟨b57, 0, none⟩) c2x c57 acc2 q.k.data.toList (by omega) (by omega)) rfl rfl rfl ?_
    rintro _ _ ⟨p58, c58, rfl, rfl⟩
    refine J.norm rfl <| J.p rfl (Q.asg rfl) <| J.nil <| J.then_n <| J.region <| J.m rfl <| J.p rfl (Q.fa (n := 1) Tryz.runUnderlying101 rfl rfl Tryz.sizeOf99 rfl) ?_
    refine J.p rfl (Q.ld Tryz.isAgg99 rfl (rdI (by exact rfl))) ?_
    refine J.m rfl <| J.p rfl (Q.ia Tryz.runUnderlying99 Tryz.sizeOf104 rfl rfl (by omega) (by omega)) <| J.p rfl (Q.fa (n := 1) Tryz.runUnderlying104 rfl rfl Tryz.sizeOf25 rfl) <| J.p rfl (Q.ld Tryz.isAgg25 rfl (rfO 1 ROb.len hq (show _ = some (Value.slice q.p q.d.length q.c) from rfl) (by omega))) ?_
    refine J.callI Tryz.call46 (rbytes_spec (star (yl.map ROb.asn)) p58 q.p c58 q.c (acc2 ++ encB q.k.data.toList) q.d hsd (by rw [List.length_append]; omega) (by omega)) rfl rfl rfl ?_
    rintro _ _ ⟨p66, c66, rfl, rfl⟩
    refine J.norm rfl <| J.p rfl (Q.asg rfl) <| J.nil <| J.blk_n <| J.then_n <| J.region <| J.m rfl <| J.p rfl (Q.add64 rfl rfl (by omega)) <| J.p rfl (Q.asg rfl) <| J.nil ?_
    refine J.againI (j + 1, acc2 ++ encB q.k.data.toList ++ encB q.d, p66, c66) ⟨by show j + 1 ≤ _; omega, by show _ = dumpM M; rw [← h4]; simp [List.append_assoc]⟩ (by show yl.length - (j + 1) < yl.length - j; omega) ⟨rfl, rfl, rfl, rfl, rfl, trivial⟩
   replace hc47 := X.nm hc47
   refine J.cond_f rfl <| J.exit <| J.then_x <| J.lp_x <| J.blk_x <| J.blk_n <| J.then_n ?_
   obtain rfl : j = yl.length := by omega
   rw [List.drop_of_length_le (by rw [List.length_map]; exact Nat.le_refl _)] at h3
   refine J.shutI [own 104 2 (.slice yp yl.length yc) (yl.flatMap ROb.cells), star (yl.map ROb.asn)] (RBk.asn ⟨yk, yp, yc, yl⟩) (fun _ h => h) ?_
   refine J.unfocusI (f := RBk.asn) i ⟨yk, yp, yc, yl⟩ hyi ?_
   rw [set_self hy]
   refine J.region <| J.m rfl <| J.p rfl (Q.add64 rfl rfl (by omega)) <| J.p rfl (Q.asg rfl) <| J.nil ?_
   refine J.againI (i + 1, acc2, p2x, c2x) ⟨by show i + 1 ≤ _; omega, by show _ = dumpM M; rw [← h3]; rfl⟩ (by show bs.length - (i + 1) < bs.length - i; omega) ⟨rfl, rfl, rfl, trivial⟩
  replace hc23 := X.nm hc23
  refine J.cond_f rfl <| J.exit <| J.then_x <| J.lp_x <| J.blk_x <| J.then_n <| J.seq ?_
  rw [List.drop_of_length_le (by omega)] at h0
  obtain ⟨accu, hau⟩ : ∃ accu, accu = acc := ⟨_, rfl⟩
  have h5 : acc ++ (numB us.length ++ (dUps M.uploads ++ dT2 M)) = dumpM M := by rw [← h0, hul]; rfl
  have lh5 := congrArg List.length h5
  simp only [List.length_append] at lh5
  refine J.region <| J.m rfl <| J.m rfl <| J.p rfl (Q.nil_ rfl) <| J.p rfl (Q.fa (n := 1) Tryz.runUnderlying92 rfl rfl Tryz.sizeOf89 rfl) ?_
  refine J.p rfl (Q.ld Tryz.isAgg89 rfl (rdI (by exact rfl))) ?_
  refine J.p rfl (Q.lenSl Tryz.runUnderlying89 rfl) ?_
  refine J.callI Tryz.call45 (rnumN_spec p c acc us.length (by omega) (by omega)) rfl rfl rfl ?_
  rintro _ _ ⟨p73, c73, rfl, rfl⟩
  refine J.norm rfl ?_
  have b0 : (acc ++ numB us.length) ++ (dUps M.uploads ++ dT2 M) = dumpM M := by rw [← h5]; simp [List.append_assoc]
  refine J.p rfl (Q.asg rfl) <| J.nil <| J.then_n <| J.seq <| J.seq <| J.region <| J.p rfl (Q.asg rfl) <| J.nil <| J.then_n <| J.block ?_
  refine J.keepI [own 5 1 (.slice p73 (acc ++ numB us.length).length c73) (bytesV (acc ++ numB us.length)), refP m (.slice p1 bs.length c1) (.slice p2 us.length c2) (.slice p3 M.done.length c3), bksO p1 c1 bs, upsO p2 c2 us, kpsO p3 c3 M.done, star (bs.map RBk.asn), star (us.map RUp.asn), F] ?_
  refine J.loop4 (fun (i : Nat) (acc : List UInt8) (p : Option Addr) (c : Nat) => i ≤ us.length ∧ acc ++ (dUps (M.uploads.drop i) ++ dT2 M) = dumpM M) (fun i _ _ _ => us.length - i) (fun i acc p c => [(0, .pointer (some ⟨m, 0, none⟩)), (3, .slice p acc.length c), (7, .int .i64 i)]) (fun i acc p c => [own 5 1 (.slice p acc.length c) (bytesV acc), refP m (.slice p1 bs.length c1) (.slice p2 us.length c2) (.slice p3 M.done.length c3), bksO p1 c1 bs, upsO p2 c2 us, kpsO p3 c3 M.done, star (bs.map RBk.asn), star (us.map RUp.asn), F]) 0 (acc ++ numB us.length) p73 c73 ⟨Nat.zero_le _, b0⟩ ⟨rfl, rfl, rfl, trivial⟩ rfl fun i2 acc3 p3x c3x hz3 => ?_
  obtain ⟨hi2, g0⟩ := hz3
  refine J.seq <| J.seq <| J.region <| J.m rfl <| J.m rfl <| J.p rfl (Q.nil_ rfl) <| J.p rfl (Q.fa (n := 1) Tryz.runUnderlying92 rfl rfl Tryz.sizeOf89 rfl) ?_
  refine J.p rfl (Q.ld Tryz.isAgg89 rfl (rdI (by exact rfl))) ?_
  refine J.p rfl (Q.lenSl Tryz.runUnderlying89 rfl) <| J.p rfl (Q.lss rfl rfl) <| J.nil <| J.then_n ?_
  refine J.cases 80 rfl (fun hc80 => ?_) (fun hc80 => ?_)
  ·
   replace hc80 := X.nm hc80
   refine J.cond_t rfl <| J.cskip <| J.then_n <| J.seq <| J.block <| J.seq ?_
   obtain ⟨b1, o1, rfl, hrd⟩ := hsu.some_ (by omega)
   obtain ⟨y, hy⟩ : ∃ y, us[i2]? = some y := ⟨_, List.getElem?_eq_getElem (by omega)⟩
   have hyi := (List.getElem?_eq_some_iff.1 hy).1
   have hx : M.uploads[i2]? = some y.kv := by rw [← hyu, List.getElem?_map, hy]; rfl
   have hB : sget y.k M.uploads = some ⟨y.b, y.o, y.l.map RPt.kv⟩ := X.G.sget_of_mem (hM.us.nodup ord3_nat) (List.mem_of_getElem? hx)
   have hyl : y.l.length ≤ 32768 := by have := hM.pl _ _ hB; rwa [List.length_map] at this
   have hyn := (hF.up _ _ hB).1
   have h1 : acc3 ++ (numB y.k ++ (encB y.b.data.toList ++ (encB y.o.data.toList ++ (numB y.l.length ++ (dParts (y.l.map RPt.kv) ++ (dUps (M.uploads.drop (i2 + 1)) ++ dT2 M)))))) = dumpM M := by
    rw [← g0, drop_at hx]; simp [dUps, List.append_assoc]
   have lh1 := congrArg List.length h1
   simp only [List.length_append] at lh1
   have hel := encB_len y.b.data.toList
   have hem := encB_len y.o.data.toList
   obtain ⟨yk, yb, yo, yp, yc, yl⟩ := y
   dsimp only at hx hB hyl hyn h1 lh1 hel hem
   refine J.region <| J.m rfl <| J.p rfl (Q.nil_ rfl) <| J.p rfl (Q.fa (n := 1) Tryz.runUnderlying92 rfl rfl Tryz.sizeOf89 rfl) ?_
   refine J.p rfl (Q.ld Tryz.isAgg89 rfl (rdI (by exact rfl))) ?_
   refine J.m rfl <| J.p rfl (Q.ia Tryz.runUnderlying89 Tryz.sizeOf107 rfl rfl (by omega) (by omega)) <| J.p rfl (Q.ldN (vs := [_, _, _, _]) Tryz.isAgg107 Tryz.sizeOf107 rfl (rnOd (vs := [Value.int .u64 yk, .string yb, .string yo, .slice yp yl.length yc]) 0 RUp.len hy (fun _ _ h => h) (by omega))) ?_
   refine J.c rfl rfl (C.alloc (l := [_, _, _, _]) Tryz.zeroValue107 rfl) ?_
   rintro _ _ ⟨b8, rfl, rfl⟩
   refine J.norm rfl ?_
   refine J.stAI (vs := [_, _, _, _]) rfl Tryz.sizeOf107 rfl rfl (by exact rfl) (by exact rfl) (by exact rfl) ?_
   refine J.nil <| J.then_n <| J.seq <| J.region <| J.m rfl <| J.p rfl (Q.fa (n := 0) Tryz.runUnderlying107 rfl rfl Tryz.sizeOf23 rfl) ?_
   refine J.p rfl (Q.ld Tryz.isAgg23 rfl (rdI (by exact rfl))) ?_
   refine J.callI Tryz.call47 (rnumber_spec p3x c3x acc3 yk (by omega) hyn) rfl rfl rfl ?_
   rintro _ _ ⟨p93, c93, rfl, rfl⟩
   refine J.norm rfl <| J.p rfl (Q.asg rfl) <| J.nil <| J.then_n <| J.seq <| J.region <| J.m rfl <| J.p rfl (Q.fa (n := 1) Tryz.runUnderlying107 rfl rfl Tryz.sizeOf9 rfl) ?_
   refine J.p rfl (Q.ld Tryz.isAgg9 rfl (rdI (by exact rfl))) ?_
   refine J.c rfl rfl (C.s2bL Tryz.runUnderlying9 Tryz.runUnderlying25 Tryz.runUnderlying5 rfl) ?_
   rintro _ _ ⟨b97, c97, rfl, rfl⟩
   refine J.norm rfl ?_
   refine J.callI Tryz.call46 (rbytesO p93 (some ⟨b97, 0, none⟩) c93 c97 (acc3 ++ numB yk) yb.data.toList (by omega) (by rw [List.length_append]; omega)) rfl rfl rfl ?_
   rintro _ _ ⟨p98, c98, rfl, rfl⟩
   refine J.norm rfl <| J.p rfl (Q.asg rfl) <| J.nil <| J.then_n <| J.seq <| J.region <| J.m rfl <| J.p rfl (Q.fa (n := 2) Tryz.runUnderlying107 rfl rfl Tryz.sizeOf9 rfl) ?_
   refine J.p rfl (Q.ld Tryz.isAgg9 rfl (rdI (by exact rfl))) ?_
   refine J.c rfl rfl (C.s2bL Tryz.runUnderlying9 Tryz.runUnderlying25 Tryz.runUnderlying5 rfl) ?_
   rintro _ _ ⟨b102, c102, rfl, rfl⟩
   refine J.norm rfl ?_
   refine J.callI Tryz.call46 (rbytesO p98 (some ⟨b102, 0, none⟩) c98 c102 (acc3 ++ numB yk ++ encB yb.data.toList) yo.data.toList (by omega) (by rw [List.length_append, List.length_append]; omega)) rfl rfl rfl ?_
   rintro _ _ ⟨p103, c103, rfl, rfl⟩
   refine J.norm rfl <| J.p rfl (Q.asg rfl) <| J.nil <| J.then_n <| J.seq <| J.region <| J.m rfl <| J.p rfl (Q.fa (n := 3) Tryz.runUnderlying107 rfl rfl Tryz.sizeOf105 rfl) ?_
   refine J.p rfl (Q.ld Tryz.isAgg105 rfl (rdI (by exact rfl))) ?_
   refine J.p rfl (Q.lenSl Tryz.runUnderlying105 rfl) ?_
   refine J.callI Tryz.call45 (rnumN_spec p103 c103 (acc3 ++ numB yk ++ encB yb.data.toList ++ encB yo.data.toList) yl.length (by rw [List.length_append, List.length_append, List.length_append]; omega) (by omega)) rfl rfl rfl ?_
   rintro _ _ ⟨p108, c108, rfl, rfl⟩
   refine J.norm rfl <| J.p rfl (Q.asg rfl) <| J.nil <| J.then_n <| J.seq <| J.region <| J.p rfl (Q.asg rfl) <| J.nil <| J.then_n <| J.block ?_
   obtain ⟨acc1, ha1⟩ : ∃ acc1, acc1 = acc3 ++ numB yk ++ encB yb.data.toList ++ encB yo.data.toList ++ numB yl.length := ⟨_, rfl⟩
   have h2 : acc1 ++ (dParts (yl.map RPt.kv) ++ (dUps (M.uploads.drop (i2 + 1)) ++ dT2 M)) = dumpM M := by rw [ha1, ← h1]; simp [List.append_assoc]
   rw [← ha1]
   refine J.focusI (f := RUp.asn) i2 hy ?_
   refine J.openI (RUp.asn ⟨yk, yb, yo, yp, yc, yl⟩) (Bs := fun _ : Unit => [own 109 2 (.slice yp yl.length yc) (yl.flatMap RPt.cells), star (yl.map RPt.asn)]) (p := fun _ => True) (fun _ h => ⟨(), trivial, h⟩) fun _ _ => ?_
   refine J.norm rfl ?_
   refine J.slrI (E0 := 109) (sz := 2) (p := yp) (n := yl.length) (c := yc) (xs := yl.flatMap RPt.cells) fun hso => ?_
   refine J.keepI [own 5 1 (.slice p108 acc1.length c108) (bytesV acc1), refP m (.slice p1 bs.length c1) (.slice (some ⟨b1, o1, none⟩) us.length c2) (.slice p3 M.done.length c3), bksO p1 c1 bs, upsO (some ⟨b1, o1, none⟩) c2 us, kpsO p3 c3 M.done, star (bs.map RBk.asn), star ((us.eraseIdx i2).map RUp.asn), own 109 2 (.slice yp yl.length yc) (yl.flatMap RPt.cells), star (yl.map RPt.asn), pt b8 (.cells [Value.int .u64 yk, .string yb, .string yo, .slice yp yl.length yc].toArray 107 (0, 0)), F] ?_
   refine J.loop4 (fun (j : Nat) (acc : List UInt8) (p : Option Addr) (c : Nat) => j ≤ yl.length ∧ acc ++ (dParts ((yl.map RPt.kv).drop j) ++ (dUps (M.uploads.drop (i2 + 1)) ++ dT2 M)) = dumpM M) (fun j _ _ _ => yl.length - j) (fun j acc p c => [(0, .pointer (some ⟨m, 0, none⟩)), (3, .slice p acc.length c), (7, .int .i64 i2), (8, .pointer (some ⟨b8, 0, none⟩)), (9, .int .i64 j)]) (fun j acc p c => [own 5 1 (.slice p acc.length c) (bytesV acc), refP m (.slice p1 bs.length c1) (.slice (some ⟨b1, o1, none⟩) us.length c2) (.slice p3 M.done.length c3), bksO p1 c1 bs, upsO (some ⟨b1, o1, none⟩) c2 us, kpsO p3 c3 M.done, star (bs.map RBk.asn), star ((us.eraseIdx i2).map RUp.asn), own 109 2 (.slice yp yl.length yc) (yl.flatMap RPt.cells), star (yl.map RPt.asn), pt b8 (.cells [Value.int .u64 yk, .string yb, .string yo, .slice yp yl.length yc].toArray 107 (0, 0)), F]) 0 acc1 p108 c108 ⟨Nat.zero_le _, h2⟩ ⟨rfl, rfl, rfl, rfl, rfl, trivial⟩ rfl fun j acc2 p2x c2x hz2 => ?_
   obtain ⟨hj, h3⟩ := hz2
   refine J.seq <| J.seq <| J.region <| J.m rfl <| J.p rfl (Q.fa (n := 3) Tryz.runUnderlying107 rfl rfl Tryz.sizeOf105 rfl) ?_
   refine J.p rfl (Q.ld Tryz.isAgg105 rfl (rdI (by exact rfl))) ?_
   refine J.p rfl (Q.lenSl Tryz.runUnderlying105 rfl) <| J.p rfl (Q.lss rfl rfl) <| J.nil <| J.then_n ?_
   refine J.cases 113 rfl (fun hc113 => ?_) (fun hc113 => ?_)
   ·
    replace hc113 := X.nm hc113
    refine J.cond_t rfl <| J.cskip <| J.then_n <| J.seq <| J.block <| J.seq ?_
    obtain ⟨b2, o2, rfl, hrd2⟩ := hso.some_ (by omega)
    obtain ⟨q, hq⟩ : ∃ q, yl[j]? = some q := ⟨_, List.getElem?_eq_getElem (by omega)⟩
    have h4 : acc2 ++ (numB (u64N q.k) ++ (encB q.d ++ (dParts ((yl.map RPt.kv).drop (j + 1)) ++ (dUps (M.uploads.drop (i2 + 1)) ++ dT2 M)))) = dumpM M := by
     rw [← h3, drop_at (show (yl.map RPt.kv)[j]? = some q.kv from by rw [List.getElem?_map, hq]; rfl)]; simp [dParts, List.append_assoc]
    have lh4 := congrArg List.length h4
    simp only [List.length_append] at lh4
    have hed := encB_len q.d
    refine J.slrStarI (f := RPt.asn) (E := 5) (sz := 1) (p := q.p) (n := q.d.length) (c := q.c) (xs := bytesV q.d) j hq rfl fun hsd => ?_
    refine J.region <| J.m rfl <| J.p rfl (Q.fa (n := 3) Tryz.runUnderlying107 rfl rfl Tryz.sizeOf105 rfl) ?_
    refine J.p rfl (Q.ld Tryz.isAgg105 rfl (rdI (by exact rfl))) ?_
    refine J.m rfl <| J.p rfl (Q.ia Tryz.runUnderlying105 Tryz.sizeOf109 rfl rfl (by omega) (by omega)) <| J.p rfl (Q.fa (n := 0) Tryz.runUnderlying109 rfl rfl Tryz.sizeOf3 rfl) <| J.p rfl (Q.ld Tryz.isAgg3 rfl (rfO 0 RPt.len hq (show _ = some (Value.int .i64 q.k) from rfl) (by omega))) ?_
    refine J.callI Tryz.call45 (rnum_spec p2x c2x acc2 q.k (by omega)) rfl rfl rfl ?_
    rintro _ _ ⟨p123, c123, rfl, rfl⟩
    refine J.norm rfl <| J.p rfl (Q.asg rfl) <| J.nil <| J.then_n <| J.region <| J.m rfl <| J.p rfl (Q.fa (n := 3) Tryz.runUnderlying107 rfl rfl Tryz.sizeOf105 rfl) ?_
    refine J.p rfl (Q.ld Tryz.isAgg105 rfl (rdI (by exact rfl))) ?_
    refine J.m rfl <| J.p rfl (Q.ia Tryz.runUnderlying105 Tryz.sizeOf109 rfl rfl (by omega) (by omega)) <| J.p rfl (Q.fa (n := 1) Tryz.runUnderlying109 rfl rfl Tryz.sizeOf25 rfl) <| J.p rfl (Q.ld Tryz.isAgg25 rfl (rfO 1 RPt.len hq (show _ = some (Value.slice q.p q.d.length q.c) from rfl) (by omega))) ?_
    refine J.callI Tryz.call46 (rbytes_spec (star (yl.map RPt.asn)) p123 q.p c123 q.c (acc2 ++ numB (u64N q.k)) q.d hsd (by rw [List.length_append]; omega) (by omega)) rfl rfl rfl ?_
    rintro _ _ ⟨p131, c131, rfl, rfl⟩
    refine J.norm rfl <| J.p rfl (Q.asg rfl) <| J.nil <| J.blk_n <| J.then_n <| J.region <| J.m rfl <| J.p rfl (Q.add64 rfl rfl (by omega)) <| J.p rfl (Q.asg rfl) <| J.nil ?_
    refine J.againI (j + 1, acc2 ++ numB (u64N q.k) ++ encB q.d, p131, c131) ⟨by show j + 1 ≤ _; omega, by show _ = dumpM M; rw [← h4]; simp [List.append_assoc]⟩ (by show yl.length - (j + 1) < yl.length - j; omega) ⟨rfl, rfl, rfl, rfl, rfl, trivial⟩
   replace hc113 := X.nm hc113
   refine J.cond_f rfl <| J.exit <| J.then_x <| J.lp_x <| J.blk_x <| J.blk_n <| J.then_n ?_
   obtain rfl : j = yl.length := by omega
   rw [List.drop_of_length_le (by rw [List.length_map]; exact Nat.le_refl _)] at h3
   refine J.shutI [own 109 2 (.slice yp yl.length yc) (yl.flatMap RPt.cells), star (yl.map RPt.asn)] (RUp.asn ⟨yk, yb, yo, yp, yc, yl⟩) (fun _ h => h) ?_
   refine J.unfocusI (f := RUp.asn) i2 ⟨yk, yb, yo, yp, yc, yl⟩ hyi ?_
   rw [set_self hy]
   refine J.region <| J.m rfl <| J.p rfl (Q.add64 rfl rfl (by omega)) <| J.p rfl (Q.asg rfl) <| J.nil ?_
   refine J.againI (i2 + 1, acc2, p2x, c2x) ⟨by show i2 + 1 ≤ _; omega, by show _ = dumpM M; rw [← h3]; rfl⟩ (by show us.length - (i2 + 1) < us.length - i2; omega) ⟨rfl, rfl, rfl, trivial⟩
  replace hc80 := X.nm hc80
  refine J.cond_f rfl <| J.exit <| J.then_x <| J.lp_x <| J.blk_x <| J.then_n <| J.seq ?_
  rw [List.drop_of_length_le (by omega)] at g0
  have h6 : acc3 ++ (numB M.done.length ++ dDone M.done) = dumpM M := by rw [← g0]; rfl
  have lh6 := congrArg List.length h6
  simp only [List.length_append] at lh6
  refine J.region <| J.m rfl <| J.m rfl <| J.p rfl (Q.nil_ rfl) <| J.p rfl (Q.fa (n := 2) Tryz.runUnderlying92 rfl rfl Tryz.sizeOf90 rfl) ?_
  refine J.p rfl (Q.ld Tryz.isAgg90 rfl (rdI (by exact rfl))) ?_
  refine J.p rfl (Q.lenSl Tryz.runUnderlying90 rfl) ?_
  refine J.callI Tryz.call45 (rnumN_spec p3x c3x acc3 M.done.length (by omega) (by omega)) rfl rfl rfl ?_
  rintro _ _ ⟨p138, c138, rfl, rfl⟩
  refine J.norm rfl ?_
  have d0 : (acc3 ++ numB M.done.length) ++ dDone M.done = dumpM M := by rw [← h6]; simp [List.append_assoc]
  refine J.p rfl (Q.asg rfl) <| J.nil <| J.then_n <| J.seq <| J.seq <| J.region <| J.p rfl (Q.asg rfl) <| J.nil <| J.then_n <| J.block ?_
  refine J.keepI [own 5 1 (.slice p138 (acc3 ++ numB M.done.length).length c138) (bytesV (acc3 ++ numB M.done.length)), refP m (.slice p1 bs.length c1) (.slice p2 us.length c2) (.slice p3 M.done.length c3), bksO p1 c1 bs, upsO p2 c2 us, kpsO p3 c3 M.done, star (bs.map RBk.asn), star (us.map RUp.asn), F] ?_
  refine J.loop4 (fun (i : Nat) (acc : List UInt8) (p : Option Addr) (c : Nat) => i ≤ M.done.length ∧ acc ++ dDone (M.done.drop i) = dumpM M) (fun i _ _ _ => M.done.length - i) (fun i acc p c => [(0, .pointer (some ⟨m, 0, none⟩)), (3, .slice p acc.length c), (10, .int .i64 i)]) (fun i acc p c => [own 5 1 (.slice p acc.length c) (bytesV acc), refP m (.slice p1 bs.length c1) (.slice p2 us.length c2) (.slice p3 M.done.length c3), bksO p1 c1 bs, upsO p2 c2 us, kpsO p3 c3 M.done, star (bs.map RBk.asn), star (us.map RUp.asn), F]) 0 (acc3 ++ numB M.done.length) p138 c138 ⟨Nat.zero_le _, d0⟩ ⟨rfl, rfl, rfl, trivial⟩ rfl fun i3 acc4 p4 c4 hz4 => ?_
  obtain ⟨hi3, k0⟩ := hz4
  refine J.seq <| J.seq <| J.region <| J.m rfl <| J.m rfl <| J.p rfl (Q.nil_ rfl) <| J.p rfl (Q.fa (n := 2) Tryz.runUnderlying92 rfl rfl Tryz.sizeOf90 rfl) ?_
  refine J.p rfl (Q.ld Tryz.isAgg90 rfl (rdI (by exact rfl))) ?_
  refine J.p rfl (Q.lenSl Tryz.runUnderlying90 rfl) <| J.p rfl (Q.lss rfl rfl) <| J.nil <| J.then_n ?_
  refine J.cases 145 rfl (fun hc145 => ?_) (fun hc145 => ?_)
  ·
   replace hc145 := X.nm hc145
   refine J.cond_t rfl <| J.cskip <| J.then_n <| J.seq <| J.block <| J.seq ?_
   obtain ⟨b1, o1, rfl, hrd⟩ := hsk.some_ (by omega)
   obtain ⟨y, hy⟩ : ∃ y, M.done[i3]? = some y := ⟨_, List.getElem?_eq_getElem (by omega)⟩
   have hyd := hF.dn _ _ (X.G.sget_of_mem (hM.ds.nodup ord3_nat) (show (y.1, y.2) ∈ M.done from List.mem_of_getElem? hy))
   have h1 : acc4 ++ (numB y.1 ++ (numB (u64N y.2.status) ++ (numB y.2.upload ++ dDone (M.done.drop (i3 + 1))))) = dumpM M := by
    rw [← k0, drop_at hy]; simp [dDone, List.append_assoc]
   have lh1 := congrArg List.length h1
   simp only [List.length_append] at lh1
   refine J.region <| J.m rfl <| J.m rfl <| J.p rfl (Q.nil_ rfl) <| J.p rfl (Q.fa (n := 2) Tryz.runUnderlying92 rfl rfl Tryz.sizeOf90 rfl) ?_
   refine J.p rfl (Q.ld Tryz.isAgg90 rfl (rdI (by exact rfl))) ?_
   refine J.m rfl <| J.p rfl (Q.ia Tryz.runUnderlying90 Tryz.sizeOf96 rfl rfl (by omega) (by omega)) <| J.p rfl (Q.fa (n := 0) Tryz.runUnderlying96 rfl rfl Tryz.sizeOf23 rfl) <| J.p rfl (Q.ld Tryz.isAgg23 rfl (rfO 0 RKp.len hy (show _ = some (Value.int .u64 y.1) from rfl) (by omega))) ?_
   refine J.callI Tryz.call47 (rnumber_spec p4 c4 acc4 y.1 (by omega) hyd.1) rfl rfl rfl ?_
   rintro _ _ ⟨p157, c157, rfl, rfl⟩
   refine J.norm rfl <| J.p rfl (Q.asg rfl) <| J.nil <| J.then_n <| J.seq <| J.region <| J.m rfl <| J.m rfl <| J.p rfl (Q.nil_ rfl) <| J.p rfl (Q.fa (n := 2) Tryz.runUnderlying92 rfl rfl Tryz.sizeOf90 rfl) ?_
   refine J.p rfl (Q.ld Tryz.isAgg90 rfl (rdI (by exact rfl))) ?_
   refine J.m rfl <| J.p rfl (Q.ia Tryz.runUnderlying90 Tryz.sizeOf96 rfl rfl (by omega) (by omega)) <| J.p rfl (Q.fa (n := 1) Tryz.runUnderlying96 rfl rfl Tryz.sizeOf37 rfl) <| J.p rfl (Q.fa (n := 0) Tryz.runUnderlying37 rfl rfl Tryz.sizeOf3 rfl) <| J.p rfl (Q.ld Tryz.isAgg3 rfl (rfO 1 RKp.len hy (show _ = some (Value.int .i64 y.2.status) from rfl) (by omega))) ?_
   refine J.callI Tryz.call45 (rnum_spec p157 c157 (acc4 ++ numB y.1) y.2.status (by rw [List.length_append]; omega)) rfl rfl rfl ?_
   rintro _ _ ⟨p168, c168, rfl, rfl⟩
   refine J.norm rfl <| J.p rfl (Q.asg rfl) <| J.nil <| J.then_n <| J.region <| J.m rfl <| J.m rfl <| J.p rfl (Q.nil_ rfl) <| J.p rfl (Q.fa (n := 2) Tryz.runUnderlying92 rfl rfl Tryz.sizeOf90 rfl) ?_
   refine J.p rfl (Q.ld Tryz.isAgg90 rfl (rdI (by exact rfl))) ?_
   refine J.m rfl <| J.p rfl (Q.ia Tryz.runUnderlying90 Tryz.sizeOf96 rfl rfl (by omega) (by omega)) <| J.p rfl (Q.fa (n := 1) Tryz.runUnderlying96 rfl rfl Tryz.sizeOf37 rfl) <| J.p rfl (Q.fa (n := 1) Tryz.runUnderlying37 rfl rfl Tryz.sizeOf23 rfl) <| J.p rfl (Q.ld Tryz.isAgg23 rfl (rfO 2 RKp.len hy (show _ = some (Value.int .u64 y.2.upload) from rfl) (by omega))) ?_
   refine J.callI Tryz.call47 (rnumber_spec p168 c168 (acc4 ++ numB y.1 ++ numB (u64N y.2.status)) y.2.upload (by rw [List.length_append, List.length_append]; omega) hyd.2) rfl rfl rfl ?_
   rintro _ _ ⟨p179, c179, rfl, rfl⟩
   refine J.norm rfl <| J.p rfl (Q.asg rfl) <| J.nil <| J.blk_n <| J.then_n <| J.region <| J.m rfl <| J.p rfl (Q.add64 rfl rfl (by omega)) <| J.p rfl (Q.asg rfl) <| J.nil ?_
   refine J.againI (i3 + 1, acc4 ++ numB y.1 ++ numB (u64N y.2.status) ++ numB y.2.upload, p179, c179) ⟨by show i3 + 1 ≤ _; omega, by show _ = dumpM M; rw [← h1]; simp [List.append_assoc]⟩ (by show M.done.length - (i3 + 1) < M.done.length - i3; omega) ⟨rfl, rfl, rfl, trivial⟩
  replace hc145 := X.nm hc145
  refine J.cond_f rfl <| J.exit <| J.then_x <| J.lp_x <| J.blk_x <| J.then_n <| J.seq <| J.region <| J.m rfl <| J.p rfl (Q.asg rfl) <| J.nil <| J.then_n <| J.cret ?_
  rw [List.drop_of_length_le (by omega)] at k0
  have hk0 : acc4 = dumpM M := by rw [← k0]; simp [dDone]
  rw [hk0]
  refine J.shutI (refL m M p1 c1 bs p2 c2 us p3 c3) (RefAt m M) (RefAt.of hyb hyu hyk) ?_
  refine J.ret1I [own 5 1 (.slice p4 (dumpM M).length c4) (bytesV (dumpM M)), RefAt m M] rfl rfl ⟨p4, c4, rfl, rfl⟩
end
end Go.Proofs.YtdancegklkifaaaGreat
namespace Go.X.G
set_option linter.unusedSectionVars false
set_option linter.unusedSimpArgs false
set_option linter.unusedVariables false
variable {κ ν : Type} [DecidableEq κ]
section ops
variable {P : Program} {L : Slots} {A D F : List Assn} {ty T K E : TypeId} {x y z : Operand} {enc : κ → Value} {rep : κ → ν → Value → Assn} {S : List (κ × ν)} {es : List (Ent κ ν)} {c : Nat} {K1 K2 : Obj → List Assn}
theorem C.rangeI {r : Nat} {m : List (MEnt κ)} (hT : ∀ w, (underlying T).run P w = .ok (.map K E) w) (ex : ev L x = some (.map (some r))) [h : AtPt A r (mobj enc m c) K1] :
    OpC P (.range T x) ty L A (fun u B => ∃ b, u = .pointer (some ⟨b, 0, none⟩) ∧ B = pt b (miter r c []) :: A) := by
  obtain ⟨i, h1, _⟩ := h.at_
  exact C.range hT ex h1
theorem C.nextI {b r : Nat} {seen : List Nat} (hx : Ents S es c) (ex : ev L x = some (.pointer (some ⟨b, 0, none⟩))) [h : AtPt A b (miter r c seen) K1] [g : AtPt A r (mobj enc (es.map Ent.m) c) K2] :
    OpC P (.next x false) ty L A (fun u B => ∃ (t : Bool) (rest : List Value) (seen' : List Nat), u = .tuple (.bool t :: rest).toArray ∧ B = K1 (miter r c seen') ∧ ((t = false ∧ edone es seen = es ∧ seen' = seen) ∨ (t = true ∧ ∃ e, e ∈ eleft es seen ∧ seen' = seen ++ [e.born]))) := by
  obtain ⟨i, h1, h2⟩ := h.at_
  obtain ⟨j, g1, _⟩ := g.at_
  refine (C.nextE hx ex h1 g1).shutTo ?_
  rintro u B ⟨t, rest, seen', rfl, rfl, q⟩
  exact ⟨_, ⟨t, rest, seen', rfl, rfl, q⟩, fun _ s => by rwa [h2] at s⟩
theorem Q.entryI {b r : Nat} {seen : List Nat} {e : Ent κ ν} (hx : Ents S es c) (he : e ∈ eleft es seen) (ex : ev L x = some (.pointer (some ⟨b, 0, none⟩))) [h : AtPt D b (miter r c (seen ++ [e.born])) K1] [g : AtPt D r (mobj enc (es.map Ent.m) c) K2] :
    OpQ P (.entry x) ty L D (.tuple #[enc e.key, e.val]) := by
  obtain ⟨i, h1, _⟩ := h.at_
  obtain ⟨j, g1, _⟩ := g.at_
  exact Q.entryE hx he ex h1 g1
theorem C.mapPutI {lt : κ → κ → Bool} {r : Nat} {k : κ} {val : Value} (rep : κ → ν → Value → Assn) (S : List (κ × ν)) (v : ν) (o : Ord3 lt) (hS : Srtd lt S) (hT : ∀ w, (underlying T).run P w = .ok (.map K E) w) (hk : Keyed P K enc) (ex : ev L x = some (.map (some r))) (ey : ev L y = some (enc k)) (ez : ev L z = some val)
    [h : PickO A (MapAt enc rep r S) D] : OpC P (.mapUpdate T x y z) ty L A (fun u B => u = undef ∧ B = MapHole enc rep r (sput lt k v S) k val :: D) :=
  (C.mapPut (A := MapAt enc rep r S :: D) (rep := rep) 0 v o hS hT hk ex ey ez rfl).imp fun _ s => s.perm h.perm
end ops
section
variable {W0 : World} {N : Nat} {L : Slots} {A D : List Assn} {Gl : Act → World → Prop} {enc : κ → Value} {rep : κ → ν → Value → Assn} {r : Nat} {S : List (κ × ν)} {k : κ} {val : Value} {lt : κ → κ → Bool}
theorem J.mapBackI (v' : ν) (o : Ord3 lt) (hS : Srtd lt S) [h : PickL A [rep k v' val, MapHole enc rep r S k val] D] (g : J W0 N L (MapAt enc rep r (sput lt k v' S) :: D) Gl) : J W0 N L A Gl :=
  (g.imp fun _ s => HSat.imp (HSat.pack (As := [rep k v' val, MapHole enc rep r S k val]) s) (MapHole.back o hS v')).perm h.perm
theorem J.openMap (S : List (κ × ν)) [h : PickO A (MapAt enc rep r S) D] (g : ∀ (es : List (Ent κ ν)) (c : Nat), Ents S es c → J W0 N L (pt r (mobj enc (es.map Ent.m) c) :: star (es.map (Ent.asn rep)) :: D) Gl) : J W0 N L A Gl :=
  J.openI (MapAt enc rep r S) (fun _ h => h) fun x hx => g x.1 x.2 hx
end
structure TwK (lt : κ → κ → Bool) (es : List (Ent κ ν)) (seen : List Nat) (T : List (κ × ν)) : Prop where
  s : Srtd lt T
  g : ∀ k, sget k T = sget k ((edone es seen).map Ent.kv)
variable {lt : κ → κ → Bool} {S T : List (κ × ν)} {es : List (Ent κ ν)} {c : Nat} {seen : List Nat} {e : Ent κ ν}
theorem TwK.nil : TwK lt es [] [] := ⟨List.Pairwise.nil, fun k => by rw [edone_nil]; rfl⟩
theorem TwK.step (o : Ord3 lt) (h : TwK lt es seen T) (hx : Ents S es c) (he : e ∈ eleft es seen) : TwK lt es (seen ++ [e.born]) (sput lt e.key e.v T) := by
  refine ⟨srtd_put o h.s _ _, fun k => ?_⟩
  have hp := (estep hx.born he).1
  have hn : (((edone es (seen ++ [e.born])).map Ent.kv).map (·.1)).Nodup := by
    rw [List.map_map]
    exact (List.Sublist.map _ (List.filter_sublist (l := es))).nodup hx.keys
  rw [sget_put o, h.g k, ← sget_perm (hp.map Ent.kv).symm hn]
  by_cases hk : k = e.key
  · rw [if_pos hk]; show _ = if k = e.key then _ else _; rw [if_pos hk]; rfl
  · rw [if_neg hk]; show _ = if k = e.key then _ else _; rw [if_neg hk]
theorem TwK.all (o : Ord3 lt) (h : TwK lt es seen T) (hx : Ents S es c) (hS : Srtd lt S) (ha : edone es seen = es) : T = S :=
  srtd_ext o h.s hS fun k => by rw [h.g k, ha, hx.get k]
end Go.X.G
namespace Go.X
theorem J.tellsI {W0 : World} {N : Nat} {L : Slots} {A D : List Assn} {G : Act → World → Prop} (X : Assn) {p : Prop} [k : PickO A X D] (f : ∀ h, X h → p) (h : p → J W0 N L A G) : J W0 N L A G := by
  obtain ⟨i, hi⟩ := List.getElem?_of_mem (k.perm.mem_iff.2 List.mem_cons_self)
  exact J.tells i hi f h
open G in
theorem Q.lkYesI {κ ν : Type} [DecidableEq κ] {P : Program} {L : Slots} {D F : List Assn} {ty T K E : TypeId} {x y : Operand} {enc : κ → Value} {r : Nat} {k : κ} {val zv : Value} (rep : κ → ν → Value → Assn) (S : List (κ × ν)) (hT : ∀ w, (underlying T).run P w = .ok (.map K E) w) (hk : Keyed P K enc) (hz : ∀ w, (zeroValue E).run P w = .ok zv w) (ex : ev L x = some (.map (some r))) (ey : ev L y = some (enc k))
    [h : PickO D (MapHole enc rep r S k val) F] : OpQ P (.lookup T x y false) ty L D val := by
  obtain ⟨i, hi⟩ := List.getElem?_of_mem (h.perm.mem_iff.2 List.mem_cons_self)
  exact X.G.Q.lkYes hT hk hz ex ey hi
end Go.X
namespace Go.Proofs.YtdancegklkifaaaGreat
set_option linter.unusedSectionVars false
set_option linter.unusedSimpArgs false
set_option linter.unusedVariables false
open Go.X
open Go.X.G (Ord3 ord3_nat ord3_int ord3_str ltB sget sput sdel Srtd MapAt MapHole Ent Ents edone eleft TwK)

section
variable {k : Nat} (m : Nat) (M : BM) (hM : M.ok k)
include hM
set_option maxHeartbeats 4000000 in
theorem twin_spec : FSpec Tryz.prog 16 [.pointer (some ⟨m, 0, none⟩)] [BktAt m M] (fun v B => ∃ t, v = .pointer (some ⟨t, 0, none⟩) ∧ B = [BktAt t M, BktAt m M]) := by
  refine FSpec.of Tryz.func16 rfl Tryz.ntmps16 rfl fun W0 F => ?_
  refine J.seq <| J.region <| J.p rfl (Q.asg rfl) <| J.nil <| J.then_n <| J.seq <| J.region ?_
  refine J.callI Tryz.call7 (new_spec) rfl rfl rfl ?_
  rintro _ _ ⟨t, rfl, rfl⟩
  refine J.norm rfl <| J.p rfl (Q.asg rfl) <| J.nil <| J.then_n <| J.seq <| J.seq ?_
  refine J.openI (BktAt m M) (p := fun _ => True) (fun h s => by obtain ⟨z, s⟩ := s; exact ⟨z, trivial, s⟩) fun z _ => ?_
  refine J.norm rfl ?_
  refine J.openI (BktAt t ⟨[], [], []⟩) (p := fun _ => True) (fun h s => by obtain ⟨z, s⟩ := s; exact ⟨z, trivial, s⟩) fun w _ => ?_
  refine J.norm rfl ?_
  refine X.G.J.openMap (enc := Value.string) (rep := bRep) (r := z.1) M.buckets fun es c hx => ?_
  refine J.norm rfl <| J.region <| J.m rfl <| J.p rfl (Q.nil_ rfl) <| J.p rfl (Q.fa (n := 0) Tryz.runUnderlying51 rfl rfl Tryz.sizeOf47 rfl) ?_
  refine J.p rfl (Q.ld Tryz.isAgg47 rfl (rdI (by exact rfl))) ?_
  refine J.c rfl rfl (X.G.C.rangeI Tryz.runUnderlying47 rfl) ?_
  rintro _ _ ⟨b20, rfl, rfl⟩
  refine J.norm rfl <| J.nil <| J.then_n <| J.block ?_
  refine J.keepI [pt b20 (X.G.miter z.1 c []), pt z.1 (X.G.mobj Value.string (es.map Ent.m) c), star (es.map (Ent.asn bRep)), pt m (.cells ([.map (some z.1), .map (some z.2.1), .map (some z.2.2)] : List Value).toArray 51 (0, 0)), MapAt encU uRep z.2.1 M.uploads, MapAt encU dRep z.2.2 M.done, pt t (.cells ([.map (some w.1), .map (some w.2.1), .map (some w.2.2)] : List Value).toArray 51 (0, 0)), MapAt Value.string bRep w.1 [], MapAt encU uRep w.2.1 [], MapAt encU dRep w.2.2 [], F] ?_
  refine J.loop2 (fun seen T => TwK ltB es seen T) (fun seen _ => (eleft es seen).length) (fun seen T => [(0, .pointer (some ⟨m, 0, none⟩)), (3, .pointer (some ⟨t, 0, none⟩)), (20, .pointer (some ⟨b20, 0, none⟩))]) (fun seen T => [pt b20 (X.G.miter z.1 c seen), pt z.1 (X.G.mobj Value.string (es.map Ent.m) c), star (es.map (Ent.asn bRep)), pt m (.cells ([.map (some z.1), .map (some z.2.1), .map (some z.2.2)] : List Value).toArray 51 (0, 0)), MapAt encU uRep z.2.1 M.uploads, MapAt encU dRep z.2.2 M.done, pt t (.cells ([.map (some w.1), .map (some w.2.1), .map (some w.2.2)] : List Value).toArray 51 (0, 0)), MapAt Value.string bRep w.1 T, MapAt encU uRep w.2.1 [], MapAt encU dRep w.2.2 [], F]) [] [] TwK.nil ⟨rfl, rfl, rfl, trivial⟩ rfl fun seen T hT => ?_
  refine J.seq <| J.region ?_
  refine J.c rfl rfl (X.G.C.nextI hx rfl) ?_
  rintro _ _ ⟨tt, rest, seen_, rfl, rfl, hst⟩
  refine J.norm rfl <| J.p rfl (Q.ext rfl rfl) <| J.nil <| J.then_n <| J.seq ?_
  refine J.cases 22 rfl (fun hc22 => ?_) (fun hc22 => ?_)
  ·
   replace hc22 := X.nm hc22
   obtain ⟨e, he, rfl⟩ : ∃ e, e ∈ eleft es seen ∧ seen_ = seen ++ [e.born] := by rcases hst with ⟨h, _⟩ | ⟨_, h⟩; exact absurd hc22 (by rw [h]; decide); exact h
   refine J.cond_t rfl <| J.cskip <| J.then_n <| J.block <| J.seq <| J.region ?_
   have hnx := hT.step ord3_str hx he
   have hstep := X.G.estep hx.born he
   have hme := (List.mem_filter.1 he).1
   obtain ⟨j, hj⟩ := List.getElem?_of_mem hme
   have hjl := (List.getElem?_eq_some_iff.1 hj).1
   obtain ⟨ek, eo, eval, eb⟩ := e
   refine J.p rfl (X.G.Q.entryI hx he rfl) ?_
   refine J.focusI (f := Ent.asn bRep) j hj ?_
   refine J.convI (Ent.asn bRep ⟨ek, eo, eval, eb⟩) (bRep ek eo eval) (fun _ h => h) ?_
   refine J.openI (bRep ek eo eval) (p := fun r => eval = .map (some r)) (fun _ h => h) fun r hr => ?_
   subst hr
   refine J.norm rfl ?_
   have hgo : sget ek M.buckets = some eo := X.G.sget_of_mem (hM.bs.nodup ord3_str) (hx.perm.mem_iff.1 (List.mem_map.2 ⟨_, hme, rfl⟩))
   obtain ⟨hso, hol, hod⟩ := hM.os _ _ hgo
   refine J.p rfl (Q.ext rfl rfl) <| J.p rfl (Q.ext rfl rfl) <| J.p rfl (Q.asg rfl) <| J.p rfl (Q.asg rfl) <| J.nil <| J.then_n <| J.seq <| J.region <| J.m rfl <| J.p rfl (Q.nil_ rfl) <| J.p rfl (Q.fa (n := 0) Tryz.runUnderlying51 rfl rfl Tryz.sizeOf47 rfl) ?_
   refine J.p rfl (Q.ld Tryz.isAgg47 rfl (rdI (by exact rfl))) ?_
   refine J.m rfl ?_
   refine J.c rfl rfl C.mkMap ?_
   rintro _ _ ⟨b31, rfl, rfl⟩
   refine J.norm rfl ?_
   refine J.convI (pt b31 (.map #[] 0)) (MapAt Value.string datRep b31 []) MapAt.new ?_
   refine J.c0 rfl (X.G.C.mapPutI bRep T [] ord3_str hT.s Tryz.runUnderlying47 keyS rfl rfl rfl) ?_
   rintro _ _ ⟨rfl, rfl⟩
   refine J.norm rfl <| J.nil <| J.then_n <| J.seq ?_
   refine X.G.J.openMap (enc := Value.string) (rep := datRep) (r := r) eo fun es2 c2 hx2 => ?_
   refine J.norm rfl <| J.region <| J.m rfl ?_
   refine J.c rfl rfl (X.G.C.rangeI Tryz.runUnderlying57 rfl) ?_
   rintro _ _ ⟨b33, rfl, rfl⟩
   refine J.norm rfl <| J.nil <| J.then_n <| J.block ?_
   refine J.keepI [pt b33 (X.G.miter r c2 []), pt r (X.G.mobj Value.string (es2.map Ent.m) c2), star (es2.map (Ent.asn datRep)), MapAt Value.string datRep b31 [], MapHole Value.string bRep w.1 (sput ltB ek [] T) ek (.map (some b31)), star ((es.eraseIdx j).map (Ent.asn bRep)), pt b20 (X.G.miter z.1 c (seen ++ [eb])), pt z.1 (X.G.mobj Value.string (es.map Ent.m) c), pt m (.cells ([.map (some z.1), .map (some z.2.1), .map (some z.2.2)] : List Value).toArray 51 (0, 0)), MapAt encU uRep z.2.1 M.uploads, MapAt encU dRep z.2.2 M.done, pt t (.cells ([.map (some w.1), .map (some w.2.1), .map (some w.2.2)] : List Value).toArray 51 (0, 0)), MapAt encU uRep w.2.1 [], MapAt encU dRep w.2.2 [], F] ?_
   refine J.loop2 (fun seen2 T2 => TwK ltB es2 seen2 T2) (fun seen2 _ => (eleft es2 seen2).length) (fun seen2 T2 => [(0, .pointer (some ⟨m, 0, none⟩)), (3, .pointer (some ⟨t, 0, none⟩)), (4, .string ek), (20, .pointer (some ⟨b20, 0, none⟩)), (33, .pointer (some ⟨b33, 0, none⟩))]) (fun seen2 T2 => [pt b33 (X.G.miter r c2 seen2), pt r (X.G.mobj Value.string (es2.map Ent.m) c2), star (es2.map (Ent.asn datRep)), MapAt Value.string datRep b31 T2, MapHole Value.string bRep w.1 (sput ltB ek [] T) ek (.map (some b31)), star ((es.eraseIdx j).map (Ent.asn bRep)), pt b20 (X.G.miter z.1 c (seen ++ [eb])), pt z.1 (X.G.mobj Value.string (es.map Ent.m) c), pt m (.cells ([.map (some z.1), .map (some z.2.1), .map (some z.2.2)] : List Value).toArray 51 (0, 0)), MapAt encU uRep z.2.1 M.uploads, MapAt encU dRep z.2.2 M.done, pt t (.cells ([.map (some w.1), .map (some w.2.1), .map (some w.2.2)] : List Value).toArray 51 (0, 0)), MapAt encU uRep w.2.1 [], MapAt encU dRep w.2.2 [], F]) [] [] TwK.nil ⟨rfl, rfl, rfl, rfl, rfl, trivial⟩ rfl fun seen2 T2 hT2 => ?_
   refine J.seq <| J.region ?_
   refine J.c rfl rfl (X.G.C.nextI hx2 rfl) ?_
   rintro _ _ ⟨tt, rest, seen_, rfl, rfl, hst⟩
   refine J.norm rfl <| J.p rfl (Q.ext rfl rfl) <| J.nil <| J.then_n <| J.seq ?_
   refine J.cases 35 rfl (fun hc35 => ?_) (fun hc35 => ?_)
   ·
    replace hc35 := X.nm hc35
    obtain ⟨e, he, rfl⟩ : ∃ e, e ∈ eleft es2 seen2 ∧ seen_ = seen2 ++ [e.born] := by rcases hst with ⟨h, _⟩ | ⟨_, h⟩; exact absurd hc35 (by rw [h]; decide); exact h
    refine J.cond_t rfl <| J.cskip <| J.then_n <| J.block <| J.seq <| J.region ?_
    have hnx2 := hT2.step ord3_str hx2 he
    have hstep2 := X.G.estep hx2.born he
    have hme2 := (List.mem_filter.1 he).1
    obtain ⟨j2, hj2⟩ := List.getElem?_of_mem hme2
    have hjl2 := (List.getElem?_eq_some_iff.1 hj2).1
    obtain ⟨fk, fd, fval, fb⟩ := e
    refine J.p rfl (X.G.Q.entryI hx2 he rfl) ?_
    refine J.focusI (f := Ent.asn datRep) j2 hj2 ?_
    refine J.convI (Ent.asn datRep ⟨fk, fd, fval, fb⟩) (datRep fk fd fval) (fun _ h => h) ?_
    refine J.openI (datRep fk fd fval) (p := fun y : Option Addr × Nat => fval = .slice y.1 fd.length y.2) (fun _ h => h) fun y hy => ?_
    subst hy
    refine J.norm rfl ?_
    have hfd : fd.length ≤ 274877906944 := hod fk fd (X.G.sget_of_mem (hso.nodup ord3_str) (hx2.perm.mem_iff.1 (List.mem_map.2 ⟨_, hme2, rfl⟩)))
    refine J.slrI (E0 := 5) (sz := 1) (p := y.1) (n := fd.length) (c := y.2) (xs := bytesV fd) fun hsf => ?_
    refine J.p rfl (Q.ext rfl rfl) <| J.p rfl (Q.ext rfl rfl) <| J.p rfl (Q.asg rfl) <| J.p rfl (Q.asg rfl) <| J.nil <| J.then_n ?_
    refine J.keepI [pt b33 (X.G.miter r c2 (seen2 ++ [fb])), pt r (X.G.mobj Value.string (es2.map Ent.m) c2), star ((es2.eraseIdx j2).map (Ent.asn datRep)), MapAt Value.string datRep b31 T2, MapHole Value.string bRep w.1 (sput ltB ek [] T) ek (.map (some b31)), star ((es.eraseIdx j).map (Ent.asn bRep)), pt b20 (X.G.miter z.1 c (seen ++ [eb])), pt z.1 (X.G.mobj Value.string (es.map Ent.m) c), pt m (.cells ([.map (some z.1), .map (some z.2.1), .map (some z.2.2)] : List Value).toArray 51 (0, 0)), MapAt encU uRep z.2.1 M.uploads, MapAt encU dRep z.2.2 M.done, pt t (.cells ([.map (some w.1), .map (some w.2.1), .map (some w.2.2)] : List Value).toArray 51 (0, 0)), MapAt encU uRep w.2.1 [], MapAt encU dRep w.2.2 [], F, own 5 1 (.slice y.1 fd.length y.2) (bytesV fd)] ?_
    refine J.drawE [8, 9] 15 Tryz.mixed (by kernel_rfl) rfl rfl fun hR => ?_
    refine RG.p 0 hR rfl (Q.mv rfl) <| RG.p 1 hR rfl (Q.nil_ rfl) <| RG.p 2 hR rfl (Q.fa (n := 0) Tryz.runUnderlying51 rfl rfl Tryz.sizeOf47 rfl) ?_
    refine RG.p 3 hR rfl (Q.ld Tryz.isAgg47 rfl (rdI (by exact rfl))) ?_
    refine RG.p 4 hR rfl (Q.mv rfl) <| RG.p 5 hR rfl (Q.lkYesI (val := .map (some b31)) bRep (sput ltB ek [] T) Tryz.runUnderlying47 keyS Tryz.zeroValue57 rfl rfl) <| RG.p 6 hR rfl (Q.mv rfl) <| RG.p 7 hR rfl (Q.mv rfl) ?_
    refine RG.callkI 8 hR rfl rfl rfl rfl rfl Tryz.call44 (clone_spec (own 5 1 (.slice y.1 fd.length y.2) (bytesV fd)) y.1 y.2 fd hsf (by omega)) rfl ?_
    rintro _ _ ⟨p47, c47, rfl, rfl⟩
    refine RG.normE rfl ?_
    refine RG.bar 9 hR rfl rfl rfl rfl rfl rfl (X.G.C.mapPutI datRep T2 fd ord3_str hT2.s Tryz.runUnderlying57 keyS rfl rfl rfl) ?_
    rintro _ _ ⟨rfl, rfl⟩
    refine RG.norm rfl ?_
    refine RG.fin hR rfl ?_
    refine J.norm rfl <| J.blk_n ?_
    refine J.shutI [own 5 1 (.slice y.1 fd.length y.2) (bytesV fd)] (Ent.asn datRep ⟨fk, fd, .slice y.1 fd.length y.2, fb⟩) (fun h s => ⟨y, rfl, s⟩) ?_
    refine J.unfocusI (f := Ent.asn datRep) j2 ⟨fk, fd, .slice y.1 fd.length y.2, fb⟩ hjl2 ?_
    rw [set_self hj2]
    refine J.shutI [own 5 1 (.slice p47 fd.length c47) (bytesV fd)] (datRep fk fd (.slice p47 fd.length c47)) (fun h s => ⟨(p47, c47), rfl, s⟩) ?_
    refine X.G.J.mapBackI (rep := datRep) (enc := Value.string) (r := b31) (k := fk) (val := .slice p47 fd.length c47) fd ord3_str (X.G.srtd_put ord3_str hT2.s fk fd) ?_
    rw [X.G.sput_put ord3_str hT2.s]
    refine J.againI (seen2 ++ [fb], sput ltB fk fd T2) hnx2 hstep2.2 ⟨rfl, rfl, rfl, rfl, rfl, trivial⟩
   replace hc35 := X.nm hc35
   obtain ⟨hall, rfl⟩ : edone es2 seen2 = es2 ∧ seen_ = seen2 := by rcases hst with ⟨_, h⟩ | ⟨h, _⟩; exact h; exact absurd hc35 (by rw [h]; decide)
   refine J.cond_f rfl <| J.exit <| J.then_x <| J.lp_x <| J.blk_x <| J.blk_n ?_
   obtain rfl : T2 = eo := hT2.all ord3_str hx2 hso hall
   refine J.shutI [pt r (X.G.mobj Value.string (es2.map Ent.m) c2), star (es2.map (Ent.asn datRep))] (MapAt Value.string datRep r T2) (fun h s => ⟨(es2, c2), hx2, s⟩) ?_
   refine J.shutI [MapAt Value.string datRep r T2] (Ent.asn bRep ⟨ek, T2, .map (some r), eb⟩) (fun h s => ⟨r, rfl, s⟩) ?_
   refine J.unfocusI (f := Ent.asn bRep) j ⟨ek, T2, .map (some r), eb⟩ hjl ?_
   rw [set_self hj]
   refine J.shutI [MapAt Value.string datRep b31 T2] (bRep ek T2 (.map (some b31))) (fun h s => ⟨b31, rfl, s⟩) ?_
   refine X.G.J.mapBackI (rep := bRep) (enc := Value.string) (r := w.1) (k := ek) (val := .map (some b31)) T2 ord3_str (X.G.srtd_put ord3_str hT.s ek []) ?_
   rw [X.G.sput_put ord3_str hT.s]
   refine J.againI (seen ++ [eb], sput ltB ek T2 T) hnx hstep.2 ⟨rfl, rfl, rfl, trivial⟩
  replace hc22 := X.nm hc22
  obtain ⟨hall, rfl⟩ : edone es seen = es ∧ seen_ = seen := by rcases hst with ⟨_, h⟩ | ⟨h, _⟩; exact h; exact absurd hc22 (by rw [h]; decide)
  refine J.cond_f rfl <| J.exit <| J.then_x <| J.lp_x <| J.blk_x <| J.then_n <| J.seq <| J.seq ?_
  obtain rfl : T = M.buckets := hT.all ord3_str hx hM.bs hall
  refine J.shutI [pt z.1 (X.G.mobj Value.string (es.map Ent.m) c), star (es.map (Ent.asn bRep))] (MapAt Value.string bRep z.1 M.buckets) (fun h s => ⟨(es, c), hx, s⟩) ?_
  refine X.G.J.openMap (enc := encU) (rep := uRep) (r := z.2.1) M.uploads fun es c hx => ?_
  refine J.norm rfl <| J.region <| J.m rfl <| J.p rfl (Q.nil_ rfl) <| J.p rfl (Q.fa (n := 1) Tryz.runUnderlying51 rfl rfl Tryz.sizeOf48 rfl) ?_
  refine J.p rfl (Q.ld Tryz.isAgg48 rfl (rdI (by exact rfl))) ?_
  refine J.c rfl rfl (X.G.C.rangeI Tryz.runUnderlying48 rfl) ?_
  rintro _ _ ⟨b52, rfl, rfl⟩
  refine J.norm rfl <| J.nil <| J.then_n <| J.block ?_
  refine J.keepI [pt b52 (X.G.miter z.2.1 c []), pt z.2.1 (X.G.mobj encU (es.map Ent.m) c), star (es.map (Ent.asn uRep)), pt m (.cells ([.map (some z.1), .map (some z.2.1), .map (some z.2.2)] : List Value).toArray 51 (0, 0)), MapAt Value.string bRep z.1 M.buckets, MapAt encU dRep z.2.2 M.done, pt t (.cells ([.map (some w.1), .map (some w.2.1), .map (some w.2.2)] : List Value).toArray 51 (0, 0)), MapAt Value.string bRep w.1 M.buckets, MapAt encU uRep w.2.1 [], MapAt encU dRep w.2.2 [], F] ?_
  refine J.loop2 (fun seen T => TwK ltN es seen T) (fun seen _ => (eleft es seen).length) (fun seen T => [(0, .pointer (some ⟨m, 0, none⟩)), (3, .pointer (some ⟨t, 0, none⟩)), (52, .pointer (some ⟨b52, 0, none⟩))]) (fun seen T => [pt b52 (X.G.miter z.2.1 c seen), pt z.2.1 (X.G.mobj encU (es.map Ent.m) c), star (es.map (Ent.asn uRep)), pt m (.cells ([.map (some z.1), .map (some z.2.1), .map (some z.2.2)] : List Value).toArray 51 (0, 0)), MapAt Value.string bRep z.1 M.buckets, MapAt encU dRep z.2.2 M.done, pt t (.cells ([.map (some w.1), .map (some w.2.1), .map (some w.2.2)] : List Value).toArray 51 (0, 0)), MapAt Value.string bRep w.1 M.buckets, MapAt encU uRep w.2.1 T, MapAt encU dRep w.2.2 [], F]) [] [] TwK.nil ⟨rfl, rfl, rfl, trivial⟩ rfl fun seen T hT => ?_
  refine J.seq <| J.region ?_
  refine J.c rfl rfl (X.G.C.nextI hx rfl) ?_
  rintro _ _ ⟨tt, rest, seen_, rfl, rfl, hst⟩
  refine J.norm rfl <| J.p rfl (Q.ext rfl rfl) <| J.nil <| J.then_n <| J.seq ?_
  refine J.cases 54 rfl (fun hc54 => ?_) (fun hc54 => ?_)
  ·
   replace hc54 := X.nm hc54
   obtain ⟨e, he, rfl⟩ : ∃ e, e ∈ eleft es seen ∧ seen_ = seen ++ [e.born] := by rcases hst with ⟨h, _⟩ | ⟨_, h⟩; exact absurd hc54 (by rw [h]; decide); exact h
   refine J.cond_t rfl <| J.cskip <| J.then_n <| J.block <| J.seq <| J.region ?_
   have hnx := hT.step ord3_nat hx he
   have hstep := X.G.estep hx.born he
   have hme := (List.mem_filter.1 he).1
   obtain ⟨j, hj⟩ := List.getElem?_of_mem hme
   have hjl := (List.getElem?_eq_some_iff.1 hj).1
   obtain ⟨ek, eu, eval, eb⟩ := e
   refine J.p rfl (X.G.Q.entryI hx he rfl) ?_
   refine J.focusI (f := Ent.asn uRep) j hj ?_
   refine J.convI (Ent.asn uRep ⟨ek, eu, eval, eb⟩) (uRep ek eu eval) (fun _ h => h) ?_
   refine J.openI (uRep ek eu eval) (p := fun y : Nat × Nat => eval = .pointer (some ⟨y.1, 0, none⟩)) (fun _ h => h) fun y hy => ?_
   subst hy
   refine J.norm rfl ?_
   have hgo : sget ek M.uploads = some eu := X.G.sget_of_mem (hM.us.nodup ord3_nat) (hx.perm.mem_iff.1 (List.mem_map.2 ⟨_, hme, rfl⟩))
   obtain ⟨hso, _, hod⟩ := hM.ps _ _ hgo
   refine J.p rfl (Q.ext rfl rfl) <| J.p rfl (Q.ext rfl rfl) <| J.p rfl (Q.asg rfl) <| J.p rfl (Q.asg rfl) <| J.nil <| J.then_n <| J.seq ?_
   refine J.draw [8, 10, 11] Tryz.mixed (by kernel_rfl) fun hR => ?_
   refine RG.p 0 hR rfl (Q.mv rfl) <| RG.p 1 hR rfl (Q.nil_ rfl) <| RG.p 2 hR rfl (Q.fa (n := 0) Tryz.runUnderlying68 rfl rfl Tryz.sizeOf9 rfl) ?_
   refine RG.p 3 hR rfl (Q.ld Tryz.isAgg9 rfl (rdI (by exact rfl))) ?_
   refine RG.p 4 hR rfl (Q.mv rfl) <| RG.p 5 hR rfl (Q.nil_ rfl) <| RG.p 6 hR rfl (Q.fa (n := 1) Tryz.runUnderlying68 rfl rfl Tryz.sizeOf9 rfl) ?_
   refine RG.p 7 hR rfl (Q.ld Tryz.isAgg9 rfl (rdI (by exact rfl))) ?_
   refine RG.made 8 hR rfl rfl rfl rfl rfl C.mkMap ?_
   rintro b66
   refine RG.p 9 hR rfl (Q.bld (l := [_, _, _]) Tryz.runUnderlying68 Tryz.zeroValue68 Tryz.places68 rfl rfl) ?_
   refine RG.slot 67 (.agg ([.string eu.bucket, .string eu.key, .map (some b66)] : List Value).toArray) rfl rfl ?_
   refine RG.bar 10 hR rfl rfl rfl rfl rfl rfl (C.box (l := [_, _, _]) rfl rfl) ?_
   rintro _ _ ⟨b68, rfl, rfl⟩
   refine RG.norm rfl ?_
   refine RG.bar 11 hR rfl rfl rfl rfl rfl rfl (Q.asg rfl).toC ?_
   rintro _ _ ⟨rfl, rfl⟩
   refine RG.norm rfl ?_
   refine RG.fin hR rfl ?_
   refine J.norm rfl <| J.then_n <| J.seq <| J.seq ?_
   refine J.convI (pt b66 (.map #[] 0)) (MapAt (Value.int .i64) datRep b66 []) MapAt.new ?_
   refine X.G.J.openMap (enc := Value.int .i64) (rep := datRep) (r := y.2) eu.parts fun es2 c2 hx2 => ?_
   refine J.norm rfl <| J.region <| J.m rfl <| J.p rfl (Q.nil_ rfl) <| J.p rfl (Q.fa (n := 2) Tryz.runUnderlying68 rfl rfl Tryz.sizeOf66 rfl) ?_
   refine J.p rfl (Q.ld Tryz.isAgg66 rfl (rdI (by exact rfl))) ?_
   refine J.c rfl rfl (X.G.C.rangeI Tryz.runUnderlying66 rfl) ?_
   rintro _ _ ⟨b73, rfl, rfl⟩
   refine J.norm rfl <| J.nil <| J.then_n <| J.block ?_
   refine J.keepI [pt b73 (X.G.miter y.2 c2 []), pt y.2 (X.G.mobj (Value.int .i64) (es2.map Ent.m) c2), star (es2.map (Ent.asn datRep)), MapAt (Value.int .i64) datRep b66 [], pt b68 (.cells ([.string eu.bucket, .string eu.key, .map (some b66)] : List Value).toArray 68 (0, 0)), pt y.1 (.cells ([.string eu.bucket, .string eu.key, .map (some y.2)] : List Value).toArray 68 (0, 0)), star ((es.eraseIdx j).map (Ent.asn uRep)), pt b52 (X.G.miter z.2.1 c (seen ++ [eb])), pt z.2.1 (X.G.mobj encU (es.map Ent.m) c), pt m (.cells ([.map (some z.1), .map (some z.2.1), .map (some z.2.2)] : List Value).toArray 51 (0, 0)), MapAt Value.string bRep z.1 M.buckets, MapAt encU dRep z.2.2 M.done, pt t (.cells ([.map (some w.1), .map (some w.2.1), .map (some w.2.2)] : List Value).toArray 51 (0, 0)), MapAt Value.string bRep w.1 M.buckets, MapAt encU uRep w.2.1 T, MapAt encU dRep w.2.2 [], F] ?_
   refine J.loop2 (fun seen2 T2 => TwK ltI es2 seen2 T2) (fun seen2 _ => (eleft es2 seen2).length) (fun seen2 T2 => [(0, .pointer (some ⟨m, 0, none⟩)), (3, .pointer (some ⟨t, 0, none⟩)), (8, encU ek), (10, .pointer (some ⟨b68, 0, none⟩)), (52, .pointer (some ⟨b52, 0, none⟩)), (73, .pointer (some ⟨b73, 0, none⟩))]) (fun seen2 T2 => [pt b73 (X.G.miter y.2 c2 seen2), pt y.2 (X.G.mobj (Value.int .i64) (es2.map Ent.m) c2), star (es2.map (Ent.asn datRep)), MapAt (Value.int .i64) datRep b66 T2, pt b68 (.cells ([.string eu.bucket, .string eu.key, .map (some b66)] : List Value).toArray 68 (0, 0)), pt y.1 (.cells ([.string eu.bucket, .string eu.key, .map (some y.2)] : List Value).toArray 68 (0, 0)), star ((es.eraseIdx j).map (Ent.asn uRep)), pt b52 (X.G.miter z.2.1 c (seen ++ [eb])), pt z.2.1 (X.G.mobj encU (es.map Ent.m) c), pt m (.cells ([.map (some z.1), .map (some z.2.1), .map (some z.2.2)] : List Value).toArray 51 (0, 0)), MapAt Value.string bRep z.1 M.buckets, MapAt encU dRep z.2.2 M.done, pt t (.cells ([.map (some w.1), .map (some w.2.1), .map (some w.2.2)] : List Value).toArray 51 (0, 0)), MapAt Value.string bRep w.1 M.buckets, MapAt encU uRep w.2.1 T, MapAt encU dRep w.2.2 [], F]) [] [] TwK.nil ⟨rfl, rfl, rfl, rfl, rfl, rfl, trivial⟩ rfl fun seen2 T2 hT2 => ?_
   refine J.seq <| J.region ?_
   refine J.c rfl rfl (X.G.C.nextI hx2 rfl) ?_
   rintro _ _ ⟨tt, rest, seen_, rfl, rfl, hst⟩
   refine J.norm rfl <| J.p rfl (Q.ext rfl rfl) <| J.nil <| J.then_n <| J.seq ?_
   refine J.cases 75 rfl (fun hc75 => ?_) (fun hc75 => ?_)
   ·
    replace hc75 := X.nm hc75
    obtain ⟨e, he, rfl⟩ : ∃ e, e ∈ eleft es2 seen2 ∧ seen_ = seen2 ++ [e.born] := by rcases hst with ⟨h, _⟩ | ⟨_, h⟩; exact absurd hc75 (by rw [h]; decide); exact h
    refine J.cond_t rfl <| J.cskip <| J.then_n <| J.block <| J.seq <| J.region ?_
    have hnx2 := hT2.step ord3_int hx2 he
    have hstep2 := X.G.estep hx2.born he
    have hme2 := (List.mem_filter.1 he).1
    obtain ⟨j2, hj2⟩ := List.getElem?_of_mem hme2
    have hjl2 := (List.getElem?_eq_some_iff.1 hj2).1
    obtain ⟨fk, fd, fval, fb⟩ := e
    refine J.p rfl (X.G.Q.entryI hx2 he rfl) ?_
    refine J.focusI (f := Ent.asn datRep) j2 hj2 ?_
    refine J.convI (Ent.asn datRep ⟨fk, fd, fval, fb⟩) (datRep fk fd fval) (fun _ h => h) ?_
    refine J.openI (datRep fk fd fval) (p := fun q : Option Addr × Nat => fval = .slice q.1 fd.length q.2) (fun _ h => h) fun q hq => ?_
    subst hq
    refine J.norm rfl ?_
    have hfd : fd.length ≤ 16777216 := hod fk fd (X.G.sget_of_mem (hso.nodup ord3_int) (hx2.perm.mem_iff.1 (List.mem_map.2 ⟨_, hme2, rfl⟩)))
    refine J.slrI (E0 := 5) (sz := 1) (p := q.1) (n := fd.length) (c := q.2) (xs := bytesV fd) fun hsf => ?_
    refine J.p rfl (Q.ext rfl rfl) <| J.p rfl (Q.ext rfl rfl) <| J.p rfl (Q.asg rfl) <| J.p rfl (Q.asg rfl) <| J.nil <| J.then_n ?_
    refine J.keepI [pt b73 (X.G.miter y.2 c2 (seen2 ++ [fb])), pt y.2 (X.G.mobj (Value.int .i64) (es2.map Ent.m) c2), star ((es2.eraseIdx j2).map (Ent.asn datRep)), MapAt (Value.int .i64) datRep b66 T2, pt b68 (.cells ([.string eu.bucket, .string eu.key, .map (some b66)] : List Value).toArray 68 (0, 0)), pt y.1 (.cells ([.string eu.bucket, .string eu.key, .map (some y.2)] : List Value).toArray 68 (0, 0)), star ((es.eraseIdx j).map (Ent.asn uRep)), pt b52 (X.G.miter z.2.1 c (seen ++ [eb])), pt z.2.1 (X.G.mobj encU (es.map Ent.m) c), pt m (.cells ([.map (some z.1), .map (some z.2.1), .map (some z.2.2)] : List Value).toArray 51 (0, 0)), MapAt Value.string bRep z.1 M.buckets, MapAt encU dRep z.2.2 M.done, pt t (.cells ([.map (some w.1), .map (some w.2.1), .map (some w.2.2)] : List Value).toArray 51 (0, 0)), MapAt Value.string bRep w.1 M.buckets, MapAt encU uRep w.2.1 T, MapAt encU dRep w.2.2 [], F, own 5 1 (.slice q.1 fd.length q.2) (bytesV fd)] ?_
    refine J.drawE [6, 7] 17 Tryz.mixed (by kernel_rfl) rfl rfl fun hR => ?_
    refine RG.p 0 hR rfl (Q.mv rfl) <| RG.p 1 hR rfl (Q.nil_ rfl) <| RG.p 2 hR rfl (Q.fa (n := 2) Tryz.runUnderlying68 rfl rfl Tryz.sizeOf66 rfl) ?_
    refine RG.p 3 hR rfl (Q.ld Tryz.isAgg66 rfl (rdI (by exact rfl))) ?_
    refine RG.p 4 hR rfl (Q.mv rfl) <| RG.p 5 hR rfl (Q.mv rfl) ?_
    refine RG.callkI 6 hR rfl rfl rfl rfl rfl Tryz.call44 (clone_spec (own 5 1 (.slice q.1 fd.length q.2) (bytesV fd)) q.1 q.2 fd hsf (by omega)) rfl ?_
    rintro _ _ ⟨p85, c85, rfl, rfl⟩
    refine RG.normE rfl ?_
    refine RG.bar 7 hR rfl rfl rfl rfl rfl rfl (X.G.C.mapPutI datRep T2 fd ord3_int hT2.s Tryz.runUnderlying66 keyI rfl rfl rfl) ?_
    rintro _ _ ⟨rfl, rfl⟩
    refine RG.norm rfl ?_
    refine RG.fin hR rfl ?_
    refine J.norm rfl <| J.blk_n ?_
    refine J.shutI [own 5 1 (.slice q.1 fd.length q.2) (bytesV fd)] (Ent.asn datRep ⟨fk, fd, .slice q.1 fd.length q.2, fb⟩) (fun h s => ⟨q, rfl, s⟩) ?_
    refine J.unfocusI (f := Ent.asn datRep) j2 ⟨fk, fd, .slice q.1 fd.length q.2, fb⟩ hjl2 ?_
    rw [set_self hj2]
    refine J.shutI [own 5 1 (.slice p85 fd.length c85) (bytesV fd)] (datRep fk fd (.slice p85 fd.length c85)) (fun h s => ⟨(p85, c85), rfl, s⟩) ?_
    refine X.G.J.mapBackI (rep := datRep) (enc := Value.int .i64) (r := b66) (k := fk) (val := .slice p85 fd.length c85) fd ord3_int (X.G.srtd_put ord3_int hT2.s fk fd) ?_
    rw [X.G.sput_put ord3_int hT2.s]
    refine J.againI (seen2 ++ [fb], sput ltI fk fd T2) hnx2 hstep2.2 ⟨rfl, rfl, rfl, rfl, rfl, rfl, trivial⟩
   replace hc75 := X.nm hc75
   obtain ⟨hall, rfl⟩ : edone es2 seen2 = es2 ∧ seen_ = seen2 := by rcases hst with ⟨_, h⟩ | ⟨h, _⟩; exact h; exact absurd hc75 (by rw [h]; decide)
   refine J.cond_f rfl <| J.exit <| J.then_x <| J.lp_x <| J.blk_x <| J.then_n ?_
   obtain ⟨eub, euk, eup⟩ := eu
   obtain rfl : T2 = eup := hT2.all ord3_int hx2 hso hall
   refine J.shutI [pt y.2 (X.G.mobj (Value.int .i64) (es2.map Ent.m) c2), star (es2.map (Ent.asn datRep))] (MapAt (Value.int .i64) datRep y.2 T2) (fun h s => ⟨(es2, c2), hx2, s⟩) ?_
   refine J.shutI [pt y.1 (.cells ([.string eub, .string euk, .map (some y.2)] : List Value).toArray 68 (0, 0)), MapAt (Value.int .i64) datRep y.2 T2] (Ent.asn uRep ⟨ek, ⟨eub, euk, T2⟩, .pointer (some ⟨y.1, 0, none⟩), eb⟩) (fun h s => ⟨y, rfl, s⟩) ?_
   refine J.unfocusI (f := Ent.asn uRep) j ⟨ek, ⟨eub, euk, T2⟩, .pointer (some ⟨y.1, 0, none⟩), eb⟩ hjl ?_
   rw [set_self hj]
   refine J.shutI [pt b68 (.cells ([.string eub, .string euk, .map (some b66)] : List Value).toArray 68 (0, 0)), MapAt (Value.int .i64) datRep b66 T2] (uRep ek ⟨eub, euk, T2⟩ (.pointer (some ⟨b68, 0, none⟩))) (fun h s => ⟨(b68, b66), rfl, s⟩) ?_
   refine J.region <| J.m rfl <| J.p rfl (Q.nil_ rfl) <| J.p rfl (Q.fa (n := 1) Tryz.runUnderlying51 rfl rfl Tryz.sizeOf48 rfl) ?_
   refine J.p rfl (Q.ld Tryz.isAgg48 rfl (rdI (by exact rfl))) ?_
   refine J.m rfl <| J.m rfl ?_
   refine J.c0 rfl (X.G.C.mapPutI uRep T ⟨eub, euk, T2⟩ ord3_nat hT.s Tryz.runUnderlying48 keyU rfl rfl rfl) ?_
   rintro _ _ ⟨rfl, rfl⟩
   refine J.norm rfl <| J.nil <| J.blk_n ?_
   refine X.G.J.mapBackI (rep := uRep) (enc := encU) (r := w.2.1) (k := ek) (val := .pointer (some ⟨b68, 0, none⟩)) ⟨eub, euk, T2⟩ ord3_nat (X.G.srtd_put ord3_nat hT.s ek ⟨eub, euk, T2⟩) ?_
   rw [X.G.sput_put ord3_nat hT.s]
   refine J.againI (seen ++ [eb], sput ltN ek ⟨eub, euk, T2⟩ T) hnx hstep.2 ⟨rfl, rfl, rfl, trivial⟩
  replace hc54 := X.nm hc54
  obtain ⟨hall, rfl⟩ : edone es seen = es ∧ seen_ = seen := by rcases hst with ⟨_, h⟩ | ⟨h, _⟩; exact h; exact absurd hc54 (by rw [h]; decide)
  refine J.cond_f rfl <| J.exit <| J.then_x <| J.lp_x <| J.blk_x <| J.then_n <| J.seq <| J.seq ?_
  obtain rfl : T = M.uploads := hT.all ord3_nat hx hM.us hall
  refine J.shutI [pt z.2.1 (X.G.mobj encU (es.map Ent.m) c), star (es.map (Ent.asn uRep))] (MapAt encU uRep z.2.1 M.uploads) (fun h s => ⟨(es, c), hx, s⟩) ?_
  refine X.G.J.openMap (enc := encU) (rep := dRep) (r := z.2.2) M.done fun es c hx => ?_
  refine J.norm rfl <| J.region <| J.m rfl <| J.p rfl (Q.nil_ rfl) <| J.p rfl (Q.fa (n := 2) Tryz.runUnderlying51 rfl rfl Tryz.sizeOf49 rfl) ?_
  refine J.p rfl (Q.ld Tryz.isAgg49 rfl (rdI (by exact rfl))) ?_
  refine J.c rfl rfl (X.G.C.rangeI Tryz.runUnderlying49 rfl) ?_
  rintro _ _ ⟨b96, rfl, rfl⟩
  refine J.norm rfl <| J.nil <| J.then_n <| J.block ?_
  refine J.keepI [pt b96 (X.G.miter z.2.2 c []), pt z.2.2 (X.G.mobj encU (es.map Ent.m) c), star (es.map (Ent.asn dRep)), pt m (.cells ([.map (some z.1), .map (some z.2.1), .map (some z.2.2)] : List Value).toArray 51 (0, 0)), MapAt Value.string bRep z.1 M.buckets, MapAt encU uRep z.2.1 M.uploads, pt t (.cells ([.map (some w.1), .map (some w.2.1), .map (some w.2.2)] : List Value).toArray 51 (0, 0)), MapAt Value.string bRep w.1 M.buckets, MapAt encU uRep w.2.1 M.uploads, MapAt encU dRep w.2.2 [], F] ?_
  refine J.loop2 (fun seen T => TwK ltN es seen T) (fun seen _ => (eleft es seen).length) (fun seen T => [(0, .pointer (some ⟨m, 0, none⟩)), (3, .pointer (some ⟨t, 0, none⟩)), (96, .pointer (some ⟨b96, 0, none⟩))]) (fun seen T => [pt b96 (X.G.miter z.2.2 c seen), pt z.2.2 (X.G.mobj encU (es.map Ent.m) c), star (es.map (Ent.asn dRep)), pt m (.cells ([.map (some z.1), .map (some z.2.1), .map (some z.2.2)] : List Value).toArray 51 (0, 0)), MapAt Value.string bRep z.1 M.buckets, MapAt encU uRep z.2.1 M.uploads, pt t (.cells ([.map (some w.1), .map (some w.2.1), .map (some w.2.2)] : List Value).toArray 51 (0, 0)), MapAt Value.string bRep w.1 M.buckets, MapAt encU uRep w.2.1 M.uploads, MapAt encU dRep w.2.2 T, F]) [] [] TwK.nil ⟨rfl, rfl, rfl, trivial⟩ rfl fun seen T hT => ?_
  refine J.seq <| J.region ?_
  refine J.c rfl rfl (X.G.C.nextI hx rfl) ?_
  rintro _ _ ⟨tt, rest, seen_, rfl, rfl, hst⟩
  refine J.norm rfl <| J.p rfl (Q.ext rfl rfl) <| J.nil <| J.then_n <| J.seq ?_
  refine J.cases 98 rfl (fun hc98 => ?_) (fun hc98 => ?_)
  ·
   replace hc98 := X.nm hc98
   obtain ⟨e, he, rfl⟩ : ∃ e, e ∈ eleft es seen ∧ seen_ = seen ++ [e.born] := by rcases hst with ⟨h, _⟩ | ⟨_, h⟩; exact absurd hc98 (by rw [h]; decide); exact h
   refine J.cond_t rfl <| J.cskip <| J.then_n <| J.block <| J.seq <| J.region ?_
   have hnx := hT.step ord3_nat hx he
   have hstep := X.G.estep hx.born he
   have hme := (List.mem_filter.1 he).1
   obtain ⟨j, hj⟩ := List.getElem?_of_mem hme
   have hjl := (List.getElem?_eq_some_iff.1 hj).1
   obtain ⟨ek, er, eval, eb⟩ := e
   refine J.p rfl (X.G.Q.entryI hx he rfl) ?_
   refine J.focusI (f := Ent.asn dRep) j hj ?_
   refine J.convI (Ent.asn dRep ⟨ek, er, eval, eb⟩) (dRep ek er eval) (fun _ h => h) ?_
   refine J.openI (dRep ek er eval) (p := fun y : RW => y.r = er ∧ eval = .agg y.cells.toArray) (fun _ h => h) fun y hy => ?_
   obtain ⟨rfl, rfl⟩ := hy
   refine J.norm rfl ?_
   have hgo : sget ek M.done = some y.r := X.G.sget_of_mem (hM.ds.nodup ord3_nat) (hx.perm.mem_iff.1 (List.mem_map.2 ⟨_, hme, rfl⟩))
   have hrs := hM.rs _ _ hgo
   refine J.tellsI y.asn (asn_ok ⟨by omega, by omega⟩) fun hyo => ?_
   refine J.p rfl (Q.ext rfl rfl) <| J.p rfl (Q.ext rfl rfl) ?_
   refine J.c rfl rfl (C.alloc (l := [_, _, _, _, _]) Tryz.zeroValue37 rfl) ?_
   rintro _ _ ⟨b14, rfl, rfl⟩
   refine J.norm rfl <| J.p rfl (Q.asg rfl) ?_
   refine J.stAI (vs := [_, _, _, _, _]) rfl Tryz.sizeOf37 rfl rfl (by exact rfl) (by exact rfl) (by exact rfl) ?_
   refine J.nil <| J.then_n ?_
   refine J.keepI [pt b96 (X.G.miter z.2.2 c (seen ++ [eb])), pt z.2.2 (X.G.mobj encU (es.map Ent.m) c), star ((es.eraseIdx j).map (Ent.asn dRep)), pt m (.cells ([.map (some z.1), .map (some z.2.1), .map (some z.2.2)] : List Value).toArray 51 (0, 0)), MapAt Value.string bRep z.1 M.buckets, MapAt encU uRep z.2.1 M.uploads, pt t (.cells ([.map (some w.1), .map (some w.2.1), .map (some w.2.2)] : List Value).toArray 51 (0, 0)), MapAt Value.string bRep w.1 M.buckets, MapAt encU uRep w.2.1 M.uploads, MapAt encU dRep w.2.2 T, F, pt b14 (.cells y.cells.toArray 37 (0, 0)), y.asn] ?_
   refine J.drawE [6, 7] 12 Tryz.mixed (by kernel_rfl) rfl rfl fun hR => ?_
   refine RG.p 0 hR rfl (Q.mv rfl) <| RG.p 1 hR rfl (Q.nil_ rfl) <| RG.p 2 hR rfl (Q.fa (n := 2) Tryz.runUnderlying51 rfl rfl Tryz.sizeOf49 rfl) ?_
   refine RG.p 3 hR rfl (Q.ld Tryz.isAgg49 rfl (rdI (by exact rfl))) ?_
   refine RG.p 4 hR rfl (Q.mv rfl) ?_
   refine RG.p 5 hR rfl (Q.ldN (vs := [_, _, _, _, _]) Tryz.isAgg37 Tryz.sizeOf37 rfl rnI) ?_
   refine RG.callkI 6 hR rfl rfl rfl rfl rfl Tryz.call29 (apart_spec y.asn y hyo) rfl ?_
   rintro _ _ ⟨y2, rfl, hy2, rfl⟩
   refine RG.normE rfl ?_
   refine RG.bar 7 hR rfl rfl rfl rfl rfl rfl (X.G.C.mapPutI dRep T y.r ord3_nat hT.s Tryz.runUnderlying49 keyU rfl rfl rfl) ?_
   rintro _ _ ⟨rfl, rfl⟩
   refine RG.norm rfl ?_
   refine RG.fin hR rfl ?_
   refine J.norm rfl <| J.blk_n ?_
   refine J.shutI [y.asn] (Ent.asn dRep ⟨ek, y.r, .agg y.cells.toArray, eb⟩) (fun h s => ⟨y, ⟨rfl, rfl⟩, s⟩) ?_
   refine J.unfocusI (f := Ent.asn dRep) j ⟨ek, y.r, .agg y.cells.toArray, eb⟩ hjl ?_
   rw [set_self hj]
   refine J.shutI [y2.asn] (dRep ek y.r (.agg y2.cells.toArray)) (fun h s => ⟨y2, ⟨hy2, rfl⟩, s⟩) ?_
   refine X.G.J.mapBackI (rep := dRep) (enc := encU) (r := w.2.2) (k := ek) (val := .agg y2.cells.toArray) y.r ord3_nat (X.G.srtd_put ord3_nat hT.s ek y.r) ?_
   rw [X.G.sput_put ord3_nat hT.s]
   refine J.againI (seen ++ [eb], sput ltN ek y.r T) hnx hstep.2 ⟨rfl, rfl, rfl, trivial⟩
  replace hc98 := X.nm hc98
  obtain ⟨hall, rfl⟩ : edone es seen = es ∧ seen_ = seen := by rcases hst with ⟨_, h⟩ | ⟨h, _⟩; exact h; exact absurd hc98 (by rw [h]; decide)
  refine J.cond_f rfl <| J.exit <| J.then_x <| J.lp_x <| J.blk_x <| J.then_n <| J.seq <| J.region <| J.m rfl <| J.p rfl (Q.asg rfl) <| J.nil <| J.then_n <| J.cret ?_
  obtain rfl : T = M.done := hT.all ord3_nat hx hM.ds hall
  refine J.shutI [pt z.2.2 (X.G.mobj encU (es.map Ent.m) c), star (es.map (Ent.asn dRep))] (MapAt encU dRep z.2.2 M.done) (fun h s => ⟨(es, c), hx, s⟩) ?_
  refine J.shutI [pt m (.cells ([.map (some z.1), .map (some z.2.1), .map (some z.2.2)] : List Value).toArray 51 (0, 0)), MapAt Value.string bRep z.1 M.buckets, MapAt encU uRep z.2.1 M.uploads, MapAt encU dRep z.2.2 M.done] (BktAt m M) (fun h s => ⟨z, s⟩) ?_
  refine J.shutI [pt t (.cells ([.map (some w.1), .map (some w.2.1), .map (some w.2.2)] : List Value).toArray 51 (0, 0)), MapAt Value.string bRep w.1 M.buckets, MapAt encU uRep w.2.1 M.uploads, MapAt encU dRep w.2.2 M.done] (BktAt t M) (fun h s => ⟨w, s⟩) ?_
  refine J.ret1I [BktAt t M, BktAt m M] rfl rfl ⟨t, rfl, rfl⟩
end
end Go.Proofs.YtdancegklkifaaaGreat
namespace Go.X
set_option linter.unusedSectionVars false
set_option linter.unusedSimpArgs false
set_option linter.unusedVariables false
open Go.RowKit Go.WideShapes Go.ChangeShapes

def old (W : World) : Assn := fun h => ∀ b o, W.heap[b]? = some o → h b = some o

theorem old_start (W : World) : Sat W W ([old W] ++ [fact True]) := by
  refine ⟨rfl, rfl, rfl, ?_⟩
  refine ⟨hp W, fun _ => none, fun b o e => e, ⟨fun _ => none, fun _ => none, ?_, trivial, fun _ => .inl rfl, Sub.refl _, Sub.refl _⟩, fun _ => .inr rfl, Sub.refl _, fun _ _ e => nomatch e⟩
  exact trivial

theorem old_below {W w : World} {F : Assn} (s : Sat W w ([old W] ++ [F])) : Below W.heap.size W w := by
  have hg : ∀ (b : Nat) (o : Obj), W.heap[b]? = some o → w.heap[b]? = some o := by
    obtain ⟨h1, _, a, _, _, u, _⟩ := s.heap
    exact fun b o e => u b o (a b o e)
  have hs : W.heap.size ≤ w.heap.size := by
    rcases Nat.eq_zero_or_pos W.heap.size with h | h
    · omega
    · have h1 := hg (W.heap.size - 1) _ (Array.getElem?_eq_getElem (by omega))
      have := (Array.getElem?_eq_some_iff.1 h1).1
      omega
  refine ⟨s.os, s.tape, s.out, hs, fun k hk => ?_⟩
  rw [hg k _ (Array.getElem?_eq_getElem hk), Array.getElem?_eq_getElem hk]

theorem FSpec.lift {P : Program} {f : FuncId} {args : List Value} {u : Value} {W : World} (h : FSpec P f args [old W] (fun v B => v = u ∧ B = [old W])) :
    Calls P f args.toArray W fun e w' => e = .returned u ∧ Below W.heap.size W w' :=
  (h.call W W (fact True) (old_start W)).mono fun e w' ⟨v, A, he, ⟨hv, hA⟩, s⟩ => by
    subst hv hA; exact ⟨he, old_below s⟩

theorem old_reads {W : World} {b off : Nat} {v : Value} (h : W.cell? ⟨b, off, none⟩ = some v) : Reads [old W] b off v := by
  intro k s
  obtain ⟨h1, _, a, _, _, u, _⟩ := s
  simp only [World.cell?] at h
  split at h
  · rename_i c e z hb
    simp at h
    exact ⟨c, e, z, u _ _ (a _ _ hb), h⟩
  · cases h

theorem wf_has {k : IntKind} {n : Int} (h : (Lit.int k n).wf = true) : k.min ≤ n ∧ n ≤ k.max := by
  simpa [Lit.wf] using h

end Go.X
namespace Go.X
set_option linter.unusedSectionVars false
set_option linter.unusedSimpArgs false
set_option linter.unusedVariables false

theorem ints_bytes : ∀ zs : List Int, (∀ n ∈ zs, IntKind.u8.min ≤ n ∧ n ≤ IntKind.u8.max) → ∃ bs : List UInt8, bs.length = zs.length ∧ zs.map (Value.int .u8) = bytesV bs
  | [], _ => ⟨[], rfl, rfl⟩
  | z :: zs, h => by
    obtain ⟨bs, h1, h2⟩ := ints_bytes zs (fun n hn => h n (List.mem_cons_of_mem _ hn))
    obtain ⟨h3, h4⟩ := h z (by simp)
    have h3' : 0 ≤ z := h3
    have h4' : z ≤ 255 := h4
    refine ⟨UInt8.ofNat z.toNat :: bs, by simp [h1], ?_⟩
    simp only [List.map_cons, h2, bytesV]
    congr 1
    simp only [byteV]
    congr 1
    rw [UInt8.toNat_ofNat']
    omega

end Go.X
namespace Go.X
set_option linter.unusedSectionVars false
set_option linter.unusedSimpArgs false
set_option linter.unusedVariables false
open Go.RowKit Go.WideShapes Go.ChangeShapes

section
variable {P : Program} {H : Type} {enc : TypeId × Value → H} {W : World} {base : Nat} {spare : Nat → Bool} {held : Bool} {fuel : Nat} {t e : TypeId} {v : Value} {x : DataW H × List MemPlace}

theorem cell_plain {a : Addr} {u : Value} (h : W.cell? a = some u) : ∃ b off, a = ⟨b, off, none⟩ := by
  have := World.cell?_spot h
  obtain ⟨b, off, s⟩ := a
  simp only at this; subst this; exact ⟨b, off, rfl⟩

theorem add_add (a : Addr) (m j : Nat) : (a.add m).add j = a.add (m + j) := by
  unfold Addr.add
  by_cases h1 : m = 0
  · subst h1; simp
  · by_cases h2 : j = 0
    · subst h2; simp
    · rw [if_neg h1, if_neg h2, if_neg (by omega)]; simp [Nat.add_assoc]

theorem cells_get {a : Addr} {n : Nat} {cs : List Value} (h : W.cells? base a n = some cs) : cs.length = n ∧ ∀ (i : Nat) u, cs[i]? = some u → W.cell? (a.add i) = some u := by
  unfold World.cells? at h
  split at h
  · have h1 := mapM_some_length h
    simp only [List.length_range] at h1
    refine ⟨h1, fun i u hu => ?_⟩
    have hi : i < n := by have := (List.getElem?_eq_some_iff.1 hu).1; omega
    have := mapM_some_get h i i (by simp [hi])
    rw [this]; exact hu
  · cases h

theorem slr_old {a : Addr} {len cap sz : Nat} {xs : List Value} (hl : xs.length = len * sz) (h : ∀ (i : Nat) u, xs[i]? = some u → W.cell? (a.add i) = some u) (hsz : 0 < sz) : SlR [old W] sz (.slice (some a) len cap) xs := by
  rcases Nat.eq_zero_or_pos len with h0 | h0
  · subst h0
    exact .inl ⟨some a, cap, rfl, by simpa using hl⟩
  · have hpos : 0 < xs.length := by rw [hl]; exact Nat.mul_pos h0 hsz
    obtain ⟨u, hu⟩ : ∃ u, xs[0]? = some u := ⟨_, List.getElem?_eq_getElem hpos⟩
    have h1 := h 0 u hu
    rw [show a.add 0 = a from rfl] at h1
    obtain ⟨b, off, rfl⟩ := cell_plain h1
    refine .inr ⟨b, off, len, cap, rfl, hl, fun i w hw => old_reads ?_⟩
    have := h i w hw
    rwa [addr_add] at this

theorem ints_in {k : IntKind} (ht : P.underlying t = some (.slice e)) (he : P.underlying e = some (.int k)) (hc : P.cellsOf e = 1) (h : DataW.trod enc P W base spare held fuel t [v] = some x) :
    ∃ p len cap, ∃ zs : List Int, v = .slice p len cap ∧ len ≤ cap ∧ zs.length = len ∧ SlR [old W] 1 v (zs.map (Value.int k)) ∧ (∀ n ∈ zs, k.min ≤ n ∧ n ≤ k.max) ∧ (x.1 = .nil ∧ len = 0 ∨ ∃ es rs, x.1 = .slice es rs ∧ es.length = len) := by
  rcases open_ints ht he hc h with ⟨hcs, rfl⟩ | ⟨a, len, cap, zs, hcs, _, hl, hm, hz, rfl, hcell, hwz⟩
  · simp at hcs
    subst hcs
    exact ⟨none, 0, 0, [], rfl, Nat.le_refl _, rfl, .inl ⟨none, 0, rfl, rfl⟩, by simp, .inl ⟨rfl, rfl⟩⟩
  · simp at hcs
    subst hcs
    have hlz : len ≤ zs.length := by rw [hz]; split <;> omega
    refine ⟨some a, len, cap, zs.take len, rfl, hl, by simp; omega, slr_old (by simp; omega) ?_ (by omega), fun n hn => wf_has (hwz n (List.mem_of_mem_take hn)), .inr ⟨_, _, rfl, by simp [lits]; omega⟩⟩
    intro i u hu
    have hi : i < len := by
      have := (List.getElem?_eq_some_iff.1 hu).1
      simp at this; omega
    rw [hcell i (by omega)]
    simp [hi] at hu
    obtain ⟨n, hn, rfl⟩ := hu
    simp [List.getD, hn]

theorem elems_in {sz : Nat} (ht : P.underlying t = some (.slice e)) (hc : P.cellsOf e = sz) (h : DataW.trod enc P W base spare held fuel t [v] = some x) :
    (v = .slice none 0 0 ∧ x.1 = .nil) ∨ ∃ a len cap n, ∃ es : List (DataW H × List MemPlace), ∃ rs : List (DataW H), ∃ css : List (List Value), v = .slice (some a) len cap ∧ len ≤ cap ∧ x.1 = .slice (es.map (·.1)) rs ∧ es.length = len ∧ css.length = len ∧
      (∀ (i : Nat) cs, css[i]? = some cs → cs.length = sz ∧ (∀ (j : Nat) u, cs[j]? = some u → W.cell? (a.add (i * sz + j)) = some u) ∧ DataW.trod enc P W base spare held n e cs = es[i]?) := by
  rcases DataW.trod_slice ht h with ⟨hcs, rfl⟩ | ⟨a, len, cap, es, rs, n, rfl, hcs, rfl, hb, hl, hm, hle, hel, _, _⟩
  · simp at hcs; exact .inl ⟨hcs, rfl⟩
  · simp at hcs
    right
    have hx : ∀ i, i < len → ∃ cs, W.cells? base (a.add (i * sz)) sz = some cs ∧ DataW.trod enc P W base spare held n e cs = es[i]? := by
      intro i hi
      have := hel i hi
      rw [hc] at this
      obtain ⟨y, hy⟩ : ∃ y, es[i]? = some y := ⟨_, List.getElem?_eq_getElem (by omega)⟩
      rw [hy, Option.bind_eq_some_iff] at this
      obtain ⟨cs, h1, h2⟩ := this
      exact ⟨cs, h1, by rw [h2, hy]⟩
    obtain ⟨css, hcl, hcss⟩ : ∃ css : List (List Value), css.length = len ∧ ∀ (i : Nat) cs, css[i]? = some cs → W.cells? base (a.add (i * sz)) sz = some cs ∧ DataW.trod enc P W base spare held n e cs = es[i]? := by
      refine ⟨(List.range len).attach.map fun ⟨i, hi⟩ => Classical.choose (hx i (by simpa using hi)), by simp, fun i cs hi => ?_⟩
      simp only [List.getElem?_map, Option.map_eq_some_iff] at hi
      obtain ⟨⟨j, hj⟩, h1, rfl⟩ := hi
      have hji : j = i := by
        have := congrArg (Option.map Subtype.val) h1
        simp only [← List.getElem?_map, List.attach_map_subtype_val, Option.map_some] at this
        have hr := (List.getElem?_eq_some_iff.1 this).2
        simpa using hr.symm
      subst hji
      exact Classical.choose_spec (hx j (by simpa using hj))
    refine ⟨a, len, cap, n, es, rs.map (·.1), css, hcs, hl, rfl, hle, hcl, fun i cs hi => ?_⟩
    obtain ⟨h1, h2⟩ := hcss i cs hi
    obtain ⟨g1, g2⟩ := cells_get h1
    refine ⟨g1, fun j u hu => ?_, h2⟩
    have := g2 j u hu
    rw [← this, add_add]
end
end Go.X
namespace Go.Proofs.YtdancegklkifaaaGreat
set_option linter.unusedSectionVars false
set_option linter.unusedSimpArgs false
set_option linter.unusedVariables false
open Go.X

theorem bulk_one {H : Type} (d : DataW H) : 1 ≤ Rows.uptoBulk d := by
  cases d with
  | lit l => cases l <;> simp [Rows.uptoBulk]
  | nil => simp [Rows.uptoBulk]
  | ptr d => simp [Rows.uptoBulk]
  | slice elems spare => simp [Rows.uptoBulk]
  | agg parts => simp [Rows.uptoBulk]
  | iface t d => simp [Rows.uptoBulk]
  | map entries => simp [Rows.uptoBulk]
  | held h => simp [Rows.uptoBulk]
theorem bulk_len {H : Type} (l : List (DataW H)) : l.length ≤ Rows.uptoBulkAll l := by
  induction l with
  | nil => simp [Rows.uptoBulkAll]
  | cons x r ih => have := bulk_one x; simp only [Rows.uptoBulkAll, List.length_cons]; omega

section
variable {H : Type} {enc : TypeId × Value → H} {W : World} {base : Nat} {spare : Nat → Bool} {held : Bool} {fuel : Nat} {v : Value} {x : DataW H × List MemPlace} {cs : List Value}

theorem cellsInt : Tryz.prog.cellsOf 3 = 1 := by kernel_rfl
theorem cellsU64 : Tryz.prog.cellsOf 23 = 1 := by kernel_rfl
theorem cellsU8 : Tryz.prog.cellsOf 5 = 1 := by kernel_rfl
theorem cellsStr : Tryz.prog.cellsOf 9 = 1 := by kernel_rfl
theorem cellsInts : Tryz.prog.cellsOf 24 = 1 := by kernel_rfl
theorem cellsBytes : Tryz.prog.cellsOf 25 = 1 := by kernel_rfl
theorem cellsOp : Tryz.prog.cellsOf 27 = 9 := by kernel_rfl

theorem nine {α : Type} {l : List α} (h : l.length = 9) : ∃ c0 c1 c2 c3 c4 c5 c6 c7 c8, l = [c0, c1, c2, c3, c4, c5, c6, c7, c8] := by
  match l with
  | [a, b, c, d, e, f, g, i, j] => exact ⟨a, b, c, d, e, f, g, i, j, rfl⟩

def OM.bulk (o : OM) : Nat := o.bucket.size + o.key.size + o.after.size + o.parts.length + o.data.length

theorem len_le {es rs : List (DataW H)} : es.length ≤ Rows.uptoBulk (.slice es rs) := by
  have := bulk_len es; simp only [Rows.uptoBulk]; omega

theorem slice_small {t e : TypeId} {p : Option Addr} {len cap : Nat} (ht : Tryz.prog.underlying t = some (.slice e)) (h : DataW.trod enc Tryz.prog W base spare held fuel t [.slice p len cap] = some x) : len ≤ 9223372036854775807 := by
  rcases DataW.trod_slice ht h with ⟨hcs, rfl⟩ | ⟨a, l, c, es, rs, n, rfl, hcs, rfl, hb, hl, hm, _⟩
  · simp at hcs; omega
  · simp at hcs
    have : maxLen = 9223372036854775807 := rfl
    omega

set_option maxRecDepth 100000 in
theorem op_in (h : DataW.trod enc Tryz.prog W base spare held fuel 27 cs = some x) : ∃ y : OW, cs = y.cells ∧ y.ok (old W) ∧ y.o.bulk ≤ Rows.uptoBulk x.1 ∧ y.o.id ≤ 18446744073709551615 := by
  obtain ⟨xs, m, rfl, rfl, hl, hxl, hf⟩ := DataW.trod_struct Tryz.underlying27 h
  rw [cellsOp] at hl
  obtain ⟨c0, c1, c2, c3, c4, c5, c6, c7, c8, rfl⟩ : ∃ c0 c1 c2 c3 c4 c5 c6 c7 c8, cs = [c0, c1, c2, c3, c4, c5, c6, c7, c8] := nine hl
  obtain ⟨x0, x1, x2, x3, x4, x5, x6, x7, x8, rfl⟩ : ∃ x0 x1 x2 x3 x4 x5 x6 x7 x8, xs = [x0, x1, x2, x3, x4, x5, x6, x7, x8] := nine hxl
  have f0 : DataW.trod enc Tryz.prog W base spare held m 23 (([c0, c1, c2, c3, c4, c5, c6, c7, c8].drop 0).take (Tryz.prog.cellsOf 23)) = [x0, x1, x2, x3, x4, x5, x6, x7, x8][0]? := hf 0 _ rfl
  have f1 : DataW.trod enc Tryz.prog W base spare held m 3 (([c0, c1, c2, c3, c4, c5, c6, c7, c8].drop 1).take (Tryz.prog.cellsOf 3)) = [x0, x1, x2, x3, x4, x5, x6, x7, x8][1]? := hf 1 _ rfl
  have f2 : DataW.trod enc Tryz.prog W base spare held m 9 (([c0, c1, c2, c3, c4, c5, c6, c7, c8].drop 2).take (Tryz.prog.cellsOf 9)) = [x0, x1, x2, x3, x4, x5, x6, x7, x8][2]? := hf 2 _ rfl
  have f3 : DataW.trod enc Tryz.prog W base spare held m 9 (([c0, c1, c2, c3, c4, c5, c6, c7, c8].drop 3).take (Tryz.prog.cellsOf 9)) = [x0, x1, x2, x3, x4, x5, x6, x7, x8][3]? := hf 3 _ rfl
  have f4 : DataW.trod enc Tryz.prog W base spare held m 9 (([c0, c1, c2, c3, c4, c5, c6, c7, c8].drop 4).take (Tryz.prog.cellsOf 9)) = [x0, x1, x2, x3, x4, x5, x6, x7, x8][4]? := hf 4 _ rfl
  have f5 : DataW.trod enc Tryz.prog W base spare held m 3 (([c0, c1, c2, c3, c4, c5, c6, c7, c8].drop 5).take (Tryz.prog.cellsOf 3)) = [x0, x1, x2, x3, x4, x5, x6, x7, x8][5]? := hf 5 _ rfl
  have f6 : DataW.trod enc Tryz.prog W base spare held m 23 (([c0, c1, c2, c3, c4, c5, c6, c7, c8].drop 6).take (Tryz.prog.cellsOf 23)) = [x0, x1, x2, x3, x4, x5, x6, x7, x8][6]? := hf 6 _ rfl
  have f7 : DataW.trod enc Tryz.prog W base spare held m 24 (([c0, c1, c2, c3, c4, c5, c6, c7, c8].drop 7).take (Tryz.prog.cellsOf 24)) = [x0, x1, x2, x3, x4, x5, x6, x7, x8][7]? := hf 7 _ rfl
  have f8 : DataW.trod enc Tryz.prog W base spare held m 25 (([c0, c1, c2, c3, c4, c5, c6, c7, c8].drop 8).take (Tryz.prog.cellsOf 25)) = [x0, x1, x2, x3, x4, x5, x6, x7, x8][8]? := hf 8 _ rfl
  simp only [cellsInt, cellsStr, cellsU64, cellsInts, cellsBytes, List.drop_zero, List.drop_succ_cons, List.take_succ_cons, List.take_zero, List.getElem?_cons_zero, List.getElem?_cons_succ] at f0 f1 f2 f3 f4 f5 f6 f7 f8
  obtain ⟨n0, e0, rfl, w0⟩ := DataW.trod_int Tryz.underlying23 f0
  obtain ⟨n1, e1, rfl, w1⟩ := DataW.trod_int Tryz.underlying3 f1
  obtain ⟨s2, e2, rfl, z2⟩ := DataW.trod_string Tryz.underlying9 f2
  obtain ⟨s3, e3, rfl, z3⟩ := DataW.trod_string Tryz.underlying9 f3
  obtain ⟨s4, e4, rfl, z4⟩ := DataW.trod_string Tryz.underlying9 f4
  obtain ⟨n5, e5, rfl, w5⟩ := DataW.trod_int Tryz.underlying3 f5
  obtain ⟨n6, e6, rfl, w6⟩ := DataW.trod_int Tryz.underlying23 f6
  simp at e0 e1 e2 e3 e4 e5 e6
  subst e0 e1 e2 e3 e4 e5 e6
  have u0 := (wf_has w0).1
  have u6 := (wf_has w6).1
  obtain ⟨m0, rfl⟩ : ∃ k : Nat, n0 = k := ⟨n0.toNat, by have : (0 : Int) ≤ n0 := u0; omega⟩
  obtain ⟨m6, rfl⟩ : ∃ k : Nat, n6 = k := ⟨n6.toNat, by have : (0 : Int) ≤ n6 := u6; omega⟩
  obtain ⟨p7, len7, cap7, zs7, rfl, hc7, hz7, hr7, hw7, hx7⟩ := ints_in Tryz.underlying24 Tryz.underlying3 cellsInt f7
  obtain ⟨p8, len8, cap8, zs8, rfl, hc8, hz8, hr8, hw8, hx8⟩ := ints_in Tryz.underlying25 Tryz.underlying5 cellsU8 f8
  obtain ⟨bs, hb1, hb2⟩ := ints_bytes zs8 hw8
  have l7 := slice_small Tryz.underlying24 f7
  have l8 := slice_small Tryz.underlying25 f8
  have h8 : len8 = bs.length := by omega
  subst h8
  have h7 : len7 = zs7.length := by omega
  subst h7
  refine ⟨⟨⟨m0, n1, s2, s3, s4, n5, m6, zs7, bs⟩, p7, cap7, p8, cap8⟩, rfl, ⟨hr7, by rw [← hb2]; exact hr8, ?_⟩, ?_, by have h : (m0 : Int) ≤ 18446744073709551615 := (wf_has w0).2; show m0 ≤ _; omega⟩
  · exact ⟨z2, z3, z4, l7, l8⟩
  · have hs2 : s2.data.toList.length = s2.size := by simp
    have hs3 : s3.data.toList.length = s3.size := by simp
    have hs4 : s4.data.toList.length = s4.size := by simp
    have b7 : zs7.length ≤ Rows.uptoBulk x7.1 := by
      rcases hx7 with ⟨_, h0⟩ | ⟨es, rs, hx, hl⟩
      · omega
      · rw [hx]; have := len_le (es := es) (rs := rs); omega
    have b8 : bs.length ≤ Rows.uptoBulk x8.1 := by
      rcases hx8 with ⟨_, h0⟩ | ⟨es, rs, hx, hl⟩
      · omega
      · rw [hx]; have := len_le (es := es) (rs := rs); omega
    simp only [Rows.uptoBulk, List.map_cons, List.map_nil, Rows.uptoBulkAll, OM.bulk]
    omega
end
end Go.Proofs.YtdancegklkifaaaGreat
namespace Go.Proofs.YtdancegklkifaaaGreat
set_option linter.unusedSectionVars false
set_option linter.unusedSimpArgs false
set_option linter.unusedVariables false
open Go.X
open Go.X.G (Ord3 ord3_nat ord3_int ord3_str ltB sget sput sdel Srtd MapAt MapHole)

def bulks (l : List OW) : Nat := (l.map fun x => x.o.bulk).sum
theorem bulks_take {l : List OW} {i : Nat} {x : OW} (h : l[i]? = some x) : bulks (l.take (i + 1)) = bulks (l.take i) + x.o.bulk := by
  obtain ⟨h1, h2⟩ := List.getElem?_eq_some_iff.1 h
  unfold bulks
  rw [List.take_succ_eq_append_getElem h1, List.map_append, List.sum_append, h2]; simp
theorem bulks_le {l : List OW} (i : Nat) : bulks (l.take i) ≤ bulks l := by
  unfold bulks
  conv => rhs; rw [← List.take_append_drop i l, List.map_append, List.sum_append]
  omega

theorem few_spec (G : Assn) (lp : Option Addr) (ln lc : Nat) (l : List OW) (hl : Ops G lp ln lc l) (hb : bulks l ≤ 1048576) : FSpec Tryz.prog 6 [.slice lp ln lc] [G] (fun v B => ∃ b : Bool, (b = true → ln ≤ 400 ∧ bulks l ≤ 131072) ∧ v = .bool b ∧ B = [G]) := by
  have hlen := hl.len
  have hsml := hl.small
  refine FSpec.of Tryz.func6 rfl Tryz.ntmps6 rfl fun W0 F => ?_
  refine J.seq <| J.region <| J.p rfl (Q.asg rfl) <| J.nil <| J.then_n <| J.seq <| J.region <| J.p rfl (Q.asg rfl) <| J.nil <| J.then_n <| J.seq <| J.seq <| J.region <| J.p rfl (Q.asg rfl) <| J.nil <| J.then_n <| J.block ?_
  refine J.loop (fun z : Nat × Int => z.1 ≤ ln ∧ 0 ≤ z.2 ∧ z.2 = bulks (l.take z.1)) (fun z => ln - z.1) (fun z => [(0, .slice lp ln lc), (3, .int .i64 z.2), (4, .int .i64 z.1)]) (fun _ => [G, F]) (0, 0) ⟨Nat.zero_le _, Int.le_refl _, by show (0 : Int) = ((bulks (l.take 0) : Nat) : Int); simp [bulks]⟩ ⟨rfl, rfl, rfl, trivial⟩ rfl fun z hz => ?_
  obtain ⟨i, n⟩ := z
  obtain ⟨hi, hn0, hn1⟩ := hz
  dsimp only at hi hn0 hn1
  refine J.seq <| J.seq <| J.region <| J.m rfl <| J.m rfl <| J.p rfl (Q.lenSl Tryz.runUnderlying22 rfl) <| J.p rfl (Q.lss rfl rfl) <| J.nil <| J.then_n ?_
  refine J.cases 8 rfl (fun hc8 => ?_) (fun hc8 => ?_)
  ·
   replace hc8 := X.nm hc8
   try (first | (cases hc8; done) | (exfalso; simp at hc8; done))
   all_goals
    refine J.cond_t rfl <| J.cskip <| J.then_n <| J.seq <| J.block ?_
    obtain ⟨b, off, hlp, hrd⟩ := hl.rd.some_ (by omega)
    obtain ⟨x, hx⟩ : ∃ x, l[i]? = some x := ⟨_, List.getElem?_eq_getElem (by omega)⟩
    have hbt := bulks_take hx
    have hbl := bulks_le (l := l) (i + 1)
    have hbk : x.o.bulk = x.o.bucket.size + x.o.key.size + x.o.after.size + x.o.parts.length + x.o.data.length := rfl
    refine J.slot 0 (.slice (some ⟨b, off, none⟩) ln lc) rfl (by rw [hlp]) ?_
    refine J.draw [36] Tryz.mixed (by kernel_rfl) fun hR => ?_
    refine RG.p 0 hR rfl (Q.mv rfl) <| RG.p 1 hR rfl (Q.mv rfl) <| RG.p 2 hR rfl (Q.mv rfl) <| RG.p 3 hR rfl (Q.ia Tryz.runUnderlying22 Tryz.sizeOf27 rfl rfl (by omega) (by omega)) <| RG.p 4 hR rfl (Q.fa (n := 2) Tryz.runUnderlying27 rfl rfl Tryz.sizeOf9 rfl) ?_
    refine RG.p 5 hR rfl (Q.ld Tryz.isAgg9 rfl (((rd_field OW.cells_length hrd hx (k := 2) (u := .string x.o.bucket) rfl rfl).within (i := 0) rfl).cast (by first | (simp; done) | (simp; omega)))) ?_
    refine RG.p 6 hR rfl (Q.lenS Tryz.runUnderlying9 rfl) <| RG.p 7 hR rfl (Q.add64 rfl rfl (by omega)) <| RG.p 8 hR rfl (Q.mv rfl) <| RG.p 9 hR rfl (Q.mv rfl) <| RG.p 10 hR rfl (Q.ia Tryz.runUnderlying22 Tryz.sizeOf27 rfl rfl (by omega) (by omega)) <| RG.p 11 hR rfl (Q.fa (n := 3) Tryz.runUnderlying27 rfl rfl Tryz.sizeOf9 rfl) ?_
    refine RG.p 12 hR rfl (Q.ld Tryz.isAgg9 rfl (((rd_field OW.cells_length hrd hx (k := 3) (u := .string x.o.key) rfl rfl).within (i := 0) rfl).cast (by first | (simp; done) | (simp; omega)))) ?_
    refine RG.p 13 hR rfl (Q.lenS Tryz.runUnderlying9 rfl) <| RG.p 14 hR rfl (Q.add64 rfl rfl (by omega)) <| RG.p 15 hR rfl (Q.mv rfl) <| RG.p 16 hR rfl (Q.mv rfl) <| RG.p 17 hR rfl (Q.ia Tryz.runUnderlying22 Tryz.sizeOf27 rfl rfl (by omega) (by omega)) <| RG.p 18 hR rfl (Q.fa (n := 4) Tryz.runUnderlying27 rfl rfl Tryz.sizeOf9 rfl) ?_
    refine RG.p 19 hR rfl (Q.ld Tryz.isAgg9 rfl (((rd_field OW.cells_length hrd hx (k := 4) (u := .string x.o.after) rfl rfl).within (i := 0) rfl).cast (by first | (simp; done) | (simp; omega)))) ?_
    refine RG.p 20 hR rfl (Q.lenS Tryz.runUnderlying9 rfl) <| RG.p 21 hR rfl (Q.add64 rfl rfl (by omega)) <| RG.p 22 hR rfl (Q.mv rfl) <| RG.p 23 hR rfl (Q.mv rfl) <| RG.p 24 hR rfl (Q.ia Tryz.runUnderlying22 Tryz.sizeOf27 rfl rfl (by omega) (by omega)) <| RG.p 25 hR rfl (Q.fa (n := 7) Tryz.runUnderlying27 rfl rfl Tryz.sizeOf24 rfl) ?_
    refine RG.p 26 hR rfl (Q.ld Tryz.isAgg24 rfl (((rd_field OW.cells_length hrd hx (k := 7) (u := .slice x.pp x.o.parts.length x.pc) rfl rfl).within (i := 0) rfl).cast (by first | (simp; done) | (simp; omega)))) ?_
    refine RG.p 27 hR rfl (Q.lenSl Tryz.runUnderlying24 rfl) <| RG.p 28 hR rfl (Q.add64 rfl rfl (by omega)) <| RG.p 29 hR rfl (Q.mv rfl) <| RG.p 30 hR rfl (Q.mv rfl) <| RG.p 31 hR rfl (Q.ia Tryz.runUnderlying22 Tryz.sizeOf27 rfl rfl (by omega) (by omega)) <| RG.p 32 hR rfl (Q.fa (n := 8) Tryz.runUnderlying27 rfl rfl Tryz.sizeOf25 rfl) ?_
    refine RG.p 33 hR rfl (Q.ld Tryz.isAgg25 rfl (((rd_field OW.cells_length hrd hx (k := 8) (u := .slice x.dp x.o.data.length x.dc) rfl rfl).within (i := 0) rfl).cast (by first | (simp; done) | (simp; omega)))) ?_
    refine RG.p 34 hR rfl (Q.lenSl Tryz.runUnderlying25 rfl) <| RG.p 35 hR rfl (Q.add64 rfl rfl (by omega)) ?_
    refine RG.bar 36 hR rfl rfl rfl rfl rfl rfl (Q.asg rfl).toC ?_
    rintro _ _ ⟨rfl, rfl⟩
    refine RG.norm rfl ?_
    refine RG.fin hR rfl ?_
    refine J.norm rfl <| J.blk_n <| J.then_n <| J.region <| J.m rfl <| J.p rfl (Q.add64 rfl rfl (by omega)) <| J.p rfl (Q.asg rfl) <| J.nil ?_
    refine J.again (i + 1, n + x.o.bucket.size + x.o.key.size + x.o.after.size + x.o.parts.length + x.o.data.length) ⟨by show i + 1 ≤ ln; omega, by show 0 ≤ n + x.o.bucket.size + x.o.key.size + x.o.after.size + x.o.parts.length + x.o.data.length; omega, by show n + x.o.bucket.size + x.o.key.size + x.o.after.size + x.o.parts.length + x.o.data.length = ((bulks (l.take (i + 1)) : Nat) : Int); omega⟩ (by show ln - (i + 1) < ln - i; omega) ⟨(by show _ = some (Value.slice lp ln lc); rw [hlp]; rfl), rfl, rfl, trivial⟩ rfl
  replace hc8 := X.nm hc8
  try (first | (cases hc8; done) | (exfalso; simp at hc8; done))
  all_goals
   refine J.cond_f rfl <| J.exit <| J.then_x <| J.lp_x <| J.blk_x <| J.then_n <| J.seq <| J.region <| J.m rfl <| J.p rfl (Q.lenSl Tryz.runUnderlying22 rfl) <| J.p rfl (Q.leq rfl rfl) <| J.m rfl ?_
   refine J.cases 50 rfl (fun hb50 => ?_) (fun hb50 => ?_)
   ·
    replace hb50 := X.nm hb50
    try (first | (cases hb50; done) | (exfalso; simp at hb50; done))
    all_goals
     refine J.m rfl <| J.p rfl (Q.leq rfl rfl) <| J.p rfl (Q.pick_t rfl rfl) <| J.p rfl (Q.asg rfl) <| J.nil <| J.then_n <| J.cret ?_
     have hil : i = ln := by omega
     have htk : l.take i = l := List.take_of_length_le (by omega)
     rw [htk] at hn1
     refine J.ret1 (B := [G]) rfl rfl ⟨_, ?_, rfl, rfl⟩ rfl
     intro hbt
     first
       | (simp at hbt; exact ⟨by omega, by omega⟩)
       | (simp at hbt; done)
   replace hb50 := X.nm hb50
   try (first | (cases hb50; done) | (exfalso; simp at hb50; done))
   all_goals
    refine J.skip rfl rfl <| J.skip rfl rfl <| J.p rfl (Q.pick_f rfl rfl) <| J.p rfl (Q.asg rfl) <| J.nil <| J.then_n <| J.cret ?_
    have hil : i = ln := by omega
    have htk : l.take i = l := List.take_of_length_le (by omega)
    rw [htk] at hn1
    refine J.ret1 (B := [G]) rfl rfl ⟨_, ?_, rfl, rfl⟩ rfl
    intro hbt
    first
      | (simp at hbt; exact ⟨by omega, by omega⟩)
      | (simp at hbt; done)
end Go.Proofs.YtdancegklkifaaaGreat
namespace Go.Proofs.YtdancegklkifaaaGreat
set_option linter.unusedSectionVars false
set_option linter.unusedSimpArgs false
set_option linter.unusedVariables false
open Go.X
open Go.X.G (Ord3 ord3_nat ord3_int ord3_str ltB sget sput sdel Srtd MapAt MapHole Ent Ents sget_put)

theorem encB_le {bs : List UInt8} {C : Nat} (h : bs.length ≤ C) (hC : C ≤ 18446744073709551615) : (encB bs).length ≤ C + 10 := by
  have := numB_len bs.length (by omega)
  unfold encB; rw [List.length_append]; omega
theorem bsz (b : ByteArray) : b.data.toList.length = b.size := by simp

theorem dump_len {k : Nat} {M : BM} (hM : M.ok k) (hK : M.kok) (hF : M.fit k 131072) (hk : k ≤ 800) : (dumpM M).length ≤ 70368744100000 := by
  have hl := hM.len
  have hkB : k * 131072 ≤ 104857600 := by omega
  have n1 := numB_len M.buckets.length (by omega)
  have n2 := numB_len M.uploads.length (by omega)
  have n3 := numB_len M.done.length (by omega)
  have b1 : (dBkts M.buckets).length ≤ M.buckets.length * (74 + (10 + 800 * 104859000)) := by
    refine flat_bound _ fun p hp => ?_
    have hg := sget_in ord3_str hM.bs hp
    have ho := hM.os _ _ hg
    have hob := hF.ob _ _ hg
    have e1 := encB_le (bs := p.1.data.toList) (C := 64) (by rw [bsz]; exact hob.1) (by omega)
    have e2 := numB_len p.2.length (by omega)
    have e3 : (dObjs p.2).length ≤ p.2.length * 104859000 := by
      refine flat_bound _ fun q hq => ?_
      have f1 := encB_le (bs := q.1.data.toList) (C := 1024) (by rw [bsz]; exact hK.ob _ _ hg q hq) (by omega)
      have f2 := encB_le (bs := q.2) (C := 104857600) (Nat.le_trans (hob.2 q hq) hkB) (by omega)
      rw [List.length_append]; omega
    have e4 : p.2.length * 104859000 ≤ 800 * 104859000 := Nat.mul_le_mul_right _ (by omega)
    rw [List.length_append, List.length_append]; omega
  have b2 : (dUps M.uploads).length ≤ M.uploads.length * (10 + 74 + 1034 + 10 + 800 * 131092) := by
    refine flat_bound _ fun p hp => ?_
    have hg := sget_in ord3_nat hM.us hp
    have hup := hF.up _ _ hg
    obtain ⟨q, hq⟩ := Option.isSome_iff_exists.1 (hM.ps _ _ hg).2.1
    have e0 := numB_len p.1 hup.1
    have e1 := encB_le (bs := p.2.bucket.data.toList) (C := 64) (by rw [bsz]; exact (hF.ob _ _ hq).1) (by omega)
    have e2 := encB_le (bs := p.2.key.data.toList) (C := 1024) (by rw [bsz]; exact hK.up _ _ hg) (by omega)
    have e3 := numB_len p.2.parts.length (by have := hup.2.1; omega)
    have e4 : (dParts p.2.parts).length ≤ p.2.parts.length * 131092 := by
      refine flat_bound _ fun q hq => ?_
      have f1 := numB_len (u64N q.1) (u64N_le _)
      have f2 := encB_le (bs := q.2) (C := 131072) (hup.2.2 q hq) (by omega)
      rw [List.length_append]; omega
    have e5 : p.2.parts.length * 131092 ≤ 800 * 131092 := Nat.mul_le_mul_right _ (by have := hup.2.1; omega)
    rw [List.length_append, List.length_append, List.length_append, List.length_append]; omega
  have b3 : (dDone M.done).length ≤ M.done.length * 30 := by
    refine flat_bound _ fun p hp => ?_
    have hg := sget_in ord3_nat hM.ds hp
    have hd := hF.dn _ _ hg
    have e0 := numB_len p.1 hd.1
    have e1 := numB_len (u64N p.2.status) (u64N_le _)
    have e2 := numB_len p.2.upload hd.2
    rw [List.length_append, List.length_append]; omega
  have c1 : M.buckets.length * (74 + (10 + 800 * 104859000)) ≤ 800 * (74 + (10 + 800 * 104859000)) := Nat.mul_le_mul_right _ (by omega)
  have c2 : M.uploads.length * (10 + 74 + 1034 + 10 + 800 * 131092) ≤ 800 * (10 + 74 + 1034 + 10 + 800 * 131092) := Nat.mul_le_mul_right _ (by omega)
  unfold dumpM dT1 dT2
  simp only [List.length_append]
  omega

theorem runs_kok {k : Nat} {M : BM} (hM : M.ok k) (h : M.kok) : ∀ l : List OM, (M.runs l).2.kok
  | [] => h
  | x :: l => runs_kok (run_ok hM x) (run_kok hM h x) l
theorem run_all {k : Nat} (m : Nat) (M : BM) (hM : M.ok k) (hKok : M.kok) (G : Assn) (lp : Option Addr) (ln lc : Nat) (l : List OW) (hl : Ops G lp ln lc l) (hK : k + ln ≤ 32768) :
    FSpec Tryz.prog 8 [.pointer (some ⟨m, 0, none⟩), .slice lp ln lc] [BktAt m M, G] (fun v B => ∃ (rs : List RW) (p : Option Addr) (c : Nat), v = .slice p rs.length c ∧ rs.map (·.r) = (M.runs (l.map (·.o))).1 ∧
      B = [own 37 5 (.slice p rs.length c) (rs.flatMap RW.cells), star (rs.map RW.asn), BktAt m (M.runs (l.map (·.o))).2, G]) := by
  have hlen := hl.len
  have hsml := hl.small
  refine FSpec.of Tryz.func8 rfl Tryz.ntmps8 rfl fun W0 F => ?_
  refine J.seq <| J.region <| J.p rfl (Q.asg rfl) <| J.nil <| J.then_n <| J.seq <| J.region <| J.p rfl (Q.asg rfl) <| J.nil <| J.then_n <| J.seq <| J.seq <| J.region <| J.m rfl <| J.p rfl (Q.lenSl Tryz.runUnderlying22 rfl) <| J.m rfl <| J.nil <| J.then_n <| J.block ?_
  refine J.give (own.nil 37 5 _) ?_
  refine J.give (X := star (([] : List RW).map RW.asn)) trivial ?_
  refine J.pick [1, 0, 2, 3, 4] rfl ?_
  refine J.loop (fun z : Nat × List RW × Option Addr × Nat => z.1 ≤ ln ∧ z.2.1.length = z.1 ∧ z.2.1.map (·.r) = (M.runs ((l.map (·.o)).take z.1)).1) (fun z => ln - z.1) (fun z => [(0, .pointer (some ⟨m, 0, none⟩)), (5, .slice z.2.2.1 z.2.1.length z.2.2.2), (8, .slice lp ln lc), (9, .int .i64 ln), (10, .int .i64 z.1)])
    (fun z => [own 37 5 (.slice z.2.2.1 z.2.1.length z.2.2.2) (z.2.1.flatMap RW.cells), star (z.2.1.map RW.asn), BktAt m (M.runs ((l.map (·.o)).take z.1)).2, G, F]) (0, [], none, 0) ⟨Nat.zero_le _, rfl, rfl⟩ ⟨rfl, rfl, rfl, rfl, rfl, trivial⟩ rfl fun z hz => ?_
  obtain ⟨j, rs, p, c⟩ := z
  obtain ⟨hj, hrl, hrs⟩ := hz
  dsimp only at hj hrl hrs
  refine J.seq <| J.region <| J.p rfl (Q.lss rfl rfl) <| J.nil <| J.then_n <| J.seq ?_
  refine J.cases 11 rfl (fun hc11 => ?_) (fun hc11 => ?_)
  ·
   replace hc11 := X.nm hc11
   refine J.cond_t rfl <| J.cskip <| J.then_n <| J.seq <| J.block <| J.seq ?_
   obtain ⟨b, off, hlp, hrd⟩ := hl.rd.some_ (by omega)
   obtain ⟨x, hx⟩ : ∃ x, l[j]? = some x := ⟨_, List.getElem?_eq_getElem (by omega)⟩
   have hxm := List.mem_of_getElem? hx
   have hxo := hl.ok x hxm
   have hxt := runs_take M (l := l.map (·.o)) (k := j) (o := x.o) (by rw [List.getElem?_map, hx]; rfl)
   obtain ⟨Mj, hMj⟩ : ∃ Mj, Mj = (M.runs ((l.map (·.o)).take j)).2 := ⟨_, rfl⟩
   have hkj : Mj.kok := by rw [hMj]; exact runs_kok hM hKok _
   have hokj : Mj.ok (k + j) := by
     rw [hMj]
     have := runs_ok hM ((l.map (·.o)).take j)
     exact this.mono (by rw [List.length_take]; omega)
   show J _ _ _ [_, _, BktAt m (M.runs ((l.map (·.o)).take j)).2, _, _] _
   rw [← hMj] at hxt ⊢
   refine J.slot 8 (.slice (some ⟨b, off, none⟩) ln lc) rfl (by rw [hlp]) ?_
   refine J.region <| J.p rfl (Q.ia Tryz.runUnderlying22 Tryz.sizeOf27 rfl rfl (by omega) (by omega)) ?_
   refine J.p rfl (Q.ldN (vs := [_, _, _, _, _, _, _, _, _]) Tryz.isAgg27 Tryz.sizeOf27 rfl ((rd_elem OW.cells_length hrd hx (by simp)).within (i := 3) rfl)) ?_
   refine J.c rfl rfl (C.alloc (l := [_, _, _, _, _, _, _, _, _]) Tryz.zeroValue27 rfl) ?_
   rintro _ _ ⟨b7, rfl, rfl⟩
   refine J.norm rfl ?_
   refine J.stAI (vs := [_, _, _, _, _, _, _, _, _]) rfl Tryz.sizeOf27 rfl rfl (by exact rfl) (by exact rfl) (by exact rfl) ?_
   refine J.nil <| J.then_n <| J.region <| J.m rfl <| J.m rfl ?_
   refine J.p rfl (Q.ldN (vs := [_, _, _, _, _, _, _, _, _]) Tryz.isAgg27 Tryz.sizeOf27 rfl rnI) ?_
   refine J.call Tryz.call10 (do_all m Mj hokj hkj (by omega) x G hxo) [3, 4] rfl rfl rfl rfl ?_
   rintro _ _ ⟨y, rfl, hy, rfl⟩
   refine J.norm rfl ?_
   refine J.c rfl rfl (C.bslG (l := [_, _, _, _, _]) Tryz.runUnderlying32 Tryz.sizeOf37 Tryz.zeroValue37 (by decide) rfl rfl rfl rfl rfl) ?_
   rintro _ _ ⟨b18, rfl, rfl⟩
   refine J.norm rfl ?_
   refine J.conv (Y := own 37 5 (.slice (some ⟨b18, 0, none⟩) 1 1) y.cells) 0 rfl (own_of_block rfl) ?_
   refine J.slr1 0 rfl fun hs18 => ?_
   refine J.c rfl rfl (C.app (i := 5) Tryz.runUnderlying32 Tryz.runUnderlying32 Tryz.typeInfo37 Tryz.sizeOf37 Tryz.zeroValue37 rfl rfl rfl (hs18.within (i := 0) rfl) (by have := RW.cells_one (l := [y]); simpa using this) (by rw [show Tryz.t37.bytes = 72 from rfl]; show (rs.length + 1) * 72 ≤ _; omega) (by decide)) ?_
   rintro _ _ ⟨p19, c19, rfl, rfl⟩
   refine J.norm rfl <| J.p rfl (Q.asg rfl) <| J.nil <| J.blk_n <| J.then_n <| J.region <| J.p rfl (Q.add64 rfl rfl (by omega)) <| J.m rfl <| J.nil ?_
   refine J.addone (f := RW.asn) (l := rs) 2 6 y rfl ?_
   have hfl : (rs ++ [y]).flatMap RW.cells = rs.flatMap RW.cells ++ y.cells := by simp
   refine J.keep [5, 0, 2, 3, 6] rfl ?_
   refine J.again (j + 1, rs ++ [y], p19, c19) ⟨by show j + 1 ≤ ln; omega, by show (rs ++ [y]).length = j + 1; simp [hrl], by show (rs ++ [y]).map (·.r) = (M.runs ((l.map (·.o)).take (j + 1))).1; rw [hxt, List.map_append, hrs, List.map_cons, hy]; rfl⟩ (by show ln - (j + 1) < ln - j; omega) ⟨rfl, (by show _ = some (Value.slice p19 (rs ++ [y]).length c19); rw [List.length_append]; rfl), (by show _ = some (Value.slice lp ln lc); rw [hlp]; rfl), rfl, rfl, trivial⟩ ?_
   show _ = [own 37 5 (.slice p19 (rs ++ [y]).length c19) ((rs ++ [y]).flatMap RW.cells), _, BktAt m (M.runs ((l.map (·.o)).take (j + 1))).2, _, _]
   rw [hxt, hfl, List.length_append]
   rfl
  replace hc11 := X.nm hc11
  refine J.cond_f rfl <| J.exit <| J.then_x <| J.lp_x <| J.blk_x <| J.then_n <| J.seq <| J.region <| J.m rfl <| J.p rfl (Q.asg rfl) <| J.nil <| J.then_n <| J.cret ?_
  have hjn : j = ln := by omega
  subst hjn
  have htk : (l.map (·.o)).take j = l.map (·.o) := List.take_of_length_le (by rw [List.length_map]; omega)
  rw [htk] at hrs
  refine J.ret1 (B := [own 37 5 (.slice p rs.length c) (rs.flatMap RW.cells), star (rs.map RW.asn), BktAt m (M.runs (l.map (·.o))).2, G]) rfl rfl ⟨rs, p, c, rfl, hrs, rfl⟩ ?_
  show [_, _, BktAt m (M.runs ((l.map (·.o)).take j)).2, _, _] = _
  rw [htk]; rfl

theorem le_sum : ∀ {l : List Nat} {x : Nat}, x ∈ l → x ≤ l.sum
  | [], _, h => by cases h
  | y :: l, x, h => by
    rw [List.sum_cons]
    rcases List.mem_cons.1 h with rfl | h
    · omega
    · have := le_sum h; omega

theorem run_idle {M : BM} {o : OM} (h : readsK o.kind = true ∨ o.chkB = false) : (M.run o).2 = M := by
  unfold BM.run
  split
  · rename_i hc
    rcases h with h | h
    · rw [if_pos h]
      unfold BM.act
      have hk : o.kind = 4 ∨ o.kind = 6 := by simpa [readsK] using h
      rcases hk with e | e
      · rw [if_neg (by omega), if_neg (by omega), if_neg (by omega), if_pos e]
        unfold BM.get; repeat' split
        all_goals rfl
      · rw [if_neg (by omega), if_neg (by omega), if_neg (by omega), if_neg (by omega), if_neg (by omega), if_pos e]
        unfold BM.list; split <;> rfl
    · rw [h] at hc; cases hc
  · rfl
end Go.Proofs.YtdancegklkifaaaGreat
namespace Go.Proofs.YtdancegklkifaaaGreat
set_option linter.unusedSectionVars false
set_option linter.unusedSimpArgs false
set_option linter.unusedVariables false
open Go.X
open Go.X.G (Ord3 ord3_nat ord3_int ord3_str ltB sget sput sdel Srtd sget_put sget_del)

theorem act_ups {M : BM} {o : OM} {n : Nat} {u : UM} (h : sget n (M.act o).2.uploads = some u) : n = o.id ∨ (sget n M.uploads).isSome = true := by
  have put : ∀ {a : Nat} {v : UM}, sget n (sput ltN a v M.uploads) = some u → (a = o.id ∨ (sget a M.uploads).isSome = true) → n = o.id ∨ (sget n M.uploads).isSome = true := by
    intro a v h1 h2
    rw [sget_put ord3_nat] at h1
    split at h1
    · rename_i e; rw [e]; exact h2
    · exact .inr (by rw [h1]; rfl)
  have del : ∀ {a : Nat}, sget n (sdel a M.uploads) = some u → n = o.id ∨ (sget n M.uploads).isSome = true := by
    intro a h1
    rw [sget_del] at h1
    split at h1
    · cases h1
    · exact .inr (by rw [h1]; rfl)
  have same : sget n M.uploads = some u → n = o.id ∨ (sget n M.uploads).isSome = true := fun h1 => .inr (by rw [h1]; rfl)
  unfold BM.act at h
  split at h
  · unfold BM.make at h; split at h <;> exact same h
  split at h
  · unfold BM.unmake at h
    split at h
    · exact same h
    · split at h <;> exact same h
  split at h
  · unfold BM.put at h; split at h <;> exact same h
  split at h
  · unfold BM.get at h
    split at h
    · exact same h
    · split at h <;> exact same h
  split at h
  · unfold BM.delete at h
    split at h
    · exact same h
    · split at h <;> exact same h
  split at h
  · unfold BM.list at h; split at h <;> exact same h
  split at h
  · unfold BM.begin at h
    split at h
    · exact same h
    · exact put h (.inl rfl)
  split at h
  · unfold BM.part at h
    split at h
    · exact same h
    · rename_i hu; exact put h (.inr (by rw [hu]; rfl))
  split at h
  · unfold BM.complete at h
    split at h
    · exact same h
    · split at h
      · exact same h
      · exact del h
  · unfold BM.abort at h
    split at h
    · exact same h
    · exact del h

theorem run_kin {M : BM} (h : M.kin) (o : OM) : (M.run o).2.kin := by
  by_cases hi : readsK o.kind = true ∨ o.chkB = false
  · rw [run_idle hi]; exact h
  · have hc : o.chkB = true := by
      cases e : o.chkB with
      | true => rfl
      | false => exact absurd (.inr e) hi
    unfold BM.run
    rw [if_pos hc, if_neg (fun e => hi (.inl e))]
    split
    · exact h
    · intro n u hu
      show (sget n (sput ltN o.id (M.act o).1 M.done)).isSome = true
      rw [sget_put ord3_nat]
      split
      · rfl
      · rename_i hne
        rcases act_ups hu with e | e
        · exact absurd e hne
        · obtain ⟨v, hv⟩ := Option.isSome_iff_exists.1 e
          exact h n v hv

structure BM.inv (k : Nat) (M : BM) : Prop where
  ok : M.ok k
  kok : M.kok
  fit : M.fit k 131072
  kin : M.kin
theorem inv_new : BM.inv 0 ⟨[], [], []⟩ := ⟨BM.ok.new, kok_new, fit_new _, fun _ _ h => by cases h⟩
theorem BM.inv.run {k : Nat} {M : BM} (h : M.inv k) {o : OM} (hd : o.data.length ≤ 131072) (hi : o.id ≤ U64) : (M.run o).2.inv (k + 1) :=
  ⟨run_ok h.ok o, run_kok h.ok h.kok o, run_fit h.ok h.fit hd hi, run_kin h.kin o⟩
theorem BM.inv.runs {k : Nat} {M : BM} (h : M.inv k) : ∀ l : List OM, (∀ o, o ∈ l → o.data.length ≤ 131072 ∧ o.id ≤ U64) → (M.runs l).2.inv (k + l.length)
  | [], _ => h
  | x :: l, hl => by
    have h1 := hl x List.mem_cons_self
    have := BM.inv.runs (h.run h1.1 h1.2) l fun y hy => hl y (List.mem_cons_of_mem _ hy)
    simp only [BM.runs, List.length_cons]
    rw [show k + (l.length + 1) = k + 1 + l.length from by omega]; exact this
theorem BM.inv.lite {k : Nat} {M : BM} (h : M.inv k) (hk : k ≤ 32768) : M.lite :=
  ⟨h.ok.bs, h.ok.us, h.ok.ds, by have := h.ok.len; omega, fun n u hu => by have := (h.fit.up n u hu).2.1; omega⟩
theorem BM.inv.dump {k : Nat} {M : BM} (h : M.inv k) (hk : k ≤ 800) : (dumpM M).length ≤ 70368744100000 := dump_len h.ok h.kok h.fit hk

theorem ReadsN.inI {D F : List Assn} {X : Assn} {b o : Nat} {vs : List Value} (h : ReadsN [X] b o vs) [k : PickO D X F] : ReadsN D b o vs := fun j u hj => (h j u hj).inI
theorem fits {l : List OW} (hb : bulks l ≤ 131072) (hid : ∀ x, x ∈ l → x.o.id ≤ 18446744073709551615) : ∀ o, o ∈ l.map (·.o) → o.data.length ≤ 131072 ∧ o.id ≤ U64 := by
  intro o ho
  obtain ⟨q, hq, rfl⟩ := List.mem_map.1 ho
  refine ⟨?_, hid q hq⟩
  have h1 : q.o.bulk ≤ bulks l := by
    unfold bulks
    exact le_sum (List.mem_map.2 ⟨q, hq, rfl⟩)
  unfold OM.bulk at h1; omega
end Go.Proofs.YtdancegklkifaaaGreat

