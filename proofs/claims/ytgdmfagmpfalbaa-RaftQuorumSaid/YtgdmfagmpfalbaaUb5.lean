/-
  RaftQuorum: a few that are cut off commit nothing, and take over what the others committed
-/
import Derived.ProofKit
import Derived.OpenShut
import Derived.ShutString
import Derived.ChangeOld
import Derived.Below
import Derived.WideShapes
import Derived.ChangeArms
import Derived.Test.YtgdmfagmpfalbaaUb4
set_option linter.unusedSectionVars false
set_option linter.unusedVariables false
set_option linter.unusedSimpArgs false
namespace Go.Proofs.Ytgdmfagmpfalbaa
open Go.Proofs.Try
open Go.X
open Go.Rf (Rec XM Ms Nd lastT)
open Go.X.G (MapAt valRep)

attribute [local irreducible] qRun qAll qPart qBeat qElect qProp

def byteOf (z : Int) : UInt8 := UInt8.ofNat (z % 256).toNat
theorem byteOf_eq (z : Int) : IntKind.u8.wrap z = (((byteOf z).toNat : Nat) : Int) := by
  have h1 : IntKind.u8.wrap z = z % 256 := rfl
  have h2 : (byteOf z).toNat = (z % 256).toNat % 256 := UInt8.toNat_ofNat'
  rw [h1, h2]; omega

set_option maxHeartbeats 2000000 in
theorem quorum_spec (G : Assn) (n few : Int) (os : List Int) (op : Option Addr) (oc : Nat) (hro : SlR [G] 1 (.slice op os.length oc) (os.map (Value.int .i64))) :
    FSpec Try.prog 3 [.int .i64 n, .int .i64 few, .slice op os.length oc] [G] (fun u B => u = .bool true ∧ B = [G]) := by
  refine FSpec.of func3 rfl ntmps3 rfl fun W0 F => ?_
  refine J.seq <| J.region <| J.p rfl (Q.asg rfl) <| J.nil <| J.then_n <| J.seq <| J.seq <| J.region ?_
  refine J.callI call6 (known_spec) rfl rfl rfl ?_
  rintro _ _ ⟨rfl, rfl⟩
  refine J.norm rfl <| J.p rfl (Q.not rfl) <| J.nil <| J.then_n ?_
  refine J.cases 18 rfl (fun hc18 => ?_) (fun hc18 => ?_)
  ·
   cases hc18
  replace hc18 := X.nm hc18
  refine J.cond_f rfl <| J.cskip <| J.then_n <| J.seq <| J.seq <| J.region <| J.m rfl <| J.p rfl (Q.lss rfl rfl) <| J.m rfl ?_
  refine J.kases 21 rfl (fun hb21 => ?_) (fun hb21 => ?_)
  ·
   refine J.k rfl <| J.k rfl <| J.p rfl (Q.pick_t rfl rfl) <| J.m rfl <| J.k rfl <| J.k rfl <| J.k rfl <| J.p rfl (Q.pick_t rfl rfl) <| J.nil <| J.then_n <| J.cond_t rfl <| J.seq <| J.region <| J.p rfl (Q.asg rfl) <| J.nil <| J.then_n <| J.cret <| J.then_r ?_
   refine J.ret1I [G] rfl rfl ⟨rfl, rfl⟩
  refine J.m rfl <| J.p rfl (Q.gtr rfl rfl) <| J.p rfl (Q.pick_f rfl rfl) <| J.m rfl ?_
  refine J.kases 25 rfl (fun hb25 => ?_) (fun hb25 => ?_)
  ·
   refine J.k rfl <| J.k rfl <| J.k rfl <| J.p rfl (Q.pick_t rfl rfl) <| J.nil <| J.then_n <| J.cond_t rfl <| J.seq <| J.region <| J.p rfl (Q.asg rfl) <| J.nil <| J.then_n <| J.cret <| J.then_r ?_
   refine J.ret1I [G] rfl rfl ⟨rfl, rfl⟩
  refine J.m rfl <| J.p rfl (Q.lenSl runUnderlying22 rfl) <| J.p rfl (Q.gtr rfl rfl) <| J.p rfl (Q.pick_f rfl rfl) <| J.nil <| J.then_n ?_
  refine J.kases 29 rfl (fun hc29 => ?_) (fun hc29 => ?_)
  ·
   refine J.cond_t rfl <| J.seq <| J.region <| J.p rfl (Q.asg rfl) <| J.nil <| J.then_n <| J.cret <| J.then_r ?_
   refine J.ret1I [G] rfl rfl ⟨rfl, rfl⟩
  refine J.cond_f rfl <| J.cskip <| J.then_n <| J.seq ?_
  obtain ⟨m, rfl⟩ : ∃ m : Nat, n = m := ⟨n.toNat, by omega⟩
  have hm2 : 1 ≤ (m - 1) / 2 := by omega
  obtain ⟨fw, hfw⟩ : ∃ fw, fw = 1 + placeN few ((m - 1) / 2) := ⟨_, rfl⟩
  have hpl := placeN_lt (z := few) (m := (m - 1) / 2) hm2
  have hqk := qok m fw (by omega) (by omega) (by omega) (by omega)
  obtain ⟨f, hf⟩ : ∃ f : Nat → List UInt8, f = fun i => [byteOf (os.getD i 0)] := ⟨_, rfl⟩
  refine J.region <| J.m rfl <| J.m rfl <| J.p rfl (Q.sub64 rfl rfl (by omega)) <| J.p rfl (Q.quo64 rfl rfl (by omega) (by omega) (by omega)) ?_
  refine J.slot 33 (.int .i64 (((m - 1) / 2 : Nat) : Int)) rfl (by have h33 : ((m : Int) - 1) / 2 = (((m - 1) / 2 : Nat) : Int) := (by omega); rw [h33]) ?_
  refine J.callI call7 (place_spec few ((m - 1) / 2) hm2 (by omega)) rfl rfl rfl ?_
  rintro _ _ ⟨rfl, rfl⟩
  refine J.norm rfl <| J.p rfl (Q.add64 rfl rfl (by omega)) ?_
  refine J.slot 35 (.int .i64 (fw : Nat)) rfl (by rw [hfw]; rfl) ?_
  refine J.p rfl (Q.asg rfl) <| J.nil <| J.then_n <| J.seq <| J.region <| J.m rfl ?_
  refine J.callI call8 (begun_spec m (by omega) (by omega)) rfl rfl rfl ?_
  rintro _ _ ⟨g, rfl, rfl⟩
  refine J.norm rfl <| J.p rfl (Q.asg rfl) <| J.nil <| J.then_n <| J.seq <| J.seq <| J.region <| J.m rfl <| J.p rfl (Q.eqlp runUnderlying25 rfl rfl) <| J.nil <| J.then_n ?_
  refine J.cases 39 rfl (fun hc39 => ?_) (fun hc39 => ?_)
  ·
   cases hc39
  replace hc39 := X.nm hc39
  refine J.cond_f rfl <| J.cskip <| J.then_n <| J.seq ?_
  have hfw1 : 1 ≤ fw := by omega
  have hfw2 : fw < m := by omega
  clear hm2 hfw hpl
  refine J.convI (GroupAt g ((List.range m).map fun i => Nd.new i m) [] [] [] []) (GroupAt g (q0 m).1 (q0 m).2 [] [] []) (fun _ h => h) ?_
  have hst0 := StatQ.begun (n := m) (by omega)
  have hla := (hst0).len
  obtain ⟨sa, hsa⟩ : ∃ s, (q0 m).1[0]? = some s := ⟨_, List.getElem?_eq_getElem (by omega)⟩
  have hfa := (hst0).fit hsa (by omega) (by omega) (by omega)
  have hqea := qElect_eq hsa
  obtain ⟨⟨pra, hra⟩, hbga⟩ := id (hst0)
  have hola := elect_len sa
  have hsna := (hra.sz hsa).isn
  refine J.openGroup g (q0 m).1 (q0 m).2 [] [] [] fun M => ?_
  refine J.norm rfl ?_
  refine J.openGroupIn M g (q0 m).1 (q0 m).2 [] [] [] fun rp rc ps bp bc mw lm wp wc pm hps hmw hok => ?_
  refine J.norm rfl ?_
  obtain ⟨p, hp⟩ : ∃ p, ps[0]? = some p := ⟨_, List.getElem?_eq_getElem (by omega)⟩
  refine J.slrI (E0 := 29) (sz := 1) (p := rp) (n := ps.length) (c := rc) (xs := ps.map ptrV) fun hsl => ?_
  obtain ⟨b, off, rfl, hrd⟩ := hsl.some_ (by omega)
  refine J.focusI (f := nodeA) (l := ps.zip (q0 m).1) (0) (x := (p, sa)) (zip_get hp hsa) ?_
  refine J.convI (nodeA (p, sa)) (NodeAt p sa) (fun _ h => h) ?_
  refine J.region <| J.m rfl <| J.m rfl <| J.p rfl (Q.nil_ rfl) <| J.p rfl (Q.fa (n := 0) runUnderlying35 rfl rfl sizeOf30 rfl) ?_
  refine J.p rfl (Q.ldI isAgg30 rfl) ?_
  refine J.p rfl (Q.ia runUnderlying30 sizeOf29 rfl rfl (by omega) (by omega)) <| J.p rfl (Q.ld isAgg29 rfl (((hrd (0) (ptrV p) (by simp [hp])).inI).cast (by simp))) ?_
  refine J.callI call10 (elect_spec p sa hfa) rfl rfl rfl ?_
  rintro _ _ ⟨qqa, dda, rfl, rfl⟩
  refine J.norm rfl ?_
  refine J.convI (NodeAt p sa.elect.1) (nodeA (p, sa.elect.1)) (fun _ h => h) ?_
  refine J.unfocusI (f := nodeA) (l := ps.zip (q0 m).1) (0) (p, sa.elect.1) (by rw [List.length_zip]; omega) ?_
  rw [zip_set hp]
  refine J.shutI (groupL g (some ⟨b, off, none⟩) rc ps bp bc mw lm wp wc pm ((q0 m).1.set (0) sa.elect.1) [] [] []) (GroupIn M g ((q0 m).1.set (0) sa.elect.1) (q0 m).2 [] [] []) (GroupIn.shut (by rw [List.length_set]; exact hps) hmw hok) ?_
  refine J.shutI [GroupIn M g ((q0 m).1.set (0) sa.elect.1) (q0 m).2 [] [] [], M] (GroupAt g ((q0 m).1.set (0) sa.elect.1) (q0 m).2 [] [] []) GroupAt.shut ?_
  refine J.callI call9 (gsend_spec g ((q0 m).1.set (0) sa.elect.1) (q0 m).2 [] [] [] (0) qqa dda sa.elect.2 (by rw [List.length_set]; exact stat_elect_out hra hsa) (by omega) (by omega)) rfl rfl rfl ?_
  rintro _ _ ⟨rfl, rfl⟩
  refine J.norm rfl ?_
  refine J.convI (GroupAt g ((q0 m).1.set (0) sa.elect.1) (addBag (q0 m).2 sa.elect.2) [] [] []) (GroupAt g (qElect (q0 m) (0)).1 (qElect (q0 m) (0)).2 [] [] []) (by rw [hqea]; exact fun _ h => h) ?_
  clear hla hfa hqea hra hbga hola hsna hsa hps hmw hok hp hsl hrd
  refine J.nil <| J.then_n <| J.seq <| J.seq ?_
  have hst1 : StatQ m 5001 (q1 m) := StatQ.all (StatQ.elect (i := 0) hst0)
  refine J.region <| J.m rfl ?_
  refine J.callI call11 (settle_spec g m 1 (qElect (q0 m) 0) (StatQ.elect (i := 0) hst0) (by omega) (by omega) hqk.e1) rfl rfl rfl ?_
  rintro _ _ ⟨rfl, rfl⟩
  refine J.norm rfl <| J.p rfl (Q.not rfl) <| J.nil <| J.then_n ?_
  refine J.cases 51 rfl (fun hc51 => ?_) (fun hc51 => ?_)
  ·
   cases hc51
  replace hc51 := X.nm hc51
  refine J.cond_f rfl <| J.cskip <| J.then_n <| J.seq ?_
  refine J.convI (GroupAt g (qAll (qElect (q0 m) 0)).1 [] [] [] []) (GroupAt g (q1 m).1 (q1 m).2 [] [] []) (by rw [hqk.e1]; exact fun _ h => h) ?_
  have hlb := (hst1).len
  obtain ⟨sb, hsb⟩ : ∃ s, (q1 m).1[0]? = some s := ⟨_, List.getElem?_eq_getElem (by omega)⟩
  have hfb := (hst1).fit hsb (by omega) (by omega) (by omega)
  have hqeb := qBeat_eq hsb
  obtain ⟨⟨prb, hrb⟩, hbgb⟩ := id (hst1)
  have holb := beat_len sb
  have hsnb := (hrb.sz hsb).isn
  refine J.openGroup g (q1 m).1 (q1 m).2 [] [] [] fun M => ?_
  refine J.norm rfl ?_
  refine J.openGroupIn M g (q1 m).1 (q1 m).2 [] [] [] fun rp rc ps bp bc mw lm wp wc pm hps hmw hok => ?_
  refine J.norm rfl ?_
  obtain ⟨p, hp⟩ : ∃ p, ps[0]? = some p := ⟨_, List.getElem?_eq_getElem (by omega)⟩
  refine J.slrI (E0 := 29) (sz := 1) (p := rp) (n := ps.length) (c := rc) (xs := ps.map ptrV) fun hsl => ?_
  obtain ⟨b, off, rfl, hrd⟩ := hsl.some_ (by omega)
  refine J.focusI (f := nodeA) (l := ps.zip (q1 m).1) (0) (x := (p, sb)) (zip_get hp hsb) ?_
  refine J.convI (nodeA (p, sb)) (NodeAt p sb) (fun _ h => h) ?_
  refine J.region <| J.m rfl <| J.m rfl <| J.p rfl (Q.nil_ rfl) <| J.p rfl (Q.fa (n := 0) runUnderlying35 rfl rfl sizeOf30 rfl) ?_
  refine J.p rfl (Q.ldI isAgg30 rfl) ?_
  refine J.p rfl (Q.ia runUnderlying30 sizeOf29 rfl rfl (by omega) (by omega)) <| J.p rfl (Q.ld isAgg29 rfl (((hrd (0) (ptrV p) (by simp [hp])).inI).cast (by simp))) ?_
  refine J.callI call12 (beat_spec p sb hfb) rfl rfl rfl ?_
  rintro _ _ ⟨qqb, ddb, rfl, rfl⟩
  refine J.norm rfl ?_
  refine J.convI (NodeAt p sb) (nodeA (p, sb)) (fun _ h => h) ?_
  refine J.unfocusI (f := nodeA) (l := ps.zip (q1 m).1) (0) (p, sb) (by rw [List.length_zip]; omega) ?_
  rw [zip_set hp, set_same hsb]
  refine J.shutI (groupL g (some ⟨b, off, none⟩) rc ps bp bc mw lm wp wc pm (q1 m).1 [] [] []) (GroupIn M g (q1 m).1 (q1 m).2 [] [] []) (GroupIn.shut hps hmw hok) ?_
  refine J.shutI [GroupIn M g (q1 m).1 (q1 m).2 [] [] [], M] (GroupAt g (q1 m).1 (q1 m).2 [] [] []) GroupAt.shut ?_
  refine J.callI call9 (gsend_spec g (q1 m).1 (q1 m).2 [] [] [] (0) qqb ddb sb.beat (stat_beat_out hrb hsb) (by omega) (by omega)) rfl rfl rfl ?_
  rintro _ _ ⟨rfl, rfl⟩
  refine J.norm rfl ?_
  refine J.convI (GroupAt g (q1 m).1 (addBag (q1 m).2 sb.beat) [] [] []) (GroupAt g (qBeat (q1 m) (0)).1 (qBeat (q1 m) (0)).2 [] [] []) (by rw [hqeb]; exact fun _ h => h) ?_
  clear hlb hfb hqeb hrb hbgb holb hsnb hsb hps hmw hok hp hsl hrd
  refine J.nil <| J.then_n <| J.seq <| J.seq ?_
  have hst2 : StatQ m 10001 (q2 m) := StatQ.all (StatQ.beat (i := 0) hst1)
  have he2 : qAll (qBeat (q1 m) 0) = SK m fw 0 f := hqk.e2 f
  refine J.region <| J.m rfl ?_
  refine J.callI call11 (settle_spec g m 5001 (qBeat (q1 m) 0) (StatQ.beat (i := 0) hst1) (by omega) (by omega) (by rw [he2]; rfl)) rfl rfl rfl ?_
  rintro _ _ ⟨rfl, rfl⟩
  refine J.norm rfl ?_
  rw [he2]
  refine J.p rfl (Q.not rfl) <| J.nil <| J.then_n ?_
  refine J.cases 63 rfl (fun hc63 => ?_) (fun hc63 => ?_)
  ·
   cases hc63
  replace hc63 := X.nm hc63
  refine J.cond_f rfl <| J.cskip <| J.then_n <| J.seq ?_
  have hK0 := SK_get (n := m) (few := fw) (k := 0) (i := 0) (f := f) (by omega)
  have hst3 : StatQ m 10001 (SK m fw 0 f) := by rw [← hqk.e2 f]; exact hst2
  have hl3 := hst3.len
  refine J.convI (GroupAt g (SK m fw 0 f).1 [] [] [] []) (GroupAt g (SK m fw 0 f).1 (SK m fw 0 f).2 [] [] []) (fun _ h => h) ?_
  refine J.openGroup g (SK m fw 0 f).1 (SK m fw 0 f).2 [] [] [] fun M => ?_
  refine J.norm rfl ?_
  refine J.openGroupIn M g (SK m fw 0 f).1 (SK m fw 0 f).2 [] [] [] fun rp rc ps bp bc mw lm wp wc pm hps hmw hok => ?_
  refine J.norm rfl ?_
  obtain ⟨p, hp⟩ : ∃ p, ps[0]? = some p := ⟨_, List.getElem?_eq_getElem (by omega)⟩
  refine J.slrI (E0 := 29) (sz := 1) (p := rp) (n := ps.length) (c := rc) (xs := ps.map ptrV) fun hsl => ?_
  obtain ⟨b, off, rfl, hrd⟩ := hsl.some_ (by omega)
  refine J.focusI (f := nodeA) (l := ps.zip (SK m fw 0 f).1) (0) (x := (p, nodeK m fw 0 f 0)) (zip_get hp hK0) ?_
  refine J.convI (nodeA (p, nodeK m fw 0 f 0)) (NodeAt p (nodeK m fw 0 f 0)) (fun _ h => h) ?_
  refine J.region <| J.m rfl <| J.p rfl (Q.nil_ rfl) <| J.p rfl (Q.fa (n := 0) runUnderlying35 rfl rfl sizeOf30 rfl) ?_
  refine J.p rfl (Q.ldI isAgg30 rfl) ?_
  refine J.p rfl (Q.ia runUnderlying30 sizeOf29 rfl rfl (by omega) (by omega)) <| J.p rfl (Q.ld isAgg29 rfl (((hrd 0 (ptrV p) (by simp [hp])).inI).cast (by simp))) ?_
  refine J.callI call13 (committed_spec p (nodeK m fw 0 f 0)) rfl rfl rfl ?_
  rintro _ _ ⟨rfl, rfl⟩
  refine J.norm rfl ?_
  rw [nodeK_commit]
  refine J.p rfl (Q.asg rfl) <| J.nil <| J.then_n <| J.seq <| J.seq <| J.region <| J.p rfl (Q.asg rfl) <| J.nil <| J.then_n <| J.block ?_
  refine J.convI (NodeAt p (nodeK m fw 0 f 0)) (nodeA (p, nodeK m fw 0 f 0)) (fun _ h => h) ?_
  refine J.unfocusI (f := nodeA) (l := ps.zip (SK m fw 0 f).1) (0) (p, nodeK m fw 0 f 0) (by rw [List.length_zip]; omega) ?_
  rw [zip_set hp, set_same hK0]
  refine J.shutI (groupL g (some ⟨b, off, none⟩) rc ps bp bc mw lm wp wc pm (SK m fw 0 f).1 [] [] []) (GroupIn M g (SK m fw 0 f).1 (SK m fw 0 f).2 [] [] []) (GroupIn.shut hps hmw hok) ?_
  refine J.shutI [GroupIn M g (SK m fw 0 f).1 (SK m fw 0 f).2 [] [] [], M] (GroupAt g (SK m fw 0 f).1 (SK m fw 0 f).2 [] [] []) GroupAt.shut ?_
  clear hps hmw hok hp hsl hrd
  refine J.loop (fun i : Nat => i ≤ os.length ∧ StatQ m (10001 + 5001 * i) (SK m fw i f)) (fun i => os.length - i) (fun i => [(0, .int .i64 (m : Nat)), (1, .int .i64 (fw : Nat)), (2, .slice op os.length oc), (7, .pointer (some ⟨g, 0, none⟩)), (8, .int .i64 ((1 : Nat) : Int)), (9, .int .i64 (i : Nat))]) (fun i => [GroupAt g (SK m fw i f).1 (SK m fw i f).2 [] [] [], G, F]) 0 ⟨Nat.zero_le _, hst3⟩ ⟨rfl, rfl, rfl, rfl, rfl, rfl, trivial⟩ rfl fun i hi => ?_
  obtain ⟨hi, hst⟩ := hi
  refine J.seq <| J.seq <| J.region <| J.m rfl <| J.m rfl <| J.p rfl (Q.lenSl runUnderlying22 rfl) <| J.p rfl (Q.lss rfl rfl) <| J.nil <| J.then_n ?_
  refine J.kases 74 rfl (fun hc74 => ?_) (fun hc74 => ?_)
  ·
   refine J.cond_t rfl <| J.cskip <| J.then_n <| J.seq <| J.block <| J.seq ?_
   have hKi := SK_get (n := m) (few := fw) (k := i) (i := 0) (f := f) (by omega)
   have hlK := hst.len
   obtain ⟨b2, off2, hqo, hrdo⟩ := hro.some_ (by omega)
   obtain ⟨oz, hoz⟩ : ∃ z, os[i]? = some z := ⟨_, List.getElem?_eq_getElem (by omega)⟩
   have hfi : f i = [byteOf oz] := by rw [hf]; simp [hoz]
   have hfK := hst.fit hKi (by omega) (by omega) (by omega)
   have hqp := qProp_eq (b := f i) hKi
   have hstp : StatQ m (10001 + 5001 * i + 1) (qProp (SK m fw i f) 0 (f i)) := hst.prop (by rw [hfi]; show 1 ≤ 3; omega)
   have hnx : qPart fw (qBeat (qProp (SK m fw i f) 0 (f i)) 0) = SK m fw (i + 1) f := hqk.step f i (by omega)
   refine J.slot 2 (.slice (some ⟨b2, off2, none⟩) os.length oc) rfl (by rw [hqo]) ?_
   refine J.openGroup g (SK m fw i f).1 (SK m fw i f).2 [] [] [] fun M => ?_
   refine J.norm rfl ?_
   refine J.openGroupIn M g (SK m fw i f).1 (SK m fw i f).2 [] [] [] fun rp rc ps bp bc mw lm wp wc pm hps hmw hok => ?_
   refine J.norm rfl ?_
   obtain ⟨p, hp⟩ : ∃ p, ps[0]? = some p := ⟨_, List.getElem?_eq_getElem (by omega)⟩
   refine J.slrI (E0 := 29) (sz := 1) (p := rp) (n := ps.length) (c := rc) (xs := ps.map ptrV) fun hsl => ?_
   obtain ⟨b, off, rfl, hrd⟩ := hsl.some_ (by omega)
   refine J.focusI (f := nodeA) (l := ps.zip (SK m fw i f).1) (0) (x := (p, nodeK m fw i f 0)) (zip_get hp hKi) ?_
   refine J.convI (nodeA (p, nodeK m fw i f 0)) (NodeAt p (nodeK m fw i f 0)) (fun _ h => h) ?_
   refine J.draw [11, 12] Try.mixed (by kernel_rfl) fun hR => ?_
   refine RG.p 0 hR rfl (Q.mv rfl) <| RG.p 1 hR rfl (Q.nil_ rfl) <| RG.p 2 hR rfl (Q.fa (n := 0) runUnderlying35 rfl rfl sizeOf30 rfl) ?_
   refine RG.p 3 hR rfl (Q.ldI isAgg30 rfl) ?_
   refine RG.p 4 hR rfl (Q.ia runUnderlying30 sizeOf29 rfl rfl (by omega) (by omega)) <| RG.p 5 hR rfl (Q.ld isAgg29 rfl (((hrd 0 (ptrV p) (by simp [hp])).inI).cast (by simp))) <| RG.p 6 hR rfl (Q.mv rfl) <| RG.p 7 hR rfl (Q.mv rfl) <| RG.p 8 hR rfl (Q.ia runUnderlying22 sizeOf3 rfl rfl (by omega) (by omega)) ?_
   refine RG.p 9 hR rfl (Q.ld isAgg3 rfl (((hrdo i (.int .i64 oz) (by simp [hoz])).inI).cast (by simp))) <| RG.p 10 hR rfl (Q.conv runUnderlying3 runUnderlying5 rfl) ?_
   refine RG.slot 87 (.int .u8 (((byteOf oz).toNat : Nat) : Int)) rfl (by rw [byteOf_eq]) ?_
   refine RG.made 11 hR rfl rfl rfl rfl rfl (C.bslG (l := [_]) runUnderlying41 sizeOf5 zeroValue5 (by decide) rfl rfl rfl rfl rfl) ?_
   rintro b88
   refine RG.callI 12 hR rfl rfl rfl rfl rfl rfl call14 (propose_spec p (nodeK m fw i f 0) (pt b88 (.cells [Value.int .u8 (((byteOf oz).toNat : Nat) : Int)].toArray 5 (0, 0))) (some ⟨b88, 0, none⟩) 1 [byteOf oz] (SlR.ptI rfl) (by show 1 ≤ _; omega) hfK) rfl ?_
   rintro _ _ ⟨k89, rfl, rfl⟩
   refine RG.norm rfl ?_
   refine RG.fin hR rfl ?_
   refine J.norm rfl <| J.then_n <| J.seq ?_
   refine J.convI (NodeAt p (prop (nodeK m fw i f 0) [byteOf oz])) (nodeA (p, prop (nodeK m fw i f 0) [byteOf oz])) (fun _ h => h) ?_
   refine J.unfocusI (f := nodeA) (l := ps.zip (SK m fw i f).1) 0 (p, prop (nodeK m fw i f 0) [byteOf oz]) (by rw [List.length_zip]; omega) ?_
   rw [zip_set hp]
   refine J.shutI (groupL g (some ⟨b, off, none⟩) rc ps bp bc mw lm wp wc pm ((SK m fw i f).1.set 0 (prop (nodeK m fw i f 0) [byteOf oz])) [] [] []) (GroupIn M g ((SK m fw i f).1.set 0 (prop (nodeK m fw i f 0) [byteOf oz])) (SK m fw i f).2 [] [] []) (GroupIn.shut (by rw [List.length_set]; exact hps) hmw hok) ?_
   refine J.shutI [GroupIn M g ((SK m fw i f).1.set 0 (prop (nodeK m fw i f 0) [byteOf oz])) (SK m fw i f).2 [] [] [], M] (GroupAt g ((SK m fw i f).1.set 0 (prop (nodeK m fw i f 0) [byteOf oz])) (SK m fw i f).2 [] [] []) GroupAt.shut ?_
   refine J.convI (GroupAt g ((SK m fw i f).1.set 0 (prop (nodeK m fw i f 0) [byteOf oz])) (SK m fw i f).2 [] [] []) (GroupAt g (qProp (SK m fw i f) 0 (f i)).1 (qProp (SK m fw i f) 0 (f i)).2 [] [] []) (by rw [hqp, hfi]; exact fun _ h => h) ?_
   clear hps hmw hok hp hsl hrd hlK hqp hfi hf
   have hlc := (hstp).len
   obtain ⟨sc, hsc⟩ : ∃ s, (qProp (SK m fw i f) 0 (f i)).1[0]? = some s := ⟨_, List.getElem?_eq_getElem (by omega)⟩
   have hfc := (hstp).fit hsc (by omega) (by omega) (by omega)
   have hqec := qBeat_eq hsc
   obtain ⟨⟨prc, hrc⟩, hbgc⟩ := id (hstp)
   have holc := beat_len sc
   have hsnc := (hrc.sz hsc).isn
   refine J.openGroup g (qProp (SK m fw i f) 0 (f i)).1 (qProp (SK m fw i f) 0 (f i)).2 [] [] [] fun M => ?_
   refine J.norm rfl ?_
   refine J.openGroupIn M g (qProp (SK m fw i f) 0 (f i)).1 (qProp (SK m fw i f) 0 (f i)).2 [] [] [] fun rp rc ps bp bc mw lm wp wc pm hps hmw hok => ?_
   refine J.norm rfl ?_
   obtain ⟨p, hp⟩ : ∃ p, ps[0]? = some p := ⟨_, List.getElem?_eq_getElem (by omega)⟩
   refine J.slrI (E0 := 29) (sz := 1) (p := rp) (n := ps.length) (c := rc) (xs := ps.map ptrV) fun hsl => ?_
   obtain ⟨b, off, rfl, hrd⟩ := hsl.some_ (by omega)
   refine J.focusI (f := nodeA) (l := ps.zip (qProp (SK m fw i f) 0 (f i)).1) (0) (x := (p, sc)) (zip_get hp hsc) ?_
   refine J.convI (nodeA (p, sc)) (NodeAt p sc) (fun _ h => h) ?_
   refine J.region <| J.m rfl <| J.m rfl <| J.p rfl (Q.nil_ rfl) <| J.p rfl (Q.fa (n := 0) runUnderlying35 rfl rfl sizeOf30 rfl) ?_
   refine J.p rfl (Q.ldI isAgg30 rfl) ?_
   refine J.p rfl (Q.ia runUnderlying30 sizeOf29 rfl rfl (by omega) (by omega)) <| J.p rfl (Q.ld isAgg29 rfl (((hrd (0) (ptrV p) (by simp [hp])).inI).cast (by simp))) ?_
   refine J.callI call12 (beat_spec p sc hfc) rfl rfl rfl ?_
   rintro _ _ ⟨qqc, ddc, rfl, rfl⟩
   refine J.norm rfl ?_
   refine J.convI (NodeAt p sc) (nodeA (p, sc)) (fun _ h => h) ?_
   refine J.unfocusI (f := nodeA) (l := ps.zip (qProp (SK m fw i f) 0 (f i)).1) (0) (p, sc) (by rw [List.length_zip]; omega) ?_
   rw [zip_set hp, set_same hsc]
   refine J.shutI (groupL g (some ⟨b, off, none⟩) rc ps bp bc mw lm wp wc pm (qProp (SK m fw i f) 0 (f i)).1 [] [] []) (GroupIn M g (qProp (SK m fw i f) 0 (f i)).1 (qProp (SK m fw i f) 0 (f i)).2 [] [] []) (GroupIn.shut hps hmw hok) ?_
   refine J.shutI [GroupIn M g (qProp (SK m fw i f) 0 (f i)).1 (qProp (SK m fw i f) 0 (f i)).2 [] [] [], M] (GroupAt g (qProp (SK m fw i f) 0 (f i)).1 (qProp (SK m fw i f) 0 (f i)).2 [] [] []) GroupAt.shut ?_
   refine J.callI call9 (gsend_spec g (qProp (SK m fw i f) 0 (f i)).1 (qProp (SK m fw i f) 0 (f i)).2 [] [] [] (0) qqc ddc sc.beat (stat_beat_out hrc hsc) (by omega) (by omega)) rfl rfl rfl ?_
   rintro _ _ ⟨rfl, rfl⟩
   refine J.norm rfl ?_
   refine J.convI (GroupAt g (qProp (SK m fw i f) 0 (f i)).1 (addBag (qProp (SK m fw i f) 0 (f i)).2 sc.beat) [] [] []) (GroupAt g (qBeat (qProp (SK m fw i f) 0 (f i)) (0)).1 (qBeat (qProp (SK m fw i f) 0 (f i)) (0)).2 [] [] []) (by rw [hqec]; exact fun _ h => h) ?_
   clear hlc hfc hqec hrc hbgc holc hsnc hsc hps hmw hok hp hsl hrd
   refine J.nil <| J.then_n <| J.seq <| J.region <| J.m rfl <| J.m rfl ?_
   refine J.callI call15 (part_spec g m (10001 + 5001 * i + 1) fw (qBeat (qProp (SK m fw i f) 0 (f i)) 0) (StatQ.beat (i := 0) hstp) (by omega) (by omega) (by rw [hnx]; rfl)) rfl rfl rfl ?_
   rintro _ _ ⟨rfl, rfl⟩
   refine J.norm rfl ?_
   rw [hnx]
   refine J.p rfl (Q.not rfl) <| J.nil <| J.then_n ?_
   refine J.cases 102 rfl (fun hc102 => ?_) (fun hc102 => ?_)
   ·
    cases hc102
   replace hc102 := X.nm hc102
   refine J.cond_f rfl <| J.cskip <| J.blk_n <| J.then_n <| J.region <| J.m rfl <| J.p rfl (Q.add64 rfl rfl (by omega)) <| J.p rfl (Q.asg rfl) <| J.nil ?_
   refine J.convI (GroupAt g (SK m fw (i + 1) f).1 [] [] [] []) (GroupAt g (SK m fw (i + 1) f).1 (SK m fw (i + 1) f).2 [] [] []) (fun _ h => h) ?_
   refine J.againI (i + 1) ⟨by show i + 1 ≤ os.length; omega, by rw [← hnx]; exact (StatQ.part (StatQ.beat (i := 0) hstp)).up (by omega)⟩ (by show os.length - (i + 1) < os.length - i; omega) ⟨rfl, rfl, (by show _ = some (Value.slice op os.length oc); rw [hqo]; rfl), rfl, rfl, rfl, trivial⟩
  refine J.cond_f rfl <| J.exit <| J.then_x <| J.lp_x <| J.blk_x <| J.then_n <| J.seq <| J.seq <| J.region <| J.p rfl (Q.asg rfl) <| J.nil <| J.then_n <| J.block ?_
  have hfin := fin_of (hqk.fin f i (by omega))
  have hlK := hst.len
  refine J.loop (fun j : Nat => j ≤ fw) (fun j => fw - j) (fun j => [(0, .int .i64 (m : Nat)), (1, .int .i64 (fw : Nat)), (7, .pointer (some ⟨g, 0, none⟩)), (8, .int .i64 ((1 : Nat) : Int)), (10, .int .i64 (j : Nat))]) (fun j => [GroupAt g (SK m fw i f).1 (SK m fw i f).2 [] [] [], G, F]) 0 (Nat.zero_le _) ⟨rfl, rfl, rfl, rfl, rfl, trivial⟩ rfl fun j hj => ?_
  refine J.seq <| J.seq <| J.region <| J.m rfl <| J.m rfl <| J.p rfl (Q.lss rfl rfl) <| J.nil <| J.then_n ?_
  refine J.kases 105 rfl (fun hc105 => ?_) (fun hc105 => ?_)
  ·
   refine J.cond_t rfl <| J.cskip <| J.then_n <| J.seq <| J.block <| J.seq ?_
   have hKj := SK_get (n := m) (few := fw) (k := i) (i := j) (f := f) (by omega)
   refine J.openGroup g (SK m fw i f).1 (SK m fw i f).2 [] [] [] fun M => ?_
   refine J.norm rfl ?_
   refine J.openGroupIn M g (SK m fw i f).1 (SK m fw i f).2 [] [] [] fun rp rc ps bp bc mw lm wp wc pm hps hmw hok => ?_
   refine J.norm rfl ?_
   obtain ⟨p, hp⟩ : ∃ p, ps[j]? = some p := ⟨_, List.getElem?_eq_getElem (by omega)⟩
   refine J.slrI (E0 := 29) (sz := 1) (p := rp) (n := ps.length) (c := rc) (xs := ps.map ptrV) fun hsl => ?_
   obtain ⟨b, off, rfl, hrd⟩ := hsl.some_ (by omega)
   refine J.focusI (f := nodeA) (l := ps.zip (SK m fw i f).1) (j) (x := (p, nodeK m fw i f j)) (zip_get hp hKj) ?_
   refine J.convI (nodeA (p, nodeK m fw i f j)) (NodeAt p (nodeK m fw i f j)) (fun _ h => h) ?_
   refine J.region <| J.m rfl <| J.p rfl (Q.nil_ rfl) <| J.p rfl (Q.fa (n := 0) runUnderlying35 rfl rfl sizeOf30 rfl) ?_
   refine J.p rfl (Q.ldI isAgg30 rfl) ?_
   refine J.m rfl <| J.p rfl (Q.ia runUnderlying30 sizeOf29 rfl rfl (by omega) (by omega)) <| J.p rfl (Q.ld isAgg29 rfl (((hrd j (ptrV p) (by simp [hp])).inI).cast (by simp))) ?_
   refine J.callI call13 (committed_spec p (nodeK m fw i f j)) rfl rfl rfl ?_
   rintro _ _ ⟨rfl, rfl⟩
   refine J.norm rfl ?_
   rw [nodeK_commit]
   refine J.m rfl <| J.p rfl (Q.neq rfl rfl) <| J.nil <| J.then_n ?_
   refine J.cases 117 rfl (fun hc117 => ?_) (fun hc117 => ?_)
   ·
    replace hc117 := X.nm hc117; exact absurd rfl hc117
   replace hc117 := X.nm hc117
   refine J.cond_f rfl <| J.cskip <| J.blk_n <| J.then_n <| J.region <| J.m rfl <| J.p rfl (Q.add64 rfl rfl (by omega)) <| J.p rfl (Q.asg rfl) <| J.nil ?_
   refine J.convI (NodeAt p (nodeK m fw i f j)) (nodeA (p, nodeK m fw i f j)) (fun _ h => h) ?_
   refine J.unfocusI (f := nodeA) (l := ps.zip (SK m fw i f).1) (j) (p, nodeK m fw i f j) (by rw [List.length_zip]; omega) ?_
   rw [zip_set hp, set_same hKj]
   refine J.shutI (groupL g (some ⟨b, off, none⟩) rc ps bp bc mw lm wp wc pm (SK m fw i f).1 [] [] []) (GroupIn M g (SK m fw i f).1 (SK m fw i f).2 [] [] []) (GroupIn.shut hps hmw hok) ?_
   refine J.shutI [GroupIn M g (SK m fw i f).1 (SK m fw i f).2 [] [] [], M] (GroupAt g (SK m fw i f).1 (SK m fw i f).2 [] [] []) GroupAt.shut ?_
   clear hps hmw hok hp hsl hrd
   refine J.againI (j + 1) (by show j + 1 ≤ fw; omega) (by show fw - (j + 1) < fw - j; omega) ⟨rfl, rfl, rfl, rfl, rfl, trivial⟩
  refine J.cond_f rfl <| J.exit <| J.then_x <| J.lp_x <| J.blk_x <| J.then_n <| J.seq <| J.region <| J.m rfl <| J.p rfl (Q.sub64 rfl rfl (by omega)) ?_
  refine J.slot 119 (.int .i64 ((m - 1 : Nat) : Int)) rfl (by have h119 : ((m : Int) - 1) = ((m - 1 : Nat) : Int) := (by omega); rw [h119]) ?_
  refine J.p rfl (Q.asg rfl) <| J.nil <| J.then_n <| J.seq ?_
  have hlx := (hst).len
  obtain ⟨sx, hsx⟩ : ∃ s, (SK m fw i f).1[m - 1]? = some s := ⟨_, List.getElem?_eq_getElem (by omega)⟩
  have hfx := (hst).fit hsx (by omega) (by omega) (by omega)
  have hqex := qElect_eq hsx
  obtain ⟨⟨prx, hrx⟩, hbgx⟩ := id (hst)
  have holx := elect_len sx
  have hsnx := (hrx.sz hsx).isn
  refine J.openGroup g (SK m fw i f).1 (SK m fw i f).2 [] [] [] fun M => ?_
  refine J.norm rfl ?_
  refine J.openGroupIn M g (SK m fw i f).1 (SK m fw i f).2 [] [] [] fun rp rc ps bp bc mw lm wp wc pm hps hmw hok => ?_
  refine J.norm rfl ?_
  obtain ⟨p, hp⟩ : ∃ p, ps[m - 1]? = some p := ⟨_, List.getElem?_eq_getElem (by omega)⟩
  refine J.slrI (E0 := 29) (sz := 1) (p := rp) (n := ps.length) (c := rc) (xs := ps.map ptrV) fun hsl => ?_
  obtain ⟨b, off, rfl, hrd⟩ := hsl.some_ (by omega)
  refine J.focusI (f := nodeA) (l := ps.zip (SK m fw i f).1) (m - 1) (x := (p, sx)) (zip_get hp hsx) ?_
  refine J.convI (nodeA (p, sx)) (NodeAt p sx) (fun _ h => h) ?_
  refine J.region <| J.m rfl <| J.m rfl <| J.m rfl <| J.p rfl (Q.nil_ rfl) <| J.p rfl (Q.fa (n := 0) runUnderlying35 rfl rfl sizeOf30 rfl) ?_
  refine J.p rfl (Q.ldI isAgg30 rfl) ?_
  refine J.m rfl <| J.p rfl (Q.ia runUnderlying30 sizeOf29 rfl rfl (by omega) (by omega)) <| J.p rfl (Q.ld isAgg29 rfl (((hrd (m - 1) (ptrV p) (by simp [hp])).inI).cast (by simp))) ?_
  refine J.callI call10 (elect_spec p sx hfx) rfl rfl rfl ?_
  rintro _ _ ⟨qqx, ddx, rfl, rfl⟩
  refine J.norm rfl ?_
  refine J.convI (NodeAt p sx.elect.1) (nodeA (p, sx.elect.1)) (fun _ h => h) ?_
  refine J.unfocusI (f := nodeA) (l := ps.zip (SK m fw i f).1) (m - 1) (p, sx.elect.1) (by rw [List.length_zip]; omega) ?_
  rw [zip_set hp]
  refine J.shutI (groupL g (some ⟨b, off, none⟩) rc ps bp bc mw lm wp wc pm ((SK m fw i f).1.set (m - 1) sx.elect.1) [] [] []) (GroupIn M g ((SK m fw i f).1.set (m - 1) sx.elect.1) (SK m fw i f).2 [] [] []) (GroupIn.shut (by rw [List.length_set]; exact hps) hmw hok) ?_
  refine J.shutI [GroupIn M g ((SK m fw i f).1.set (m - 1) sx.elect.1) (SK m fw i f).2 [] [] [], M] (GroupAt g ((SK m fw i f).1.set (m - 1) sx.elect.1) (SK m fw i f).2 [] [] []) GroupAt.shut ?_
  refine J.callI call9 (gsend_spec g ((SK m fw i f).1.set (m - 1) sx.elect.1) (SK m fw i f).2 [] [] [] (m - 1) qqx ddx sx.elect.2 (by rw [List.length_set]; exact stat_elect_out hrx hsx) (by omega) (by omega)) rfl rfl rfl ?_
  rintro _ _ ⟨rfl, rfl⟩
  refine J.norm rfl ?_
  refine J.convI (GroupAt g ((SK m fw i f).1.set (m - 1) sx.elect.1) (addBag (SK m fw i f).2 sx.elect.2) [] [] []) (GroupAt g (qElect (SK m fw i f) (m - 1)).1 (qElect (SK m fw i f) (m - 1)).2 [] [] []) (by rw [hqex]; exact fun _ h => h) ?_
  clear hlx hfx hqex hrx hbgx holx hsnx hsx hps hmw hok hp hsl hrd
  refine J.nil <| J.then_n <| J.seq <| J.seq ?_
  obtain ⟨Q3, hQ3⟩ : ∃ Q, Q = q3 m fw (SK m fw i f) := ⟨_, rfl⟩
  obtain ⟨f3, ⟨s3, nx, mt, h3s, h3l, h3n⟩, f4, ⟨s4, h4s, h4c⟩, f5, fl5⟩ := hfin
  rw [← hQ3] at f3 h3s f4 h4s f5 fl5
  have hst4 : StatQ m (10001 + 5001 * i + 5001) Q3 := by rw [hQ3]; exact StatQ.part (StatQ.elect (i := m - 1) hst)
  have hQ3' : qPart fw (qElect (SK m fw i f) (m - 1)) = Q3 := hQ3.symm
  refine J.region <| J.m rfl <| J.m rfl ?_
  refine J.callI call15 (part_spec g m (10001 + 5001 * i + 1) fw (qElect (SK m fw i f) (m - 1)) (StatQ.elect (i := m - 1) hst) (by omega) (by omega) (by rw [hQ3']; exact f3)) rfl rfl rfl ?_
  rintro _ _ ⟨rfl, rfl⟩
  refine J.norm rfl ?_
  rw [hQ3']
  refine J.p rfl (Q.not rfl) <| J.nil <| J.then_n ?_
  refine J.cases 134 rfl (fun hc134 => ?_) (fun hc134 => ?_)
  ·
   cases hc134
  replace hc134 := X.nm hc134
  refine J.cond_f rfl <| J.cskip <| J.then_n <| J.seq ?_
  refine J.convI (GroupAt g (Q3).1 [] [] [] []) (GroupAt g (Q3).1 (Q3).2 [] [] []) (by rw [show (Q3).2 = [] from f3]; exact fun _ h => h) ?_
  have hl4 := hst4.len
  have hf4 := hst4.fit h3s (by omega) (by omega) (by omega)
  have hpe : prop s3 newB = s3.add nx mt newB := by unfold prop; rw [h3l]
  have hqp := qProp_eq (b := newB) h3s
  obtain ⟨P4, hP4⟩ : ∃ P, P = qProp Q3 (m - 1) newB := ⟨_, rfl⟩
  have hst5 : StatQ m (10001 + 5001 * i + 5002) P4 := by rw [hP4]; exact hst4.prop (Nat.le_refl _)
  refine J.openGroup g (Q3).1 (Q3).2 [] [] [] fun M => ?_
  refine J.norm rfl ?_
  refine J.openGroupIn M g (Q3).1 (Q3).2 [] [] [] fun rp rc ps bp bc mw lm wp wc pm hps hmw hok => ?_
  refine J.norm rfl ?_
  obtain ⟨p, hp⟩ : ∃ p, ps[m - 1]? = some p := ⟨_, List.getElem?_eq_getElem (by omega)⟩
  refine J.slrI (E0 := 29) (sz := 1) (p := rp) (n := ps.length) (c := rc) (xs := ps.map ptrV) fun hsl => ?_
  obtain ⟨b, off, rfl, hrd⟩ := hsl.some_ (by omega)
  refine J.focusI (f := nodeA) (l := ps.zip (Q3).1) (m - 1) (x := (p, s3)) (zip_get hp h3s) ?_
  refine J.convI (nodeA (p, s3)) (NodeAt p (s3)) (fun _ h => h) ?_
  refine J.region <| J.m rfl <| J.p rfl (Q.nil_ rfl) <| J.p rfl (Q.fa (n := 0) runUnderlying35 rfl rfl sizeOf30 rfl) ?_
  refine J.p rfl (Q.ldI isAgg30 rfl) ?_
  refine J.m rfl <| J.p rfl (Q.ia runUnderlying30 sizeOf29 rfl rfl (by omega) (by omega)) <| J.p rfl (Q.ld isAgg29 rfl (((hrd (m - 1) (ptrV p) (by simp [hp])).inI).cast (by simp))) ?_
  refine J.c rfl rfl (C.bslG (l := [_, _, _]) runUnderlying41 sizeOf5 zeroValue5 (by decide) rfl rfl rfl rfl rfl) ?_
  rintro _ _ ⟨b143, rfl, rfl⟩
  refine J.norm rfl ?_
  refine J.c rfl rfl (C.stringish (i := 0) runUnderlying41 runUnderlying5 rfl rfl rfl) ?_
  rintro _ _ ⟨rfl, rfl⟩
  refine J.norm rfl ?_
  refine J.callI call14 (propose_some p s3 (pt b143 (.cells [Value.int .u8 110, .int .u8 101, .int .u8 119].toArray 5 ([Value.int .u8 110, .int .u8 101, .int .u8 119].length, [Value.int .u8 110, .int .u8 101, .int .u8 119].length + 1))) (some ⟨b143, 0, none⟩) 3 newB (SlR.ptI rfl) (by show 3 ≤ _; omega) nx mt h3l hf4) rfl rfl rfl ?_
  rintro _ _ ⟨rfl, rfl⟩
  refine J.norm rfl ?_
  rw [h3n]
  refine J.m rfl <| J.p rfl (Q.ext rfl rfl) <| J.p rfl (Q.ext rfl rfl) <| J.p rfl (Q.asg rfl) <| J.p rfl (Q.asg rfl) <| J.nil <| J.then_n <| J.seq ?_
  refine J.convI (NodeAt p (s3.add nx mt newB)) (nodeA (p, s3.add nx mt newB)) (fun _ h => h) ?_
  refine J.unfocusI (f := nodeA) (l := ps.zip Q3.1) (m - 1) (p, s3.add nx mt newB) (by rw [List.length_zip]; omega) ?_
  rw [zip_set hp]
  refine J.shutI (groupL g (some ⟨b, off, none⟩) rc ps bp bc mw lm wp wc pm (Q3.1.set (m - 1) (s3.add nx mt newB)) [] [] []) (GroupIn M g (Q3.1.set (m - 1) (s3.add nx mt newB)) Q3.2 [] [] []) (GroupIn.shut (by rw [List.length_set]; exact hps) hmw hok) ?_
  refine J.shutI [GroupIn M g (Q3.1.set (m - 1) (s3.add nx mt newB)) Q3.2 [] [] [], M] (GroupAt g (Q3.1.set (m - 1) (s3.add nx mt newB)) Q3.2 [] [] []) GroupAt.shut ?_
  refine J.convI (GroupAt g (Q3.1.set (m - 1) (s3.add nx mt newB)) Q3.2 [] [] []) (GroupAt g P4.1 P4.2 [] [] []) (by rw [hP4, hqp, hpe]; exact fun _ h => h) ?_
  clear hps hmw hok hp hsl hrd hl4 h3n hpe hqp
  have hle := (hst5).len
  obtain ⟨se, hse⟩ : ∃ s, (P4).1[m - 1]? = some s := ⟨_, List.getElem?_eq_getElem (by omega)⟩
  have hfe := (hst5).fit hse (by omega) (by omega) (by omega)
  have hqee := qBeat_eq hse
  obtain ⟨⟨pre, hre⟩, hbge⟩ := id (hst5)
  have hole := beat_len se
  have hsne := (hre.sz hse).isn
  refine J.openGroup g (P4).1 (P4).2 [] [] [] fun M => ?_
  refine J.norm rfl ?_
  refine J.openGroupIn M g (P4).1 (P4).2 [] [] [] fun rp rc ps bp bc mw lm wp wc pm hps hmw hok => ?_
  refine J.norm rfl ?_
  obtain ⟨p, hp⟩ : ∃ p, ps[m - 1]? = some p := ⟨_, List.getElem?_eq_getElem (by omega)⟩
  refine J.slrI (E0 := 29) (sz := 1) (p := rp) (n := ps.length) (c := rc) (xs := ps.map ptrV) fun hsl => ?_
  obtain ⟨b, off, rfl, hrd⟩ := hsl.some_ (by omega)
  refine J.focusI (f := nodeA) (l := ps.zip (P4).1) (m - 1) (x := (p, se)) (zip_get hp hse) ?_
  refine J.convI (nodeA (p, se)) (NodeAt p se) (fun _ h => h) ?_
  refine J.region <| J.m rfl <| J.m rfl <| J.m rfl <| J.p rfl (Q.nil_ rfl) <| J.p rfl (Q.fa (n := 0) runUnderlying35 rfl rfl sizeOf30 rfl) ?_
  refine J.p rfl (Q.ldI isAgg30 rfl) ?_
  refine J.m rfl <| J.p rfl (Q.ia runUnderlying30 sizeOf29 rfl rfl (by omega) (by omega)) <| J.p rfl (Q.ld isAgg29 rfl (((hrd (m - 1) (ptrV p) (by simp [hp])).inI).cast (by simp))) ?_
  refine J.callI call12 (beat_spec p se hfe) rfl rfl rfl ?_
  rintro _ _ ⟨qqe, dde, rfl, rfl⟩
  refine J.norm rfl ?_
  refine J.convI (NodeAt p se) (nodeA (p, se)) (fun _ h => h) ?_
  refine J.unfocusI (f := nodeA) (l := ps.zip (P4).1) (m - 1) (p, se) (by rw [List.length_zip]; omega) ?_
  rw [zip_set hp, set_same hse]
  refine J.shutI (groupL g (some ⟨b, off, none⟩) rc ps bp bc mw lm wp wc pm (P4).1 [] [] []) (GroupIn M g (P4).1 (P4).2 [] [] []) (GroupIn.shut hps hmw hok) ?_
  refine J.shutI [GroupIn M g (P4).1 (P4).2 [] [] [], M] (GroupAt g (P4).1 (P4).2 [] [] []) GroupAt.shut ?_
  refine J.callI call9 (gsend_spec g (P4).1 (P4).2 [] [] [] (m - 1) qqe dde se.beat (stat_beat_out hre hse) (by omega) (by omega)) rfl rfl rfl ?_
  rintro _ _ ⟨rfl, rfl⟩
  refine J.norm rfl ?_
  refine J.convI (GroupAt g (P4).1 (addBag (P4).2 se.beat) [] [] []) (GroupAt g (qBeat (P4) (m - 1)).1 (qBeat (P4) (m - 1)).2 [] [] []) (by rw [hqee]; exact fun _ h => h) ?_
  clear hle hfe hqee hre hbge hole hsne hse hps hmw hok hp hsl hrd
  refine J.nil <| J.then_n <| J.seq <| J.seq ?_
  obtain ⟨Q4, hQ4⟩ : ∃ Q, Q = q4 m fw Q3 := ⟨_, rfl⟩
  rw [← hQ4] at f4 h4s f5 fl5
  have hQ4' : qPart fw (qBeat P4 (m - 1)) = Q4 := by rw [hQ4, hP4]; rfl
  have hst6 : StatQ m (10001 + 5001 * i + 10002) Q4 := by rw [← hQ4']; exact StatQ.part (StatQ.beat (i := m - 1) hst5)
  have hl6 := hst6.len
  refine J.region <| J.m rfl <| J.p rfl (Q.neq rfl rfl) <| J.m rfl ?_
  refine J.cases 161 rfl (fun hb161 => ?_) (fun hb161 => ?_)
  ·
   replace hb161 := X.nm hb161; exact absurd rfl hb161
  replace hb161 := X.nm hb161
  refine J.m rfl <| J.m rfl ?_
  refine J.callI call15 (part_spec g m (10001 + 5001 * i + 5002) fw (qBeat P4 (m - 1)) (StatQ.beat (i := m - 1) hst5) (by omega) (by omega) (by rw [hQ4']; exact f4)) rfl rfl rfl ?_
  rintro _ _ ⟨rfl, rfl⟩
  refine J.norm rfl ?_
  rw [hQ4']
  refine J.p rfl (Q.not rfl) <| J.p rfl (Q.pick_f rfl rfl) <| J.m rfl ?_
  refine J.cases 167 rfl (fun hb167 => ?_) (fun hb167 => ?_)
  ·
   cases hb167
  replace hb167 := X.nm hb167
  refine J.convI (GroupAt g (Q4).1 [] [] [] []) (GroupAt g (Q4).1 (Q4).2 [] [] []) (by rw [show (Q4).2 = [] from f4]; exact fun _ h => h) ?_
  refine J.openGroup g (Q4).1 (Q4).2 [] [] [] fun M => ?_
  refine J.norm rfl ?_
  refine J.openGroupIn M g (Q4).1 (Q4).2 [] [] [] fun rp rc ps bp bc mw lm wp wc pm hps hmw hok => ?_
  refine J.norm rfl ?_
  obtain ⟨p, hp⟩ : ∃ p, ps[m - 1]? = some p := ⟨_, List.getElem?_eq_getElem (by omega)⟩
  refine J.slrI (E0 := 29) (sz := 1) (p := rp) (n := ps.length) (c := rc) (xs := ps.map ptrV) fun hsl => ?_
  obtain ⟨b, off, rfl, hrd⟩ := hsl.some_ (by omega)
  refine J.focusI (f := nodeA) (l := ps.zip (Q4).1) (m - 1) (x := (p, s4)) (zip_get hp h4s) ?_
  refine J.convI (nodeA (p, s4)) (NodeAt p (s4)) (fun _ h => h) ?_
  refine J.m rfl <| J.p rfl (Q.nil_ rfl) <| J.p rfl (Q.fa (n := 0) runUnderlying35 rfl rfl sizeOf30 rfl) ?_
  refine J.p rfl (Q.ldI isAgg30 rfl) ?_
  refine J.m rfl <| J.p rfl (Q.ia runUnderlying30 sizeOf29 rfl rfl (by omega) (by omega)) <| J.p rfl (Q.ld isAgg29 rfl (((hrd (m - 1) (ptrV p) (by simp [hp])).inI).cast (by simp))) ?_
  refine J.callI call13 (committed_spec p s4) rfl rfl rfl ?_
  rintro _ _ ⟨rfl, rfl⟩
  refine J.norm rfl <| J.m rfl <| J.p rfl (Q.lss rfl rfl) <| J.p rfl (Q.pick_f rfl rfl) <| J.nil <| J.then_n ?_
  refine J.cases 178 rfl (fun hc178 => ?_) (fun hc178 => ?_)
  ·
   replace hc178 := X.nm hc178; exfalso; omega
  replace hc178 := X.nm hc178
  refine J.cond_f rfl <| J.cskip <| J.then_n <| J.seq <| J.seq <| J.region <| J.p rfl (Q.asg rfl) <| J.nil <| J.then_n <| J.block ?_
  refine J.convI (NodeAt p (s4)) (nodeA (p, s4)) (fun _ h => h) ?_
  refine J.unfocusI (f := nodeA) (l := ps.zip (Q4).1) (m - 1) (p, s4) (by rw [List.length_zip]; omega) ?_
  rw [zip_set hp, set_same h4s]
  refine J.shutI (groupL g (some ⟨b, off, none⟩) rc ps bp bc mw lm wp wc pm (Q4).1 [] [] []) (GroupIn M g (Q4).1 (Q4).2 [] [] []) (GroupIn.shut hps hmw hok) ?_
  refine J.shutI [GroupIn M g (Q4).1 (Q4).2 [] [] [], M] (GroupAt g (Q4).1 (Q4).2 [] [] []) GroupAt.shut ?_
  clear hps hmw hok hp hsl hrd
  refine J.keepI [GroupAt g Q4.1 Q4.2 [] [] [], G, F] ?_
  have hb5 : ∀ j, j ≤ 3 → (q5 m j Q4).2 = [] := fun j hj => by
   cases j with
   | zero => exact f4
   | succ k => exact f5 k (by omega)
  refine J.loop (fun j : Nat => j ≤ 3 ∧ StatQ m (10001 + 5001 * i + 10002 + 5000 * j) (q5 m j Q4)) (fun j => 3 - j) (fun j => [(0, .int .i64 (m : Nat)), (7, .pointer (some ⟨g, 0, none⟩)), (11, .int .i64 ((m - 1 : Nat) : Int)), (12, .int .i64 ((3 : Nat) : Int)), (14, .int .i64 (j : Nat))]) (fun j => [GroupAt g (q5 m j Q4).1 (q5 m j Q4).2 [] [] [], G, F]) 0 ⟨Nat.zero_le _, hst6⟩ ⟨rfl, rfl, rfl, rfl, rfl, trivial⟩ rfl fun j hj => ?_
  obtain ⟨hj, hstj⟩ := hj
  refine J.seq <| J.seq <| J.region <| J.m rfl <| J.p rfl (Q.lss rfl rfl) <| J.nil <| J.then_n ?_
  refine J.kases 180 rfl (fun hc180 => ?_) (fun hc180 => ?_)
  ·
   refine J.cond_t rfl <| J.cskip <| J.then_n <| J.seq <| J.block <| J.seq ?_
   have hlh := (hstj).len
   obtain ⟨sh, hsh⟩ : ∃ s, (q5 m j Q4).1[m - 1]? = some s := ⟨_, List.getElem?_eq_getElem (by omega)⟩
   have hfh := (hstj).fit hsh (by omega) (by omega) (by omega)
   have hqeh := qBeat_eq hsh
   obtain ⟨⟨prh, hrh⟩, hbgh⟩ := id (hstj)
   have holh := beat_len sh
   have hsnh := (hrh.sz hsh).isn
   refine J.openGroup g (q5 m j Q4).1 (q5 m j Q4).2 [] [] [] fun M => ?_
   refine J.norm rfl ?_
   refine J.openGroupIn M g (q5 m j Q4).1 (q5 m j Q4).2 [] [] [] fun rp rc ps bp bc mw lm wp wc pm hps hmw hok => ?_
   refine J.norm rfl ?_
   obtain ⟨p, hp⟩ : ∃ p, ps[m - 1]? = some p := ⟨_, List.getElem?_eq_getElem (by omega)⟩
   refine J.slrI (E0 := 29) (sz := 1) (p := rp) (n := ps.length) (c := rc) (xs := ps.map ptrV) fun hsl => ?_
   obtain ⟨b, off, rfl, hrd⟩ := hsl.some_ (by omega)
   refine J.focusI (f := nodeA) (l := ps.zip (q5 m j Q4).1) (m - 1) (x := (p, sh)) (zip_get hp hsh) ?_
   refine J.convI (nodeA (p, sh)) (NodeAt p sh) (fun _ h => h) ?_
   refine J.region <| J.m rfl <| J.m rfl <| J.m rfl <| J.p rfl (Q.nil_ rfl) <| J.p rfl (Q.fa (n := 0) runUnderlying35 rfl rfl sizeOf30 rfl) ?_
   refine J.p rfl (Q.ldI isAgg30 rfl) ?_
   refine J.m rfl <| J.p rfl (Q.ia runUnderlying30 sizeOf29 rfl rfl (by omega) (by omega)) <| J.p rfl (Q.ld isAgg29 rfl (((hrd (m - 1) (ptrV p) (by simp [hp])).inI).cast (by simp))) ?_
   refine J.callI call12 (beat_spec p sh hfh) rfl rfl rfl ?_
   rintro _ _ ⟨qqh, ddh, rfl, rfl⟩
   refine J.norm rfl ?_
   refine J.convI (NodeAt p sh) (nodeA (p, sh)) (fun _ h => h) ?_
   refine J.unfocusI (f := nodeA) (l := ps.zip (q5 m j Q4).1) (m - 1) (p, sh) (by rw [List.length_zip]; omega) ?_
   rw [zip_set hp, set_same hsh]
   refine J.shutI (groupL g (some ⟨b, off, none⟩) rc ps bp bc mw lm wp wc pm (q5 m j Q4).1 [] [] []) (GroupIn M g (q5 m j Q4).1 (q5 m j Q4).2 [] [] []) (GroupIn.shut hps hmw hok) ?_
   refine J.shutI [GroupIn M g (q5 m j Q4).1 (q5 m j Q4).2 [] [] [], M] (GroupAt g (q5 m j Q4).1 (q5 m j Q4).2 [] [] []) GroupAt.shut ?_
   refine J.callI call9 (gsend_spec g (q5 m j Q4).1 (q5 m j Q4).2 [] [] [] (m - 1) qqh ddh sh.beat (stat_beat_out hrh hsh) (by omega) (by omega)) rfl rfl rfl ?_
   rintro _ _ ⟨rfl, rfl⟩
   refine J.norm rfl ?_
   refine J.convI (GroupAt g (q5 m j Q4).1 (addBag (q5 m j Q4).2 sh.beat) [] [] []) (GroupAt g (qBeat (q5 m j Q4) (m - 1)).1 (qBeat (q5 m j Q4) (m - 1)).2 [] [] []) (by rw [hqeh]; exact fun _ h => h) ?_
   clear hlh hfh hqeh hrh hbgh holh hsnh hsh hps hmw hok hp hsl hrd
   refine J.nil <| J.then_n <| J.seq ?_
   have hnj : qAll (qBeat (q5 m j Q4) (m - 1)) = q5 m (j + 1) Q4 := (q5_succ m j Q4).symm
   refine J.region <| J.m rfl ?_
   refine J.callI call11 (settle_spec g m (10001 + 5001 * i + 10002 + 5000 * j) (qBeat (q5 m j Q4) (m - 1)) (StatQ.beat (i := m - 1) hstj) (by omega) (by omega) (by rw [hnj]; exact hb5 (j + 1) (by omega))) rfl rfl rfl ?_
   rintro _ _ ⟨rfl, rfl⟩
   refine J.norm rfl ?_
   rw [hnj]
   refine J.p rfl (Q.not rfl) <| J.nil <| J.then_n ?_
   refine J.cases 196 rfl (fun hc196 => ?_) (fun hc196 => ?_)
   ·
    cases hc196
   replace hc196 := X.nm hc196
   refine J.cond_f rfl <| J.cskip <| J.blk_n <| J.then_n <| J.region <| J.m rfl <| J.p rfl (Q.add64 rfl rfl (by omega)) <| J.p rfl (Q.asg rfl) <| J.nil ?_
   refine J.convI (GroupAt g (q5 m (j + 1) Q4).1 [] [] [] []) (GroupAt g (q5 m (j + 1) Q4).1 (q5 m (j + 1) Q4).2 [] [] []) (by rw [hb5 (j + 1) (by omega)]; exact fun _ h => h) ?_
   refine J.againI (j + 1) ⟨by show j + 1 ≤ 3; omega, by rw [q5_succ]; exact (StatQ.all (StatQ.beat (i := m - 1) hstj)).up (by omega)⟩ (by show 3 - (j + 1) < 3 - j; omega) ⟨rfl, rfl, rfl, rfl, rfl, trivial⟩
  refine J.cond_f rfl <| J.exit <| J.then_x <| J.lp_x <| J.blk_x <| J.then_n <| J.seq <| J.seq <| J.region <| J.p rfl (Q.asg rfl) <| J.nil <| J.then_n <| J.block ?_
  have hj3 : j = 3 := by omega
  subst hj3
  obtain ⟨Q7, hQ7⟩ : ∃ Q, Q = q5 m 3 Q4 := ⟨_, rfl⟩
  rw [← hQ7] at hstj fl5 ⊢
  have hl7 := hstj.len
  obtain ⟨⟨pr7, hr7⟩, _⟩ := id hstj
  refine J.loop (fun k : Nat => k ≤ m) (fun k => m - k) (fun k => [(0, .int .i64 (m : Nat)), (7, .pointer (some ⟨g, 0, none⟩)), (12, .int .i64 ((3 : Nat) : Int)), (15, .int .i64 (k : Nat))]) (fun k => [GroupAt g Q7.1 Q7.2 [] [] [], G, F]) 0 (Nat.zero_le _) ⟨rfl, rfl, rfl, rfl, trivial⟩ rfl fun k hk => ?_
  refine J.seq <| J.seq <| J.region <| J.m rfl <| J.m rfl <| J.p rfl (Q.lss rfl rfl) <| J.nil <| J.then_n ?_
  refine J.kases 199 rfl (fun hc199 => ?_) (fun hc199 => ?_)
  ·
   refine J.cond_t rfl <| J.cskip <| J.then_n <| J.seq <| J.block <| J.seq ?_
   obtain ⟨s7, hs7⟩ : ∃ s, Q7.1[k]? = some s := ⟨_, List.getElem?_eq_getElem (by omega)⟩
   have hsz7 := hr7.sz hs7
   have hcm7 := hsz7.com
   have hln7 := hsz7.len
   obtain ⟨l7, hl7e⟩ := fl5 s7 (List.mem_of_getElem? hs7)
   refine J.openGroup g (Q7).1 (Q7).2 [] [] [] fun M => ?_
   refine J.norm rfl ?_
   refine J.openGroupIn M g (Q7).1 (Q7).2 [] [] [] fun rp rc ps bp bc mw lm wp wc pm hps hmw hok => ?_
   refine J.norm rfl ?_
   obtain ⟨p, hp⟩ : ∃ p, ps[k]? = some p := ⟨_, List.getElem?_eq_getElem (by omega)⟩
   refine J.slrI (E0 := 29) (sz := 1) (p := rp) (n := ps.length) (c := rc) (xs := ps.map ptrV) fun hsl => ?_
   obtain ⟨b, off, rfl, hrd⟩ := hsl.some_ (by omega)
   refine J.focusI (f := nodeA) (l := ps.zip (Q7).1) (k) (x := (p, s7)) (zip_get hp hs7) ?_
   refine J.convI (nodeA (p, s7)) (NodeAt p (s7)) (fun _ h => h) ?_
   refine J.region <| J.m rfl <| J.p rfl (Q.nil_ rfl) <| J.p rfl (Q.fa (n := 0) runUnderlying35 rfl rfl sizeOf30 rfl) ?_
   refine J.p rfl (Q.ldI isAgg30 rfl) ?_
   refine J.m rfl <| J.p rfl (Q.ia runUnderlying30 sizeOf29 rfl rfl (by omega) (by omega)) <| J.p rfl (Q.ld isAgg29 rfl (((hrd k (ptrV p) (by simp [hp])).inI).cast (by simp))) <| J.m rfl ?_
   refine J.callI call16 (entries_spec p s7 3 (by omega) (by omega) hcm7 (by omega)) rfl rfl rfl ?_
   rintro _ _ ⟨q210, d210, rfl, rfl⟩
   refine J.norm rfl ?_
   rw [hl7e]
   refine J.p rfl (Q.asg rfl) <| J.nil <| J.then_n <| J.seq ?_
   refine J.openI (BssAt q210 d210 (newB :: l7)) (fun _ h => h) fun zr hzr => ?_
   refine J.norm rfl ?_
   have hzrl : zr.1.length = (newB :: l7).length := by rw [← hzr.1, List.length_map]
   refine J.slrI (E0 := 41) (sz := 1) (p := q210) (n := (newB :: l7).length) (c := d210) (xs := zr.1.flatMap BW.cells) fun hsr => ?_
   obtain ⟨b3, off3, rfl, hrdr⟩ := hsr.some_ (by simp)
   obtain ⟨w, hw⟩ : ∃ w, zr.1[0]? = some w := ⟨_, List.getElem?_eq_getElem (by rw [hzrl]; simp)⟩
   have hwb : w.bs = newB := by have := hzr.1; rw [List.ext_getElem?_iff] at this; have := this 0; rw [List.getElem?_map, hw] at this; simpa using this
   have hwok := hzr.2 w (List.mem_of_getElem? hw)
   refine J.region <| J.m rfl <| J.p rfl (Q.lenSl runUnderlying32 rfl) <| J.p rfl (Q.lss rfl rfl) <| J.m rfl ?_
   refine J.cases 214 rfl (fun hb214 => ?_) (fun hb214 => ?_)
   ·
    replace hb214 := X.nm hb214; exfalso; simp at hb214; omega
   replace hb214 := X.nm hb214
   refine J.m rfl <| J.p rfl (Q.ia runUnderlying32 sizeOf41 rfl rfl (by omega) (by omega)) <| J.p rfl (Q.ld isAgg41 rfl ((rd_field BW.len hrdr hw (k := 0) (u := .slice w.p w.bs.length w.c) rfl (by simp)).inI)) <| J.p rfl (Q.b2s (bs := w.bs) runUnderlying41 runUnderlying9 runUnderlying5 rfl hwok.rd.inI) <| J.p rfl (Q.neqs rfl rfl) <| J.p rfl (Q.pick_f rfl rfl) ?_
   refine J.nil <| J.then_n ?_
   refine J.cases 220 rfl (fun hc220 => ?_) (fun hc220 => ?_)
   ·
    replace hc220 := X.nm hc220; exact absurd (by rw [hwb]; rfl) hc220
   replace hc220 := X.nm hc220
   refine J.cond_f rfl <| J.cskip <| J.blk_n <| J.then_n <| J.region <| J.m rfl <| J.p rfl (Q.add64 rfl rfl (by omega)) <| J.p rfl (Q.asg rfl) <| J.nil ?_
   refine J.convI (NodeAt p (s7)) (nodeA (p, s7)) (fun _ h => h) ?_
   refine J.unfocusI (f := nodeA) (l := ps.zip (Q7).1) (k) (p, s7) (by rw [List.length_zip]; omega) ?_
   rw [zip_set hp, set_same hs7]
   refine J.shutI (groupL g (some ⟨b, off, none⟩) rc ps bp bc mw lm wp wc pm (Q7).1 [] [] []) (GroupIn M g (Q7).1 (Q7).2 [] [] []) (GroupIn.shut hps hmw hok) ?_
   refine J.shutI [GroupIn M g (Q7).1 (Q7).2 [] [] [], M] (GroupAt g (Q7).1 (Q7).2 [] [] []) GroupAt.shut ?_
   clear hps hmw hok hp hsl hrd
   refine J.againI (k + 1) (by show k + 1 ≤ m; omega) (by show m - (k + 1) < m - k; omega) ⟨rfl, rfl, rfl, rfl, trivial⟩
  refine J.cond_f rfl <| J.exit <| J.then_x <| J.lp_x <| J.blk_x <| J.then_n <| J.seq <| J.region <| J.p rfl (Q.asg rfl) <| J.nil <| J.then_n <| J.cret ?_
  refine J.ret1I [G] rfl rfl ⟨rfl, rfl⟩
end Go.Proofs.Ytgdmfagmpfalbaa
namespace Go.X
set_option linter.unusedSectionVars false
set_option linter.unusedSimpArgs false
set_option linter.unusedVariables false
open Go.RowKit Go.WideShapes Go.ChangeShapes

def old (W : World) : Assn := fun h => ∀ b o, W.heap[b]? = some o → h b = some o

theorem old_start (W : World) : Sat W W ([old W] ++ [fact True]) := by
  refine ⟨rfl, rfl, rfl, ?_⟩
  refine ⟨hp W, fun _ => none, fun b o e => e, ⟨fun _ => none, fun _ => none, ?_, trivial, fun _ => .inl rfl, Sub.refl _, Sub.refl _⟩, fun _ => .inr rfl, Sub.refl _, fun _ _ e => nomatch e⟩
  exact trivial

theorem old_below {W w : World} {F : Assn} (s : Sat W w ([old W] ++ [F])) : Below W.heap.size W w := by
  have hg : ∀ (b : Nat) (o : Obj), W.heap[b]? = some o → w.heap[b]? = some o := by
    obtain ⟨h1, _, a, _, _, u, _⟩ := s.heap
    exact fun b o e => u b o (a b o e)
  have hs : W.heap.size ≤ w.heap.size := by
    rcases Nat.eq_zero_or_pos W.heap.size with h | h
    · omega
    · have h1 := hg (W.heap.size - 1) _ (Array.getElem?_eq_getElem (by omega))
      have := (Array.getElem?_eq_some_iff.1 h1).1
      omega
  refine ⟨s.os, s.tape, s.out, hs, fun k hk => ?_⟩
  rw [hg k _ (Array.getElem?_eq_getElem hk), Array.getElem?_eq_getElem hk]

theorem FSpec.lift {P : Program} {f : FuncId} {args : List Value} {u : Value} {W : World} (h : FSpec P f args [old W] (fun v B => v = u ∧ B = [old W])) :
    Calls P f args.toArray W fun e w' => e = .returned u ∧ Below W.heap.size W w' :=
  (h.call W W (fact True) (old_start W)).mono fun e w' ⟨v, A, he, ⟨hv, hA⟩, s⟩ => by
    subst hv hA; exact ⟨he, old_below s⟩

theorem old_reads {W : World} {b off : Nat} {v : Value} (h : W.cell? ⟨b, off, none⟩ = some v) : Reads [old W] b off v := by
  intro k s
  obtain ⟨h1, _, a, _, _, u, _⟩ := s
  simp only [World.cell?] at h
  split at h
  · rename_i c e z hb
    simp at h
    exact ⟨c, e, z, u _ _ (a _ _ hb), h⟩
  · cases h

theorem wf_has {k : IntKind} {n : Int} (h : (Lit.int k n).wf = true) : k.min ≤ n ∧ n ≤ k.max := by
  simpa [Lit.wf] using h

end Go.X
namespace Go.X
set_option linter.unusedSectionVars false
set_option linter.unusedSimpArgs false
set_option linter.unusedVariables false

end Go.X
namespace Go.X
set_option linter.unusedSectionVars false
set_option linter.unusedSimpArgs false
set_option linter.unusedVariables false
open Go.RowKit Go.WideShapes Go.ChangeShapes

section
variable {P : Program} {H : Type} {enc : TypeId × Value → H} {W : World} {base : Nat} {spare : Nat → Bool} {held : Bool} {fuel : Nat} {t e : TypeId} {v : Value} {x : DataW H × List MemPlace}

theorem cell_plain {a : Addr} {u : Value} (h : W.cell? a = some u) : ∃ b off, a = ⟨b, off, none⟩ := by
  have := World.cell?_spot h
  obtain ⟨b, off, s⟩ := a
  simp only at this; subst this; exact ⟨b, off, rfl⟩

theorem slr_old {a : Addr} {len cap sz : Nat} {xs : List Value} (hl : xs.length = len * sz) (h : ∀ (i : Nat) u, xs[i]? = some u → W.cell? (a.add i) = some u) (hsz : 0 < sz) : SlR [old W] sz (.slice (some a) len cap) xs := by
  rcases Nat.eq_zero_or_pos len with h0 | h0
  · subst h0
    exact .inl ⟨some a, cap, rfl, by simpa using hl⟩
  · have hpos : 0 < xs.length := by rw [hl]; exact Nat.mul_pos h0 hsz
    obtain ⟨u, hu⟩ : ∃ u, xs[0]? = some u := ⟨_, List.getElem?_eq_getElem hpos⟩
    have h1 := h 0 u hu
    rw [show a.add 0 = a from rfl] at h1
    obtain ⟨b, off, rfl⟩ := cell_plain h1
    refine .inr ⟨b, off, len, cap, rfl, hl, fun i w hw => old_reads ?_⟩
    have := h i w hw
    rwa [addr_add] at this

theorem ints_in {k : IntKind} (ht : P.underlying t = some (.slice e)) (he : P.underlying e = some (.int k)) (hc : P.cellsOf e = 1) (h : DataW.trod enc P W base spare held fuel t [v] = some x) :
    ∃ p len cap, ∃ zs : List Int, v = .slice p len cap ∧ len ≤ cap ∧ zs.length = len ∧ SlR [old W] 1 v (zs.map (Value.int k)) ∧ (∀ n ∈ zs, k.min ≤ n ∧ n ≤ k.max) ∧ (x.1 = .nil ∧ len = 0 ∨ ∃ es rs, x.1 = .slice es rs ∧ es.length = len) := by
  rcases open_ints ht he hc h with ⟨hcs, rfl⟩ | ⟨a, len, cap, zs, hcs, _, hl, hm, hz, rfl, hcell, hwz⟩
  · simp at hcs
    subst hcs
    exact ⟨none, 0, 0, [], rfl, Nat.le_refl _, rfl, .inl ⟨none, 0, rfl, rfl⟩, by simp, .inl ⟨rfl, rfl⟩⟩
  · simp at hcs
    subst hcs
    have hlz : len ≤ zs.length := by rw [hz]; split <;> omega
    refine ⟨some a, len, cap, zs.take len, rfl, hl, by simp; omega, slr_old (by simp; omega) ?_ (by omega), fun n hn => wf_has (hwz n (List.mem_of_mem_take hn)), .inr ⟨_, _, rfl, by simp [lits]; omega⟩⟩
    intro i u hu
    have hi : i < len := by
      have := (List.getElem?_eq_some_iff.1 hu).1
      simp at this; omega
    rw [hcell i (by omega)]
    simp [hi] at hu
    obtain ⟨n, hn, rfl⟩ := hu
    simp [List.getD, hn]

end
end Go.X
namespace Go.Proofs.Ytgdmfagmpfalbaa
open Go.Proofs.Try
open Go.X

section
variable {H : Type} {enc : TypeId × Value → H} {W : World} {base : Nat} {spare : Nat → Bool} {held : Bool} {fuel : Nat} {v : Value} {x : DataW H × List MemPlace} {cs : List Value}
theorem cellsInt : Try.prog.cellsOf 3 = 1 := by kernel_rfl
theorem slice_small {t e : TypeId} {p : Option Addr} {len cap : Nat} (ht : Try.prog.underlying t = some (.slice e)) (h : DataW.trod enc Try.prog W base spare held fuel t [.slice p len cap] = some x) : len ≤ 9223372036854775807 := by
  rcases DataW.trod_slice ht h with ⟨hcs, rfl⟩ | ⟨a, l, c, es, rs, n, rfl, hcs, rfl, hb, hl, hm, _⟩
  · simp at hcs; omega
  · simp at hcs
    have : maxLen = 9223372036854775807 := rfl
    omega
end
end Go.Proofs.Ytgdmfagmpfalbaa
namespace Go.Proofs.Ytgdmfagmpfalbaa
open Go.Proofs.Try
open Go.ChangeShapes Go.WideShapes Go.ChangeAt Go.RowKit
open Go.X

namespace raftQuorum
theorem own : ownKnob Try.prog.godebug = none := by kernel_rfl
theorem laidOut : laidOutB Try.prog = true := by kernel_rfl

theorem walk (n few : Int) (os : List Int) (op : Option Addr) (oc : Nat) (W : World) (hro : SlR [old W] 1 (.slice op os.length oc) (os.map (Value.int .i64))) :
    Calls Try.prog 3 #[.int .i64 n, .int .i64 few, .slice op os.length oc] W fun e w' => e = .returned (.bool true) ∧ Below W.heap.size W w' := (quorum_spec (old W) n few os op oc hro).lift

set_option maxRecDepth 100000 in
theorem lifted (os : Os) (started : os.Started) (H : Type) (enc : TypeId × Value → H) :
    ReturnsInHanded {} Try.checked os 3 .any (Rows.raftQuorumSpec.pre6 enc Try.prog Try.f3 Rows.raftQuorumRow.domain false) (Rows.raftQuorumSpec.post enc Try.prog Try.f3 false true false false) := by
  refine returnsInHanded_of_change (C := Try.checked) own started (by kernel_rfl) func3
    (ChangeSpec.witness6 (enc := enc) (C := Try.checked) false ⟨#[], #[.int .i64 0, .int .i64 0, .slice none 0 0], []⟩ 8 (by kernel_rfl) (by kernel_rfl) (by kernel_rfl) (by kernel_rfl)) ?_
  intro W base args ds gs before hval0 hW hcnd _
  have hval : ∀ (j : Nat) t v, Try.f3.params[j]? = some t → args[j]? = some v → Value.okWide Try.prog W .any base t v := hval0
  have hW' := hW
  obtain ⟨p, q, hA0, hV, rfl, hfz, hnd⟩ := hW
  have hA : DataW.TrodAll enc Try.prog W 0 (fun _ => true) true Try.f3.params.toList args.toList ds p := hA0
  rw [Try.params3] at hA hval
  obtain ⟨v0, vs0, d0, ds0, p0, q0, hargs, rfl, rfl, h0, r0⟩ := trodAll_cons hA
  obtain ⟨v1, vs1, d1, ds1, p1, q1, rfl, rfl, rfl, h1, r1⟩ := trodAll_cons r0
  obtain ⟨v2, vs2, d2, ds2, p2, q2, rfl, rfl, rfl, h2, r2⟩ := trodAll_cons r1
  obtain ⟨rfl, rfl, rfl⟩ := trodAll_nil r2
  obtain rfl : args = #[v0, v1, v2] := by cases args; simp_all
  obtain ⟨rfl, rfl⟩ := trodVars_none hV
  obtain ⟨n, rfl⟩ := okWide_int underlying3 (hval 0 3 v0 rfl rfl)
  obtain ⟨few, rfl⟩ := okWide_int underlying3 (hval 1 3 v1 rfl rfl)
  obtain ⟨xa1, xl1, xc1, rfl⟩ := okWide_slice underlying22 (hval 2 22 v2 rfl rfl)
  have lt0 : ∀ x ∈ p0, x.block < W.heap.size := by obtain ⟨m, hm⟩ := h0; exact DataW.trod_lt m _ _ _ hm
  have lt1 : ∀ x ∈ p1, x.block < W.heap.size := by obtain ⟨m, hm⟩ := h1; exact DataW.trod_lt m _ _ _ hm
  have lt2 : ∀ x ∈ p2, x.block < W.heap.size := by obtain ⟨m, hm⟩ := h2; exact DataW.trod_lt m _ _ _ hm
  obtain ⟨np, nc, ns, ev0, hn, hnl⟩ : ∃ (np : Option Addr) (nc : Nat) (ns : List Int), Value.slice xa1 xl1 xc1 = .slice np ns.length nc ∧ SlR [old W] 1 (.slice np ns.length nc) (ns.map (Value.int .i64)) ∧ ns.length ≤ 9223372036854775807 := by
    obtain ⟨m, hm⟩ := h2
    obtain ⟨a, b, c, d, ev, _, e, f, _⟩ := ints_in underlying22 underlying3 cellsInt hm
    have := slice_small underlying22 hm
    cases ev
    subst e
    exact ⟨_, _, d, rfl, f, this⟩
  cases ev0
  clear hA0 hval0 hval
  refine (walk n few ns _ _ W hn).mono fun e W' ⟨he, bel⟩ => ?_
  subst he
  exact ⟨_, rfl, _, _, _, [], _, [], hW', trodAll_mk1 (shut_bool underlying4 _),
    (trodAll_cons_mk (Below.trod laidOut (by kernel_rfl) (of_decide_eq_true (by kernel_rfl)) h0 bel lt0) (trodAll_cons_mk (Below.trod laidOut (by kernel_rfl) (of_decide_eq_true (by kernel_rfl)) h1 bel lt1) (trodAll_cons_mk (Below.trod laidOut (by kernel_rfl) (of_decide_eq_true (by kernel_rfl)) h2 bel lt2) trodAll_mk0))), rfl, bel.frame _, fun h => by cases h⟩

theorem over : Rows.raftQuorumRow.holds Try.pinned (OpenSpec.ofChange Rows.raftQuorumSpec) :=
  OpenClaim.holds_of_wide 3 Try.f3 rfl rfl rfl rfl rfl rfl rfl ⟨rfl, rfl, rfl, rfl, rfl⟩ rfl rfl rfl rfl rfl (by kernel_rfl) func3 (by kernel_rfl)
    (of_decide_eq_true (by kernel_rfl)) (by unfold Func.isWrapper; first | (rw [if_pos (by decide +kernel)]; kernel_rfl) | (rw [if_neg (by decide +kernel)]; exact ⟨rfl, rfl⟩))
    (fun os started H enc _ => lifted os started H enc)
end raftQuorum

theorem raftQuorum_holds : Rows.RaftQuorumSaid := raftQuorum.over
end Go.Proofs.Ytgdmfagmpfalbaa

