/-
  JudgeLate: each of five fixed histories is judged as the law says.
-/
import Derived.KernelRfl
import Derived.ProofKit
import Derived.OpenShut
import Derived.ShutString
import Derived.ChangeOld
import Derived.Below
import Derived.WideShapes
import Derived.ChangeArms
import Derived.Test.YtidbcaimgahllaaLb3
namespace Go.Proofs.Ytidbcaimgahllaa
set_option linter.unusedSectionVars false
set_option linter.unusedSimpArgs false
set_option linter.unusedVariables false
open Go.X
open Go.X.G (Ord3 ord3_nat ord3_int ord3_str ltB sget sput sdel Srtd)

theorem chk_key {o : OM} (h : o.chkB = true) (hk : o.kind ≤ 7) : o.key.size ≤ 1024 := by
  rw [chk_eq] at h
  unfold OM.chkR at h
  repeat' split at h
  all_goals first
    | (simp only [Bool.and_eq_true, decide_eq_true_eq, longB, emp] at h; have e : o.key.data.toList.length = o.key.size := by simp
       first | omega | (have e2 : o.key.data.toList = [] := by simp_all
                        rw [e2] at e; simp at e; omega))
    | (cases h; done)
    | omega

theorem kok_new : BM.kok ⟨[], [], []⟩ := ⟨(fun _ _ h => by cases h), (fun _ _ h => by cases h)⟩
theorem kok_put {k : Nat} {M : BM} (h : M.kok) (b : ByteArray) {o : Objs} (ho : ∀ p, p ∈ o → p.1.size ≤ 1024) (us : List (Nat × UM)) (hu : ∀ n u, sget n us = some u → u.key.size ≤ 1024) (d) : BM.kok ⟨sput ltB b o M.buckets, us, d⟩ := by
  refine ⟨fun n q hq => ?_, hu⟩
  rw [X.G.sget_put ord3_str] at hq
  split at hq
  · cases hq; exact ho
  · exact h.ob n q hq
theorem keys_put {k : Nat} {o : Objs} (hs : Srtd ltB o) (h : ∀ p, p ∈ o → p.1.size ≤ 1024) {a : ByteArray} (ha : a.size ≤ 1024) (d : List UInt8) : ∀ p, p ∈ sput ltB a d o → p.1.size ≤ 1024 := by
  intro p hp
  have := (X.G.sput_perm ord3_str (hs.nodup ord3_str) a d).mem_iff.1 hp
  rcases List.mem_cons.1 this with rfl | h'
  · exact ha
  · exact h p ((List.mem_filter.1 h').1)

theorem act_kok {k : Nat} {M : BM} (hM : M.ok k) (h : M.kok) {o : OM} (hc : o.chkB = true) : (M.act o).2.kok := by
  have hkey := chk_key hc
  unfold BM.act
  split
  · unfold BM.make
    split
    · exact h
    · exact kok_put (k := 0) h _ (by simp) _ h.up _
  split
  · unfold BM.unmake
    split
    · exact h
    · split
      · exact h
      · refine ⟨fun n q hq => ?_, h.up⟩
        rw [X.G.sget_del] at hq
        split at hq
        · cases hq
        · exact h.ob n q hq
  split
  · unfold BM.put
    split
    · exact h
    · rename_i objs hb
      exact kok_put (k := 0) h _ (keys_put (k := 0) (hM.os _ _ hb).1 (h.ob _ _ hb) (hkey (by omega)) _) _ h.up _
  split
  · have : (M.get o).2 = M := by unfold BM.get; repeat' split
                                 all_goals rfl
    rw [this]; exact h
  split
  · unfold BM.delete
    split
    · exact h
    · rename_i objs hb
      split
      · exact h
      · exact kok_put (k := 0) h _ (fun p hp => h.ob _ _ hb p ((List.mem_filter.1 hp).1)) _ h.up _
  split
  · have : (M.list o).2 = M := by unfold BM.list; split <;> rfl
    rw [this]; exact h
  split
  · unfold BM.begin
    split
    · exact h
    · refine ⟨h.ob, fun n u hu => ?_⟩
      rw [X.G.sget_put ord3_nat] at hu
      split at hu
      · cases hu; exact hkey (by omega)
      · exact h.up n u hu
  split
  · unfold BM.part
    split
    · exact h
    · rename_i u0 hu0
      refine ⟨h.ob, fun n u hu => ?_⟩
      rw [X.G.sget_put ord3_nat] at hu
      split at hu
      · cases hu
        show u0.key.size ≤ 1024
        exact h.up _ _ hu0
      · exact h.up n u hu
  split
  · unfold BM.complete
    split
    · exact h
    · rename_i u0 hu0
      split
      · exact h
      · refine kok_put (k := 0) h _ ?_ _ (fun n u hu => ?_) _
        · obtain ⟨objs, hB⟩ := Option.isSome_iff_exists.1 (hM.ps _ _ hu0).2.1
          rw [hB]
          exact keys_put (k := 0) (hM.os _ _ hB).1 (h.ob _ _ hB) (h.up _ _ hu0) _
        · rw [X.G.sget_del] at hu
          split at hu
          · cases hu
          · exact h.up n u hu
  · unfold BM.abort
    split
    · exact h
    · refine ⟨h.ob, fun n u hu => ?_⟩
      rw [X.G.sget_del] at hu
      split at hu
      · cases hu
      · exact h.up n u hu

theorem run_kok {k : Nat} {M : BM} (hM : M.ok k) (h : M.kok) (o : OM) : (M.run o).2.kok := by
  unfold BM.run
  split
  · rename_i hc
    have ha := act_kok hM h hc
    split
    · exact ha
    · split
      · exact h
      · exact ⟨ha.ob, ha.up⟩
  · exact h

variable {k j : Nat} {name : ByteArray} {mine : Nat → Bool} {M N : BM} {o : OM}
end Go.Proofs.Ytidbcaimgahllaa
namespace Go.Proofs.Ytidbcaimgahllaa
set_option linter.unusedSectionVars false
set_option linter.unusedSimpArgs false
set_option linter.unusedVariables false
open Go.X
open Go.X.G (Ord3 ord3_nat ord3_int ord3_str ltB sget sput sdel Srtd MapAt MapHole valRep)

structure PS where
  M : BM
  rs : List RM
  first : List (Nat × Nat)
def PS.step (z : PS) (s : SM) : PS :=
  if s.point then { z with rs := z.rs ++ [st 0] }
  else ⟨(z.M.run s.o).2, z.rs ++ [(z.M.run s.o).1], if (sget s.o.id z.first).getD 0 = 0 then sput ltN s.o.id (z.rs.length + 1) z.first else z.first⟩
def playP (l : List SM) : PS := l.foldl PS.step ⟨⟨[], [], []⟩, [], []⟩
theorem playP_snoc (l : List SM) (s : SM) : playP (l ++ [s]) = (playP l).step s := by simp [playP]
theorem playP_take {l : List SM} {k : Nat} {s : SM} (h : l[k]? = some s) : playP (l.take (k + 1)) = (playP (l.take k)).step s := by
  obtain ⟨h1, h2⟩ := List.getElem?_eq_some_iff.1 h
  rw [List.take_succ_eq_append_getElem h1, h2, playP_snoc]
structure PS.ok (k : Nat) (z : PS) : Prop where
  m : z.M.ok k
  kok : z.M.kok
  srt : Srtd ltN z.first
  len : z.rs.length = k
  small : ∀ r, r ∈ z.rs → r.keys.length ≤ 1000 ∧ r.data.length ≤ 274877906944
theorem PS.ok.step {k : Nat} {z : PS} (h : z.ok k) (s : SM) : (z.step s).ok (k + 1) := by
  unfold PS.step
  split
  · refine ⟨h.m.mono (Nat.le_succ k), h.kok, h.srt, by simp [h.len], fun r hr => ?_⟩
    rcases List.mem_append.1 hr with q | q
    · exact h.small r q
    · rw [List.mem_singleton.1 q]; simp [st]
  · refine ⟨run_ok h.m s.o, run_kok h.m h.kok s.o, ?_, by simp [h.len], fun r hr => ?_⟩
    · dsimp only
      split
      · exact X.G.srtd_put ord3_nat h.srt _ _
      · exact h.srt
    rcases List.mem_append.1 hr with q | q
    · exact h.small r q
    · rw [List.mem_singleton.1 q]; exact run_small h.m s.o
theorem PS.ok.fold : ∀ (l : List SM) {k : Nat} {z : PS}, z.ok k → (l.foldl PS.step z).ok (k + l.length)
  | [], _, _, h => h
  | s :: l, k, z, h => by
    have := PS.ok.fold l (h.step s)
    rw [List.foldl_cons, List.length_cons, show k + (l.length + 1) = k + 1 + l.length by omega]; exact this
theorem playP_ok (l : List SM) : (playP l).ok l.length := by
  have := PS.ok.fold l (k := 0) (z := ⟨⟨[], [], []⟩, [], []⟩) ⟨BM.ok.new, kok_new, List.Pairwise.nil, rfl, by simp⟩
  rwa [Nat.zero_add] at this
theorem getD_enc (o : Option Nat) : (o.map encU).getD (.int .u64 0) = Value.int .u64 ((o.getD 0 : Nat) : Int) := by cases o <;> rfl

structure JM where
  l : List SM
  rs : List RM
  first : List (Nat × Nat)
  asked : List (Nat × Bool)
  before : List (Nat × Nat)
  most : Nat
structure JM.ok (H : JM) : Prop where
  first : Srtd ltN H.first
  asked : Srtd ltN H.asked
  before : Srtd ltN H.before
  len : H.rs.length = H.l.length
  small : H.l.length ≤ 32768
  rs : ∀ r, r ∈ H.rs → r.keys.length ≤ 1000 ∧ r.data.length ≤ 274877906944
structure HZ where
  ws : List SW
  lp : Option Addr
  lc : Nat
  rws : List RW
  rp : Option Addr
  rc : Nat
  f : Nat
  a : Nat
  b : Nat
abbrev HZ.asns (h : Nat) (H : JM) (z : HZ) : List Assn :=
  [pt h (.cells [.slice z.lp z.ws.length z.lc, .slice z.rp z.rws.length z.rc, .map (some z.f), .map (some z.a), .map (some z.b), .int .u64 H.most].toArray 64 (0, 0)), own 34 5 (.slice z.rp z.rws.length z.rc) (z.rws.flatMap RW.cells), star (z.rws.map RW.asn),
   MapAt encU (valRep encU) z.f H.first, MapAt encU (valRep Value.bool) z.a H.asked, MapAt encU (valRep encU) z.b H.before, own 74 10 (.slice z.lp z.ws.length z.lc) (z.ws.flatMap SW.cells), star (z.ws.map SW.asn)]
structure HZ.of (H : JM) (z : HZ) : Prop where
  l : z.ws.map SW.m = H.l
  rs : z.rws.map (·.r) = H.rs
def HAt (h : Nat) (H : JM) : Assn := fun q => ∃ z : HZ, z.of H ∧ HSat q (z.asns h H)
def begM (l : List SM) : JM := ⟨l, (playP l).rs, (playP l).first, [], [], 0⟩
theorem begM_ok {l : List SM} (h : l.length ≤ 32768) : (begM l).ok := by
  have := playP_ok l
  exact ⟨this.srt, List.Pairwise.nil, List.Pairwise.nil, this.len, h, this.small⟩

theorem ok_star {ws : List SW} {i : Nat} {w : SW} (hi : ws[i]? = some w) (h : w.y.ok w.asn) : w.y.ok (star (ws.map SW.asn)) :=
  ⟨h.parts.into i (by rw [List.getElem?_map, hi]; rfl), h.data.into i (by rw [List.getElem?_map, hi]; rfl), h.small⟩

theorem rw_one (r : RW) : ∀ v, v ∈ r.cells → oneC v = true := by
  have := RW.cells_one (l := [r])
  rwa [List.flatMap_cons, List.flatMap_nil, List.append_nil] at this

theorem jbegin_spec (ws : List SW) (lp : Option Addr) (lc : Nat) (hok : ∀ w, w ∈ ws → w.y.ok w.asn) (hn : ws.length ≤ 32768) : FSpec Try.prog 13 [.slice lp ws.length lc] [own 74 10 (.slice lp ws.length lc) (ws.flatMap SW.cells), star (ws.map SW.asn)]
    (fun u B => ∃ h, u = .pointer (some ⟨h, 0, none⟩) ∧ B = [HAt h (begM (ws.map SW.m))]) := by
  refine FSpec.of Try.func13 rfl Try.ntmps13 rfl fun W0 F => ?_
  refine J.slrI (E0 := 74) (sz := 10) (p := lp) (n := ws.length) (c := lc) (xs := ws.flatMap SW.cells) fun hsl => ?_
  refine J.seq <| J.region <| J.p rfl (Q.asg rfl) <| J.nil <| J.then_n <| J.seq <| J.region <| J.m rfl ?_
  refine J.c rfl rfl C.mkMap ?_
  rintro _ _ ⟨b9, rfl, rfl⟩
  refine J.norm rfl ?_
  refine J.c rfl rfl C.mkMap ?_
  rintro _ _ ⟨b10, rfl, rfl⟩
  refine J.norm rfl ?_
  refine J.c rfl rfl C.mkMap ?_
  rintro _ _ ⟨b11, rfl, rfl⟩
  refine J.norm rfl <| J.p rfl (Q.bld (l := [.slice lp ws.length lc, .slice none 0 0, .map (some b9), .map (some b10), .map (some b11), .int .u64 0]) Try.runUnderlying64 Try.zeroValue64 Try.places64 rfl (by kernel_rfl)) ?_
  refine J.c rfl rfl (C.box (l := [_, _, _, _, _, _]) rfl rfl) ?_
  rintro _ _ ⟨b13, rfl, rfl⟩
  refine J.norm rfl ?_
  refine J.convI (pt b9 (.map #[] 0)) (MapAt encU (valRep encU) b9 ([] : List (Nat × Nat))) X.G.MapAt.new ?_
  refine J.convI (pt b10 (.map #[] 0)) (MapAt encU (valRep Value.bool) b10 ([] : List (Nat × Bool))) X.G.MapAt.new ?_
  refine J.convI (pt b11 (.map #[] 0)) (MapAt encU (valRep encU) b11 ([] : List (Nat × Nat))) X.G.MapAt.new ?_
  refine J.p rfl (Q.asg rfl) <| J.nil <| J.then_n <| J.seq <| J.region ?_
  refine J.callI Try.call19 (new_spec) rfl rfl rfl ?_
  rintro _ _ ⟨m, rfl, rfl⟩
  refine J.norm rfl <| J.p rfl (Q.asg rfl) <| J.nil <| J.then_n <| J.seq <| J.seq <| J.region <| J.m rfl <| J.p rfl (Q.lenSl Try.runUnderlying51 rfl) <| J.m rfl <| J.nil <| J.then_n <| J.block ?_
  refine J.give (own.nil 34 5 _) ?_
  refine J.give (X := star (([] : List RW).map RW.asn)) trivial ?_
  refine J.keepI [pt b13 (.cells [.slice lp ws.length lc, .slice none 0 0, .map (some b9), .map (some b10), .map (some b11), .int .u64 0].toArray 64 (0, 0)), own 34 5 (.slice none 0 0) [], star (([] : List RW).map RW.asn), MapAt encU (valRep encU) b9 ([] : List (Nat × Nat)), MapAt encU (valRep Value.bool) b10 ([] : List (Nat × Bool)), MapAt encU (valRep encU) b11 ([] : List (Nat × Nat)), BktAt m ⟨[], [], []⟩, own 74 10 (.slice lp ws.length lc) (ws.flatMap SW.cells), star (ws.map SW.asn), F] ?_
  refine J.loop4 (fun (i : Nat) (rws : List RW) (_ : Option Addr) (_ : Nat) => i ≤ ws.length ∧ rws.map (·.r) = (playP ((ws.map SW.m).take i)).rs) (fun i _ _ _ => ws.length - i)
   (fun i rws p c => [(3, .pointer (some ⟨b13, 0, none⟩)), (4, .pointer (some ⟨m, 0, none⟩)), (15, .slice lp ws.length lc), (16, .int .i64 ws.length), (17, .int .i64 i)])
   (fun i rws p c => [pt b13 (.cells [.slice lp ws.length lc, .slice p rws.length c, .map (some b9), .map (some b10), .map (some b11), .int .u64 0].toArray 64 (0, 0)), own 34 5 (.slice p rws.length c) (rws.flatMap RW.cells), star (rws.map RW.asn), MapAt encU (valRep encU) b9 (playP ((ws.map SW.m).take i)).first, MapAt encU (valRep Value.bool) b10 ([] : List (Nat × Bool)), MapAt encU (valRep encU) b11 ([] : List (Nat × Nat)), BktAt m (playP ((ws.map SW.m).take i)).M, own 74 10 (.slice lp ws.length lc) (ws.flatMap SW.cells), star (ws.map SW.asn), F])
   0 [] none 0 ⟨Nat.zero_le _, rfl⟩ ⟨rfl, rfl, rfl, rfl, rfl, trivial⟩ rfl fun i rws p c hz => ?_
  obtain ⟨hi, hrs⟩ := hz
  refine J.seq <| J.region <| J.p rfl (Q.lss rfl rfl) <| J.nil <| J.then_n <| J.seq ?_
  refine J.cases 18 rfl (fun hc18 => ?_) (fun hc18 => ?_)
  ·
   replace hc18 := X.nm hc18
   refine J.cond_t rfl <| J.cskip <| J.then_n <| J.seq <| J.block <| J.seq ?_
   have hlt : i < ws.length := by omega
   obtain ⟨b, off, hlp, hrd⟩ := hsl.some_ (by omega)
   obtain ⟨w, hw⟩ : ∃ w, ws[i]? = some w := ⟨_, List.getElem?_eq_getElem (by omega)⟩
   have hpt := playP_take (l := ws.map SW.m) (k := i) (s := w.m) (by rw [List.getElem?_map, hw]; rfl)
   have hSo := playP_ok ((ws.map SW.m).take i)
   obtain ⟨S, hS⟩ : ∃ S, S = playP ((ws.map SW.m).take i) := ⟨_, rfl⟩
   rw [← hS] at hpt hrs hSo ⊢
   rw [List.length_take, List.length_map, Nat.min_eq_left (by omega)] at hSo
   have hrl : rws.length = i := by rw [← hSo.len, ← hrs, List.length_map]
   have hst := hSo.srt
   refine J.slot 15 (.slice (some ⟨b, off, none⟩) ws.length lc) rfl (by rw [hlp]) ?_
   refine J.region <| J.m rfl <| J.p rfl (Q.ia Try.runUnderlying51 Try.sizeOf74 rfl rfl (by omega) (by omega)) <| J.p rfl (Q.ldN (vs := [_, _, _, _, _, _, _, _, _, _]) Try.isAgg74 Try.sizeOf74 rfl ((rd_elem SW.len hrd hw (by simp)).inI)) ?_
   refine J.c rfl rfl (C.alloc (l := [_, _, _, _, _, _, _, _, _, _]) Try.zeroValue74 rfl) ?_
   rintro _ _ ⟨b6, rfl, rfl⟩
   refine J.norm rfl <| J.p rfl (Q.asg rfl) ?_
   refine J.stAI (vs := [_, _, _, _, _, _, _, _, _, _]) rfl Try.sizeOf74 rfl rfl (by exact rfl) (by exact rfl) (by exact rfl) ?_
   refine J.nil <| J.then_n <| J.seq <| J.region <| J.p rfl (Q.bld (l := [_, _, _, _, _]) Try.runUnderlying34 Try.zeroValue34 Try.places34 rfl rfl) ?_
   refine J.c rfl rfl (C.alloc (l := [_, _, _, _, _]) Try.zeroValue34 rfl) ?_
   rintro _ _ ⟨b7, rfl, rfl⟩
   refine J.norm rfl ?_
   refine J.stAI (vs := [_, _, _, _, _]) rfl Try.sizeOf34 rfl rfl (by exact rfl) (by exact rfl) (by exact rfl) ?_
   refine J.nil <| J.then_n ?_
   refine J.cut (fun r : RW => r.r = (if w.point then st 0 else (S.M.run w.y.o).1)) (fun r => [(3, .pointer (some ⟨b13, 0, none⟩)), (4, .pointer (some ⟨m, 0, none⟩)), (7, .pointer (some ⟨b7, 0, none⟩)), (15, .slice (some ⟨b, off, none⟩) ws.length lc), (16, .int .i64 ws.length), (17, .int .i64 i)])
    (fun r => [pt b13 (.cells [.slice lp ws.length lc, .slice p rws.length c, .map (some b9), .map (some b10), .map (some b11), .int .u64 0].toArray 64 (0, 0)), own 34 5 (.slice p rws.length c) (rws.flatMap RW.cells), star (rws.map RW.asn), MapAt encU (valRep encU) b9 (S.step w.m).first, MapAt encU (valRep Value.bool) b10 ([] : List (Nat × Bool)), MapAt encU (valRep encU) b11 ([] : List (Nat × Nat)), BktAt m (S.step w.m).M, own 74 10 (.slice lp ws.length lc) (ws.flatMap SW.cells), star (ws.map SW.asn),
     pt b7 (.cells r.cells.toArray 34 (0, 0)), r.asn, F]) ?_ fun r hr => ?_
   ·
    refine J.seq <| J.region <| J.p rfl (Q.fa (n := 9) Try.runUnderlying74 rfl rfl Try.sizeOf4 rfl) ?_
    refine J.p rfl (Q.ld Try.isAgg4 rfl (rdI (by exact rfl))) ?_
    refine J.p rfl (Q.not rfl) <| J.nil <| J.then_n ?_
    refine J.cases 25 rfl (fun hc25 => ?_) (fun hc25 => ?_)
    ·
     replace hc25 := X.nm hc25
     refine J.cond_t rfl <| J.seq <| J.region <| J.m rfl <| J.p rfl (Q.fa (n := 0) Try.runUnderlying74 rfl rfl Try.sizeOf27 rfl) <| J.p rfl (Q.ldN (vs := [_, _, _, _, _, _, _, _, _]) Try.isAgg27 Try.sizeOf27 rfl (rnSub 0 rfl)) ?_
     refine J.callI Try.call20 (do_all m S.M hSo.m hSo.kok (by omega) w.y (star (ws.map SW.asn)) (ok_star hw (hok w (List.mem_of_getElem? hw)))) rfl rfl rfl ?_
     rintro _ _ ⟨r, rfl, hr, rfl⟩
     refine J.norm rfl ?_
     refine J.stAI (vs := [_, _, _, _, _]) rfl Try.sizeOf34 rfl rfl (by exact rfl) (by exact rfl) (by exact rfl) ?_
     refine J.nil <| J.then_n <| J.seq ?_
     refine J.draw [] Try.mixed (by kernel_rfl) fun hR => ?_
     refine RG.p 0 hR rfl (Q.mv rfl) <| RG.p 1 hR rfl (Q.nil_ rfl) <| RG.p 2 hR rfl (Q.fa (n := 2) Try.runUnderlying64 rfl rfl Try.sizeOf61 rfl) ?_
     refine RG.p 3 hR rfl (Q.ld Try.isAgg61 rfl (rdI (by exact rfl))) ?_
     refine RG.p 4 hR rfl (Q.fa (n := 0) Try.runUnderlying74 rfl rfl Try.sizeOf27 rfl) <| RG.p 5 hR rfl (Q.fa (n := 0) Try.runUnderlying27 rfl rfl Try.sizeOf23 rfl) ?_
     refine RG.p 6 hR rfl (Q.ld Try.isAgg23 rfl (rdI (by exact rfl))) ?_
     refine RG.p 7 hR rfl (X.G.Q.lkV (f := encU) S.first ord3_nat hst Try.runUnderlying61 keyU Try.zeroValue23 rfl rfl) ?_
     refine RG.slot 37 (.int .u64 (((sget w.y.o.id S.first).getD 0 : Nat) : Int)) rfl (getD_enc _) ?_
     refine RG.p 8 hR rfl (Q.eql rfl rfl) ?_
     refine RG.fin hR rfl ?_
     refine J.norm rfl <| J.then_n ?_
     refine J.cases 38 rfl (fun hc38 => ?_) (fun hc38 => ?_)
     ·
      replace hc38 := X.nm hc38
      refine J.cond_t rfl ?_
      refine J.draw [10] Try.mixed (by kernel_rfl) fun hR => ?_
      refine RG.p 0 hR rfl (Q.mv rfl) <| RG.p 1 hR rfl (Q.nil_ rfl) <| RG.p 2 hR rfl (Q.fa (n := 2) Try.runUnderlying64 rfl rfl Try.sizeOf61 rfl) ?_
      refine RG.p 3 hR rfl (Q.ld Try.isAgg61 rfl (rdI (by exact rfl))) ?_
      refine RG.p 4 hR rfl (Q.fa (n := 0) Try.runUnderlying74 rfl rfl Try.sizeOf27 rfl) <| RG.p 5 hR rfl (Q.fa (n := 0) Try.runUnderlying27 rfl rfl Try.sizeOf23 rfl) ?_
      refine RG.p 6 hR rfl (Q.ld Try.isAgg23 rfl (rdI (by exact rfl))) ?_
      refine RG.p 7 hR rfl (Q.mv rfl) <| RG.p 8 hR rfl (Q.add64 rfl rfl (by omega)) <| RG.p 9 hR rfl (Q.conv Try.runUnderlying3 Try.runUnderlying23 rfl) ?_
      refine RG.slot 48 (encU (rws.length + 1)) rfl (by show Value.int .u64 _ = Value.int .u64 _; rw [hrl, show ((i : Int) + 1) = ((i + 1 : Nat) : Int) by omega, wrap64 (by omega)]) ?_
      refine RG.bar 10 hR rfl rfl rfl rfl rfl rfl (X.G.C.putV encU S.first (rws.length + 1) ord3_nat hst Try.runUnderlying61 keyU rfl rfl rfl) ?_
      rintro _ _ ⟨rfl, rfl⟩
      refine RG.norm rfl ?_
      refine RG.fin hR rfl ?_
      refine J.norm rfl ?_
      have hp : w.point = false := by simpa using hc25
      have hf : (sget w.y.o.id S.first).getD 0 = 0 := by omega
      have hrl2 : rws.length = S.rs.length := by rw [← hrs, List.length_map]
      have e : S.step w.m = ⟨(S.M.run w.y.o).2, S.rs ++ [(S.M.run w.y.o).1], sput ltN w.y.o.id (rws.length + 1) S.first⟩ := by simp [PS.step, SW.m, hp, hf, hrl2]
      rw [e]
      exact J.meetI r (by rw [hp]; exact hr) ⟨rfl, rfl, rfl, rfl, rfl, rfl, trivial⟩
     replace hc38 := X.nm hc38
     refine J.cond_f rfl <| J.cskip ?_
     have hp : w.point = false := by simpa using hc25
     have hf : ¬ (sget w.y.o.id S.first).getD 0 = 0 := by omega
     have e : S.step w.m = ⟨(S.M.run w.y.o).2, S.rs ++ [(S.M.run w.y.o).1], S.first⟩ := by simp [PS.step, SW.m, hp, hf]
     rw [e]
     exact J.meetI r (by rw [hp]; exact hr) ⟨rfl, rfl, rfl, rfl, rfl, rfl, trivial⟩
    replace hc25 := X.nm hc25
    refine J.cond_f rfl <| J.cskip ?_
    have hp : w.point = true := by simpa using hc25
    have e : S.step w.m = { S with rs := S.rs ++ [st 0] } := by simp [PS.step, SW.m, hp]
    rw [e]
    refine J.convI (pt b7 (.cells [.int .i64 0, .int .u64 0, .slice none 0 0, .bool false, .slice none 0 0].toArray 34 (0, 0))) (pt b7 (.cells (RW.cells ⟨st 0, none, 0, none, 0⟩).toArray 34 (0, 0))) (fun _ h => h) ?_
    refine J.give (X := RW.asn ⟨st 0, none, 0, none, 0⟩) empty_asn ?_
    exact J.meetI ⟨st 0, none, 0, none, 0⟩ (by rw [hp]; rfl) ⟨rfl, rfl, rfl, rfl, rfl, rfl, trivial⟩
   refine J.norm rfl ?_
   refine J.pickI [pt b13 (.cells [.slice lp ws.length lc, .slice p rws.length c, .map (some b9), .map (some b10), .map (some b11), .int .u64 0].toArray 64 (0, 0)), pt b7 (.cells r.cells.toArray 34 (0, 0))] ?_
   refine J.norm rfl ?_
   refine J.drawE [6, 7, 10] 2 Try.mixed (by kernel_rfl) rfl rfl fun hR => ?_
   refine RG.p 0 hR rfl (Q.mv rfl) <| RG.p 1 hR rfl (Q.mv rfl) <| RG.p 2 hR rfl (Q.nil_ rfl) <| RG.p 3 hR rfl (Q.fa (n := 1) Try.runUnderlying64 rfl rfl Try.sizeOf60 rfl) ?_
   refine RG.p 4 hR rfl (Q.ld Try.isAgg60 rfl (rdI (by exact rfl))) ?_
   refine RG.p 5 hR rfl (Q.ldN (vs := [_, _, _, _, _]) Try.isAgg34 Try.sizeOf34 rfl rnI) ?_
   refine RG.made 6 hR rfl rfl rfl rfl rfl (C.bslG (l := [_, _, _, _, _]) Try.runUnderlying60 Try.sizeOf34 Try.zeroValue34 (by decide) rfl rfl rfl rfl rfl) ?_
   rintro b55
   refine RG.many hR 7 [] rfl ⟨?_, trivial⟩
   ·
    refine RGi.appI rfl rfl rfl rfl Try.runUnderlying60 Try.runUnderlying60 Try.typeInfo34 Try.sizeOf34 Try.zeroValue34 rfl rfl (SlR.ptI rfl) (rw_one r) (by simp [Try.t34] <;> omega) (by decide) ?_
    rintro p56 c56
    refine RG.normE rfl <| RG.p 8 hR rfl (Q.nil_ rfl) <| RG.p 9 hR rfl (Q.fa (n := 1) Try.runUnderlying64 rfl rfl Try.sizeOf60 rfl) ?_
    refine RG.stI 10 hR rfl rfl rfl rfl rfl Try.sizeOf60 rfl rfl rfl (by exact rfl) (by exact rfl) (by exact rfl) ?_
    refine RG.fin hR rfl ?_
    refine J.norm rfl <| J.blk_n <| J.then_n <| J.region <| J.p rfl (Q.add64 rfl rfl (by omega)) <| J.m rfl <| J.nil ?_
    refine J.shutI [RW.asn r, star (rws.map RW.asn)] (star ((rws ++ [r]).map RW.asn)) (star_snoc _) ?_
    have e1 : rws.length + 1 = (rws ++ [r]).length := by simp
    have e2 : rws.flatMap RW.cells ++ r.cells = (rws ++ [r]).flatMap RW.cells := by simp
    have e3 : (S.step w.m).rs = S.rs ++ [r.r] := by
     rw [hr]; unfold PS.step
     cases hp : w.point <;> simp [SW.m, hp]
    rw [e1, e2, ← hpt]
    refine J.againI (i + 1, rws ++ [r], p56, c56) ⟨by show i + 1 ≤ _; omega, by show (rws ++ [r]).map (·.r) = (playP ((ws.map SW.m).take (i + 1))).rs; rw [hpt, e3, List.map_append, hrs]; rfl⟩ (by show ws.length - (i + 1) < ws.length - i; omega) ⟨rfl, rfl, (by show _ = some (Value.slice lp ws.length lc); rw [hlp]; rfl), rfl, rfl, trivial⟩
  replace hc18 := X.nm hc18
  refine J.cond_f rfl <| J.exit <| J.then_x <| J.lp_x <| J.blk_x <| J.then_n <| J.seq <| J.region <| J.m rfl <| J.p rfl (Q.asg rfl) <| J.nil <| J.then_n <| J.cret ?_
  have htk : (ws.map SW.m).take i = ws.map SW.m := List.take_of_length_le (by rw [List.length_map]; omega)
  rw [htk] at hrs ⊢
  refine J.shutI [pt b13 (.cells [.slice lp ws.length lc, .slice p rws.length c, .map (some b9), .map (some b10), .map (some b11), .int .u64 0].toArray 64 (0, 0)), own 34 5 (.slice p rws.length c) (rws.flatMap RW.cells), star (rws.map RW.asn), MapAt encU (valRep encU) b9 (playP (ws.map SW.m)).first, MapAt encU (valRep Value.bool) b10 ([] : List (Nat × Bool)), MapAt encU (valRep encU) b11 ([] : List (Nat × Nat)), own 74 10 (.slice lp ws.length lc) (ws.flatMap SW.cells), star (ws.map SW.asn)]
   (HAt b13 (begM (ws.map SW.m))) (fun h s => ⟨⟨ws, lp, lc, rws, p, c, b9, b10, b11⟩, ⟨rfl, hrs⟩, s⟩) ?_
  refine J.ret1I [HAt b13 (begM (ws.map SW.m))] rfl rfl ⟨b13, rfl, rfl⟩
end Go.Proofs.Ytidbcaimgahllaa
namespace Go.Proofs.Ytidbcaimgahllaa
set_option linter.unusedSectionVars false
set_option linter.unusedSimpArgs false
set_option linter.unusedVariables false
open Go.X
open Go.X.G (Ord3 ord3_nat ord3_int ord3_str ltB sget sput sdel Srtd MapAt MapHole valRep)

def JM.ask (H : JM) (id : Nat) : JM := { H with before := if (sget id H.before).isSome then H.before else sput ltN id H.most H.before, asked := sput ltN id true H.asked }
theorem ask_spec (h : Nat) (H : JM) (hH : H.ok) (id : Nat) : FSpec Try.prog 14 [.pointer (some ⟨h, 0, none⟩), .int .u64 id] [HAt h H] (fun u B => u = .tuple #[] ∧ B = [HAt h (H.ask id)]) := by
  refine FSpec.of Try.func14 rfl Try.ntmps14 rfl fun W0 F => ?_
  refine J.openI (HAt h H) (fun _ h => h) fun z hz => ?_
  refine J.norm rfl <| J.seq <| J.seq <| J.region <| J.m rfl <| J.p rfl (Q.nil_ rfl) <| J.p rfl (Q.fa (n := 4) Try.runUnderlying64 rfl rfl Try.sizeOf61 rfl) ?_
  refine J.p rfl (Q.ld Try.isAgg61 rfl (rdI (by exact rfl))) ?_
  refine J.m rfl ?_
  refine J.p rfl (X.G.Q.lk2V (f := encU) H.before ord3_nat hH.before Try.runUnderlying61 keyU Try.zeroValue23 rfl rfl) ?_
  refine J.m rfl <| J.p rfl (Q.ext rfl rfl) <| J.p rfl (Q.ext rfl rfl) <| J.p rfl (Q.asg rfl) <| J.p rfl (Q.asg rfl) <| J.nil <| J.then_n <| J.seq <| J.region <| J.m rfl <| J.p rfl (Q.not rfl) <| J.nil <| J.then_n ?_
  refine J.cases 16 rfl (fun hc16 => ?_) (fun hc16 => ?_)
  ·
   replace hc16 := X.nm hc16
   refine J.cond_t rfl ?_
   refine J.draw [9] Try.mixed (by kernel_rfl) fun hR => ?_
   refine RG.p 0 hR rfl (Q.mv rfl) <| RG.p 1 hR rfl (Q.nil_ rfl) <| RG.p 2 hR rfl (Q.fa (n := 4) Try.runUnderlying64 rfl rfl Try.sizeOf61 rfl) ?_
   refine RG.p 3 hR rfl (Q.ld Try.isAgg61 rfl (rdI (by exact rfl))) ?_
   refine RG.p 4 hR rfl (Q.mv rfl) <| RG.p 5 hR rfl (Q.mv rfl) <| RG.p 6 hR rfl (Q.nil_ rfl) <| RG.p 7 hR rfl (Q.fa (n := 5) Try.runUnderlying64 rfl rfl Try.sizeOf23 rfl) ?_
   refine RG.p 8 hR rfl (Q.ld Try.isAgg23 rfl (rdI (by exact rfl))) ?_
   refine RG.bar 9 hR rfl rfl rfl rfl rfl rfl (X.G.C.putV encU H.before H.most ord3_nat hH.before Try.runUnderlying61 keyU rfl rfl rfl) ?_
   rintro _ _ ⟨rfl, rfl⟩
   refine RG.norm rfl ?_
   refine RG.fin hR rfl ?_
   refine J.norm rfl <| J.then_n <| J.region <| J.m rfl <| J.p rfl (Q.nil_ rfl) <| J.p rfl (Q.fa (n := 3) Try.runUnderlying64 rfl rfl Try.sizeOf62 rfl) ?_
   refine J.p rfl (Q.ld Try.isAgg62 rfl (rdI (by exact rfl))) ?_
   refine J.m rfl ?_
   refine J.c0 rfl (X.G.C.putV Value.bool H.asked true ord3_nat hH.asked Try.runUnderlying62 keyU rfl rfl rfl) ?_
   rintro _ _ ⟨rfl, rfl⟩
   refine J.norm rfl <| J.nil ?_
   first
    | (have hp : (sget id H.before).isSome = false := by simpa using hc16
       have e : H.ask id = ⟨H.l, H.rs, H.first, sput ltN id true H.asked, sput ltN id H.most H.before, H.most⟩ := by unfold JM.ask; rw [hp]; rfl
       rw [e]
       refine J.shutI (z.asns h ⟨H.l, H.rs, H.first, sput ltN id true H.asked, sput ltN id H.most H.before, H.most⟩) (HAt h ⟨H.l, H.rs, H.first, sput ltN id true H.asked, sput ltN id H.most H.before, H.most⟩) (fun _ s => ⟨z, ⟨hz.l, hz.rs⟩, s⟩) ?_
       refine J.end0I [HAt h ⟨H.l, H.rs, H.first, sput ltN id true H.asked, sput ltN id H.most H.before, H.most⟩] rfl ⟨rfl, rfl⟩)
    | (have hp : (sget id H.before).isSome = true := by simpa using hc16
       have e : H.ask id = ⟨H.l, H.rs, H.first, sput ltN id true H.asked, H.before, H.most⟩ := by unfold JM.ask; rw [hp]; rfl
       rw [e]
       refine J.shutI (z.asns h ⟨H.l, H.rs, H.first, sput ltN id true H.asked, H.before, H.most⟩) (HAt h ⟨H.l, H.rs, H.first, sput ltN id true H.asked, H.before, H.most⟩) (fun _ s => ⟨z, ⟨hz.l, hz.rs⟩, s⟩) ?_
       refine J.end0I [HAt h ⟨H.l, H.rs, H.first, sput ltN id true H.asked, H.before, H.most⟩] rfl ⟨rfl, rfl⟩)
  replace hc16 := X.nm hc16
  refine J.cond_f rfl <| J.cskip <| J.then_n <| J.region <| J.m rfl <| J.p rfl (Q.nil_ rfl) <| J.p rfl (Q.fa (n := 3) Try.runUnderlying64 rfl rfl Try.sizeOf62 rfl) ?_
  refine J.p rfl (Q.ld Try.isAgg62 rfl (rdI (by exact rfl))) ?_
  refine J.m rfl ?_
  refine J.c0 rfl (X.G.C.putV Value.bool H.asked true ord3_nat hH.asked Try.runUnderlying62 keyU rfl rfl rfl) ?_
  rintro _ _ ⟨rfl, rfl⟩
  refine J.norm rfl <| J.nil ?_
  first
   | (have hp : (sget id H.before).isSome = false := by simpa using hc16
      have e : H.ask id = ⟨H.l, H.rs, H.first, sput ltN id true H.asked, sput ltN id H.most H.before, H.most⟩ := by unfold JM.ask; rw [hp]; rfl
      rw [e]
      refine J.shutI (z.asns h ⟨H.l, H.rs, H.first, sput ltN id true H.asked, sput ltN id H.most H.before, H.most⟩) (HAt h ⟨H.l, H.rs, H.first, sput ltN id true H.asked, sput ltN id H.most H.before, H.most⟩) (fun _ s => ⟨z, ⟨hz.l, hz.rs⟩, s⟩) ?_
      refine J.end0I [HAt h ⟨H.l, H.rs, H.first, sput ltN id true H.asked, sput ltN id H.most H.before, H.most⟩] rfl ⟨rfl, rfl⟩)
   | (have hp : (sget id H.before).isSome = true := by simpa using hc16
      have e : H.ask id = ⟨H.l, H.rs, H.first, sput ltN id true H.asked, H.before, H.most⟩ := by unfold JM.ask; rw [hp]; rfl
      rw [e]
      refine J.shutI (z.asns h ⟨H.l, H.rs, H.first, sput ltN id true H.asked, H.before, H.most⟩) (HAt h ⟨H.l, H.rs, H.first, sput ltN id true H.asked, H.before, H.most⟩) (fun _ s => ⟨z, ⟨hz.l, hz.rs⟩, s⟩) ?_
      refine J.end0I [HAt h ⟨H.l, H.rs, H.first, sput ltN id true H.asked, H.before, H.most⟩] rfl ⟨rfl, rfl⟩)

structure EM where
  answer : Bool
  id : Nat
  index : Nat
  res : RM
structure EW where
  answer : Bool
  id : Nat
  x : OW
  index : Nat
  w : RW
def EW.m (e : EW) : EM := ⟨e.answer, e.id, e.index, e.w.r⟩
abbrev EW.cells (e : EW) : List Value := [.bool e.answer, .int .u64 e.id, .int .u64 e.x.o.id, .int .i64 e.x.o.kind, .string e.x.o.bucket, .string e.x.o.key, .string e.x.o.after, .int .i64 e.x.o.n, .int .u64 e.x.o.upload, .slice e.x.pp e.x.o.parts.length e.x.pc, .slice e.x.dp e.x.o.data.length e.x.dc, .int .u64 e.index, .int .i64 e.w.r.status, .int .u64 e.w.r.upload, .slice e.w.kp e.w.r.keys.length e.w.kc, .bool e.w.r.more, .slice e.w.dp e.w.r.data.length e.w.dc]
theorem EW.len (x : EW) : x.cells.length = 17 := rfl
structure EW.ok (G : Assn) (e : EW) : Prop where
  w : e.w.ok G
  index : e.index ≤ 18446744073709551615

def defB (n : Int) : Bool := decide (n = 200) || decide (n = 400) || decide (n = 404) || decide (n = 409) || decide (n = 413)
def addR (l : List Int) (r : Int) (b : Bool) : List Int := if b then l ++ [r] else l
def thereB (H : JM) (id n : Nat) : Bool := decide (1 ≤ n) && decide (n ≤ H.l.length) && (match H.l[n - 1]? with | some s => !s.point && decide (s.o.id = id) | none => false)
def lateB (H : JM) (e : EM) : Bool := decide (e.index ≠ 0) && (sget e.id H.before).isSome && decide ((sget e.id H.first).getD 0 ≠ 0) && decide ((sget e.id H.first).getD 0 ≤ (sget e.id H.before).getD 0)
def toldB (H : JM) (e : EM) : Bool := defB e.res.status && thereB H e.id e.index && !(match H.rs[max e.index 1 - 1]? with | some r => sameM e.res r | none => true)
def rul1 (H : JM) (e : EM) : List Int := addR [] 2 (!(sget e.id H.asked).getD false)
def rul2 (H : JM) (e : EM) : List Int := addR (rul1 H e) 3 (decide (e.index ≠ 0) && !thereB H e.id e.index)
def rul3 (H : JM) (e : EM) : List Int := addR (rul2 H e) 4 (defB e.res.status && decide (e.index = 0))
def rul4 (H : JM) (e : EM) : List Int := addR (rul3 H e) 5 (lateB H e)
def JM.breaks (H : JM) (e : EM) : List Int := addR (rul4 H e) 6 (toldB H e)
theorem addR_le {l : List Int} {n : Nat} (h : l.length ≤ n) (r : Int) (b : Bool) : (addR l r b).length ≤ n + 1 := by
  unfold addR
  split
  · rw [List.length_append, List.length_singleton]; omega
  · omega
theorem rul_le (H : JM) (e : EM) : (rul1 H e).length ≤ 1 ∧ (rul2 H e).length ≤ 2 ∧ (rul3 H e).length ≤ 3 ∧ (rul4 H e).length ≤ 4 ∧ (H.breaks e).length ≤ 5 := by
  have h1 : (rul1 H e).length ≤ 1 := addR_le (Nat.le_refl 0) _ _
  have h2 : (rul2 H e).length ≤ 2 := addR_le h1 _ _
  have h3 : (rul3 H e).length ≤ 3 := addR_le h2 _ _
  have h4 : (rul4 H e).length ≤ 4 := addR_le h3 _ _
  exact ⟨h1, h2, h3, h4, addR_le h4 _ _⟩

theorem rws_ok {rws : List RW} (hs : ∀ r, r ∈ rws → r.r.keys.length ≤ 1099511627776 ∧ r.r.data.length ≤ 1099511627776) : ∀ h, star (rws.map RW.asn) h → ∀ (i : Nat) (r : RW), rws[i]? = some r → r.ok r.asn := by
  intro h hh i r hr
  have s1 : HSat h (r.asn :: (rws.eraseIdx i).map RW.asn) := HSat.perm (perm_focus RW.asn hr) hh
  obtain ⟨h1, h2, a, _⟩ := s1
  exact asn_ok (hs r (List.mem_of_getElem? hr)) h1 a
theorem RW.ok.into {A : List Assn} {X : Assn} {x : RW} (h : x.ok X) (i : Nat) (e : A[i]? = some X) : x.ok (star A) := ⟨h.keys.into i e, h.data.into i e, h.small⟩

theorem add_spec (q : Nat) (p : Option Addr) (c : Nat) (rs : List Int) (r : Int) (b : Bool) (hn : rs.length ≤ 100) : FSpec Try.prog 21 [.int .i64 r, .bool b, .pointer (some ⟨q, 0, none⟩)]
    [pt q (.cells [Value.slice p rs.length c].toArray 58 (0, 0)), own 38 1 (.slice p rs.length c) (rs.map (Value.int .i64))]
    (fun u B => ∃ p' c', u = .tuple #[] ∧ B = [pt q (.cells [Value.slice p' (addR rs r b).length c'].toArray 58 (0, 0)), own 38 1 (.slice p' (addR rs r b).length c') ((addR rs r b).map (Value.int .i64))]) := by
  refine FSpec.of Try.func21 rfl Try.ntmps21 rfl fun W0 F => ?_
  refine J.seq <| J.region <| J.m rfl <| J.nil <| J.then_n ?_
  refine J.cases 5 rfl (fun hc5 => ?_) (fun hc5 => ?_)
  ·
   replace hc5 := X.nm hc5
   refine J.cond_t rfl <| J.region ?_
   refine J.p rfl (Q.ld Try.isAgg58 rfl (rdI (by exact rfl))) ?_
   refine J.m rfl ?_
   refine J.c rfl rfl (C.bslG (l := [_]) Try.runUnderlying58 Try.sizeOf38 Try.zeroValue38 (by decide) rfl rfl rfl rfl rfl) ?_
   rintro _ _ ⟨b8, rfl, rfl⟩
   refine J.norm rfl ?_
   refine J.c rfl rfl (C.appI Try.runUnderlying58 Try.runUnderlying58 Try.typeInfo38 Try.sizeOf38 Try.zeroValue38 rfl rfl (SlR.ptI rfl) (by simp [oneC]) (by simp [Try.t38] <;> omega) (by decide)) ?_
   rintro _ _ ⟨p9, c9, rfl, rfl⟩
   refine J.norm rfl ?_
   refine J.stI rfl Try.sizeOf58 rfl rfl rfl (by exact rfl) (by exact rfl) (by exact rfl) ?_
   refine J.nil ?_
   first
    | (have e : addR rs r b = rs ++ [r] := by unfold addR; rw [if_pos hc5]
       rw [e]
       have e1 : rs.length + 1 = (rs ++ [r]).length := by simp
       have e2 : rs.map (Value.int .i64) ++ [Value.int .i64 r] = (rs ++ [r]).map (Value.int .i64) := by simp
       rw [e1, e2]
       refine J.end0I [pt q (.cells [Value.slice p9 (rs ++ [r]).length c9].toArray 58 (0, 0)), own 38 1 (.slice p9 (rs ++ [r]).length c9) ((rs ++ [r]).map (Value.int .i64))] rfl ⟨p9, c9, rfl, rfl⟩)
    | (have e : addR rs r b = rs := by unfold addR; rw [if_neg (by simp [hc5])]
       rw [e]
       refine J.end0I [pt q (.cells [Value.slice p rs.length c].toArray 58 (0, 0)), own 38 1 (.slice p rs.length c) (rs.map (Value.int .i64))] rfl ⟨p, c, rfl, rfl⟩)
  replace hc5 := X.nm hc5
  refine J.cond_f rfl <| J.cskip ?_
  first
   | (have e : addR rs r b = rs ++ [r] := by unfold addR; rw [if_pos hc5]
      rw [e]
      have e1 : rs.length + 1 = (rs ++ [r]).length := by simp
      have e2 : rs.map (Value.int .i64) ++ [Value.int .i64 r] = (rs ++ [r]).map (Value.int .i64) := by simp
      rw [e1, e2]
      refine J.end0I [pt q (.cells [Value.slice p9 (rs ++ [r]).length c9].toArray 58 (0, 0)), own 38 1 (.slice p9 (rs ++ [r]).length c9) ((rs ++ [r]).map (Value.int .i64))] rfl ⟨p9, c9, rfl, rfl⟩)
   | (have e : addR rs r b = rs := by unfold addR; rw [if_neg (by simp [hc5])]
      rw [e]
      refine J.end0I [pt q (.cells [Value.slice p rs.length c].toArray 58 (0, 0)), own 38 1 (.slice p rs.length c) (rs.map (Value.int .i64))] rfl ⟨p, c, rfl, rfl⟩)

theorem getD_bool (o : Option Bool) : (o.map Value.bool).getD (.bool false) = Value.bool (o.getD false) := by cases o <;> rfl
theorem there_in {H : JM} {id n : Nat} (h : thereB H id n = true) : 1 ≤ n ∧ n ≤ H.l.length := by
  simp only [thereB, Bool.and_eq_true, decide_eq_true_eq] at h
  exact h.1

set_option maxHeartbeats 1000000 in
theorem breaks_spec (G : Assn) (h : Nat) (H : JM) (hH : H.ok) (e : EW) (he : e.ok G) : FSpec Try.prog 15 [.pointer (some ⟨h, 0, none⟩), .agg e.cells.toArray] [HAt h H, G]
    (fun u B => ∃ p c, u = .slice p (H.breaks e.m).length c ∧ B = [own 38 1 (.slice p (H.breaks e.m).length c) ((H.breaks e.m).map (Value.int .i64)), HAt h H, G]) := by
  obtain ⟨n1, n2, n3, n4, n5⟩ := rul_le H e.m
  have hidx := he.index
  have hsm := hH.small
  refine FSpec.of Try.func15 rfl Try.ntmps15 rfl fun W0 F => ?_
  refine J.openI (HAt h H) (fun _ h => h) fun z hz => ?_
  refine J.norm rfl ?_
  have hlw : z.ws.length = H.l.length := by rw [← hz.l, List.length_map]
  have hlr : z.rws.length = H.l.length := by rw [← hH.len, ← hz.rs, List.length_map]
  have hrs : ∀ r, r ∈ z.rws → r.r.keys.length ≤ 1099511627776 ∧ r.r.data.length ≤ 1099511627776 := fun r hr => by
   have := hH.rs r.r (by rw [← hz.rs]; exact List.mem_map_of_mem hr)
   omega
  refine J.slrI (E0 := 74) (sz := 10) (p := z.lp) (n := z.ws.length) (c := z.lc) (xs := z.ws.flatMap SW.cells) fun hsl => ?_
  refine J.slrI (E0 := 34) (sz := 5) (p := z.rp) (n := z.rws.length) (c := z.rc) (xs := z.rws.flatMap RW.cells) fun hsr => ?_
  refine J.tellsI (star (z.rws.map RW.asn)) (rws_ok hrs) fun hro => ?_
  refine J.shutI [G, star (z.rws.map RW.asn)] (star [G, star (z.rws.map RW.asn)]) (fun _ s => s) ?_
  refine J.seq <| J.region ?_
  refine J.c rfl rfl (C.box (l := [_, _, _, _, _, _, _, _, _, _, _, _, _, _, _, _, _]) rfl rfl) ?_
  rintro _ _ ⟨b3, rfl, rfl⟩
  refine J.norm rfl <| J.p rfl (Q.asg rfl) <| J.nil <| J.then_n <| J.seq <| J.region ?_
  refine J.c rfl rfl (C.alloc (l := [_]) Try.zeroValue58 rfl) ?_
  rintro _ _ ⟨b5, rfl, rfl⟩
  refine J.norm rfl ?_
  refine J.convI (pt b5 (.cells [Value.slice none 0 0].toArray 58 (0, 0))) (pt b5 (.cells [Value.slice none ([] : List Int).length 0].toArray 58 (0, 0))) (fun _ h => h) ?_
  refine J.give (X := own 38 1 (.slice none ([] : List Int).length 0) (([] : List Int).map (Value.int .i64))) (own.nil _ _ _) ?_
  refine J.nil <| J.then_n <| J.seq <| J.region <| J.p rfl (Q.func rfl rfl) <| J.p rfl (Q.asg rfl) <| J.nil <| J.then_n <| J.seq <| J.region <| J.p rfl (Q.fa (n := 12) Try.runUnderlying36 rfl rfl Try.sizeOf34 rfl) <| J.p rfl (Q.fa (n := 0) Try.runUnderlying34 rfl rfl Try.sizeOf3 rfl) ?_
  refine J.p rfl (Q.ld Try.isAgg3 rfl (rdI (by exact rfl))) ?_
  refine J.callI Try.call7 (definite_spec e.w.r.status) rfl rfl rfl ?_
  rintro _ _ ⟨rfl, rfl⟩
  refine J.norm rfl <| J.p rfl (Q.asg rfl) <| J.nil <| J.then_n <| J.seq <| J.region <| J.p rfl (Q.fa (n := 11) Try.runUnderlying36 rfl rfl Try.sizeOf23 rfl) ?_
  refine J.p rfl (Q.ld Try.isAgg23 rfl (rdI (by exact rfl))) ?_
  refine J.p rfl (Q.asg rfl) <| J.nil <| J.then_n ?_
  refine J.cut (fun _ : Unit => True) (fun _ => [(0, .pointer (some ⟨h, 0, none⟩)), (3, .pointer (some ⟨b3, 0, none⟩)), (5, .pointer (some ⟨b5, 0, none⟩)), (6, .func (.func 21) #[] #[.pointer (some ⟨b5, 0, none⟩)]), (7, .bool (defB e.w.r.status)), (8, .int .u64 e.index), (9, .bool (thereB H e.id e.index))]) (fun _ => [pt b3 (.cells e.cells.toArray 36 (0, 0)), pt b5 (.cells [Value.slice none ([] : List Int).length 0].toArray 58 (0, 0)), own 38 1 (.slice none ([] : List Int).length 0) (([] : List Int).map (Value.int .i64)), pt h (.cells [.slice z.lp z.ws.length z.lc, .slice z.rp z.rws.length z.rc, .map (some z.f), .map (some z.a), .map (some z.b), .int .u64 H.most].toArray 64 (0, 0)), own 34 5 (.slice z.rp z.rws.length z.rc) (z.rws.flatMap RW.cells), MapAt encU (valRep encU) z.f H.first, MapAt encU (valRep Value.bool) z.a H.asked, MapAt encU (valRep encU) z.b H.before, own 74 10 (.slice z.lp z.ws.length z.lc) (z.ws.flatMap SW.cells), star (z.ws.map SW.asn), star [G, star (z.rws.map RW.asn)], F]) ?_ fun _ _ => ?_
  ·
   refine J.draw [39] Try.mixed (by kernel_rfl) fun hR => ?_
   refine RG.p 0 hR rfl (Q.mv rfl) <| RG.p 1 hR rfl (Q.geq rfl rfl) <| RG.p 2 hR rfl (Q.mv rfl) ?_
   refine RG.cases 21 rfl (fun hb21 => ?_) (fun hb21 => ?_)
   ·
    replace hb21 := X.nm hb21
    try (first | (cases hb21; done) | (exfalso; simp at hb21; done))
    all_goals
     refine RG.p 3 hR rfl (Q.mv rfl) <| RG.p 4 hR rfl (Q.mv rfl) <| RG.p 5 hR rfl (Q.nil_ rfl) <| RG.p 6 hR rfl (Q.fa (n := 0) Try.runUnderlying64 rfl rfl Try.sizeOf51 rfl) ?_
     refine RG.p 7 hR rfl (Q.ld Try.isAgg51 rfl (rdI (by exact rfl))) ?_
     refine RG.p 8 hR rfl (Q.lenSl Try.runUnderlying51 rfl) <| RG.p 9 hR rfl (Q.conv Try.runUnderlying3 Try.runUnderlying23 rfl) ?_
     refine RG.slot 28 (.int .u64 (z.ws.length : Int)) rfl (by rw [wrap64 (by omega)]) ?_
     refine RG.p 10 hR rfl (Q.leq rfl rfl) <| RG.p 11 hR rfl (Q.pick_t rfl rfl) <| RG.p 12 hR rfl (Q.mv rfl) ?_
     refine RG.cases 31 rfl (fun hb31 => ?_) (fun hb31 => ?_)
     ·
      replace hb31 := X.nm hb31
      try (first | (cases hb31; done) | (exfalso; simp at hb31; done))
      all_goals
       have hn1 : 1 ≤ e.index := by omega
       have hn2 : e.index ≤ z.ws.length := by omega
       obtain ⟨b, off, hlp, hrd⟩ := hsl.some_ (by omega)
       obtain ⟨w, hw⟩ : ∃ w, z.ws[e.index - 1]? = some w := ⟨_, List.getElem?_eq_getElem (by omega)⟩
       have hws : H.l[e.index - 1]? = some w.m := by rw [← hz.l, List.getElem?_map, hw]; rfl
       refine RG.p 13 hR rfl (Q.mv rfl) <| RG.p 14 hR rfl (Q.nil_ rfl) <| RG.p 15 hR rfl (Q.fa (n := 0) Try.runUnderlying64 rfl rfl Try.sizeOf51 rfl) ?_
       refine RG.p 16 hR rfl (Q.ld Try.isAgg51 rfl (rdI (by exact rfl))) ?_
       refine RG.slot 35 (.slice (some ⟨b, off, none⟩) z.ws.length z.lc) rfl (by rw [hlp]) ?_
       refine RG.p 17 hR rfl (Q.mv rfl) <| RG.p 18 hR rfl (Q.sub rfl rfl) ?_
       refine RG.slot 37 (.int .u64 ((e.index - 1 : Nat) : Int)) rfl (by rw [show (e.index : Int) - 1 = ((e.index - 1 : Nat) : Int) by omega, wrap64 (by omega)]) ?_
       refine RG.p 19 hR rfl (Q.ia Try.runUnderlying51 Try.sizeOf74 rfl rfl (by omega) (by omega)) <| RG.p 20 hR rfl (Q.fa (n := 9) Try.runUnderlying74 rfl rfl Try.sizeOf4 rfl) <| RG.p 21 hR rfl (Q.ld Try.isAgg4 rfl ((((rd_elem SW.len hrd hw rfl) 9 (.bool w.point) rfl).cast (by simp)).inI)) <| RG.p 22 hR rfl (Q.not rfl) <| RG.p 23 hR rfl (Q.pick_t rfl rfl) ?_
       refine RG.p 24 hR rfl (Q.mv rfl) ?_
       refine RG.cases 43 rfl (fun hb43 => ?_) (fun hb43 => ?_)
       ·
        replace hb43 := X.nm hb43
        try (first | (cases hb43; done) | (exfalso; simp at hb43; done))
        all_goals
         refine RG.p 25 hR rfl (Q.mv rfl) <| RG.p 26 hR rfl (Q.nil_ rfl) <| RG.p 27 hR rfl (Q.fa (n := 0) Try.runUnderlying64 rfl rfl Try.sizeOf51 rfl) ?_
         refine RG.p 28 hR rfl (Q.ld Try.isAgg51 rfl (rdI (by exact rfl))) ?_
         refine RG.slot 47 (.slice (some ⟨b, off, none⟩) z.ws.length z.lc) rfl (by rw [hlp]) ?_
         refine RG.p 29 hR rfl (Q.mv rfl) <| RG.p 30 hR rfl (Q.sub rfl rfl) ?_
         refine RG.slot 49 (.int .u64 ((e.index - 1 : Nat) : Int)) rfl (by rw [show (e.index : Int) - 1 = ((e.index - 1 : Nat) : Int) by omega, wrap64 (by omega)]) ?_
         refine RG.p 31 hR rfl (Q.ia Try.runUnderlying51 Try.sizeOf74 rfl rfl (by omega) (by omega)) <| RG.p 32 hR rfl (Q.fa (n := 0) Try.runUnderlying74 rfl rfl Try.sizeOf27 rfl) <| RG.p 33 hR rfl (Q.fa (n := 0) Try.runUnderlying27 rfl rfl Try.sizeOf23 rfl) <| RG.p 34 hR rfl (Q.ld Try.isAgg23 rfl ((((rd_elem SW.len hrd hw rfl) 0 (.int .u64 w.y.o.id) rfl).cast (by simp)).inI)) ?_
         refine RG.p 35 hR rfl (Q.fa (n := 1) Try.runUnderlying36 rfl rfl Try.sizeOf23 rfl) ?_
         refine RG.p 36 hR rfl (Q.ld Try.isAgg23 rfl (rdI (by exact rfl))) ?_
         refine RG.p 37 hR rfl (Q.eql rfl rfl) <| RG.p 38 hR rfl (Q.pick_t rfl rfl) ?_
         refine RG.bar 39 hR rfl rfl rfl rfl rfl rfl (Q.asg rfl).toC ?_
         rintro _ _ ⟨rfl, rfl⟩
         refine RG.norm rfl ?_
         refine RG.fin hR rfl ?_
         refine J.norm rfl ?_
         have hp : w.point = false := by simpa using hb43
         have ht : decide ((w.y.o.id : Int) = (e.id : Int)) = thereB H e.id e.index := by
          unfold thereB
          rw [hws, decide_eq_true hn1, decide_eq_true (show e.index ≤ H.l.length by omega)]
          simp [SW.m, hp]
          omega
         exact J.meetI () trivial ⟨rfl, rfl, rfl, rfl, rfl, rfl, (by show some (Value.bool (decide ((w.y.o.id : Int) = (e.id : Int)))) = _; rw [ht]), trivial⟩
       replace hb43 := X.nm hb43
       try (first | (cases hb43; done) | (exfalso; simp at hb43; done))
       all_goals
        refine RG.skip 25 hR rfl rfl rfl rfl rfl rfl <| RG.skip 26 hR rfl rfl rfl rfl rfl rfl <| RG.skip 27 hR rfl rfl rfl rfl rfl rfl <| RG.skip 28 hR rfl rfl rfl rfl rfl rfl <| RG.skip 29 hR rfl rfl rfl rfl rfl rfl <| RG.skip 30 hR rfl rfl rfl rfl rfl rfl <| RG.skip 31 hR rfl rfl rfl rfl rfl rfl <| RG.skip 32 hR rfl rfl rfl rfl rfl rfl <| RG.skip 33 hR rfl rfl rfl rfl rfl rfl <| RG.skip 34 hR rfl rfl rfl rfl rfl rfl ?_
        refine RG.skip 35 hR rfl rfl rfl rfl rfl rfl <| RG.skip 36 hR rfl rfl rfl rfl rfl rfl <| RG.skip 37 hR rfl rfl rfl rfl rfl rfl <| RG.p 38 hR rfl (Q.pick_f rfl rfl) ?_
        refine RG.bar 39 hR rfl rfl rfl rfl rfl rfl (Q.asg rfl).toC ?_
        rintro _ _ ⟨rfl, rfl⟩
        refine RG.norm rfl ?_
        refine RG.fin hR rfl ?_
        refine J.norm rfl ?_
        have hp : w.point = true := by simpa using hb43
        have ht : thereB H e.id e.index = false := by
         unfold thereB
         rw [hws]
         simp [SW.m, hp]
        exact J.meetI () trivial ⟨rfl, rfl, rfl, rfl, rfl, rfl, (by rw [ht]; rfl), trivial⟩
     replace hb31 := X.nm hb31
     try (first | (cases hb31; done) | (exfalso; simp at hb31; done))
     all_goals
      refine RG.skip 13 hR rfl rfl rfl rfl rfl rfl <| RG.skip 14 hR rfl rfl rfl rfl rfl rfl <| RG.skip 15 hR rfl rfl rfl rfl rfl rfl <| RG.skip 16 hR rfl rfl rfl rfl rfl rfl <| RG.skip 17 hR rfl rfl rfl rfl rfl rfl <| RG.skip 18 hR rfl rfl rfl rfl rfl rfl <| RG.skip 19 hR rfl rfl rfl rfl rfl rfl <| RG.skip 20 hR rfl rfl rfl rfl rfl rfl <| RG.skip 21 hR rfl rfl rfl rfl rfl rfl <| RG.skip 22 hR rfl rfl rfl rfl rfl rfl ?_
      refine RG.p 23 hR rfl (Q.pick_f rfl rfl) <| RG.p 24 hR rfl (Q.mv rfl) <| RG.skip 25 hR rfl rfl rfl rfl rfl rfl <| RG.skip 26 hR rfl rfl rfl rfl rfl rfl <| RG.skip 27 hR rfl rfl rfl rfl rfl rfl <| RG.skip 28 hR rfl rfl rfl rfl rfl rfl <| RG.skip 29 hR rfl rfl rfl rfl rfl rfl <| RG.skip 30 hR rfl rfl rfl rfl rfl rfl <| RG.skip 31 hR rfl rfl rfl rfl rfl rfl <| RG.skip 32 hR rfl rfl rfl rfl rfl rfl ?_
      refine RG.skip 33 hR rfl rfl rfl rfl rfl rfl <| RG.skip 34 hR rfl rfl rfl rfl rfl rfl <| RG.skip 35 hR rfl rfl rfl rfl rfl rfl <| RG.skip 36 hR rfl rfl rfl rfl rfl rfl <| RG.skip 37 hR rfl rfl rfl rfl rfl rfl <| RG.p 38 hR rfl (Q.pick_f rfl rfl) ?_
      refine RG.bar 39 hR rfl rfl rfl rfl rfl rfl (Q.asg rfl).toC ?_
      rintro _ _ ⟨rfl, rfl⟩
      refine RG.norm rfl ?_
      refine RG.fin hR rfl ?_
      refine J.norm rfl ?_
      have ht : thereB H e.id e.index = false := by
       unfold thereB
       rw [decide_eq_false (show ¬ e.index ≤ H.l.length by omega)]
       simp
      exact J.meetI () trivial ⟨rfl, rfl, rfl, rfl, rfl, rfl, (by rw [ht]; rfl), trivial⟩
   replace hb21 := X.nm hb21
   try (first | (cases hb21; done) | (exfalso; simp at hb21; done))
   all_goals
    refine RG.skip 3 hR rfl rfl rfl rfl rfl rfl <| RG.skip 4 hR rfl rfl rfl rfl rfl rfl <| RG.skip 5 hR rfl rfl rfl rfl rfl rfl <| RG.skip 6 hR rfl rfl rfl rfl rfl rfl <| RG.skip 7 hR rfl rfl rfl rfl rfl rfl <| RG.skip 8 hR rfl rfl rfl rfl rfl rfl <| RG.skip 9 hR rfl rfl rfl rfl rfl rfl <| RG.skip 10 hR rfl rfl rfl rfl rfl rfl <| RG.p 11 hR rfl (Q.pick_f rfl rfl) <| RG.p 12 hR rfl (Q.mv rfl) ?_
    refine RG.skip 13 hR rfl rfl rfl rfl rfl rfl <| RG.skip 14 hR rfl rfl rfl rfl rfl rfl <| RG.skip 15 hR rfl rfl rfl rfl rfl rfl <| RG.skip 16 hR rfl rfl rfl rfl rfl rfl <| RG.skip 17 hR rfl rfl rfl rfl rfl rfl <| RG.skip 18 hR rfl rfl rfl rfl rfl rfl <| RG.skip 19 hR rfl rfl rfl rfl rfl rfl <| RG.skip 20 hR rfl rfl rfl rfl rfl rfl <| RG.skip 21 hR rfl rfl rfl rfl rfl rfl <| RG.skip 22 hR rfl rfl rfl rfl rfl rfl ?_
    refine RG.p 23 hR rfl (Q.pick_f rfl rfl) <| RG.p 24 hR rfl (Q.mv rfl) <| RG.skip 25 hR rfl rfl rfl rfl rfl rfl <| RG.skip 26 hR rfl rfl rfl rfl rfl rfl <| RG.skip 27 hR rfl rfl rfl rfl rfl rfl <| RG.skip 28 hR rfl rfl rfl rfl rfl rfl <| RG.skip 29 hR rfl rfl rfl rfl rfl rfl <| RG.skip 30 hR rfl rfl rfl rfl rfl rfl <| RG.skip 31 hR rfl rfl rfl rfl rfl rfl <| RG.skip 32 hR rfl rfl rfl rfl rfl rfl ?_
    refine RG.skip 33 hR rfl rfl rfl rfl rfl rfl <| RG.skip 34 hR rfl rfl rfl rfl rfl rfl <| RG.skip 35 hR rfl rfl rfl rfl rfl rfl <| RG.skip 36 hR rfl rfl rfl rfl rfl rfl <| RG.skip 37 hR rfl rfl rfl rfl rfl rfl <| RG.p 38 hR rfl (Q.pick_f rfl rfl) ?_
    refine RG.bar 39 hR rfl rfl rfl rfl rfl rfl (Q.asg rfl).toC ?_
    rintro _ _ ⟨rfl, rfl⟩
    refine RG.norm rfl ?_
    refine RG.fin hR rfl ?_
    refine J.norm rfl ?_
    have ht : thereB H e.id e.index = false := by
     unfold thereB
     rw [decide_eq_false (show ¬ 1 ≤ e.index by omega)]
     simp
    exact J.meetI () trivial ⟨rfl, rfl, rfl, rfl, rfl, rfl, (by rw [ht]; rfl), trivial⟩
  refine J.norm rfl <| J.seq ?_
  refine J.draw [9] Try.mixed (by kernel_rfl) fun hR => ?_
  refine RG.p 0 hR rfl (Q.mv rfl) <| RG.p 1 hR rfl (Q.mv rfl) <| RG.p 2 hR rfl (Q.nil_ rfl) <| RG.p 3 hR rfl (Q.fa (n := 3) Try.runUnderlying64 rfl rfl Try.sizeOf62 rfl) ?_
  refine RG.p 4 hR rfl (Q.ld Try.isAgg62 rfl (rdI (by exact rfl))) ?_
  refine RG.p 5 hR rfl (Q.fa (n := 1) Try.runUnderlying36 rfl rfl Try.sizeOf23 rfl) ?_
  refine RG.p 6 hR rfl (Q.ld Try.isAgg23 rfl (rdI (by exact rfl))) ?_
  refine RG.p 7 hR rfl (X.G.Q.lkV (f := Value.bool) H.asked ord3_nat hH.asked Try.runUnderlying62 keyU Try.zeroValue4 rfl rfl) ?_
  refine RG.slot 65 (.bool ((sget e.id H.asked).getD false)) rfl (getD_bool _) ?_
  refine RG.p 8 hR rfl (Q.not rfl) ?_
  refine RG.bar 9 hR rfl rfl rfl rfl rfl rfl (OpC.callvP (first := []) (args := [.int .i64 2, .bool (!(sget e.id H.asked).getD false)]) (cap := [.pointer (some ⟨b5, 0, none⟩)]) Try.call21 rfl rfl (add_spec b5 none 0 ([] : List Int) 2 (!(sget e.id H.asked).getD false) (by first | omega | simp))) ?_
  rintro _ _ ⟨_, ⟨p67, c67, rfl, rfl⟩, rfl⟩
  refine RG.norm rfl ?_
  rw [show addR ([] : List Int) 2 (!(sget e.id H.asked).getD false) = rul1 H e.m from rfl]
  refine RG.fin hR rfl ?_
  refine J.norm rfl <| J.then_n ?_
  refine J.cut (fun _ : Option Addr × Nat => True) (fun _ => [(0, .pointer (some ⟨h, 0, none⟩)), (3, .pointer (some ⟨b3, 0, none⟩)), (5, .pointer (some ⟨b5, 0, none⟩)), (6, .func (.func 21) #[] #[.pointer (some ⟨b5, 0, none⟩)]), (7, .bool (defB e.w.r.status)), (8, .int .u64 e.index), (9, .bool (thereB H e.id e.index))]) (fun w => [pt b3 (.cells e.cells.toArray 36 (0, 0)), pt b5 (.cells [Value.slice w.1 (rul2 H e.m).length w.2].toArray 58 (0, 0)), own 38 1 (.slice w.1 (rul2 H e.m).length w.2) ((rul2 H e.m).map (Value.int .i64)), pt h (.cells [.slice z.lp z.ws.length z.lc, .slice z.rp z.rws.length z.rc, .map (some z.f), .map (some z.a), .map (some z.b), .int .u64 H.most].toArray 64 (0, 0)), own 34 5 (.slice z.rp z.rws.length z.rc) (z.rws.flatMap RW.cells), MapAt encU (valRep encU) z.f H.first, MapAt encU (valRep Value.bool) z.a H.asked, MapAt encU (valRep encU) z.b H.before, own 74 10 (.slice z.lp z.ws.length z.lc) (z.ws.flatMap SW.cells), star (z.ws.map SW.asn), star [G, star (z.rws.map RW.asn)], F]) ?_ fun w _ => ?_
  ·
   refine J.region <| J.m rfl <| J.m rfl <| J.p rfl (Q.neq rfl rfl) <| J.m rfl ?_
   refine J.cases 71 rfl (fun hb71 => ?_) (fun hb71 => ?_)
   ·
    replace hb71 := X.nm hb71
    try (first | (cases hb71; done) | (exfalso; simp at hb71; done))
    all_goals
     refine J.m rfl <| J.p rfl (Q.not rfl) <| J.p rfl (Q.pick_t rfl rfl) ?_
     refine J.slot 74 (.bool (decide (e.index ≠ 0) && !thereB H e.id e.index)) rfl (by first | (rw [decide_eq_true (show e.index ≠ 0 by omega)]; rfl) | (rw [decide_eq_false (show ¬ e.index ≠ 0 by omega)]; rfl)) ?_
     refine J.c rfl rfl (OpC.callvP (first := []) (args := [.int .i64 3, .bool (decide (e.index ≠ 0) && !thereB H e.id e.index)]) (cap := [.pointer (some ⟨b5, 0, none⟩)]) Try.call21 rfl rfl (add_spec b5 p67 c67 (rul1 H e.m) 3 (decide (e.index ≠ 0) && !thereB H e.id e.index) (by first | omega | simp))) ?_
     rintro _ _ ⟨_, ⟨p75, c75, rfl, rfl⟩, rfl⟩
     refine J.norm rfl ?_
     rw [show addR (rul1 H e.m) 3 (decide (e.index ≠ 0) && !thereB H e.id e.index) = rul2 H e.m from rfl]
     refine J.nil ?_
     exact J.meetI (p75, c75) trivial ⟨rfl, rfl, rfl, rfl, rfl, rfl, rfl, trivial⟩
   replace hb71 := X.nm hb71
   try (first | (cases hb71; done) | (exfalso; simp at hb71; done))
   all_goals
    refine J.skip rfl rfl <| J.skip rfl rfl <| J.p rfl (Q.pick_f rfl rfl) ?_
    refine J.slot 74 (.bool (decide (e.index ≠ 0) && !thereB H e.id e.index)) rfl (by first | (rw [decide_eq_true (show e.index ≠ 0 by omega)]; rfl) | (rw [decide_eq_false (show ¬ e.index ≠ 0 by omega)]; rfl)) ?_
    refine J.c rfl rfl (OpC.callvP (first := []) (args := [.int .i64 3, .bool (decide (e.index ≠ 0) && !thereB H e.id e.index)]) (cap := [.pointer (some ⟨b5, 0, none⟩)]) Try.call21 rfl rfl (add_spec b5 p67 c67 (rul1 H e.m) 3 (decide (e.index ≠ 0) && !thereB H e.id e.index) (by first | omega | simp))) ?_
    rintro _ _ ⟨_, ⟨p75, c75, rfl, rfl⟩, rfl⟩
    refine J.norm rfl ?_
    rw [show addR (rul1 H e.m) 3 (decide (e.index ≠ 0) && !thereB H e.id e.index) = rul2 H e.m from rfl]
    refine J.nil ?_
    exact J.meetI (p75, c75) trivial ⟨rfl, rfl, rfl, rfl, rfl, rfl, rfl, trivial⟩
  refine J.norm rfl ?_
  obtain ⟨pw7, cw7⟩ := w
  dsimp only
  refine J.cut (fun _ : Option Addr × Nat => True) (fun _ => [(0, .pointer (some ⟨h, 0, none⟩)), (3, .pointer (some ⟨b3, 0, none⟩)), (5, .pointer (some ⟨b5, 0, none⟩)), (6, .func (.func 21) #[] #[.pointer (some ⟨b5, 0, none⟩)]), (7, .bool (defB e.w.r.status)), (8, .int .u64 e.index), (9, .bool (thereB H e.id e.index))]) (fun w => [pt b3 (.cells e.cells.toArray 36 (0, 0)), pt b5 (.cells [Value.slice w.1 (rul3 H e.m).length w.2].toArray 58 (0, 0)), own 38 1 (.slice w.1 (rul3 H e.m).length w.2) ((rul3 H e.m).map (Value.int .i64)), pt h (.cells [.slice z.lp z.ws.length z.lc, .slice z.rp z.rws.length z.rc, .map (some z.f), .map (some z.a), .map (some z.b), .int .u64 H.most].toArray 64 (0, 0)), own 34 5 (.slice z.rp z.rws.length z.rc) (z.rws.flatMap RW.cells), MapAt encU (valRep encU) z.f H.first, MapAt encU (valRep Value.bool) z.a H.asked, MapAt encU (valRep encU) z.b H.before, own 74 10 (.slice z.lp z.ws.length z.lc) (z.ws.flatMap SW.cells), star (z.ws.map SW.asn), star [G, star (z.rws.map RW.asn)], F]) ?_ fun w _ => ?_
  ·
   refine J.region <| J.m rfl <| J.m rfl <| J.m rfl ?_
   refine J.cases 78 rfl (fun hb78 => ?_) (fun hb78 => ?_)
   ·
    replace hb78 := X.nm hb78
    try (first | (cases hb78; done) | (exfalso; simp at hb78; done))
    all_goals
     refine J.m rfl <| J.p rfl (Q.eql rfl rfl) <| J.p rfl (Q.pick_t rfl rfl) ?_
     refine J.slot 81 (.bool (defB e.w.r.status && decide (e.index = 0))) rfl (by first | (rw [hb78, decide_eq_decide.2 (show (e.index : Int) = 0 ↔ e.index = 0 by omega)]; rfl) | (rw [hb78]; rfl)) ?_
     refine J.c rfl rfl (OpC.callvP (first := []) (args := [.int .i64 4, .bool (defB e.w.r.status && decide (e.index = 0))]) (cap := [.pointer (some ⟨b5, 0, none⟩)]) Try.call21 rfl rfl (add_spec b5 pw7 cw7 (rul2 H e.m) 4 (defB e.w.r.status && decide (e.index = 0)) (by first | omega | simp))) ?_
     rintro _ _ ⟨_, ⟨p82, c82, rfl, rfl⟩, rfl⟩
     refine J.norm rfl ?_
     rw [show addR (rul2 H e.m) 4 (defB e.w.r.status && decide (e.index = 0)) = rul3 H e.m from rfl]
     refine J.nil ?_
     exact J.meetI (p82, c82) trivial ⟨rfl, rfl, rfl, rfl, rfl, rfl, rfl, trivial⟩
   replace hb78 := X.nm hb78
   try (first | (cases hb78; done) | (exfalso; simp at hb78; done))
   all_goals
    refine J.skip rfl rfl <| J.skip rfl rfl <| J.p rfl (Q.pick_f rfl rfl) ?_
    refine J.slot 81 (.bool (defB e.w.r.status && decide (e.index = 0))) rfl (by first | (rw [hb78, decide_eq_decide.2 (show (e.index : Int) = 0 ↔ e.index = 0 by omega)]; rfl) | (rw [hb78]; rfl)) ?_
    refine J.c rfl rfl (OpC.callvP (first := []) (args := [.int .i64 4, .bool (defB e.w.r.status && decide (e.index = 0))]) (cap := [.pointer (some ⟨b5, 0, none⟩)]) Try.call21 rfl rfl (add_spec b5 pw7 cw7 (rul2 H e.m) 4 (defB e.w.r.status && decide (e.index = 0)) (by first | omega | simp))) ?_
    rintro _ _ ⟨_, ⟨p82, c82, rfl, rfl⟩, rfl⟩
    refine J.norm rfl ?_
    rw [show addR (rul2 H e.m) 4 (defB e.w.r.status && decide (e.index = 0)) = rul3 H e.m from rfl]
    refine J.nil ?_
    exact J.meetI (p82, c82) trivial ⟨rfl, rfl, rfl, rfl, rfl, rfl, rfl, trivial⟩
  refine J.norm rfl ?_
  obtain ⟨pw8, cw8⟩ := w
  dsimp only
  refine J.seq ?_
  refine J.draw [10, 11] Try.mixed (by kernel_rfl) fun hR => ?_
  refine RG.p 0 hR rfl (Q.mv rfl) <| RG.p 1 hR rfl (Q.nil_ rfl) <| RG.p 2 hR rfl (Q.fa (n := 4) Try.runUnderlying64 rfl rfl Try.sizeOf61 rfl) ?_
  refine RG.p 3 hR rfl (Q.ld Try.isAgg61 rfl (rdI (by exact rfl))) ?_
  refine RG.p 4 hR rfl (Q.fa (n := 1) Try.runUnderlying36 rfl rfl Try.sizeOf23 rfl) ?_
  refine RG.p 5 hR rfl (Q.ld Try.isAgg23 rfl (rdI (by exact rfl))) ?_
  refine RG.p 6 hR rfl (X.G.Q.lk2V (f := encU) H.before ord3_nat hH.before Try.runUnderlying61 keyU Try.zeroValue23 rfl rfl) ?_
  refine RG.p 7 hR rfl (Q.mv rfl) <| RG.p 8 hR rfl (Q.ext rfl rfl) ?_
  refine RG.slot 91 (.int .u64 (((sget e.id H.before).getD 0 : Nat) : Int)) rfl (getD_enc _) ?_
  refine RG.p 9 hR rfl (Q.ext rfl rfl) ?_
  refine RG.keep 10 hR rfl rfl rfl rfl rfl (Q.asg rfl) ?_
  refine RG.bar 11 hR rfl rfl rfl rfl rfl rfl (Q.asg rfl).toC ?_
  rintro _ _ ⟨rfl, rfl⟩
  refine RG.norm rfl ?_
  refine RG.fin hR rfl ?_
  refine J.norm rfl <| J.then_n ?_
  refine J.cut (fun _ : Option Addr × Nat => True) (fun _ => [(0, .pointer (some ⟨h, 0, none⟩)), (3, .pointer (some ⟨b3, 0, none⟩)), (5, .pointer (some ⟨b5, 0, none⟩)), (6, .func (.func 21) #[] #[.pointer (some ⟨b5, 0, none⟩)]), (7, .bool (defB e.w.r.status)), (8, .int .u64 e.index), (9, .bool (thereB H e.id e.index))]) (fun w => [pt b3 (.cells e.cells.toArray 36 (0, 0)), pt b5 (.cells [Value.slice w.1 (rul4 H e.m).length w.2].toArray 58 (0, 0)), own 38 1 (.slice w.1 (rul4 H e.m).length w.2) ((rul4 H e.m).map (Value.int .i64)), pt h (.cells [.slice z.lp z.ws.length z.lc, .slice z.rp z.rws.length z.rc, .map (some z.f), .map (some z.a), .map (some z.b), .int .u64 H.most].toArray 64 (0, 0)), own 34 5 (.slice z.rp z.rws.length z.rc) (z.rws.flatMap RW.cells), MapAt encU (valRep encU) z.f H.first, MapAt encU (valRep Value.bool) z.a H.asked, MapAt encU (valRep encU) z.b H.before, own 74 10 (.slice z.lp z.ws.length z.lc) (z.ws.flatMap SW.cells), star (z.ws.map SW.asn), star [G, star (z.rws.map RW.asn)], F]) ?_ fun w _ => ?_
  ·
   refine J.draw [27] Try.mixed (by kernel_rfl) fun hR => ?_
   refine RG.p 0 hR rfl (Q.mv rfl) <| RG.p 1 hR rfl (Q.mv rfl) <| RG.p 2 hR rfl (Q.neq rfl rfl) <| RG.p 3 hR rfl (Q.mv rfl) ?_
   refine RG.cases 96 rfl (fun hb96 => ?_) (fun hb96 => ?_)
   ·
    replace hb96 := X.nm hb96
    try (first | (cases hb96; done) | (exfalso; simp at hb96; done))
    all_goals
     refine RG.p 4 hR rfl (Q.mv rfl) <| RG.p 5 hR rfl (Q.pick_t rfl rfl) <| RG.p 6 hR rfl (Q.mv rfl) ?_
     refine RG.cases 99 rfl (fun hb99 => ?_) (fun hb99 => ?_)
     ·
      replace hb99 := X.nm hb99
      try (first | (cases hb99; done) | (exfalso; simp at hb99; done))
      all_goals
       refine RG.p 7 hR rfl (Q.mv rfl) <| RG.p 8 hR rfl (Q.nil_ rfl) <| RG.p 9 hR rfl (Q.fa (n := 2) Try.runUnderlying64 rfl rfl Try.sizeOf61 rfl) ?_
       refine RG.p 10 hR rfl (Q.ld Try.isAgg61 rfl (rdI (by exact rfl))) ?_
       refine RG.p 11 hR rfl (Q.fa (n := 1) Try.runUnderlying36 rfl rfl Try.sizeOf23 rfl) ?_
       refine RG.p 12 hR rfl (Q.ld Try.isAgg23 rfl (rdI (by exact rfl))) ?_
       refine RG.p 13 hR rfl (X.G.Q.lkV (f := encU) H.first ord3_nat hH.first Try.runUnderlying61 keyU Try.zeroValue23 rfl rfl) ?_
       refine RG.slot 106 (.int .u64 (((sget e.id H.first).getD 0 : Nat) : Int)) rfl (getD_enc _) ?_
       refine RG.p 14 hR rfl (Q.neq rfl rfl) <| RG.p 15 hR rfl (Q.pick_t rfl rfl) <| RG.p 16 hR rfl (Q.mv rfl) ?_
       refine RG.cases 109 rfl (fun hb109 => ?_) (fun hb109 => ?_)
       ·
        replace hb109 := X.nm hb109
        try (first | (cases hb109; done) | (exfalso; simp at hb109; done))
        all_goals
         refine RG.p 17 hR rfl (Q.mv rfl) <| RG.p 18 hR rfl (Q.nil_ rfl) <| RG.p 19 hR rfl (Q.fa (n := 2) Try.runUnderlying64 rfl rfl Try.sizeOf61 rfl) ?_
         refine RG.p 20 hR rfl (Q.ld Try.isAgg61 rfl (rdI (by exact rfl))) ?_
         refine RG.p 21 hR rfl (Q.fa (n := 1) Try.runUnderlying36 rfl rfl Try.sizeOf23 rfl) ?_
         refine RG.p 22 hR rfl (Q.ld Try.isAgg23 rfl (rdI (by exact rfl))) ?_
         refine RG.p 23 hR rfl (X.G.Q.lkV (f := encU) H.first ord3_nat hH.first Try.runUnderlying61 keyU Try.zeroValue23 rfl rfl) ?_
         refine RG.slot 116 (.int .u64 (((sget e.id H.first).getD 0 : Nat) : Int)) rfl (getD_enc _) ?_
         refine RG.p 24 hR rfl (Q.mv rfl) <| RG.p 25 hR rfl (Q.leq rfl rfl) <| RG.p 26 hR rfl (Q.pick_t rfl rfl) ?_
         refine RG.slot 119 (.bool (lateB H e.m)) rfl (by
           show Value.bool _ = Value.bool (decide (e.index ≠ 0) && (sget e.id H.before).isSome && decide ((sget e.id H.first).getD 0 ≠ 0) && decide ((sget e.id H.first).getD 0 ≤ (sget e.id H.before).getD 0))
           first
            | (rw [decide_eq_false (show ¬ e.index ≠ 0 by omega)]; rfl)
            | (rw [decide_eq_true (show e.index ≠ 0 by omega), show (sget e.id H.before).isSome = false from hb99]; rfl)
            | (rw [decide_eq_true (show e.index ≠ 0 by omega), show (sget e.id H.before).isSome = true from hb99, decide_eq_false (show ¬ (sget e.id H.first).getD 0 ≠ 0 by omega)]; rfl)
            | (rw [decide_eq_true (show e.index ≠ 0 by omega), show (sget e.id H.before).isSome = true from hb99, decide_eq_true (show (sget e.id H.first).getD 0 ≠ 0 by omega), decide_eq_decide.2 (show (sget e.id H.first).getD 0 ≤ (sget e.id H.before).getD 0 ↔ (((sget e.id H.first).getD 0 : Nat) : Int) ≤ (((sget e.id H.before).getD 0 : Nat) : Int) by omega)]; rfl)) ?_
         refine RG.bar 27 hR rfl rfl rfl rfl rfl rfl (OpC.callvP (first := []) (args := [.int .i64 5, .bool (lateB H e.m)]) (cap := [.pointer (some ⟨b5, 0, none⟩)]) Try.call21 rfl rfl (add_spec b5 pw8 cw8 (rul3 H e.m) 5 (lateB H e.m) (by first | omega | simp))) ?_
         rintro _ _ ⟨_, ⟨p120, c120, rfl, rfl⟩, rfl⟩
         refine RG.norm rfl ?_
         rw [show addR (rul3 H e.m) 5 (lateB H e.m) = rul4 H e.m from rfl]
         refine RG.fin hR rfl ?_
         refine J.norm rfl ?_
         exact J.meetI (p120, c120) trivial ⟨rfl, rfl, rfl, rfl, rfl, rfl, rfl, trivial⟩
       replace hb109 := X.nm hb109
       try (first | (cases hb109; done) | (exfalso; simp at hb109; done))
       all_goals
        refine RG.skip 17 hR rfl rfl rfl rfl rfl rfl <| RG.skip 18 hR rfl rfl rfl rfl rfl rfl <| RG.skip 19 hR rfl rfl rfl rfl rfl rfl <| RG.skip 20 hR rfl rfl rfl rfl rfl rfl <| RG.skip 21 hR rfl rfl rfl rfl rfl rfl <| RG.skip 22 hR rfl rfl rfl rfl rfl rfl <| RG.skip 23 hR rfl rfl rfl rfl rfl rfl <| RG.skip 24 hR rfl rfl rfl rfl rfl rfl <| RG.skip 25 hR rfl rfl rfl rfl rfl rfl <| RG.p 26 hR rfl (Q.pick_f rfl rfl) ?_
        refine RG.slot 119 (.bool (lateB H e.m)) rfl (by
          show Value.bool _ = Value.bool (decide (e.index ≠ 0) && (sget e.id H.before).isSome && decide ((sget e.id H.first).getD 0 ≠ 0) && decide ((sget e.id H.first).getD 0 ≤ (sget e.id H.before).getD 0))
          first
           | (rw [decide_eq_false (show ¬ e.index ≠ 0 by omega)]; rfl)
           | (rw [decide_eq_true (show e.index ≠ 0 by omega), show (sget e.id H.before).isSome = false from hb99]; rfl)
           | (rw [decide_eq_true (show e.index ≠ 0 by omega), show (sget e.id H.before).isSome = true from hb99, decide_eq_false (show ¬ (sget e.id H.first).getD 0 ≠ 0 by omega)]; rfl)
           | (rw [decide_eq_true (show e.index ≠ 0 by omega), show (sget e.id H.before).isSome = true from hb99, decide_eq_true (show (sget e.id H.first).getD 0 ≠ 0 by omega), decide_eq_decide.2 (show (sget e.id H.first).getD 0 ≤ (sget e.id H.before).getD 0 ↔ (((sget e.id H.first).getD 0 : Nat) : Int) ≤ (((sget e.id H.before).getD 0 : Nat) : Int) by omega)]; rfl)) ?_
        refine RG.bar 27 hR rfl rfl rfl rfl rfl rfl (OpC.callvP (first := []) (args := [.int .i64 5, .bool (lateB H e.m)]) (cap := [.pointer (some ⟨b5, 0, none⟩)]) Try.call21 rfl rfl (add_spec b5 pw8 cw8 (rul3 H e.m) 5 (lateB H e.m) (by first | omega | simp))) ?_
        rintro _ _ ⟨_, ⟨p120, c120, rfl, rfl⟩, rfl⟩
        refine RG.norm rfl ?_
        rw [show addR (rul3 H e.m) 5 (lateB H e.m) = rul4 H e.m from rfl]
        refine RG.fin hR rfl ?_
        refine J.norm rfl ?_
        exact J.meetI (p120, c120) trivial ⟨rfl, rfl, rfl, rfl, rfl, rfl, rfl, trivial⟩
     replace hb99 := X.nm hb99
     try (first | (cases hb99; done) | (exfalso; simp at hb99; done))
     all_goals
      refine RG.skip 7 hR rfl rfl rfl rfl rfl rfl <| RG.skip 8 hR rfl rfl rfl rfl rfl rfl <| RG.skip 9 hR rfl rfl rfl rfl rfl rfl <| RG.skip 10 hR rfl rfl rfl rfl rfl rfl <| RG.skip 11 hR rfl rfl rfl rfl rfl rfl <| RG.skip 12 hR rfl rfl rfl rfl rfl rfl <| RG.skip 13 hR rfl rfl rfl rfl rfl rfl <| RG.skip 14 hR rfl rfl rfl rfl rfl rfl <| RG.p 15 hR rfl (Q.pick_f rfl rfl) <| RG.p 16 hR rfl (Q.mv rfl) ?_
      refine RG.skip 17 hR rfl rfl rfl rfl rfl rfl <| RG.skip 18 hR rfl rfl rfl rfl rfl rfl <| RG.skip 19 hR rfl rfl rfl rfl rfl rfl <| RG.skip 20 hR rfl rfl rfl rfl rfl rfl <| RG.skip 21 hR rfl rfl rfl rfl rfl rfl <| RG.skip 22 hR rfl rfl rfl rfl rfl rfl <| RG.skip 23 hR rfl rfl rfl rfl rfl rfl <| RG.skip 24 hR rfl rfl rfl rfl rfl rfl <| RG.skip 25 hR rfl rfl rfl rfl rfl rfl <| RG.p 26 hR rfl (Q.pick_f rfl rfl) ?_
      refine RG.slot 119 (.bool (lateB H e.m)) rfl (by
        show Value.bool _ = Value.bool (decide (e.index ≠ 0) && (sget e.id H.before).isSome && decide ((sget e.id H.first).getD 0 ≠ 0) && decide ((sget e.id H.first).getD 0 ≤ (sget e.id H.before).getD 0))
        first
         | (rw [decide_eq_false (show ¬ e.index ≠ 0 by omega)]; rfl)
         | (rw [decide_eq_true (show e.index ≠ 0 by omega), show (sget e.id H.before).isSome = false from hb99]; rfl)
         | (rw [decide_eq_true (show e.index ≠ 0 by omega), show (sget e.id H.before).isSome = true from hb99, decide_eq_false (show ¬ (sget e.id H.first).getD 0 ≠ 0 by omega)]; rfl)
         | (rw [decide_eq_true (show e.index ≠ 0 by omega), show (sget e.id H.before).isSome = true from hb99, decide_eq_true (show (sget e.id H.first).getD 0 ≠ 0 by omega), decide_eq_decide.2 (show (sget e.id H.first).getD 0 ≤ (sget e.id H.before).getD 0 ↔ (((sget e.id H.first).getD 0 : Nat) : Int) ≤ (((sget e.id H.before).getD 0 : Nat) : Int) by omega)]; rfl)) ?_
      refine RG.bar 27 hR rfl rfl rfl rfl rfl rfl (OpC.callvP (first := []) (args := [.int .i64 5, .bool (lateB H e.m)]) (cap := [.pointer (some ⟨b5, 0, none⟩)]) Try.call21 rfl rfl (add_spec b5 pw8 cw8 (rul3 H e.m) 5 (lateB H e.m) (by first | omega | simp))) ?_
      rintro _ _ ⟨_, ⟨p120, c120, rfl, rfl⟩, rfl⟩
      refine RG.norm rfl ?_
      rw [show addR (rul3 H e.m) 5 (lateB H e.m) = rul4 H e.m from rfl]
      refine RG.fin hR rfl ?_
      refine J.norm rfl ?_
      exact J.meetI (p120, c120) trivial ⟨rfl, rfl, rfl, rfl, rfl, rfl, rfl, trivial⟩
   replace hb96 := X.nm hb96
   try (first | (cases hb96; done) | (exfalso; simp at hb96; done))
   all_goals
    refine RG.skip 4 hR rfl rfl rfl rfl rfl rfl <| RG.p 5 hR rfl (Q.pick_f rfl rfl) <| RG.p 6 hR rfl (Q.mv rfl) <| RG.skip 7 hR rfl rfl rfl rfl rfl rfl <| RG.skip 8 hR rfl rfl rfl rfl rfl rfl <| RG.skip 9 hR rfl rfl rfl rfl rfl rfl <| RG.skip 10 hR rfl rfl rfl rfl rfl rfl <| RG.skip 11 hR rfl rfl rfl rfl rfl rfl <| RG.skip 12 hR rfl rfl rfl rfl rfl rfl <| RG.skip 13 hR rfl rfl rfl rfl rfl rfl ?_
    refine RG.skip 14 hR rfl rfl rfl rfl rfl rfl <| RG.p 15 hR rfl (Q.pick_f rfl rfl) <| RG.p 16 hR rfl (Q.mv rfl) <| RG.skip 17 hR rfl rfl rfl rfl rfl rfl <| RG.skip 18 hR rfl rfl rfl rfl rfl rfl <| RG.skip 19 hR rfl rfl rfl rfl rfl rfl <| RG.skip 20 hR rfl rfl rfl rfl rfl rfl <| RG.skip 21 hR rfl rfl rfl rfl rfl rfl <| RG.skip 22 hR rfl rfl rfl rfl rfl rfl <| RG.skip 23 hR rfl rfl rfl rfl rfl rfl ?_
    refine RG.skip 24 hR rfl rfl rfl rfl rfl rfl <| RG.skip 25 hR rfl rfl rfl rfl rfl rfl <| RG.p 26 hR rfl (Q.pick_f rfl rfl) ?_
    refine RG.slot 119 (.bool (lateB H e.m)) rfl (by
      show Value.bool _ = Value.bool (decide (e.index ≠ 0) && (sget e.id H.before).isSome && decide ((sget e.id H.first).getD 0 ≠ 0) && decide ((sget e.id H.first).getD 0 ≤ (sget e.id H.before).getD 0))
      first
       | (rw [decide_eq_false (show ¬ e.index ≠ 0 by omega)]; rfl)
       | (rw [decide_eq_true (show e.index ≠ 0 by omega), show (sget e.id H.before).isSome = false from hb99]; rfl)
       | (rw [decide_eq_true (show e.index ≠ 0 by omega), show (sget e.id H.before).isSome = true from hb99, decide_eq_false (show ¬ (sget e.id H.first).getD 0 ≠ 0 by omega)]; rfl)
       | (rw [decide_eq_true (show e.index ≠ 0 by omega), show (sget e.id H.before).isSome = true from hb99, decide_eq_true (show (sget e.id H.first).getD 0 ≠ 0 by omega), decide_eq_decide.2 (show (sget e.id H.first).getD 0 ≤ (sget e.id H.before).getD 0 ↔ (((sget e.id H.first).getD 0 : Nat) : Int) ≤ (((sget e.id H.before).getD 0 : Nat) : Int) by omega)]; rfl)) ?_
    refine RG.bar 27 hR rfl rfl rfl rfl rfl rfl (OpC.callvP (first := []) (args := [.int .i64 5, .bool (lateB H e.m)]) (cap := [.pointer (some ⟨b5, 0, none⟩)]) Try.call21 rfl rfl (add_spec b5 pw8 cw8 (rul3 H e.m) 5 (lateB H e.m) (by first | omega | simp))) ?_
    rintro _ _ ⟨_, ⟨p120, c120, rfl, rfl⟩, rfl⟩
    refine RG.norm rfl ?_
    rw [show addR (rul3 H e.m) 5 (lateB H e.m) = rul4 H e.m from rfl]
    refine RG.fin hR rfl ?_
    refine J.norm rfl ?_
    exact J.meetI (p120, c120) trivial ⟨rfl, rfl, rfl, rfl, rfl, rfl, rfl, trivial⟩
  refine J.norm rfl ?_
  obtain ⟨pw10, cw10⟩ := w
  dsimp only
  refine J.seq ?_
  refine J.pickI [pt b3 (.cells e.cells.toArray 36 (0, 0)), pt h (.cells [.slice z.lp z.ws.length z.lc, .slice z.rp z.rws.length z.rc, .map (some z.f), .map (some z.a), .map (some z.b), .int .u64 H.most].toArray 64 (0, 0)), own 34 5 (.slice z.rp z.rws.length z.rc) (z.rws.flatMap RW.cells)] ?_
  refine J.norm rfl ?_
  refine J.drawE [17, 20] 3 Try.mixed (by kernel_rfl) rfl rfl fun hR => ?_
  refine RG.p 0 hR rfl (Q.mv rfl) <| RG.p 1 hR rfl (Q.mv rfl) <| RG.p 2 hR rfl (Q.mv rfl) ?_
  refine RG.cases 123 rfl (fun hb123 => ?_) (fun hb123 => ?_)
  ·
   replace hb123 := X.nm hb123
   try (first | (cases hb123; done) | (exfalso; simp at hb123; done))
   all_goals
    refine RG.p 3 hR rfl (Q.mv rfl) <| RG.p 4 hR rfl (Q.pick_t rfl rfl) <| RG.p 5 hR rfl (Q.mv rfl) ?_
    refine RG.cases 126 rfl (fun hb126 => ?_) (fun hb126 => ?_)
    ·
     replace hb126 := X.nm hb126
     try (first | (cases hb126; done) | (exfalso; simp at hb126; done))
     all_goals
      have hth : thereB H e.id e.index = true := hb126
      obtain ⟨hn1, hn2⟩ := there_in hth
      obtain ⟨b, off, hlp, hrd⟩ := hsr.some_ (by omega)
      obtain ⟨w, hw⟩ : ∃ w, z.rws[e.index - 1]? = some w := ⟨_, List.getElem?_eq_getElem (by omega)⟩
      have hws : H.rs[e.index - 1]? = some w.r := by rw [← hz.rs, List.getElem?_map, hw]; rfl
      refine RG.p 6 hR rfl (Q.fa (n := 12) Try.runUnderlying36 rfl rfl Try.sizeOf34 rfl) <| RG.p 7 hR rfl (Q.ldN (vs := [_, _, _, _, _]) Try.isAgg34 Try.sizeOf34 rfl (rnSub 12 rfl)) <| RG.p 8 hR rfl (Q.mv rfl) <| RG.p 9 hR rfl (Q.nil_ rfl) <| RG.p 10 hR rfl (Q.fa (n := 1) Try.runUnderlying64 rfl rfl Try.sizeOf60 rfl) ?_
      refine RG.p 11 hR rfl (Q.ld Try.isAgg60 rfl (rdI (by exact rfl))) ?_
      refine RG.slot 132 (.slice (some ⟨b, off, none⟩) z.rws.length z.rc) rfl (by rw [hlp]) ?_
      refine RG.p 12 hR rfl (Q.mv rfl) <| RG.p 13 hR rfl (Q.maxI rfl) ?_
      refine RG.slot 134 (.int .u64 (e.index : Int)) rfl (by rw [show (if (1 : Int) > (e.index : Int) then (1 : Int) else (e.index : Int)) = (e.index : Int) from if_neg (by omega)]) ?_
      refine RG.p 14 hR rfl (Q.sub rfl rfl) ?_
      refine RG.slot 135 (.int .u64 ((e.index - 1 : Nat) : Int)) rfl (by rw [show (e.index : Int) - 1 = ((e.index - 1 : Nat) : Int) by omega, wrap64 (by omega)]) ?_
      refine RG.p 15 hR rfl (Q.ia Try.runUnderlying60 Try.sizeOf34 rfl rfl (by omega) (by omega)) <| RG.p 16 hR rfl (Q.ldN (vs := [_, _, _, _, _]) Try.isAgg34 Try.sizeOf34 rfl ((rd_elem RW.cells_length hrd hw (by simp)).inI)) ?_
      refine RG.callkI 17 hR rfl rfl rfl rfl rfl Try.call22 (same_spec (star [G, star (z.rws.map RW.asn)]) e.w w (he.w.into 0 rfl) (((hro _ _ hw).into (e.index - 1) (by rw [List.getElem?_map, hw]; rfl)).into 1 rfl)) rfl ?_
      rintro _ _ ⟨rfl, rfl⟩
      refine RG.normE rfl <| RG.p 18 hR rfl (Q.not rfl) <| RG.p 19 hR rfl (Q.pick_t rfl rfl) ?_
      refine RG.slot 140 (.bool (toldB H e.m)) rfl (by
        show Value.bool _ = Value.bool (defB e.w.r.status && thereB H e.id e.index && !(match H.rs[max e.index 1 - 1]? with | some r => sameM e.w.r r | none => true))
        first
         | (rw [show defB e.w.r.status = false from hb123]; rfl)
         | (rw [show defB e.w.r.status = true from hb123, show thereB H e.id e.index = false from hb126]; rfl)
         | (rw [show defB e.w.r.status = true from hb123, hth, show max e.index 1 - 1 = e.index - 1 by omega, hws]; rfl)) ?_
      refine RG.bar 20 hR rfl rfl rfl rfl rfl rfl (OpC.callvP (first := []) (args := [.int .i64 6, .bool (toldB H e.m)]) (cap := [.pointer (some ⟨b5, 0, none⟩)]) Try.call21 rfl rfl (add_spec b5 pw10 cw10 (rul4 H e.m) 6 (toldB H e.m) (by first | omega | simp))) ?_
      rintro _ _ ⟨_, ⟨p141, c141, rfl, rfl⟩, rfl⟩
      refine RG.norm rfl ?_
      rw [show addR (rul4 H e.m) 6 (toldB H e.m) = H.breaks e.m from rfl]
      refine RG.fin hR rfl ?_
      refine J.norm rfl <| J.then_n <| J.seq <| J.region ?_
      refine J.p rfl (Q.ld Try.isAgg58 rfl (rdI (by exact rfl))) ?_
      refine J.p rfl (Q.asg rfl) <| J.nil <| J.then_n <| J.cret ?_
      refine J.unpackI [G, star (z.rws.map RW.asn)] ?_
      refine J.norm rfl ?_
      refine J.shutI (z.asns h H) (HAt h H) (fun _ s => ⟨z, hz, s⟩) ?_
      refine J.ret1I [own 38 1 (.slice p141 (H.breaks e.m).length c141) ((H.breaks e.m).map (Value.int .i64)), HAt h H, G] rfl rfl ⟨p141, c141, rfl, rfl⟩
    replace hb126 := X.nm hb126
    try (first | (cases hb126; done) | (exfalso; simp at hb126; done))
    all_goals
     refine RG.skip 6 hR rfl rfl rfl rfl rfl rfl <| RG.skip 7 hR rfl rfl rfl rfl rfl rfl <| RG.skip 8 hR rfl rfl rfl rfl rfl rfl <| RG.skip 9 hR rfl rfl rfl rfl rfl rfl <| RG.skip 10 hR rfl rfl rfl rfl rfl rfl <| RG.skip 11 hR rfl rfl rfl rfl rfl rfl <| RG.skip 12 hR rfl rfl rfl rfl rfl rfl <| RG.skip 13 hR rfl rfl rfl rfl rfl rfl <| RG.skip 14 hR rfl rfl rfl rfl rfl rfl <| RG.skip 15 hR rfl rfl rfl rfl rfl rfl ?_
     refine RG.skip 16 hR rfl rfl rfl rfl rfl rfl ?_
     refine RG.pass 17 hR rfl rfl rfl rfl rfl ?_
     refine RG.skip 18 hR rfl rfl rfl rfl rfl rfl <| RG.p 19 hR rfl (Q.pick_f rfl rfl) ?_
     refine RG.slot 140 (.bool (toldB H e.m)) rfl (by
       show Value.bool _ = Value.bool (defB e.w.r.status && thereB H e.id e.index && !(match H.rs[max e.index 1 - 1]? with | some r => sameM e.w.r r | none => true))
       first
        | (rw [show defB e.w.r.status = false from hb123]; rfl)
        | (rw [show defB e.w.r.status = true from hb123, show thereB H e.id e.index = false from hb126]; rfl)
        | (rw [show defB e.w.r.status = true from hb123, hth, show max e.index 1 - 1 = e.index - 1 by omega, hws]; rfl)) ?_
     refine RG.bar 20 hR rfl rfl rfl rfl rfl rfl (OpC.callvP (first := []) (args := [.int .i64 6, .bool (toldB H e.m)]) (cap := [.pointer (some ⟨b5, 0, none⟩)]) Try.call21 rfl rfl (add_spec b5 pw10 cw10 (rul4 H e.m) 6 (toldB H e.m) (by first | omega | simp))) ?_
     rintro _ _ ⟨_, ⟨p141, c141, rfl, rfl⟩, rfl⟩
     refine RG.norm rfl ?_
     rw [show addR (rul4 H e.m) 6 (toldB H e.m) = H.breaks e.m from rfl]
     refine RG.fin hR rfl ?_
     refine J.norm rfl <| J.then_n <| J.seq <| J.region ?_
     refine J.p rfl (Q.ld Try.isAgg58 rfl (rdI (by exact rfl))) ?_
     refine J.p rfl (Q.asg rfl) <| J.nil <| J.then_n <| J.cret ?_
     refine J.unpackI [G, star (z.rws.map RW.asn)] ?_
     refine J.norm rfl ?_
     refine J.shutI (z.asns h H) (HAt h H) (fun _ s => ⟨z, hz, s⟩) ?_
     refine J.ret1I [own 38 1 (.slice p141 (H.breaks e.m).length c141) ((H.breaks e.m).map (Value.int .i64)), HAt h H, G] rfl rfl ⟨p141, c141, rfl, rfl⟩
  replace hb123 := X.nm hb123
  try (first | (cases hb123; done) | (exfalso; simp at hb123; done))
  all_goals
   refine RG.skip 3 hR rfl rfl rfl rfl rfl rfl <| RG.p 4 hR rfl (Q.pick_f rfl rfl) <| RG.p 5 hR rfl (Q.mv rfl) <| RG.skip 6 hR rfl rfl rfl rfl rfl rfl <| RG.skip 7 hR rfl rfl rfl rfl rfl rfl <| RG.skip 8 hR rfl rfl rfl rfl rfl rfl <| RG.skip 9 hR rfl rfl rfl rfl rfl rfl <| RG.skip 10 hR rfl rfl rfl rfl rfl rfl <| RG.skip 11 hR rfl rfl rfl rfl rfl rfl <| RG.skip 12 hR rfl rfl rfl rfl rfl rfl ?_
   refine RG.skip 13 hR rfl rfl rfl rfl rfl rfl <| RG.skip 14 hR rfl rfl rfl rfl rfl rfl <| RG.skip 15 hR rfl rfl rfl rfl rfl rfl <| RG.skip 16 hR rfl rfl rfl rfl rfl rfl ?_
   refine RG.pass 17 hR rfl rfl rfl rfl rfl ?_
   refine RG.skip 18 hR rfl rfl rfl rfl rfl rfl <| RG.p 19 hR rfl (Q.pick_f rfl rfl) ?_
   refine RG.slot 140 (.bool (toldB H e.m)) rfl (by
     show Value.bool _ = Value.bool (defB e.w.r.status && thereB H e.id e.index && !(match H.rs[max e.index 1 - 1]? with | some r => sameM e.w.r r | none => true))
     first
      | (rw [show defB e.w.r.status = false from hb123]; rfl)
      | (rw [show defB e.w.r.status = true from hb123, show thereB H e.id e.index = false from hb126]; rfl)
      | (rw [show defB e.w.r.status = true from hb123, hth, show max e.index 1 - 1 = e.index - 1 by omega, hws]; rfl)) ?_
   refine RG.bar 20 hR rfl rfl rfl rfl rfl rfl (OpC.callvP (first := []) (args := [.int .i64 6, .bool (toldB H e.m)]) (cap := [.pointer (some ⟨b5, 0, none⟩)]) Try.call21 rfl rfl (add_spec b5 pw10 cw10 (rul4 H e.m) 6 (toldB H e.m) (by first | omega | simp))) ?_
   rintro _ _ ⟨_, ⟨p141, c141, rfl, rfl⟩, rfl⟩
   refine RG.norm rfl ?_
   rw [show addR (rul4 H e.m) 6 (toldB H e.m) = H.breaks e.m from rfl]
   refine RG.fin hR rfl ?_
   refine J.norm rfl <| J.then_n <| J.seq <| J.region ?_
   refine J.p rfl (Q.ld Try.isAgg58 rfl (rdI (by exact rfl))) ?_
   refine J.p rfl (Q.asg rfl) <| J.nil <| J.then_n <| J.cret ?_
   refine J.unpackI [G, star (z.rws.map RW.asn)] ?_
   refine J.norm rfl ?_
   refine J.shutI (z.asns h H) (HAt h H) (fun _ s => ⟨z, hz, s⟩) ?_
   refine J.ret1I [own 38 1 (.slice p141 (H.breaks e.m).length c141) ((H.breaks e.m).map (Value.int .i64)), HAt h H, G] rfl rfl ⟨p141, c141, rfl, rfl⟩
end Go.Proofs.Ytidbcaimgahllaa
namespace Go.Proofs.Ytidbcaimgahllaa
set_option linter.unusedSectionVars false
set_option linter.unusedSimpArgs false
set_option linter.unusedVariables false
open Go.X
open Go.X.G (Ord3 ord3_nat ord3_int ord3_str ltB sget sput sdel Srtd MapAt MapHole valRep)

def JM.told (H : JM) (e : EM) : JM := { H with asked := sput ltN e.id false H.asked, most := if defB e.res.status then max H.most e.index else H.most }
structure FM where
  rule : Int
  event : Int
abbrev FM.cells (f : FM) : List Value := [.int .i64 f.rule, .int .i64 f.event]
theorem FM.len (f : FM) : f.cells.length = 2 := rfl
theorem FM.one (f : FM) : ∀ v, v ∈ f.cells → oneC v = true := by
  intro v hv
  simp only [FM.cells, List.mem_cons, List.not_mem_nil, or_false] at hv
  rcases hv with rfl | rfl <;> rfl
structure ES where
  H : JM
  fs : List FM
  n : Nat
def ES.step (z : ES) (e : EM) : ES :=
  if e.answer then ⟨z.H.told e, z.fs ++ (z.H.breaks e).map (fun r => ⟨r, z.n⟩), z.n + 1⟩ else ⟨z.H.ask e.id, z.fs, z.n + 1⟩
def runE (H : JM) (l : List EM) : ES := l.foldl ES.step ⟨H, [], 0⟩
def faults (H : JM) (l : List EM) : List FM := (runE H l).fs
theorem runE_snoc (H : JM) (l : List EM) (e : EM) : runE H (l ++ [e]) = (runE H l).step e := by simp [runE]
theorem runE_take {H : JM} {l : List EM} {k : Nat} {e : EM} (h : l[k]? = some e) : runE H (l.take (k + 1)) = (runE H (l.take k)).step e := by
  obtain ⟨h1, h2⟩ := List.getElem?_eq_some_iff.1 h
  rw [List.take_succ_eq_append_getElem h1, h2, runE_snoc]
theorem JM.ok.ask {H : JM} (h : H.ok) (id : Nat) : (H.ask id).ok := by
  refine ⟨h.first, X.G.srtd_put ord3_nat h.asked _ _, ?_, h.len, h.small, h.rs⟩
  show Srtd ltN (if (sget id H.before).isSome then H.before else sput ltN id H.most H.before)
  split
  · exact h.before
  · exact X.G.srtd_put ord3_nat h.before _ _
theorem JM.ok.told {H : JM} (h : H.ok) (e : EM) : (H.told e).ok := ⟨h.first, X.G.srtd_put ord3_nat h.asked _ _, h.before, h.len, h.small, h.rs⟩
structure ES.ok (k : Nat) (z : ES) : Prop where
  h : z.H.ok
  n : z.n = k
  fs : z.fs.length ≤ 5 * k
theorem ES.ok.step {k : Nat} {z : ES} (h : z.ok k) (e : EM) : (z.step e).ok (k + 1) := by
  obtain ⟨h1, h2, h3⟩ := h
  obtain ⟨_, _, _, _, n5⟩ := rul_le z.H e
  unfold ES.step
  split
  · exact ⟨h1.told e, by show z.n + 1 = k + 1; omega, by show (z.fs ++ _).length ≤ _; rw [List.length_append, List.length_map]; omega⟩
  · exact ⟨h1.ask e.id, by show z.n + 1 = k + 1; omega, by show z.fs.length ≤ _; omega⟩
theorem ES.ok.fold : ∀ (l : List EM) {k : Nat} {z : ES}, z.ok k → (l.foldl ES.step z).ok (k + l.length)
  | [], _, _, h => h
  | e :: l, k, z, h => by
    have := ES.ok.fold l (h.step e)
    rw [List.foldl_cons, List.length_cons, show k + (l.length + 1) = k + 1 + l.length by omega]; exact this
theorem runE_ok {H : JM} (h : H.ok) (l : List EM) : (runE H l).ok l.length := by
  have := ES.ok.fold l (k := 0) (z := ⟨H, [], 0⟩) ⟨h, rfl, Nat.zero_le _⟩
  rwa [Nat.zero_add] at this

structure Evs (G : Assn) (ep : Option Addr) (ec : Nat) (l : List EW) : Prop where
  rd : SlR [G] 17 (.slice ep l.length ec) (l.flatMap EW.cells)
  ok : ∀ e, e ∈ l → e.ok G
  small : l.length ≤ 32768

theorem check_ok (G1 G2 : Assn) (lp : Option Addr) (lc : Nat) (l : List CW) (ds : List DM) (hl : Coms G1 lp lc l ds) (hi : ∀ (i : Nat) (x : CW), l[i]? = some x → x.index = i + 1) (hb : ∀ d, d ∈ ds → d.bad = false)
    (ep : Option Addr) (ec : Nat) (es : List EW) (he : Evs G2 ep ec es) : FSpec Try.prog 6 [.slice lp l.length lc, .slice ep es.length ec] [G1, G2]
    (fun u B => ∃ p c, u = .slice p (faults (begM (ds.map DM.m)) (es.map EW.m)).length c ∧ B = [own 40 2 (.slice p (faults (begM (ds.map DM.m)) (es.map EW.m)).length c) ((faults (begM (ds.map DM.m)) (es.map EW.m)).flatMap FM.cells), G1, G2]) := by
  have hesm := he.small
  have hlsm := hl.small
  refine FSpec.of Try.func6 rfl Try.ntmps6 rfl fun W0 F => ?_
  refine J.seq <| J.region <| J.p rfl (Q.asg rfl) <| J.nil <| J.then_n <| J.scope <| J.seq <| J.region <| J.m rfl ?_
  refine J.callI Try.call12 (read_ok G1 lp lc l ds hl hi hb) rfl rfl rfl ?_
  rintro _ _ ⟨ws, wp, wc, rfl, hwm, hwo, rfl⟩
  refine J.norm rfl ?_
  have hwl : ws.length = l.length := by
   have := congrArg List.length hwm
   rw [List.length_map, List.length_map] at this
   rw [this, hl.dl]
  refine J.m rfl <| J.p rfl (Q.ext rfl rfl) <| J.p rfl (Q.ext rfl rfl) <| J.p rfl (Q.asg rfl) <| J.p rfl (Q.asg rfl) <| J.nil <| J.then_n <| J.seq <| J.seq <| J.region <| J.m rfl <| J.p rfl (Q.neq rfl rfl) <| J.nil <| J.then_n ?_
  refine J.cases 19 rfl (fun hc19 => ?_) (fun hc19 => ?_)
  ·
   replace hc19 := X.nm hc19
   try (first | (cases hc19; done) | (exfalso; simp at hc19; done))
   all_goals
    refine J.cond_t rfl <| J.seq <| J.region <| J.p rfl (Q.bld (l := [_, _]) Try.runUnderlying40 Try.zeroValue40 Try.places40 rfl rfl) ?_
    refine J.c rfl rfl (C.bslG (l := [_, _]) Try.runUnderlying41 Try.sizeOf40 Try.zeroValue40 (by decide) rfl rfl rfl rfl rfl) ?_
    rintro _ _ ⟨b21, rfl, rfl⟩
    refine J.norm rfl <| J.p rfl (Q.asg rfl) <| J.nil <| J.then_n <| J.cret <| J.then_r <| J.scp_r ?_
    have htk : (es.map EW.m).take i = es.map EW.m := List.take_of_length_le (by rw [List.length_map]; omega)
    rw [htk]
    rw [hH0, show (runE (begM (ds.map DM.m)) (es.map EW.m)).fs = faults (begM (ds.map DM.m)) (es.map EW.m) from rfl]
    refine J.ret1I [own 40 2 (.slice p (faults (begM (ds.map DM.m)) (es.map EW.m)).length c) ((faults (begM (ds.map DM.m)) (es.map EW.m)).flatMap FM.cells), G1, G2] rfl rfl ⟨p, c, rfl, rfl⟩
  replace hc19 := X.nm hc19
  try (first | (cases hc19; done) | (exfalso; simp at hc19; done))
  all_goals
   refine J.cond_f rfl <| J.cskip <| J.then_n <| J.seq <| J.region <| J.m rfl ?_
   refine J.callI Try.call13 (jbegin_spec ws wp wc hwo (by omega)) rfl rfl rfl ?_
   rintro _ _ ⟨h, rfl, rfl⟩
   refine J.norm rfl ?_
   obtain ⟨H0, hH0⟩ : ∃ H0, H0 = begM (ds.map DM.m) := ⟨_, rfl⟩
   have hH0o : H0.ok := by rw [hH0]; exact begM_ok (by rw [List.length_map, hl.dl]; omega)
   rw [hwm, ← hH0]
   refine J.p rfl (Q.asg rfl) <| J.nil <| J.then_n <| J.seq <| J.region <| J.p rfl (Q.asg rfl) <| J.nil <| J.then_n <| J.seq ?_
   refine J.clabel ?_
   refine J.then_n <| J.seq <| J.seq <| J.region <| J.m rfl <| J.p rfl (Q.lenSl Try.runUnderlying37 rfl) <| J.m rfl <| J.nil <| J.then_n <| J.block ?_
   refine J.give (own.nil 40 2 _) ?_
   refine J.keepI [own 40 2 (.slice none 0 0) [], HAt h H0, G1, G2, F] ?_
   refine J.loop3 (fun (i : Nat) (_ : Option Addr) (_ : Nat) => i ≤ es.length) (fun i _ _ => es.length - i)
    (fun i p c => [(7, .pointer (some ⟨h, 0, none⟩)), (8, .slice p (runE H0 ((es.map EW.m).take i)).fs.length c), (24, .slice ep es.length ec), (25, .int .i64 es.length), (26, .int .i64 i)])
    (fun i p c => [own 40 2 (.slice p (runE H0 ((es.map EW.m).take i)).fs.length c) ((runE H0 ((es.map EW.m).take i)).fs.flatMap FM.cells), HAt h (runE H0 ((es.map EW.m).take i)).H, G1, G2, F]) 0 none 0 (Nat.zero_le _) ⟨rfl, rfl, rfl, rfl, rfl, trivial⟩ rfl fun i p c hil => ?_
   refine J.seq <| J.region <| J.p rfl (Q.lss rfl rfl) <| J.nil <| J.then_n <| J.seq ?_
   refine J.cases 27 rfl (fun hc27 => ?_) (fun hc27 => ?_)
   ·
    replace hc27 := X.nm hc27
    try (first | (cases hc27; done) | (exfalso; simp at hc27; done))
    all_goals
     refine J.cond_t rfl <| J.cskip <| J.then_n <| J.seq <| J.block <| J.seq ?_
     have hlt : i < es.length := by omega
     obtain ⟨b, off, hep, hrd⟩ := he.rd.some_ (by omega)
     obtain ⟨e, hex⟩ : ∃ e, es[i]? = some e := ⟨_, List.getElem?_eq_getElem (by omega)⟩
     have heo := he.ok e (List.mem_of_getElem? hex)
     have hidx := heo.index
     have hpt := runE_take (H := H0) (l := es.map EW.m) (k := i) (e := e.m) (by rw [List.getElem?_map, hex]; rfl)
     have hSo := runE_ok hH0o ((es.map EW.m).take i)
     rw [List.length_take, List.length_map, Nat.min_eq_left (by omega)] at hSo
     obtain ⟨S, hS⟩ : ∃ S, S = runE H0 ((es.map EW.m).take i) := ⟨_, rfl⟩
     rw [← hS] at hpt hSo ⊢
     have hfl := hSo.fs
     have hSh := hSo.h
     obtain ⟨n1, n2, n3, n4, n5⟩ := rul_le S.H e.m
     refine J.slot 24 (.slice (some ⟨b, off, none⟩) es.length ec) rfl (by rw [hep]) ?_
     refine J.region <| J.m rfl <| J.p rfl (Q.ia Try.runUnderlying37 Try.sizeOf36 rfl rfl (by omega) (by omega)) <| J.p rfl (Q.ldN (vs := [_, _, _, _, _, _, _, _, _, _, _, _, _, _, _, _, _]) Try.isAgg36 Try.sizeOf36 rfl ((rd_elem EW.len hrd hex (by simp)).inI)) ?_
     refine J.c rfl rfl (C.alloc (l := [_, _, _, _, _, _, _, _, _, _, _, _, _, _, _, _, _]) Try.zeroValue36 rfl) ?_
     rintro _ _ ⟨b10, rfl, rfl⟩
     refine J.norm rfl <| J.p rfl (Q.asg rfl) ?_
     refine J.stAI (vs := [_, _, _, _, _, _, _, _, _, _, _, _, _, _, _, _, _]) rfl Try.sizeOf36 rfl rfl (by exact rfl) (by exact rfl) (by exact rfl) ?_
     refine J.nil <| J.then_n <| J.seq <| J.seq <| J.region <| J.p rfl (Q.fa (n := 0) Try.runUnderlying36 rfl rfl Try.sizeOf4 rfl) ?_
     refine J.p rfl (Q.ld Try.isAgg4 rfl (rdI (by exact rfl))) ?_
     refine J.p rfl (Q.not rfl) <| J.nil <| J.then_n ?_
     refine J.cases 33 rfl (fun hc33 => ?_) (fun hc33 => ?_)
     ·
      replace hc33 := X.nm hc33
      try (first | (cases hc33; done) | (exfalso; simp at hc33; done))
      all_goals
       refine J.cond_t rfl <| J.seq <| J.region <| J.m rfl <| J.p rfl (Q.fa (n := 1) Try.runUnderlying36 rfl rfl Try.sizeOf23 rfl) ?_
       refine J.p rfl (Q.ld Try.isAgg23 rfl (rdI (by exact rfl))) ?_
       refine J.callI Try.call14 (ask_spec h S.H hSh e.id) rfl rfl rfl ?_
       rintro _ _ ⟨rfl, rfl⟩
       refine J.norm rfl <| J.nil <| J.then_n <| J.exit <| J.then_x <| J.blk_x <| J.then_n <| J.region <| J.p rfl (Q.add64 rfl rfl (by omega)) <| J.m rfl <| J.nil ?_
       have hp : e.answer = false := by simpa using hc33
       have hst : S.step e.m = ⟨S.H.ask e.id, S.fs, S.n + 1⟩ := by unfold ES.step; rw [if_neg (by show ¬ e.answer = true; rw [hp]; simp)]; rfl
       have e3 : S.fs = (runE H0 ((es.map EW.m).take (i + 1))).fs := by rw [hpt, hst]
       have e4 : S.H.ask e.id = (runE H0 ((es.map EW.m).take (i + 1))).H := by rw [hpt, hst]
       rw [e3, e4]
       refine J.againI (i + 1, p, c) (by show i + 1 ≤ _; omega) (by show es.length - (i + 1) < es.length - i; omega) ⟨rfl, rfl, (by show _ = some (Value.slice ep es.length ec); rw [hep]; rfl), rfl, rfl, trivial⟩
     replace hc33 := X.nm hc33
     try (first | (cases hc33; done) | (exfalso; simp at hc33; done))
     all_goals
      refine J.cond_f rfl <| J.cskip <| J.then_n <| J.seq <| J.seq <| J.region <| J.m rfl ?_
      refine J.p rfl (Q.ldN (vs := [_, _, _, _, _, _, _, _, _, _, _, _, _, _, _, _, _]) Try.isAgg36 Try.sizeOf36 rfl rnI) ?_
      refine J.callI Try.call15 (breaks_spec G2 h S.H hSh e heo) rfl rfl rfl ?_
      rintro _ _ ⟨q, d, rfl, rfl⟩
      refine J.norm rfl ?_
      obtain ⟨rs, hrs⟩ : ∃ rs, rs = S.H.breaks e.m := ⟨_, rfl⟩
      rw [← hrs] at n5 ⊢
      refine J.slrI (E0 := 38) (sz := 1) (p := q) (n := rs.length) (c := d) (xs := rs.map (Value.int .i64)) fun hsr => ?_
      refine J.p rfl (Q.lenSl Try.runUnderlying58 rfl) <| J.m rfl <| J.nil <| J.then_n <| J.block ?_
      refine J.pickI [own 40 2 (.slice p S.fs.length c) (S.fs.flatMap FM.cells), own 38 1 (.slice q rs.length d) (rs.map (Value.int .i64)), HAt h S.H, pt b10 (.cells e.cells.toArray 36 (0, 0)), G1, G2, F] ?_
      refine J.keepI [own 40 2 (.slice p S.fs.length c) (S.fs.flatMap FM.cells), own 38 1 (.slice q rs.length d) (rs.map (Value.int .i64)), HAt h S.H, pt b10 (.cells e.cells.toArray 36 (0, 0)), G1, G2, F] ?_
      refine J.loop3 (fun (j : Nat) (_ : Option Addr) (_ : Nat) => j ≤ rs.length) (fun j _ _ => rs.length - j)
       (fun j p c => [(7, .pointer (some ⟨h, 0, none⟩)), (8, .slice p (S.fs ++ (rs.take j).map fun r => (⟨r, S.n⟩ : FM)).length c), (9, .int .i64 i), (10, .pointer (some ⟨b10, 0, none⟩)), (24, .slice (some ⟨b, off, none⟩) es.length ec), (25, .int .i64 es.length), (26, .int .i64 i), (40, .slice q rs.length d), (41, .int .i64 rs.length), (42, .int .i64 j)])
       (fun j p c => [own 40 2 (.slice p (S.fs ++ (rs.take j).map fun r => (⟨r, S.n⟩ : FM)).length c) ((S.fs ++ (rs.take j).map fun r => (⟨r, S.n⟩ : FM)).flatMap FM.cells), own 38 1 (.slice q rs.length d) (rs.map (Value.int .i64)), HAt h S.H, pt b10 (.cells e.cells.toArray 36 (0, 0)), G1, G2, F]) 0 p c (Nat.zero_le _) ⟨rfl, (by rw [List.take_zero, List.map_nil, List.append_nil]; rfl), rfl, rfl, rfl, rfl, rfl, rfl, rfl, rfl, trivial⟩ (by rw [List.take_zero, List.map_nil, List.append_nil]) fun j p c hjl => ?_
      refine J.seq <| J.region <| J.p rfl (Q.lss rfl rfl) <| J.nil <| J.then_n <| J.seq ?_
      refine J.cases 43 rfl (fun hc43 => ?_) (fun hc43 => ?_)
      ·
       replace hc43 := X.nm hc43
       try (first | (cases hc43; done) | (exfalso; simp at hc43; done))
       all_goals
        refine J.cond_t rfl <| J.cskip <| J.then_n <| J.seq <| J.block <| J.seq ?_
        have hjt : j < rs.length := by omega
        obtain ⟨b1, o1, hq, hrr⟩ := hsr.some_ (by omega)
        obtain ⟨r, hr⟩ : ∃ r, rs[j]? = some r := ⟨_, List.getElem?_eq_getElem (by omega)⟩
        refine J.slot 40 (.slice (some ⟨b1, o1, none⟩) rs.length d) rfl (by rw [hq]) ?_
        have hjn : rs.take (j + 1) = rs.take j ++ [r] := by
         obtain ⟨q1, q2⟩ := List.getElem?_eq_some_iff.1 hr
         rw [List.take_succ_eq_append_getElem q1, q2]
        have hfn : (S.fs ++ (rs.take j).map fun r => (⟨r, S.n⟩ : FM)).length ≤ 5 * i + 5 := by rw [List.length_append, List.length_map, List.length_take]; omega
        obtain ⟨fs, hfs⟩ : ∃ fs, fs = S.fs ++ (rs.take j).map fun r => (⟨r, S.n⟩ : FM) := ⟨_, rfl⟩
        have hfs2 : S.fs ++ (rs.take (j + 1)).map (fun r => (⟨r, S.n⟩ : FM)) = fs ++ [⟨r, S.n⟩] := by rw [hjn, List.map_append, ← List.append_assoc, ← hfs]; rfl
        rw [← hfs] at hfn ⊢
        refine J.region <| J.p rfl (Q.ia Try.runUnderlying58 Try.sizeOf38 rfl rfl (by omega) (by omega)) <| J.p rfl (Q.ld Try.isAgg38 rfl ((hrr j (.int .i64 r) (by simp [hr])).cast (by simp)).inI) <| J.p rfl (Q.asg rfl) <| J.nil <| J.then_n <| J.region <| J.m rfl <| J.m rfl <| J.m rfl <| J.p rfl (Q.bld (l := [.int .i64 r, .int .i64 i]) Try.runUnderlying40 Try.zeroValue40 Try.places40 rfl (by kernel_rfl)) ?_
        refine J.slot 49 (.agg (FM.cells ⟨r, S.n⟩).toArray) rfl (by rw [hSo.n]) ?_
        refine J.c rfl rfl (C.bslG (l := [_, _]) Try.runUnderlying41 Try.sizeOf40 Try.zeroValue40 (by decide) rfl rfl rfl rfl rfl) ?_
        rintro _ _ ⟨b50, rfl, rfl⟩
        refine J.norm rfl ?_
        refine J.c rfl rfl (C.appI Try.runUnderlying41 Try.runUnderlying41 Try.typeInfo40 Try.sizeOf40 Try.zeroValue40 rfl rfl (SlR.ptI rfl) (FM.one ⟨r, S.n⟩) (by simp [Try.t40] <;> omega) (by decide)) ?_
        rintro _ _ ⟨p51, c51, rfl, rfl⟩
        refine J.norm rfl <| J.p rfl (Q.asg rfl) <| J.nil <| J.blk_n <| J.then_n <| J.region <| J.p rfl (Q.add64 rfl rfl (by omega)) <| J.m rfl <| J.nil ?_
        have e1 : fs.length + 1 = (fs ++ [(⟨r, S.n⟩ : FM)]).length := by simp
        have e2 : fs.flatMap FM.cells ++ FM.cells ⟨r, S.n⟩ = (fs ++ [(⟨r, S.n⟩ : FM)]).flatMap FM.cells := by simp
        rw [e1, e2, ← hfs2]
        refine J.againI (j + 1, p51, c51) (by show j + 1 ≤ _; omega) (by show rs.length - (j + 1) < rs.length - j; omega) ⟨rfl, rfl, rfl, rfl, rfl, rfl, rfl, (by show _ = some (Value.slice q rs.length d); rw [hq]; rfl), rfl, rfl, trivial⟩
      replace hc43 := X.nm hc43
      try (first | (cases hc43; done) | (exfalso; simp at hc43; done))
      all_goals
       refine J.cond_f rfl <| J.exit <| J.then_x <| J.lp_x <| J.blk_x <| J.then_n <| J.seq ?_
       have htk : rs.take j = rs := List.take_of_length_le (by omega)
       rw [htk]
       have hans : e.answer = true := by simpa using hc33
       refine J.openI (HAt h S.H) (fun _ h => h) fun z hz => ?_
       refine J.norm rfl ?_
       refine J.draw [6] Try.mixed (by kernel_rfl) fun hR => ?_
       refine RG.p 0 hR rfl (Q.mv rfl) <| RG.p 1 hR rfl (Q.nil_ rfl) <| RG.p 2 hR rfl (Q.fa (n := 3) Try.runUnderlying64 rfl rfl Try.sizeOf62 rfl) ?_
       refine RG.p 3 hR rfl (Q.ld Try.isAgg62 rfl (rdI (by exact rfl))) ?_
       refine RG.p 4 hR rfl (Q.fa (n := 1) Try.runUnderlying36 rfl rfl Try.sizeOf23 rfl) ?_
       refine RG.p 5 hR rfl (Q.ld Try.isAgg23 rfl (rdI (by exact rfl))) ?_
       refine RG.bar 6 hR rfl rfl rfl rfl rfl rfl (X.G.C.putV Value.bool S.H.asked false ord3_nat hSh.asked Try.runUnderlying62 keyU rfl rfl rfl) ?_
       rintro _ _ ⟨rfl, rfl⟩
       refine RG.norm rfl ?_
       refine RG.fin hR rfl ?_
       refine J.norm rfl <| J.then_n <| J.seq <| J.region <| J.p rfl (Q.fa (n := 12) Try.runUnderlying36 rfl rfl Try.sizeOf34 rfl) <| J.p rfl (Q.fa (n := 0) Try.runUnderlying34 rfl rfl Try.sizeOf3 rfl) ?_
       refine J.p rfl (Q.ld Try.isAgg3 rfl (rdI (by exact rfl))) ?_
       refine J.callI Try.call7 (definite_spec e.w.r.status) rfl rfl rfl ?_
       rintro _ _ ⟨rfl, rfl⟩
       refine J.norm rfl <| J.nil <| J.then_n ?_
       refine J.cases 62 rfl (fun hc62 => ?_) (fun hc62 => ?_)
       ·
        replace hc62 := X.nm hc62
        try (first | (cases hc62; done) | (exfalso; simp at hc62; done))
        all_goals
         refine J.cond_t rfl ?_
         refine J.draw [10] Try.mixed (by kernel_rfl) fun hR => ?_
         refine RG.p 0 hR rfl (Q.mv rfl) <| RG.p 1 hR rfl (Q.mv rfl) <| RG.p 2 hR rfl (Q.nil_ rfl) <| RG.p 3 hR rfl (Q.fa (n := 5) Try.runUnderlying64 rfl rfl Try.sizeOf23 rfl) ?_
         refine RG.p 4 hR rfl (Q.ld Try.isAgg23 rfl (rdI (by exact rfl))) ?_
         refine RG.p 5 hR rfl (Q.fa (n := 11) Try.runUnderlying36 rfl rfl Try.sizeOf23 rfl) ?_
         refine RG.p 6 hR rfl (Q.ld Try.isAgg23 rfl (rdI (by exact rfl))) ?_
         refine RG.p 7 hR rfl (Q.maxI rfl) ?_
         refine RG.slot 70 (.int .u64 ((max S.H.most e.index : Nat) : Int)) rfl (by
           show Value.int .u64 (if (e.index : Int) > (S.H.most : Int) then (e.index : Int) else (S.H.most : Int)) = _
           congr 1
           split <;> omega) ?_
         refine RG.p 8 hR rfl (Q.nil_ rfl) <| RG.p 9 hR rfl (Q.fa (n := 5) Try.runUnderlying64 rfl rfl Try.sizeOf23 rfl) ?_
         refine RG.stI 10 hR rfl rfl rfl rfl rfl Try.sizeOf23 rfl rfl rfl (by exact rfl) (by exact rfl) (by exact rfl) ?_
         refine RG.fin hR rfl ?_
         refine J.norm rfl <| J.blk_n <| J.then_n <| J.region <| J.p rfl (Q.add64 rfl rfl (by omega)) <| J.m rfl <| J.nil ?_
         have hst : S.step e.m = ⟨S.H.told e.m, S.fs ++ rs.map (fun r => (⟨r, S.n⟩ : FM)), S.n + 1⟩ := by unfold ES.step; rw [if_pos (show e.m.answer = true from hans), hrs]
         have e3 : S.fs ++ rs.map (fun r => (⟨r, S.n⟩ : FM)) = (runE H0 ((es.map EW.m).take (i + 1))).fs := by rw [hpt, hst]
         have e4 : S.H.told e.m = (runE H0 ((es.map EW.m).take (i + 1))).H := by rw [hpt, hst]
         first
          | (have hd : defB e.w.r.status = true := hc62
             have ht : S.H.told e.m = ⟨S.H.l, S.H.rs, S.H.first, sput ltN e.id false S.H.asked, S.H.before, max S.H.most e.index⟩ := by unfold JM.told; rw [show defB e.m.res.status = true from hd]; rfl
             refine J.shutI (z.asns h ⟨S.H.l, S.H.rs, S.H.first, sput ltN e.id false S.H.asked, S.H.before, max S.H.most e.index⟩) (HAt h (S.H.told e.m)) (fun _ s => by rw [ht]; exact ⟨z, ⟨hz.l, hz.rs⟩, s⟩) ?_
             rw [e3, e4]
             refine J.againI (i + 1, p, c) (by show i + 1 ≤ _; omega) (by show es.length - (i + 1) < es.length - i; omega) ⟨rfl, rfl, (by show _ = some (Value.slice ep es.length ec); rw [hep]; rfl), rfl, rfl, trivial⟩)
          | (have hd : defB e.w.r.status = false := hc62
             have ht : S.H.told e.m = ⟨S.H.l, S.H.rs, S.H.first, sput ltN e.id false S.H.asked, S.H.before, S.H.most⟩ := by unfold JM.told; rw [show defB e.m.res.status = false from hd]; rfl
             refine J.shutI (z.asns h ⟨S.H.l, S.H.rs, S.H.first, sput ltN e.id false S.H.asked, S.H.before, S.H.most⟩) (HAt h (S.H.told e.m)) (fun _ s => by rw [ht]; exact ⟨z, ⟨hz.l, hz.rs⟩, s⟩) ?_
             rw [e3, e4]
             refine J.againI (i + 1, p, c) (by show i + 1 ≤ _; omega) (by show es.length - (i + 1) < es.length - i; omega) ⟨rfl, rfl, (by show _ = some (Value.slice ep es.length ec); rw [hep]; rfl), rfl, rfl, trivial⟩)
       replace hc62 := X.nm hc62
       try (first | (cases hc62; done) | (exfalso; simp at hc62; done))
       all_goals
        refine J.cond_f rfl <| J.cskip <| J.blk_n <| J.then_n <| J.region <| J.p rfl (Q.add64 rfl rfl (by omega)) <| J.m rfl <| J.nil ?_
        have hst : S.step e.m = ⟨S.H.told e.m, S.fs ++ rs.map (fun r => (⟨r, S.n⟩ : FM)), S.n + 1⟩ := by unfold ES.step; rw [if_pos (show e.m.answer = true from hans), hrs]
        have e3 : S.fs ++ rs.map (fun r => (⟨r, S.n⟩ : FM)) = (runE H0 ((es.map EW.m).take (i + 1))).fs := by rw [hpt, hst]
        have e4 : S.H.told e.m = (runE H0 ((es.map EW.m).take (i + 1))).H := by rw [hpt, hst]
        first
         | (have hd : defB e.w.r.status = true := hc62
            have ht : S.H.told e.m = ⟨S.H.l, S.H.rs, S.H.first, sput ltN e.id false S.H.asked, S.H.before, max S.H.most e.index⟩ := by unfold JM.told; rw [show defB e.m.res.status = true from hd]; rfl
            refine J.shutI (z.asns h ⟨S.H.l, S.H.rs, S.H.first, sput ltN e.id false S.H.asked, S.H.before, max S.H.most e.index⟩) (HAt h (S.H.told e.m)) (fun _ s => by rw [ht]; exact ⟨z, ⟨hz.l, hz.rs⟩, s⟩) ?_
            rw [e3, e4]
            refine J.againI (i + 1, p, c) (by show i + 1 ≤ _; omega) (by show es.length - (i + 1) < es.length - i; omega) ⟨rfl, rfl, (by show _ = some (Value.slice ep es.length ec); rw [hep]; rfl), rfl, rfl, trivial⟩)
         | (have hd : defB e.w.r.status = false := hc62
            have ht : S.H.told e.m = ⟨S.H.l, S.H.rs, S.H.first, sput ltN e.id false S.H.asked, S.H.before, S.H.most⟩ := by unfold JM.told; rw [show defB e.m.res.status = false from hd]; rfl
            refine J.shutI (z.asns h ⟨S.H.l, S.H.rs, S.H.first, sput ltN e.id false S.H.asked, S.H.before, S.H.most⟩) (HAt h (S.H.told e.m)) (fun _ s => by rw [ht]; exact ⟨z, ⟨hz.l, hz.rs⟩, s⟩) ?_
            rw [e3, e4]
            refine J.againI (i + 1, p, c) (by show i + 1 ≤ _; omega) (by show es.length - (i + 1) < es.length - i; omega) ⟨rfl, rfl, (by show _ = some (Value.slice ep es.length ec); rw [hep]; rfl), rfl, rfl, trivial⟩)
   replace hc27 := X.nm hc27
   try (first | (cases hc27; done) | (exfalso; simp at hc27; done))
   all_goals
    refine J.cond_f rfl <| J.exit <| J.then_x <| J.lp_x <| J.blk_x <| J.then_n <| J.seq <| J.region <| J.m rfl <| J.p rfl (Q.asg rfl) <| J.nil <| J.then_n <| J.cret <| J.scp_r ?_
    have htk : (es.map EW.m).take i = es.map EW.m := List.take_of_length_le (by rw [List.length_map]; omega)
    rw [htk]
    rw [hH0, show (runE (begM (ds.map DM.m)) (es.map EW.m)).fs = faults (begM (ds.map DM.m)) (es.map EW.m) from rfl]
    refine J.ret1I [own 40 2 (.slice p (faults (begM (ds.map DM.m)) (es.map EW.m)).length c) ((faults (begM (ds.map DM.m)) (es.map EW.m)).flatMap FM.cells), G1, G2] rfl rfl ⟨p, c, rfl, rfl⟩
end Go.Proofs.Ytidbcaimgahllaa
namespace Go.Proofs.Ytidbcaimgahllaa
set_option linter.unusedSectionVars false
set_option linter.unusedSimpArgs false
set_option linter.unusedVariables false
open Go.X
open Go.X.G (Ord3 ord3_nat ord3_int ord3_str ltB sget sput sdel Srtd MapAt MapHole valRep)

abbrev CW.asn (x : CW) : Assn := wrO x.p x.c x.bs
abbrev comA (p : Option Addr) (c : Nat) (l : List CW) : Assn := star [own 30 2 (.slice p l.length c) (l.flatMap CW.cells), star (l.map CW.asn)]
theorem CW.one (x : CW) : ∀ v, v ∈ x.cells → oneC v = true := by
  intro v hv
  simp only [CW.cells, List.mem_cons, List.not_mem_nil, or_false] at hv
  rcases hv with rfl | rfl <;> rfl
theorem coms_tells {p : Option Addr} {c : Nat} {l : List CW} {ds : List DM} (hs : l.length ≤ 32768) (hd : ∀ (i : Nat) (x : CW), l[i]? = some x → ∃ d, ds[i]? = some d ∧ DecIs x.bs d) (hdl : ds.length = l.length) (hb : ∀ x, x ∈ l → x.bs.length ≤ 1099511627776) : ∀ h, comA p c l h → Coms (comA p c l) p c l ds := by
  intro h hh
  have hh' : HSat h [own 30 2 (.slice p l.length c) (l.flatMap CW.cells), star (l.map CW.asn)] := hh
  obtain ⟨h1, h2, a, ⟨k1, k2, b, _, _, _, _⟩, _, _, _⟩ := hh'
  refine ⟨(own.slr (i := 0) rfl ⟨h1, X.G.HSat.one a⟩ : SlR [own 30 2 _ _] 2 _ _).into 0 rfl, fun x hx => ?_, hs, hd, hdl⟩
  obtain ⟨i, hi⟩ := List.getElem?_of_mem hx
  have s1 : HSat k1 (x.asn :: (l.eraseIdx i).map CW.asn) := HSat.perm (perm_focus CW.asn hi) b
  obtain ⟨j1, j2, q, _⟩ := s1
  have hsl : SlR [x.asn] 1 (.slice x.p x.bs.length x.c) (bytesV x.bs) := own.slr (i := 0) rfl ⟨j1, X.G.HSat.one q⟩
  exact ⟨(hsl.into i (by rw [List.getElem?_map, hi]; rfl)).into 1 rfl, hb x hx, (own.len _ q).2⟩

theorem opB_len {o : OM} (h : o.fine) : (opB o).length ≤ 17000000 := by
  have h1 := h.kind
  have h2 := h.n
  have h3 := h.parts
  have h4 := h.texts
  have h5 := h.data
  have h6 := h.id
  have h7 := h.up
  have a1 := flat_numB [1, o.id, o.kind.toNat] (by intro v hv; simp only [List.mem_cons, List.not_mem_nil, or_false] at hv; omega)
  have a2 := flat_encB [o.bucket, o.key, o.after] (by intro v hv; simp only [List.mem_cons, List.not_mem_nil, or_false] at hv; rcases hv with rfl | rfl | rfl <;> omega)
  have a3 := flat_numB [o.n.toNat, o.upload, o.parts.length] (by intro v hv; simp only [List.mem_cons, List.not_mem_nil, or_false] at hv; omega)
  have a4 := flat_numB (o.parts.map Int.toNat) (by
    intro v hv
    obtain ⟨u, hu, rfl⟩ := List.mem_map.1 hv
    have := h3.2 u hu; omega)
  have a5 := numB_len o.data.length (by omega)
  rw [List.length_map] at a4
  simp only [List.length_cons, List.length_nil] at a1 a2 a3
  unfold opB
  simp only [List.length_append, encB] at a2 ⊢
  omega

def stW (n : Int) : RW := ⟨st n, none, 0, none, 0⟩
theorem stW_ok (G : Assn) (n : Int) : (stW n).ok G := ⟨.inl ⟨none, 0, rfl, rfl⟩, .inl ⟨none, 0, rfl, rfl⟩, by show 0 ≤ _ ∧ 0 ≤ _; omega⟩
theorem evs2_ok (G : Assn) (e f : EW) (h1 : e.w.ok G) (h2 : e.index ≤ 18446744073709551615) (h3 : f.w.ok G) (h4 : f.index ≤ 18446744073709551615) : ∀ x, x ∈ [e, f] → x.ok G := by
  intro x hx
  simp only [List.mem_cons, List.not_mem_nil, or_false] at hx
  rcases hx with rfl | rfl
  · exact ⟨h1, h2⟩
  · exact ⟨h3, h4⟩
def bareW (o : OM) : OW := ⟨o, none, 0, none, 0⟩
theorem bareW_ok (G : Assn) {o : OM} (h : o.fine) (hp : o.parts = []) (hd : o.data = []) : (bareW o).ok G := by
  refine ⟨?_, ?_, h.small⟩
  · refine .inl ⟨none, 0, ?_, ?_⟩ <;> simp [bareW, hp]
  · refine .inl ⟨none, 0, ?_, ?_⟩ <;> simp [bareW, hd, bytesV]
def oA : OM := ⟨1, 1, bt [98], bt [], bt [], 0, 0, [], []⟩
theorem oA_chk : oA.chkB = true := by kernel_rfl
theorem oA_fine : oA.fine := chk_fine oA_chk (by decide) (by decide)
def dA : DM := ⟨oA, false, false⟩
def evA : EW := ⟨false, 1, bareW oA, 0, stW 0⟩
def evB : EW := ⟨true, 1, bareW O0, 1, stW 200⟩
def evX : EW := ⟨true, 1, bareW O0, 1, stW 409⟩
theorem fk1 : faults (begM ([dA].map DM.m)) ([evA, evX].map EW.m) = [⟨6, 1⟩] := by kernel_rfl
theorem fk2 : faults (begM ([dA].map DM.m)) ([evA, evB].map EW.m) = [] := by kernel_rfl

theorem known_spec : FSpec Try.prog 4 [] [] (fun v B => v = .bool true ∧ B = []) := by
  refine FSpec.of Try.func4 rfl Try.ntmps4 rfl fun W1 F => ?_
  refine J.give (X := star ([] : List Assn)) trivial ?_
  refine J.seq <| J.region <| J.p rfl (Q.asg rfl) <| J.nil <| J.then_n <| J.seq <| J.region <| J.p rfl (Q.bld (l := OW.cells (bareW oA)) Try.runUnderlying27 Try.zeroValue27 Try.places27 rfl (by kernel_rfl)) ?_
  refine J.c rfl rfl (C.alloc (l := [_, _, _, _, _, _, _, _, _]) Try.zeroValue27 rfl) ?_
  rintro _ _ ⟨b1, rfl, rfl⟩
  refine J.norm rfl ?_
  refine J.stAI (vs := [_, _, _, _, _, _, _, _, _]) rfl Try.sizeOf27 rfl rfl (by exact rfl) (by exact rfl) (by exact rfl) ?_
  refine J.nil <| J.then_n <| J.seq <| J.region ?_
  refine J.p rfl (Q.ldN (vs := [_, _, _, _, _, _, _, _, _]) Try.isAgg27 Try.sizeOf27 rfl rnI) ?_
  refine J.callI Try.call5 (opCommand_spec (star []) (bareW oA) (bareW_ok _ oA_fine rfl rfl) oA_fine) rfl rfl rfl ?_
  rintro _ _ ⟨q9, d9, rfl, rfl⟩
  refine J.norm rfl ?_
  rw [show (bareW oA).o = oA from rfl]
  refine J.p rfl (Q.bld (l := CW.cells ⟨1, opB oA, q9, d9⟩) Try.runUnderlying30 Try.zeroValue30 Try.places30 rfl (by kernel_rfl)) ?_
  refine J.c rfl rfl (C.bslG (l := [_, _]) Try.runUnderlying31 Try.sizeOf30 Try.zeroValue30 (by decide) rfl rfl rfl rfl rfl) ?_
  rintro _ _ ⟨b11, rfl, rfl⟩
  refine J.norm rfl ?_
  obtain ⟨x, hx⟩ : ∃ x : CW, x = ⟨1, opB oA, q9, d9⟩ := ⟨_, rfl⟩
  refine J.convI (pt b11 (.cells (CW.cells ⟨1, opB oA, q9, d9⟩).toArray 30 (0, 0))) (own 30 2 (.slice (some ⟨b11, 0, none⟩) [x].length 1) ([x].flatMap CW.cells)) (fun h hh => by rw [hx]; exact own_of_block (l := [CW.mk 1 (opB oA) q9 d9].flatMap CW.cells) rfl h hh) ?_
  refine J.shutI [wrO q9 d9 (opB oA)] (star ([x].map CW.asn)) (fun _ s => by rw [hx]; exact s) ?_
  refine J.shutI [own 30 2 (.slice (some ⟨b11, 0, none⟩) [x].length 1) ([x].flatMap CW.cells), star ([x].map CW.asn)] (comA (some ⟨b11, 0, none⟩) 1 [x]) (fun _ s => s) ?_
  refine J.tellsI (comA (some ⟨b11, 0, none⟩) 1 [x]) (coms_tells (ds := [dA]) (by show 1 ≤ 32768; omega) (by
    intro i y hy
    cases i with
    | zero =>
     cases hy
     exact ⟨dA, rfl, by rw [hx]; exact decode_op oA_fine oA_chk⟩
    | succ i => cases hy) rfl (by
    intro y hy
    rw [List.mem_singleton.1 hy, hx]
    have := opB_len oA_fine
    show (opB oA).length ≤ _
    omega)) fun hcs => ?_
  have hix : ∀ (i : Nat) (y : CW), [x][i]? = some y → y.index = i + 1 := by
   intro i y hy
   cases i with
   | zero => cases hy; rw [hx]
   | succ i => cases hy
  have hbd : ∀ d, d ∈ [dA] → d.bad = false := by intro d hd; rw [List.mem_singleton.1 hd]; rfl
  refine J.p rfl (Q.asg rfl) <| J.nil <| J.then_n <| J.seq <| J.region ?_
  refine J.p rfl (Q.ldN (vs := [_, _, _, _, _, _, _, _, _]) Try.isAgg27 Try.sizeOf27 rfl rnI) ?_
  refine J.p rfl (Q.bld (l := EW.cells evA) Try.runUnderlying36 Try.zeroValue36 Try.places36 rfl (by kernel_rfl)) ?_
  refine J.c rfl rfl (C.alloc (l := [_, _, _, _, _, _, _, _, _, _, _, _, _, _, _, _, _]) Try.zeroValue36 rfl) ?_
  rintro _ _ ⟨b3, rfl, rfl⟩
  refine J.norm rfl ?_
  refine J.stAI (vs := [_, _, _, _, _, _, _, _, _, _, _, _, _, _, _, _, _]) rfl Try.sizeOf36 rfl rfl (by exact rfl) (by exact rfl) (by exact rfl) ?_
  refine J.nil <| J.then_n <| J.seq <| J.region <| J.p rfl (Q.bld (l := RW.cells (stW 200)) Try.runUnderlying34 Try.zeroValue34 Try.places34 rfl (by kernel_rfl)) <| J.p rfl (Q.bld (l := EW.cells evB) Try.runUnderlying36 Try.zeroValue36 Try.places36 rfl (by kernel_rfl)) ?_
  refine J.c rfl rfl (C.alloc (l := [_, _, _, _, _, _, _, _, _, _, _, _, _, _, _, _, _]) Try.zeroValue36 rfl) ?_
  rintro _ _ ⟨b4, rfl, rfl⟩
  refine J.norm rfl ?_
  refine J.stAI (vs := [_, _, _, _, _, _, _, _, _, _, _, _, _, _, _, _, _]) rfl Try.sizeOf36 rfl rfl (by exact rfl) (by exact rfl) (by exact rfl) ?_
  refine J.nil <| J.then_n <| J.seq <| J.region <| J.p rfl (Q.bld (l := RW.cells (stW 409)) Try.runUnderlying34 Try.zeroValue34 Try.places34 rfl (by kernel_rfl)) <| J.p rfl (Q.bld (l := EW.cells evX) Try.runUnderlying36 Try.zeroValue36 Try.places36 rfl (by kernel_rfl)) ?_
  refine J.c rfl rfl (C.alloc (l := [_, _, _, _, _, _, _, _, _, _, _, _, _, _, _, _, _]) Try.zeroValue36 rfl) ?_
  rintro _ _ ⟨b5, rfl, rfl⟩
  refine J.norm rfl ?_
  refine J.stAI (vs := [_, _, _, _, _, _, _, _, _, _, _, _, _, _, _, _, _]) rfl Try.sizeOf36 rfl rfl (by exact rfl) (by exact rfl) (by exact rfl) ?_
  refine J.nil <| J.then_n <| J.seq <| J.region <| J.m rfl ?_
  refine J.p rfl (Q.ldN (vs := [_, _, _, _, _, _, _, _, _, _, _, _, _, _, _, _, _]) Try.isAgg36 Try.sizeOf36 rfl rnI) ?_
  refine J.p rfl (Q.ldN (vs := [_, _, _, _, _, _, _, _, _, _, _, _, _, _, _, _, _]) Try.isAgg36 Try.sizeOf36 rfl rnI) ?_
  refine J.c rfl rfl (C.bslG (sz := 17) (len := 2) (l := [evA, evX].flatMap EW.cells) Try.runUnderlying37 Try.sizeOf36 Try.zeroValue36 (by decide) rfl rfl rfl (by kernel_rfl) (by kernel_rfl)) ?_
  rintro _ _ ⟨b21, rfl, rfl⟩
  refine J.norm rfl ?_
  refine J.convI (pt b21 (.cells ([evA, evX].flatMap EW.cells).toArray 36 (0, 0))) (own 36 17 (.slice (some ⟨b21, 0, none⟩) [evA, evX].length 2) ([evA, evX].flatMap EW.cells)) (own_of_block rfl) ?_
  refine J.slrI (E0 := 36) (sz := 17) (p := some ⟨b21, 0, none⟩) (n := [evA, evX].length) (c := 2) (xs := [evA, evX].flatMap EW.cells) fun hs21 => ?_
  refine J.callI Try.call6 (check_ok (comA (some ⟨b11, 0, none⟩) 1 [x]) (own 36 17 (.slice (some ⟨b21, 0, none⟩) [evA, evX].length 2) ([evA, evX].flatMap EW.cells)) (some ⟨b11, 0, none⟩) 1 [x] [dA] hcs hix hbd (some ⟨b21, 0, none⟩) 2 [evA, evX] ⟨hs21, evs2_ok _ _ _ (stW_ok _ _) (by decide) (stW_ok _ _) (by decide), by decide⟩) rfl rfl rfl ?_
  rintro _ _ ⟨p22, c22, rfl, rfl⟩
  refine J.norm rfl ?_
  rw [fk1]
  refine J.slrI (E0 := 40) (sz := 2) (p := p22) (n := [FM.mk 6 1].length) (c := c22) (xs := [FM.mk 6 1].flatMap FM.cells) fun hs22 => ?_
  obtain ⟨b22, o22, rfl, hr22⟩ := hs22.some_ (by decide)
  refine J.p rfl (Q.asg rfl) <| J.nil <| J.then_n <| J.seq <| J.region <| J.m rfl ?_
  refine J.p rfl (Q.ldN (vs := [_, _, _, _, _, _, _, _, _, _, _, _, _, _, _, _, _]) Try.isAgg36 Try.sizeOf36 rfl rnI) ?_
  refine J.p rfl (Q.ldN (vs := [_, _, _, _, _, _, _, _, _, _, _, _, _, _, _, _, _]) Try.isAgg36 Try.sizeOf36 rfl rnI) ?_
  refine J.c rfl rfl (C.bslG (sz := 17) (len := 2) (l := [evA, evB].flatMap EW.cells) Try.runUnderlying37 Try.sizeOf36 Try.zeroValue36 (by decide) rfl rfl rfl (by kernel_rfl) (by kernel_rfl)) ?_
  rintro _ _ ⟨b26, rfl, rfl⟩
  refine J.norm rfl ?_
  refine J.convI (pt b26 (.cells ([evA, evB].flatMap EW.cells).toArray 36 (0, 0))) (own 36 17 (.slice (some ⟨b26, 0, none⟩) [evA, evB].length 2) ([evA, evB].flatMap EW.cells)) (own_of_block rfl) ?_
  refine J.slrI (E0 := 36) (sz := 17) (p := some ⟨b26, 0, none⟩) (n := [evA, evB].length) (c := 2) (xs := [evA, evB].flatMap EW.cells) fun hs26 => ?_
  refine J.callI Try.call6 (check_ok (comA (some ⟨b11, 0, none⟩) 1 [x]) (own 36 17 (.slice (some ⟨b26, 0, none⟩) [evA, evB].length 2) ([evA, evB].flatMap EW.cells)) (some ⟨b11, 0, none⟩) 1 [x] [dA] hcs hix hbd (some ⟨b26, 0, none⟩) 2 [evA, evB] ⟨hs26, evs2_ok _ _ _ (stW_ok _ _) (by decide) (stW_ok _ _) (by decide), by decide⟩) rfl rfl rfl ?_
  rintro _ _ ⟨p27, c27, rfl, rfl⟩
  refine J.norm rfl ?_
  rw [fk2]
  refine J.p rfl (Q.lenSl Try.runUnderlying41 rfl) <| J.p rfl (Q.eql rfl rfl) <| J.m rfl ?_
  refine J.cases 30 rfl (fun hb30 => ?_) (fun hb30 => ?_)
  ·
   replace hb30 := X.nm hb30
   try (first | (cases hb30; done) | (exfalso; simp at hb30; done))
   all_goals
    refine J.m rfl <| J.p rfl (Q.lenSl Try.runUnderlying41 rfl) <| J.p rfl (Q.eql rfl rfl) <| J.p rfl (Q.pick_t rfl rfl) <| J.m rfl ?_
    refine J.cases 35 rfl (fun hb35 => ?_) (fun hb35 => ?_)
    ·
     replace hb35 := X.nm hb35
     try (first | (cases hb35; done) | (exfalso; simp at hb35; done))
     all_goals
      refine J.m rfl <| J.p rfl (Q.ia Try.runUnderlying41 Try.sizeOf40 rfl rfl (by omega) (by omega)) ?_
      refine J.p rfl (Q.ldN (vs := [_, _]) Try.isAgg40 Try.sizeOf40 rfl ((rd_elem FM.len hr22 (i := 0) (x := FM.mk 6 1) rfl (by simp)).inI)) ?_
      refine J.p rfl (Q.bld (l := [.int .i64 6, .int .i64 1]) Try.runUnderlying40 Try.zeroValue40 Try.places40 rfl (by kernel_rfl)) <| J.p rfl (Q.eql2 Try.underlying40 Try.stoodInHeld40 Try.eqGuardType40 Try.underlying38 Try.underlying3 Try.isAgg38 Try.isAgg3 (by decide) (by decide) rfl rfl rfl rfl) <| J.p rfl (Q.pick_t rfl rfl) <| J.m rfl ?_
      refine J.cases 42 rfl (fun hb42 => ?_) (fun hb42 => ?_)
      ·
       replace hb42 := X.nm hb42
       try (first | (cases hb42; done) | (exfalso; simp at hb42; done))
       all_goals
        refine J.callI Try.call7 (definite_spec 404) rfl rfl rfl ?_
        rintro _ _ ⟨rfl, rfl⟩
        refine J.norm rfl <| J.p rfl (Q.pick_t rfl rfl) <| J.m rfl ?_
        refine J.cases 45 rfl (fun hb45 => ?_) (fun hb45 => ?_)
        ·
         replace hb45 := X.nm hb45
         try (first | (cases hb45; done) | (exfalso; simp at hb45; done))
         all_goals
          refine J.callI Try.call7 (definite_spec 503) rfl rfl rfl ?_
          rintro _ _ ⟨rfl, rfl⟩
          refine J.norm rfl <| J.p rfl (Q.not rfl) <| J.p rfl (Q.pick_t rfl rfl) <| J.p rfl (Q.asg rfl) <| J.nil <| J.then_n <| J.cret ?_
          refine J.ret1I [] rfl rfl ⟨rfl, rfl⟩
        replace hb45 := X.nm hb45
        try (first | (cases hb45; done) | (exfalso; simp at hb45; done))
        all_goals
         refine J.skip rfl rfl <| J.skip rfl rfl <| J.p rfl (Q.pick_f rfl rfl) <| J.p rfl (Q.asg rfl) <| J.nil <| J.then_n <| J.cret ?_
         refine J.ret1I [] rfl rfl ⟨rfl, rfl⟩
      replace hb42 := X.nm hb42
      try (first | (cases hb42; done) | (exfalso; simp at hb42; done))
      all_goals
       refine J.skip rfl rfl <| J.p rfl (Q.pick_f rfl rfl) <| J.m rfl <| J.skip rfl rfl <| J.skip rfl rfl <| J.p rfl (Q.pick_f rfl rfl) <| J.p rfl (Q.asg rfl) <| J.nil <| J.then_n <| J.cret ?_
       refine J.ret1I [] rfl rfl ⟨rfl, rfl⟩
    replace hb35 := X.nm hb35
    try (first | (cases hb35; done) | (exfalso; simp at hb35; done))
    all_goals
     refine J.skip rfl rfl <| J.skip rfl rfl <| J.skip rfl rfl <| J.skip rfl rfl <| J.skip rfl rfl <| J.p rfl (Q.pick_f rfl rfl) <| J.m rfl <| J.skip rfl rfl <| J.p rfl (Q.pick_f rfl rfl) <| J.m rfl <| J.skip rfl rfl <| J.skip rfl rfl <| J.p rfl (Q.pick_f rfl rfl) <| J.p rfl (Q.asg rfl) <| J.nil <| J.then_n <| J.cret ?_
     refine J.ret1I [] rfl rfl ⟨rfl, rfl⟩
  replace hb30 := X.nm hb30
  try (first | (cases hb30; done) | (exfalso; simp at hb30; done))
  all_goals
   refine J.skip rfl rfl <| J.skip rfl rfl <| J.skip rfl rfl <| J.p rfl (Q.pick_f rfl rfl) <| J.m rfl <| J.skip rfl rfl <| J.skip rfl rfl <| J.skip rfl rfl <| J.skip rfl rfl <| J.skip rfl rfl <| J.p rfl (Q.pick_f rfl rfl) <| J.m rfl <| J.skip rfl rfl <| J.p rfl (Q.pick_f rfl rfl) <| J.m rfl <| J.skip rfl rfl <| J.skip rfl rfl <| J.p rfl (Q.pick_f rfl rfl) ?_
   refine J.p rfl (Q.asg rfl) <| J.nil <| J.then_n <| J.cret ?_
   refine J.ret1I [] rfl rfl ⟨rfl, rfl⟩
end Go.Proofs.Ytidbcaimgahllaa
namespace Go.Proofs.Ytidbcaimgahllaa
set_option linter.unusedSectionVars false
set_option linter.unusedSimpArgs false
set_option linter.unusedVariables false
open Go.X
open Go.X.G (Ord3 ord3_nat ord3_int ord3_str ltB sget sput sdel Srtd MapAt MapHole valRep)

def oB : OM := ⟨2, 3, bt [98], bt [107], bt [], 0, 0, [], []⟩
def oL : OM := ⟨2, 6, bt [98], bt [], bt [], 1, 0, [], []⟩
theorem oB_chk : oB.chkB = true := by kernel_rfl
theorem oB_fine : oB.fine := chk_fine oB_chk (by decide) (by decide)
theorem oL_chk : oL.chkB = true := by kernel_rfl
theorem oL_fine : oL.fine := chk_fine oL_chk (by decide) (by decide)
def dOf (o : OM) : DM := ⟨o, false, false⟩
def evC : EW := ⟨false, 2, bareW oB, 0, stW 0⟩
def evD (i : Nat) : EW := ⟨true, 2, bareW O0, i, stW 200⟩
def evE : EW := ⟨true, 1, bareW O0, 2, stW 200⟩
def evF : EW := ⟨false, 2, bareW O0, 0, stW 0⟩
def evG : EW := ⟨true, 2, bareW O0, 1, stW 404⟩
theorem fl0 : faults (begM ([dOf oA, dOf oB].map DM.m)) ([evA, evB, evC, evD 2].map EW.m) = [] := by kernel_rfl
theorem fl1 : faults (begM ([dOf oA, dOf oB].map DM.m)) ([evB, evC, evD 2].map EW.m) = [⟨2, 0⟩] := by kernel_rfl
theorem fl2 : faults (begM ([dOf oA, dOf oB].map DM.m)) ([evA, evB, evC, evD 1].map EW.m) = [⟨3, 3⟩] := by kernel_rfl
theorem fl3 : faults (begM ([dOf oA, dOf oB].map DM.m)) ([evA, evB, evC, evD 0].map EW.m) = [⟨4, 3⟩] := by kernel_rfl
theorem fl4 : faults (begM ([dOf oL, dOf oA].map DM.m)) ([evA, evE, evF, evG].map EW.m) = [⟨5, 3⟩] := by kernel_rfl

abbrev cm2 (o1 o2 : OM) (q1 : Option Addr) (d1 : Nat) (q2 : Option Addr) (d2 : Nat) : List CW := [⟨1, opB o1, q1, d1⟩, ⟨2, opB o2, q2, d2⟩]
theorem coms2 {p : Option Addr} {c : Nat} {o1 o2 : OM} {q1 q2 : Option Addr} {d1 d2 : Nat} (f1 : o1.fine) (c1 : o1.chkB = true) (f2 : o2.fine) (c2 : o2.chkB = true) : ∀ h, comA p c (cm2 o1 o2 q1 d1 q2 d2) h → Coms (comA p c (cm2 o1 o2 q1 d1 q2 d2)) p c (cm2 o1 o2 q1 d1 q2 d2) [dOf o1, dOf o2] :=
  coms_tells (by show 2 ≤ 32768; omega) (fun i y hy => by
    match i, hy with
    | 0, hy => cases hy; exact ⟨_, rfl, decode_op f1 c1⟩
    | 1, hy => cases hy; exact ⟨_, rfl, decode_op f2 c2⟩
    | i + 2, hy => cases hy) rfl fun y hy => by
    have h1 := opB_len f1
    have h2 := opB_len f2
    simp only [cm2, List.mem_cons, List.not_mem_nil, or_false] at hy
    rcases hy with rfl | rfl
    · show (opB o1).length ≤ _; omega
    · show (opB o2).length ≤ _; omega
theorem cm2_index {o1 o2 : OM} {q1 q2 : Option Addr} {d1 d2 : Nat} : ∀ (i : Nat) (y : CW), (cm2 o1 o2 q1 d1 q2 d2)[i]? = some y → y.index = i + 1 := fun i y hy => by
  match i, hy with
  | 0, hy => cases hy; rfl
  | 1, hy => cases hy; rfl
  | i + 2, hy => cases hy
theorem two_good {o1 o2 : OM} : ∀ d, d ∈ [dOf o1, dOf o2] → d.bad = false := by
  intro d hd
  simp only [List.mem_cons, List.not_mem_nil, or_false] at hd
  rcases hd with rfl | rfl <;> rfl
theorem evs_ok_of {G : Assn} {l : List EW} (h : ∀ e, e ∈ l → e.w.ok G ∧ e.index ≤ 18446744073709551615) : ∀ e, e ∈ l → e.ok G := fun e he => ⟨(h e he).1, (h e he).2⟩

structure LZ where
  K1 : Assn
  lp : Option Addr
  lc : Nat
  l : List CW
  ds : List DM
  K2 : Assn
  ep : Option Addr
  ec : Nat
  es : List EW
  f : FM
structure LZ.ok (z : LZ) : Prop where
  cs : Coms z.K1 z.lp z.lc z.l z.ds
  ix : ∀ (i : Nat) (y : CW), z.l[i]? = some y → y.index = i + 1
  bd : ∀ d, d ∈ z.ds → d.bad = false
  ev : Evs z.K2 z.ep z.ec z.es
  fs : faults (begM (z.ds.map DM.m)) (z.es.map EW.m) = [z.f]

theorem late_spec (G : Assn) (way : Int) : FSpec Try.prog 3 [.int .i64 way] [G] (fun v B => v = .bool true ∧ B = [G]) := by
  refine FSpec.of Try.func3 rfl Try.ntmps3 rfl fun W1 F => ?_
  refine J.give (X := star ([] : List Assn)) trivial ?_
  refine J.seq <| J.region <| J.p rfl (Q.asg rfl) <| J.nil <| J.then_n <| J.seq <| J.seq <| J.region ?_
  refine J.callI Try.call4 (known_spec) rfl rfl rfl ?_
  rintro _ _ ⟨rfl, rfl⟩
  refine J.norm rfl <| J.p rfl (Q.not rfl) <| J.nil <| J.then_n <| J.cond_f rfl <| J.cskip <| J.then_n <| J.seq <| J.region <| J.p rfl (Q.bld (l := OW.cells (bareW oA)) Try.runUnderlying27 Try.zeroValue27 Try.places27 rfl (by kernel_rfl)) ?_
  refine J.c rfl rfl (C.alloc (l := [_, _, _, _, _, _, _, _, _]) Try.zeroValue27 rfl) ?_
  rintro _ _ ⟨b3, rfl, rfl⟩
  refine J.norm rfl ?_
  refine J.stAI (vs := [_, _, _, _, _, _, _, _, _]) rfl Try.sizeOf27 rfl rfl (by exact rfl) (by exact rfl) (by exact rfl) ?_
  refine J.nil <| J.then_n <| J.seq <| J.region <| J.p rfl (Q.bld (l := OW.cells (bareW oB)) Try.runUnderlying27 Try.zeroValue27 Try.places27 rfl (by kernel_rfl)) ?_
  refine J.c rfl rfl (C.alloc (l := [_, _, _, _, _, _, _, _, _]) Try.zeroValue27 rfl) ?_
  rintro _ _ ⟨b4, rfl, rfl⟩
  refine J.norm rfl ?_
  refine J.stAI (vs := [_, _, _, _, _, _, _, _, _]) rfl Try.sizeOf27 rfl rfl (by exact rfl) (by exact rfl) (by exact rfl) ?_
  refine J.nil <| J.then_n <| J.seq ?_
  refine J.pickI [pt b3 (.cells (OW.cells (bareW oA)).toArray 27 (0, 0)), pt b4 (.cells (OW.cells (bareW oB)).toArray 27 (0, 0))] ?_
  refine J.norm rfl ?_
  refine J.drawE [1, 4, 6, 7] 2 Try.mixed (by kernel_rfl) rfl rfl fun hR => ?_
  refine RG.p 0 hR rfl (Q.ldN (vs := [_, _, _, _, _, _, _, _, _]) Try.isAgg27 Try.sizeOf27 rfl rnI) ?_
  refine RG.p 3 hR rfl (Q.ldN (vs := [_, _, _, _, _, _, _, _, _]) Try.isAgg27 Try.sizeOf27 rfl rnI) ?_
  refine RG.callkI 1 hR rfl rfl rfl rfl rfl Try.call5 (opCommand_spec (star []) (bareW oA) (bareW_ok _ oA_fine rfl rfl) oA_fine) rfl ?_
  rintro _ _ ⟨q15, d15, rfl, rfl⟩
  refine RG.normE rfl <| RG.p 2 hR rfl (Q.bld (l := CW.cells ⟨1, opB oA, q15, d15⟩) Try.runUnderlying30 Try.zeroValue30 Try.places30 rfl (by kernel_rfl)) ?_
  refine RG.callkI 4 hR rfl rfl rfl rfl rfl Try.call5 (opCommand_spec (star []) (bareW oB) (bareW_ok _ oB_fine rfl rfl) oB_fine) rfl ?_
  rintro _ _ ⟨q18, d18, rfl, rfl⟩
  refine RG.normE rfl <| RG.p 5 hR rfl (Q.bld (l := CW.cells ⟨2, opB oB, q18, d18⟩) Try.runUnderlying30 Try.zeroValue30 Try.places30 rfl (by kernel_rfl)) ?_
  refine RG.bar 6 hR rfl rfl rfl rfl rfl rfl (C.bslG (l := [_, _, _, _]) Try.runUnderlying31 Try.sizeOf30 Try.zeroValue30 (by decide) rfl rfl rfl rfl rfl) ?_
  rintro _ _ ⟨b20, rfl, rfl⟩
  refine RG.norm rfl ?_
  refine RG.bar 7 hR rfl rfl rfl rfl rfl rfl (Q.asg rfl).toC ?_
  rintro _ _ ⟨rfl, rfl⟩
  refine RG.norm rfl ?_
  refine RG.fin hR rfl ?_
  refine J.norm rfl <| J.then_n <| J.seq ?_
  rw [show (bareW oA).o = oA from rfl, show (bareW oB).o = oB from rfl]
  refine J.region <| J.p rfl (Q.bld (l := RW.cells (stW 200)) Try.runUnderlying34 Try.zeroValue34 Try.places34 rfl (by kernel_rfl)) ?_
  refine J.c rfl rfl (C.alloc (l := [_, _, _, _, _]) Try.zeroValue34 rfl) ?_
  rintro _ _ ⟨b6, rfl, rfl⟩
  refine J.norm rfl ?_
  refine J.stAI (vs := [_, _, _, _, _]) rfl Try.sizeOf34 rfl rfl (by exact rfl) (by exact rfl) (by exact rfl) ?_
  refine J.nil <| J.then_n <| J.seq <| J.region ?_
  refine J.p rfl (Q.ldN (vs := [_, _, _, _, _, _, _, _, _]) Try.isAgg27 Try.sizeOf27 rfl rnI) ?_
  refine J.p rfl (Q.bld (l := EW.cells evA) Try.runUnderlying36 Try.zeroValue36 Try.places36 rfl (by kernel_rfl)) ?_
  refine J.p rfl (Q.ldN (vs := [_, _, _, _, _]) Try.isAgg34 Try.sizeOf34 rfl rnI) ?_
  refine J.p rfl (Q.bld (l := EW.cells evB) Try.runUnderlying36 Try.zeroValue36 Try.places36 rfl (by kernel_rfl)) ?_
  refine J.p rfl (Q.ldN (vs := [_, _, _, _, _, _, _, _, _]) Try.isAgg27 Try.sizeOf27 rfl rnI) ?_
  refine J.p rfl (Q.bld (l := EW.cells evC) Try.runUnderlying36 Try.zeroValue36 Try.places36 rfl (by kernel_rfl)) ?_
  refine J.p rfl (Q.ldN (vs := [_, _, _, _, _]) Try.isAgg34 Try.sizeOf34 rfl rnI) ?_
  refine J.p rfl (Q.bld (l := EW.cells (evD 2)) Try.runUnderlying36 Try.zeroValue36 Try.places36 rfl (by kernel_rfl)) ?_
  refine J.c rfl rfl (C.bslG (sz := 17) (len := 4) (l := [evA, evB, evC, evD 2].flatMap EW.cells) Try.runUnderlying37 Try.sizeOf36 Try.zeroValue36 (by decide) rfl rfl rfl (by kernel_rfl) (by kernel_rfl)) ?_
  rintro _ _ ⟨b30, rfl, rfl⟩
  refine J.norm rfl ?_
  refine J.convI (pt b30 (.cells ([evA, evB, evC, evD 2].flatMap EW.cells).toArray 36 (0, 0))) (own 36 17 (.slice (some ⟨b30, 0, none⟩) 4 4) ([evA, evB, evC, evD 2].flatMap EW.cells)) (own_of_block rfl) ?_
  refine J.p rfl (Q.asg rfl) <| J.nil <| J.then_n <| J.seq <| J.region <| J.m rfl <| J.p rfl (Q.rem rfl rfl (by omega)) <| J.p rfl (Q.asg rfl) <| J.nil <| J.then_n <| J.seq <| J.region <| J.p rfl (Q.bld (l := FM.cells ⟨0, 0⟩) Try.runUnderlying40 Try.zeroValue40 Try.places40 rfl (by kernel_rfl)) ?_
  refine J.c rfl rfl (C.alloc (l := [_, _]) Try.zeroValue40 rfl) ?_
  rintro _ _ ⟨b8, rfl, rfl⟩
  refine J.norm rfl ?_
  refine J.stAI (vs := [_, _]) rfl Try.sizeOf40 rfl rfl (by exact rfl) (by exact rfl) (by exact rfl) ?_
  refine J.nil <| J.then_n ?_
  refine J.cut (fun z : LZ => z.ok) (fun z => [(5, .slice z.lp z.l.length z.lc), (7, .slice z.ep z.es.length z.ec), (8, .pointer (some ⟨b8, 0, none⟩))]) (fun z => [z.K1, z.K2, pt b8 (.cells (FM.cells z.f).toArray 40 (0, 0)), G, F]) ?_ fun z hz => ?_
  ·
   refine J.seq <| J.region <| J.m rfl <| J.nil <| J.then_n <| J.block <| J.seq <| J.region <| J.p rfl (Q.eql rfl rfl) <| J.p rfl (Q.asg rfl) <| J.nil <| J.then_n ?_
   refine J.cases 40 rfl (fun hc40 => ?_) (fun hc40 => ?_)
   ·
    replace hc40 := X.nm hc40
    try (first | (cases hc40; done) | (exfalso; simp at hc40; done))
    all_goals
     refine J.cond_t rfl <| J.seq <| J.region <| J.m rfl <| J.p rfl (Q.slL Try.runUnderlying37 Try.sizeOf36 rfl rfl (by omega) (by omega)) ?_
     refine J.slot 43 (.slice (some ⟨b30, 17, none⟩) 3 3) rfl rfl ?_
     refine J.p rfl (Q.asg rfl) <| J.nil <| J.then_n <| J.region <| J.p rfl (Q.bld (l := FM.cells ⟨2, 0⟩) Try.runUnderlying40 Try.zeroValue40 Try.places40 rfl (by kernel_rfl)) ?_
     refine J.stAI (vs := [_, _]) rfl Try.sizeOf40 rfl rfl (by exact rfl) (by exact rfl) (by exact rfl) ?_
     refine J.nil <| J.blk_n ?_
     refine J.slrI (E0 := 36) (sz := 17) (p := some ⟨b30, 0, none⟩) (n := 4) (c := 4) (xs := [evA, evB, evC, evD 2].flatMap EW.cells) fun hse => ?_
     refine J.convI (pt b20 (.cells [.int .u64 ((1 : Nat) : Int), .slice q15 (opB oA).length d15, .int .u64 ((2 : Nat) : Int), .slice q18 (opB oB).length d18].toArray 30 (0, 0))) (own 30 2 (.slice (some ⟨b20, 0, none⟩) (cm2 oA oB q15 d15 q18 d18).length 2) ((cm2 oA oB q15 d15 q18 d18).flatMap CW.cells)) (own_of_block (l := (cm2 oA oB q15 d15 q18 d18).flatMap CW.cells) rfl) ?_
     refine J.shutI [wrO q15 d15 (opB oA), wrO q18 d18 (opB oB)] (star ((cm2 oA oB q15 d15 q18 d18).map CW.asn)) (fun _ s => s) ?_
     refine J.shutI [own 30 2 (.slice (some ⟨b20, 0, none⟩) (cm2 oA oB q15 d15 q18 d18).length 2) ((cm2 oA oB q15 d15 q18 d18).flatMap CW.cells), star ((cm2 oA oB q15 d15 q18 d18).map CW.asn)] (comA (some ⟨b20, 0, none⟩) 2 (cm2 oA oB q15 d15 q18 d18)) (fun _ s => s) ?_
     refine J.tellsI (comA (some ⟨b20, 0, none⟩) 2 (cm2 oA oB q15 d15 q18 d18)) (coms2 oA_fine oA_chk oB_fine oB_chk) fun hcs => ?_
     obtain ⟨b0, o0, hb0, hrd⟩ := hse.some_ (by decide)
     cases hb0
     have hse3 : SlR [own 36 17 (.slice (some ⟨b30, 0, none⟩) 4 4) ([evA, evB, evC, evD 2].flatMap EW.cells)] 17 (.slice (some ⟨b30, 17, none⟩) 3 3) ([evB, evC, evD 2].flatMap EW.cells) := by
      refine .inr ⟨b30, 17, 3, 3, rfl, rfl, fun j u hu => ?_⟩
      have hdr : ([evA, evB, evC, evD 2].flatMap EW.cells).drop 17 = [evB, evC, evD 2].flatMap EW.cells := by kernel_rfl
      have := hrd (17 + j) u (by rw [← List.getElem?_drop, hdr]; exact hu)
      rwa [Nat.zero_add] at this
     refine J.convI (pt b8 (.cells (FM.cells ⟨2, 0⟩).toArray 40 (0, 0))) (pt b8 (.cells (FM.cells ⟨2, 0⟩).toArray 40 (0, 0))) (fun _ h => h) ?_
     exact J.meetI ⟨comA (some ⟨b20, 0, none⟩) 2 (cm2 oA oB q15 d15 q18 d18), some ⟨b20, 0, none⟩, 2, (cm2 oA oB q15 d15 q18 d18), [dOf oA, dOf oB], own 36 17 (.slice (some ⟨b30, 0, none⟩) 4 4) ([evA, evB, evC, evD 2].flatMap EW.cells), some ⟨b30, 17, none⟩, 3, [evB, evC, evD 2], ⟨2, 0⟩⟩ ⟨hcs, cm2_index, two_good, ⟨hse3, (evs_ok_of (by intro e he; simp only [List.mem_cons, List.not_mem_nil, or_false] at he; rcases he with rfl | rfl | rfl <;> exact ⟨stW_ok _ _, by decide⟩)), Nat.le_of_ble_eq_true rfl⟩, fl1⟩ ⟨rfl, rfl, rfl, trivial⟩
   replace hc40 := X.nm hc40
   try (first | (cases hc40; done) | (exfalso; simp at hc40; done))
   all_goals
    refine J.cond_f rfl <| J.seq <| J.region <| J.p rfl (Q.eql rfl rfl) <| J.p rfl (Q.asg rfl) <| J.nil <| J.then_n ?_
    refine J.cases 45 rfl (fun hc45 => ?_) (fun hc45 => ?_)
    ·
     replace hc45 := X.nm hc45
     try (first | (cases hc45; done) | (exfalso; simp at hc45; done))
     all_goals
      refine J.cond_t rfl <| J.seq <| J.region <| J.m rfl <| J.p rfl (Q.ia Try.runUnderlying37 Try.sizeOf36 rfl rfl (by omega) (by omega)) <| J.p rfl (Q.fa (n := 11) Try.runUnderlying36 rfl rfl Try.sizeOf23 rfl) ?_
      refine J.c0 rfl (C.st1O (E := 36) (sz := 17) (b := b30) (off := 0) (n := 4) (c := 4) (xs := [evA, evB, evC, evD 2].flatMap EW.cells) 62 Try.sizeOf23 rfl rfl rfl rfl (by decide)) ?_
      rintro _ _ ⟨rfl, rfl⟩
      refine J.norm rfl ?_
      rw [show ([evA, evB, evC, evD 2].flatMap EW.cells).set 62 (.int .u64 1) = [evA, evB, evC, evD 1].flatMap EW.cells from by kernel_rfl]
      refine J.nil <| J.then_n <| J.region <| J.p rfl (Q.bld (l := FM.cells ⟨3, 3⟩) Try.runUnderlying40 Try.zeroValue40 Try.places40 rfl (by kernel_rfl)) ?_
      refine J.stAI (vs := [_, _]) rfl Try.sizeOf40 rfl rfl (by exact rfl) (by exact rfl) (by exact rfl) ?_
      refine J.nil <| J.blk_n ?_
      refine J.slrI (E0 := 36) (sz := 17) (p := some ⟨b30, 0, none⟩) (n := 4) (c := 4) (xs := [evA, evB, evC, evD 1].flatMap EW.cells) fun hse => ?_
      refine J.convI (pt b20 (.cells [.int .u64 ((1 : Nat) : Int), .slice q15 (opB oA).length d15, .int .u64 ((2 : Nat) : Int), .slice q18 (opB oB).length d18].toArray 30 (0, 0))) (own 30 2 (.slice (some ⟨b20, 0, none⟩) (cm2 oA oB q15 d15 q18 d18).length 2) ((cm2 oA oB q15 d15 q18 d18).flatMap CW.cells)) (own_of_block (l := (cm2 oA oB q15 d15 q18 d18).flatMap CW.cells) rfl) ?_
      refine J.shutI [wrO q15 d15 (opB oA), wrO q18 d18 (opB oB)] (star ((cm2 oA oB q15 d15 q18 d18).map CW.asn)) (fun _ s => s) ?_
      refine J.shutI [own 30 2 (.slice (some ⟨b20, 0, none⟩) (cm2 oA oB q15 d15 q18 d18).length 2) ((cm2 oA oB q15 d15 q18 d18).flatMap CW.cells), star ((cm2 oA oB q15 d15 q18 d18).map CW.asn)] (comA (some ⟨b20, 0, none⟩) 2 (cm2 oA oB q15 d15 q18 d18)) (fun _ s => s) ?_
      refine J.tellsI (comA (some ⟨b20, 0, none⟩) 2 (cm2 oA oB q15 d15 q18 d18)) (coms2 oA_fine oA_chk oB_fine oB_chk) fun hcs => ?_
      exact J.meetI ⟨comA (some ⟨b20, 0, none⟩) 2 (cm2 oA oB q15 d15 q18 d18), some ⟨b20, 0, none⟩, 2, (cm2 oA oB q15 d15 q18 d18), [dOf oA, dOf oB], own 36 17 (.slice (some ⟨b30, 0, none⟩) 4 4) ([evA, evB, evC, evD 1].flatMap EW.cells), some ⟨b30, 0, none⟩, 4, [evA, evB, evC, evD 1], ⟨3, 3⟩⟩ ⟨hcs, cm2_index, two_good, ⟨hse, (evs_ok_of (by intro e he; simp only [List.mem_cons, List.not_mem_nil, or_false] at he; rcases he with rfl | rfl | rfl | rfl <;> exact ⟨stW_ok _ _, by decide⟩)), Nat.le_of_ble_eq_true rfl⟩, fl2⟩ ⟨rfl, rfl, rfl, trivial⟩
    replace hc45 := X.nm hc45
    try (first | (cases hc45; done) | (exfalso; simp at hc45; done))
    all_goals
     refine J.cond_f rfl <| J.seq <| J.region <| J.p rfl (Q.eql rfl rfl) <| J.p rfl (Q.asg rfl) <| J.nil <| J.then_n ?_
     refine J.cases 51 rfl (fun hc51 => ?_) (fun hc51 => ?_)
     ·
      replace hc51 := X.nm hc51
      try (first | (cases hc51; done) | (exfalso; simp at hc51; done))
      all_goals
       refine J.cond_t rfl <| J.seq <| J.region <| J.m rfl <| J.p rfl (Q.ia Try.runUnderlying37 Try.sizeOf36 rfl rfl (by omega) (by omega)) <| J.p rfl (Q.fa (n := 11) Try.runUnderlying36 rfl rfl Try.sizeOf23 rfl) ?_
       refine J.c0 rfl (C.st1O (E := 36) (sz := 17) (b := b30) (off := 0) (n := 4) (c := 4) (xs := [evA, evB, evC, evD 2].flatMap EW.cells) 62 Try.sizeOf23 rfl rfl rfl rfl (by decide)) ?_
       rintro _ _ ⟨rfl, rfl⟩
       refine J.norm rfl ?_
       rw [show ([evA, evB, evC, evD 2].flatMap EW.cells).set 62 (.int .u64 0) = [evA, evB, evC, evD 0].flatMap EW.cells from by kernel_rfl]
       refine J.nil <| J.then_n <| J.region <| J.p rfl (Q.bld (l := FM.cells ⟨4, 3⟩) Try.runUnderlying40 Try.zeroValue40 Try.places40 rfl (by kernel_rfl)) ?_
       refine J.stAI (vs := [_, _]) rfl Try.sizeOf40 rfl rfl (by exact rfl) (by exact rfl) (by exact rfl) ?_
       refine J.nil <| J.blk_n ?_
       refine J.slrI (E0 := 36) (sz := 17) (p := some ⟨b30, 0, none⟩) (n := 4) (c := 4) (xs := [evA, evB, evC, evD 0].flatMap EW.cells) fun hse => ?_
       refine J.convI (pt b20 (.cells [.int .u64 ((1 : Nat) : Int), .slice q15 (opB oA).length d15, .int .u64 ((2 : Nat) : Int), .slice q18 (opB oB).length d18].toArray 30 (0, 0))) (own 30 2 (.slice (some ⟨b20, 0, none⟩) (cm2 oA oB q15 d15 q18 d18).length 2) ((cm2 oA oB q15 d15 q18 d18).flatMap CW.cells)) (own_of_block (l := (cm2 oA oB q15 d15 q18 d18).flatMap CW.cells) rfl) ?_
       refine J.shutI [wrO q15 d15 (opB oA), wrO q18 d18 (opB oB)] (star ((cm2 oA oB q15 d15 q18 d18).map CW.asn)) (fun _ s => s) ?_
       refine J.shutI [own 30 2 (.slice (some ⟨b20, 0, none⟩) (cm2 oA oB q15 d15 q18 d18).length 2) ((cm2 oA oB q15 d15 q18 d18).flatMap CW.cells), star ((cm2 oA oB q15 d15 q18 d18).map CW.asn)] (comA (some ⟨b20, 0, none⟩) 2 (cm2 oA oB q15 d15 q18 d18)) (fun _ s => s) ?_
       refine J.tellsI (comA (some ⟨b20, 0, none⟩) 2 (cm2 oA oB q15 d15 q18 d18)) (coms2 oA_fine oA_chk oB_fine oB_chk) fun hcs => ?_
       exact J.meetI ⟨comA (some ⟨b20, 0, none⟩) 2 (cm2 oA oB q15 d15 q18 d18), some ⟨b20, 0, none⟩, 2, (cm2 oA oB q15 d15 q18 d18), [dOf oA, dOf oB], own 36 17 (.slice (some ⟨b30, 0, none⟩) 4 4) ([evA, evB, evC, evD 0].flatMap EW.cells), some ⟨b30, 0, none⟩, 4, [evA, evB, evC, evD 0], ⟨4, 3⟩⟩ ⟨hcs, cm2_index, two_good, ⟨hse, (evs_ok_of (by intro e he; simp only [List.mem_cons, List.not_mem_nil, or_false] at he; rcases he with rfl | rfl | rfl | rfl <;> exact ⟨stW_ok _ _, by decide⟩)), Nat.le_of_ble_eq_true rfl⟩, fl3⟩ ⟨rfl, rfl, rfl, trivial⟩
     replace hc51 := X.nm hc51
     try (first | (cases hc51; done) | (exfalso; simp at hc51; done))
     all_goals
      refine J.cond_f rfl <| J.seq <| J.region <| J.p rfl (Q.eql rfl rfl) <| J.p rfl (Q.asg rfl) <| J.nil <| J.then_n ?_
      refine J.cases 57 rfl (fun hc57 => ?_) (fun hc57 => ?_)
      ·
       replace hc57 := X.nm hc57
       try (first | (cases hc57; done) | (exfalso; simp at hc57; done))
       all_goals
        refine J.cond_t rfl <| J.seq ?_
        refine J.pickI [pt b3 (.cells (OW.cells (bareW oA)).toArray 27 (0, 0))] ?_
        refine J.norm rfl ?_
        refine J.drawE [3, 5, 8, 11] 1 Try.mixed (by kernel_rfl) rfl rfl fun hR => ?_
        refine RG.p 0 hR rfl (Q.mv rfl) <| RG.p 1 hR rfl (Q.mv rfl) <| RG.p 2 hR rfl (Q.bld (l := OW.cells (bareW oL)) Try.runUnderlying27 Try.zeroValue27 Try.places27 rfl (by kernel_rfl)) ?_
        refine RG.p 4 hR rfl (Q.ldN (vs := [_, _, _, _, _, _, _, _, _]) Try.isAgg27 Try.sizeOf27 rfl rnI) ?_
        refine RG.callkI 3 hR rfl rfl rfl rfl rfl Try.call5 (opCommand_spec (star []) (bareW oL) (bareW_ok _ oL_fine rfl rfl) oL_fine) rfl ?_
        rintro _ _ ⟨q62, d62, rfl, rfl⟩
        refine RG.normE rfl ?_
        refine RG.callkI 5 hR rfl rfl rfl rfl rfl Try.call5 (opCommand_spec (star []) (bareW oA) (bareW_ok _ oA_fine rfl rfl) oA_fine) rfl ?_
        rintro _ _ ⟨q64, d64, rfl, rfl⟩
        refine RG.normE rfl <| RG.p 6 hR rfl (Q.ia Try.runUnderlying31 Try.sizeOf30 rfl rfl (by omega) (by omega)) <| RG.p 7 hR rfl (Q.fa (n := 1) Try.runUnderlying30 rfl rfl Try.sizeOf25 rfl) ?_
        refine RG.stkI 8 hR rfl rfl rfl rfl Try.sizeOf25 rfl rfl rfl (by exact rfl) (by exact rfl) (by exact rfl) ?_
        refine RG.p 9 hR rfl (Q.ia Try.runUnderlying31 Try.sizeOf30 rfl rfl (by omega) (by omega)) <| RG.p 10 hR rfl (Q.fa (n := 1) Try.runUnderlying30 rfl rfl Try.sizeOf25 rfl) ?_
        refine RG.stI 11 hR rfl rfl rfl rfl rfl Try.sizeOf25 rfl rfl rfl (by exact rfl) (by exact rfl) (by exact rfl) ?_
        refine RG.fin hR rfl ?_
        refine J.norm rfl <| J.then_n <| J.seq ?_
        rw [show (bareW oA).o = oA from rfl, show (bareW oL).o = oL from rfl]
        refine J.region ?_
        refine J.p rfl (Q.ldN (vs := [_, _, _, _, _, _, _, _, _]) Try.isAgg27 Try.sizeOf27 rfl rnI) ?_
        refine J.p rfl (Q.bld (l := EW.cells evA) Try.runUnderlying36 Try.zeroValue36 Try.places36 rfl (by kernel_rfl)) ?_
        refine J.p rfl (Q.ldN (vs := [_, _, _, _, _]) Try.isAgg34 Try.sizeOf34 rfl rnI) ?_
        refine J.p rfl (Q.bld (l := EW.cells evE) Try.runUnderlying36 Try.zeroValue36 Try.places36 rfl (by kernel_rfl)) <| J.p rfl (Q.bld (l := EW.cells evF) Try.runUnderlying36 Try.zeroValue36 Try.places36 rfl (by kernel_rfl)) <| J.p rfl (Q.bld (l := RW.cells (stW 404)) Try.runUnderlying34 Try.zeroValue34 Try.places34 rfl (by kernel_rfl)) <| J.p rfl (Q.bld (l := EW.cells evG) Try.runUnderlying36 Try.zeroValue36 Try.places36 rfl (by kernel_rfl)) ?_
        refine J.c rfl rfl (C.bslG (sz := 17) (len := 4) (l := [evA, evE, evF, evG].flatMap EW.cells) Try.runUnderlying37 Try.sizeOf36 Try.zeroValue36 (by decide) rfl rfl rfl (by kernel_rfl) (by kernel_rfl)) ?_
        rintro _ _ ⟨b76, rfl, rfl⟩
        refine J.norm rfl ?_
        refine J.convI (pt b76 (.cells ([evA, evE, evF, evG].flatMap EW.cells).toArray 36 (0, 0))) (own 36 17 (.slice (some ⟨b76, 0, none⟩) 4 4) ([evA, evE, evF, evG].flatMap EW.cells)) (own_of_block rfl) ?_
        refine J.p rfl (Q.asg rfl) <| J.nil <| J.then_n <| J.region <| J.p rfl (Q.bld (l := FM.cells ⟨5, 3⟩) Try.runUnderlying40 Try.zeroValue40 Try.places40 rfl (by kernel_rfl)) ?_
        refine J.stAI (vs := [_, _]) rfl Try.sizeOf40 rfl rfl (by exact rfl) (by exact rfl) (by exact rfl) ?_
        refine J.nil <| J.blk_n ?_
        refine J.slrI (E0 := 36) (sz := 17) (p := some ⟨b76, 0, none⟩) (n := 4) (c := 4) (xs := [evA, evE, evF, evG].flatMap EW.cells) fun hse => ?_
        refine J.convI (pt b20 (.cells [.int .u64 ((1 : Nat) : Int), .slice q62 (opB oL).length d62, .int .u64 ((2 : Nat) : Int), .slice q64 (opB oA).length d64].toArray 30 (0, 0))) (own 30 2 (.slice (some ⟨b20, 0, none⟩) (cm2 oL oA q62 d62 q64 d64).length 2) ((cm2 oL oA q62 d62 q64 d64).flatMap CW.cells)) (own_of_block (l := (cm2 oL oA q62 d62 q64 d64).flatMap CW.cells) rfl) ?_
        refine J.shutI [wrO q62 d62 (opB oL), wrO q64 d64 (opB oA)] (star ((cm2 oL oA q62 d62 q64 d64).map CW.asn)) (fun _ s => s) ?_
        refine J.shutI [own 30 2 (.slice (some ⟨b20, 0, none⟩) (cm2 oL oA q62 d62 q64 d64).length 2) ((cm2 oL oA q62 d62 q64 d64).flatMap CW.cells), star ((cm2 oL oA q62 d62 q64 d64).map CW.asn)] (comA (some ⟨b20, 0, none⟩) 2 (cm2 oL oA q62 d62 q64 d64)) (fun _ s => s) ?_
        refine J.tellsI (comA (some ⟨b20, 0, none⟩) 2 (cm2 oL oA q62 d62 q64 d64)) (coms2 oL_fine oL_chk oA_fine oA_chk) fun hcs => ?_
        exact J.meetI ⟨comA (some ⟨b20, 0, none⟩) 2 (cm2 oL oA q62 d62 q64 d64), some ⟨b20, 0, none⟩, 2, (cm2 oL oA q62 d62 q64 d64), [dOf oL, dOf oA], own 36 17 (.slice (some ⟨b76, 0, none⟩) 4 4) ([evA, evE, evF, evG].flatMap EW.cells), some ⟨b76, 0, none⟩, 4, [evA, evE, evF, evG], ⟨5, 3⟩⟩ ⟨hcs, cm2_index, two_good, ⟨hse, (evs_ok_of (by intro e he; simp only [List.mem_cons, List.not_mem_nil, or_false] at he; rcases he with rfl | rfl | rfl | rfl <;> exact ⟨stW_ok _ _, by decide⟩)), Nat.le_of_ble_eq_true rfl⟩, fl4⟩ ⟨rfl, rfl, rfl, trivial⟩
      replace hc57 := X.nm hc57
      try (first | (cases hc57; done) | (exfalso; simp at hc57; done))
      all_goals
       refine J.cond_f rfl <| J.seq ?_
       refine J.slrI (E0 := 36) (sz := 17) (p := some ⟨b30, 0, none⟩) (n := 4) (c := 4) (xs := [evA, evB, evC, evD 2].flatMap EW.cells) fun hse => ?_
       refine J.convI (pt b20 (.cells [.int .u64 ((1 : Nat) : Int), .slice q15 (opB oA).length d15, .int .u64 ((2 : Nat) : Int), .slice q18 (opB oB).length d18].toArray 30 (0, 0))) (own 30 2 (.slice (some ⟨b20, 0, none⟩) (cm2 oA oB q15 d15 q18 d18).length 2) ((cm2 oA oB q15 d15 q18 d18).flatMap CW.cells)) (own_of_block (l := (cm2 oA oB q15 d15 q18 d18).flatMap CW.cells) rfl) ?_
       refine J.shutI [wrO q15 d15 (opB oA), wrO q18 d18 (opB oB)] (star ((cm2 oA oB q15 d15 q18 d18).map CW.asn)) (fun _ s => s) ?_
       refine J.shutI [own 30 2 (.slice (some ⟨b20, 0, none⟩) (cm2 oA oB q15 d15 q18 d18).length 2) ((cm2 oA oB q15 d15 q18 d18).flatMap CW.cells), star ((cm2 oA oB q15 d15 q18 d18).map CW.asn)] (comA (some ⟨b20, 0, none⟩) 2 (cm2 oA oB q15 d15 q18 d18)) (fun _ s => s) ?_
       refine J.tellsI (comA (some ⟨b20, 0, none⟩) 2 (cm2 oA oB q15 d15 q18 d18)) (coms2 oA_fine oA_chk oB_fine oB_chk) fun hcs => ?_
       refine J.region <| J.m rfl <| J.m rfl ?_
       refine J.callI Try.call6 (check_ok (comA (some ⟨b20, 0, none⟩) 2 (cm2 oA oB q15 d15 q18 d18)) (own 36 17 (.slice (some ⟨b30, 0, none⟩) 4 4) ([evA, evB, evC, evD 2].flatMap EW.cells)) (some ⟨b20, 0, none⟩) 2 (cm2 oA oB q15 d15 q18 d18) [dOf oA, dOf oB] hcs cm2_index two_good (some ⟨b30, 0, none⟩) 4 [evA, evB, evC, evD 2] ⟨hse, (evs_ok_of (by intro e he; simp only [List.mem_cons, List.not_mem_nil, or_false] at he; rcases he with rfl | rfl | rfl | rfl <;> exact ⟨stW_ok _ _, by decide⟩)), Nat.le_of_ble_eq_true rfl⟩) rfl rfl rfl ?_
       rintro _ _ ⟨p37, c37, rfl, rfl⟩
       refine J.norm rfl ?_
       rw [fl0]
       refine J.p rfl (Q.lenSl Try.runUnderlying41 rfl) <| J.p rfl (Q.eql rfl rfl) <| J.p rfl (Q.asg rfl) <| J.nil <| J.then_n <| J.cret <| J.blk_r <| J.cut_r ?_
       refine J.ret1I [G] rfl rfl ⟨rfl, rfl⟩
  refine J.norm rfl ?_
  obtain ⟨K1, lp, lc, l, ds, K2, ep, ec, es, f⟩ := z
  obtain ⟨z1, z2, z3, z4, z5⟩ := hz
  dsimp only at z1 z2 z3 z4 z5 ⊢
  refine J.seq <| J.region <| J.m rfl <| J.m rfl ?_
  refine J.callI Try.call6 (check_ok K1 K2 lp lc l ds z1 z2 z3 ep ec es z4) rfl rfl rfl ?_
  rintro _ _ ⟨p80, c80, rfl, rfl⟩
  refine J.norm rfl ?_
  rw [z5]
  refine J.slrI (E0 := 40) (sz := 2) (p := p80) (n := [f].length) (c := c80) (xs := [f].flatMap FM.cells) fun hsf => ?_
  obtain ⟨b80, o80, rfl, hr80⟩ := hsf.some_ (by simp)
  refine J.p rfl (Q.asg rfl) <| J.nil <| J.then_n <| J.seq ?_
  refine J.draw [10] Try.mixed (by kernel_rfl) fun hR => ?_
  refine RG.p 0 hR rfl (Q.mv rfl) <| RG.p 1 hR rfl (Q.lenSl Try.runUnderlying41 rfl) <| RG.p 2 hR rfl (Q.eql rfl rfl) <| RG.p 3 hR rfl (Q.mv rfl) ?_
  refine RG.cases 84 rfl (fun hb84 => ?_) (fun hb84 => ?_)
  ·
   replace hb84 := X.nm hb84
   try (first | (cases hb84; done) | (exfalso; simp at hb84; done))
   all_goals
    refine RG.p 4 hR rfl (Q.mv rfl) <| RG.p 5 hR rfl (Q.ia Try.runUnderlying41 Try.sizeOf40 rfl rfl (by omega) (by omega)) ?_
    refine RG.p 6 hR rfl (Q.ldN (vs := [_, _]) Try.isAgg40 Try.sizeOf40 rfl ((rd_elem FM.len hr80 (i := 0) (x := f) rfl (by simp)).inI)) ?_
    refine RG.p 7 hR rfl (Q.ldN (vs := [_, _]) Try.isAgg40 Try.sizeOf40 rfl rnI) ?_
    refine RG.p 8 hR rfl (Q.eql2 Try.underlying40 Try.stoodInHeld40 Try.eqGuardType40 Try.underlying38 Try.underlying3 Try.isAgg38 Try.isAgg3 (by decide) (by decide) rfl rfl rfl rfl) <| RG.p 9 hR rfl (Q.pick_t rfl rfl) ?_
    refine RG.bar 10 hR rfl rfl rfl rfl rfl rfl (Q.asg rfl).toC ?_
    rintro _ _ ⟨rfl, rfl⟩
    refine RG.norm rfl ?_
    refine RG.fin hR rfl ?_
    refine J.norm rfl <| J.then_n <| J.cret ?_
    refine J.ret1I [G] rfl rfl ⟨by simp, rfl⟩
  replace hb84 := X.nm hb84
  try (first | (cases hb84; done) | (exfalso; simp at hb84; done))
  all_goals
   refine RG.skip 4 hR rfl rfl rfl rfl rfl rfl <| RG.skip 5 hR rfl rfl rfl rfl rfl rfl <| RG.skip 6 hR rfl rfl rfl rfl rfl rfl <| RG.skip 7 hR rfl rfl rfl rfl rfl rfl <| RG.skip 8 hR rfl rfl rfl rfl rfl rfl <| RG.p 9 hR rfl (Q.pick_f rfl rfl) ?_
   refine RG.bar 10 hR rfl rfl rfl rfl rfl rfl (Q.asg rfl).toC ?_
   rintro _ _ ⟨rfl, rfl⟩
   refine RG.norm rfl ?_
   refine RG.fin hR rfl ?_
   refine J.norm rfl <| J.then_n <| J.cret ?_
   refine J.ret1I [G] rfl rfl ⟨by simp, rfl⟩
end Go.Proofs.Ytidbcaimgahllaa
namespace Go.X
set_option linter.unusedSectionVars false
set_option linter.unusedSimpArgs false
set_option linter.unusedVariables false
open Go.RowKit Go.WideShapes Go.ChangeShapes

def old (W : World) : Assn := fun h => ∀ b o, W.heap[b]? = some o → h b = some o

theorem old_start (W : World) : Sat W W ([old W] ++ [fact True]) := by
  refine ⟨rfl, rfl, rfl, ?_⟩
  refine ⟨hp W, fun _ => none, fun b o e => e, ⟨fun _ => none, fun _ => none, ?_, trivial, fun _ => .inl rfl, Sub.refl _, Sub.refl _⟩, fun _ => .inr rfl, Sub.refl _, fun _ _ e => nomatch e⟩
  exact trivial

theorem old_below {W w : World} {F : Assn} (s : Sat W w ([old W] ++ [F])) : Below W.heap.size W w := by
  have hg : ∀ (b : Nat) (o : Obj), W.heap[b]? = some o → w.heap[b]? = some o := by
    obtain ⟨h1, _, a, _, _, u, _⟩ := s.heap
    exact fun b o e => u b o (a b o e)
  have hs : W.heap.size ≤ w.heap.size := by
    rcases Nat.eq_zero_or_pos W.heap.size with h | h
    · omega
    · have h1 := hg (W.heap.size - 1) _ (Array.getElem?_eq_getElem (by omega))
      have := (Array.getElem?_eq_some_iff.1 h1).1
      omega
  refine ⟨s.os, s.tape, s.out, hs, fun k hk => ?_⟩
  rw [hg k _ (Array.getElem?_eq_getElem hk), Array.getElem?_eq_getElem hk]

theorem FSpec.lift {P : Program} {f : FuncId} {args : List Value} {u : Value} {W : World} (h : FSpec P f args [old W] (fun v B => v = u ∧ B = [old W])) :
    Calls P f args.toArray W fun e w' => e = .returned u ∧ Below W.heap.size W w' :=
  (h.call W W (fact True) (old_start W)).mono fun e w' ⟨v, A, he, ⟨hv, hA⟩, s⟩ => by
    subst hv hA; exact ⟨he, old_below s⟩

end Go.X
namespace Go.X
set_option linter.unusedSectionVars false
set_option linter.unusedSimpArgs false
set_option linter.unusedVariables false

end Go.X
namespace Go.X
set_option linter.unusedSectionVars false
set_option linter.unusedSimpArgs false
set_option linter.unusedVariables false
open Go.RowKit Go.WideShapes Go.ChangeShapes

section
variable {P : Program} {H : Type} {enc : TypeId × Value → H} {W : World} {base : Nat} {spare : Nat → Bool} {held : Bool} {fuel : Nat} {t e : TypeId} {v : Value} {x : DataW H × List MemPlace}

end
end Go.X
namespace Go.Proofs.Ytidbcaimgahllaa
set_option linter.unusedSectionVars false
set_option linter.unusedSimpArgs false
set_option linter.unusedVariables false
open Go.ChangeShapes Go.WideShapes Go.ChangeAt Go.RowKit
open Go.X

namespace judgeLate
set_option linter.unusedVariables false
theorem own : ownKnob Try.prog.godebug = none := by kernel_rfl
theorem laidOut : laidOutB Try.prog = true := by kernel_rfl

theorem walk (way : Int) (W : World) :
    Calls Try.prog 3 #[.int .i64 way] W fun e w' => e = .returned (.bool true) ∧ Below W.heap.size W w' := (late_spec (old W) way).lift

set_option maxRecDepth 100000 in
theorem lifted (os : Os) (started : os.Started) (H : Type) (enc : TypeId × Value → H) :
    ReturnsInHanded {} Try.checked os 3 .any (Rows.judgeLateSpec.pre6 enc Try.prog Try.f3 Rows.judgeLateRow.domain false) (Rows.judgeLateSpec.post enc Try.prog Try.f3 false true false false) := by
  refine returnsInHanded_of_change (C := Try.checked) own started (by kernel_rfl) Try.func3
    (ChangeSpec.witness6 (enc := enc) (C := Try.checked) false ⟨#[], #[.int .i64 0], []⟩ 8 (by kernel_rfl) (by kernel_rfl) (by kernel_rfl) (by kernel_rfl)) ?_
  intro W base args ds gs before hval0 hW hcnd _
  have hval : ∀ (j : Nat) t v, Try.f3.params[j]? = some t → args[j]? = some v → Value.okWide Try.prog W .any base t v := hval0
  have hW' := hW
  obtain ⟨p, q, hA0, hV, rfl, hfz, hnd⟩ := hW
  have hA : DataW.TrodAll enc Try.prog W 0 (fun _ => true) true Try.f3.params.toList args.toList ds p := hA0
  rw [Try.params3] at hA hval
  obtain ⟨v0, vs0, d0, ds0, p0, q0, hargs, rfl, rfl, h0, r0⟩ := trodAll_cons hA
  obtain ⟨rfl, rfl, rfl⟩ := trodAll_nil r0
  obtain rfl : args = #[v0] := by cases args; simp_all
  obtain ⟨rfl, rfl⟩ := trodVars_none hV
  have lt0 : ∀ x ∈ p0, x.block < W.heap.size := by obtain ⟨m, hm⟩ := h0; exact DataW.trod_lt m _ _ _ hm
  obtain ⟨way, rfl⟩ := okWide_int Try.underlying3 (hval 0 3 v0 rfl rfl)
  clear hA0 hval0
  refine (walk way W).mono fun e W' ⟨he, bel⟩ => ?_
  subst he
  exact ⟨_, rfl, _, _, _, [], _, [], hW', trodAll_mk1 (shut_bool Try.underlying4 _), (trodAll_cons_mk (Below.trod laidOut (by kernel_rfl) (of_decide_eq_true (by kernel_rfl)) h0 bel lt0) trodAll_mk0), rfl, bel.frame _, fun h => by cases h⟩

theorem over : Rows.judgeLateRow.holds Try.pinned (OpenSpec.ofChange Rows.judgeLateSpec) :=
  OpenClaim.holds_of_wide 3 Try.f3 rfl rfl rfl rfl rfl rfl rfl ⟨rfl, rfl, rfl, rfl, rfl⟩ rfl rfl rfl rfl rfl (by kernel_rfl) Try.func3 (by kernel_rfl)
    (of_decide_eq_true (by kernel_rfl)) (by unfold Func.isWrapper; first | (rw [if_pos (by decide +kernel)]; kernel_rfl) | (rw [if_neg (by decide +kernel)]; exact ⟨rfl, rfl⟩))
    (fun os started H enc _ => lifted os started H enc)
end judgeLate

theorem judgeLate_holds : Rows.JudgeLateSaid := judgeLate.over
end Go.Proofs.Ytidbcaimgahllaa

