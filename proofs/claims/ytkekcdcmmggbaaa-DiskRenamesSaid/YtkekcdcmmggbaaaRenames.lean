/-
  DiskRenames: a crash in the midst of 'write under another name, sync, rename' leaves the old or the new.
-/
import Derived.Test.YtkekcdcmmggbaaaDiskI
import Derived.Test.YtkekcdcmmggbaaaXk
namespace Go.Proofs.Ytkekcdcmmggbaaa
open Go.X

def kF : ByteArray := ⟨#[102]⟩
def kT : ByteArray := ⟨#[102, 46, 116, 109, 112]⟩

theorem kFT : kF ≠ kT := by decide
theorem kTF : kT ≠ kF := by decide

/-- The disk holds the file 'f' whole, and synced. -/
structure StR (old : List UInt8) (d : DM) : Prop where
  wf : d.wf
  size : d.size = 1048576
  len : d.files.length ≤ 3
  file : fget kF d.files = some ⟨kF, old, old.length⟩

theorem sync_one {d : DM} {n : ByteArray} {f : FM} (h : fget n d.files = some f) : d.sync [n] = (0, { d with files := fsync n d.files }) := by
  unfold DM.sync DM.hasAll
  rw [List.all_cons, h]; rfl

theorem ren_0 (old : List UInt8) (h : old.length ≤ 10000) : ∃ d1 d2 : DM, (⟨1048576, 0, []⟩ : DM).append kF old = (0, d1) ∧ d1.wf ∧ d1.sync [kF] = (0, d2) ∧ StR old d2 ∧ d2.used = old.length ∧ d2.files.length ≤ 1 ∧ fget kT d2.files = none := by
  have w0 : (⟨1048576, 0, []⟩ : DM).wf := ⟨by decide, by simp, by decide, by decide, by decide⟩
  have hu0 : (⟨1048576, 0, []⟩ : DM).used = 0 := rfl
  have ha := append_ok (d := ⟨1048576, 0, []⟩) (n := kF) (bs := old) (by decide) (by rw [hu0]; show 0 + old.length ≤ 1048576; omega)
  obtain ⟨w1, hu1⟩ := wf_put w0 kF old (by rw [hu0]; show 0 + old.length ≤ 1048576; omega)
  have hl1 := len_fput kF old []
  refine ⟨_, ⟨1048576, 0, fsync kF (fput kF old [])⟩, ha, w1, ?_⟩
  have hf1 : fget kF (fput kF old []) = some ⟨kF, old, 0⟩ := by rw [fget_put, if_pos rfl]; rfl
  have hs := sync_one (d := { (⟨1048576, 0, []⟩ : DM) with files := fput kF old [] }) hf1
  have w2 := wf_sync w1 [kF]
  have hl2 := len_sync { (⟨1048576, 0, []⟩ : DM) with files := fput kF old [] } [kF]
  rw [hs] at w2 hl2
  refine ⟨hs, ⟨w2, rfl, Nat.le_trans (Nat.le_of_eq hl2) (Nat.le_trans hl1 (by decide)), ?_⟩, ?_, Nat.le_trans (Nat.le_of_eq hl2) hl1, ?_⟩
  · show fget kF (fsync kF (fput kF old [])) = _
    rw [fget_sync, if_pos rfl, hf1]; rfl
  · show lenSum (fsync kF (fput kF old [])) = _
    rw [lenSum_fsync]; have : lenSum (fput kF old []) = 0 + old.length := hu1
    omega
  · show fget kT (fsync kF (fput kF old [])) = _
    rw [fget_sync, if_neg kTF, fget_put, if_neg kTF]; rfl

theorem ren_1 {old now : List UInt8} {d : DM} (s : StR old d) (hu : d.used = old.length) (hl : d.files.length ≤ 1) (hT : fget kT d.files = none) (h1 : old.length ≤ 10000) (h2 : now.length ≤ 10000) :
    ∃ e : DM, d.append kT now = (0, e) ∧ StR old e ∧ fget kT e.files = some ⟨kT, now, 0⟩ := by
  have hsz : d.used + now.length ≤ d.size := by rw [hu, s.size]; omega
  obtain ⟨w1, hu1⟩ := wf_put s.wf kT now hsz
  have hl1 := len_fput kT now d.files
  refine ⟨_, append_ok (by decide) hsz, ⟨w1, s.size, by show (fput kT now d.files).length ≤ 3; omega, ?_⟩, ?_⟩
  · show fget kF (fput kT now d.files) = _
    rw [fget_put, if_neg kFT]; exact s.file
  · show fget kT (fput kT now d.files) = _
    rw [fget_put, if_pos rfl]; simp [bytesOf, syOf, hT]

theorem ren_2 {old now : List UInt8} {d : DM} (s : StR old d) (hT : fget kT d.files = some ⟨kT, now, 0⟩) :
    ∃ e : DM, d.sync [kT] = (0, e) ∧ StR old e ∧ fget kT e.files = some ⟨kT, now, now.length⟩ := by
  have hs := sync_one hT
  have w2 := wf_sync s.wf [kT]
  have hl2 := len_sync d [kT]
  rw [hs] at w2 hl2
  refine ⟨_, hs, ⟨w2, s.size, Nat.le_trans (Nat.le_of_eq hl2) s.len, ?_⟩, ?_⟩
  · show fget kF (fsync kT d.files) = _
    rw [fget_sync, if_neg kFT]; exact s.file
  · show fget kT (fsync kT d.files) = _
    rw [fget_sync, if_pos rfl, hT]; rfl

theorem ren_3 {old now : List UInt8} {d : DM} (s : StR old d) (hT : fget kT d.files = some ⟨kT, now, now.length⟩) :
    ∃ e : DM, d.rename kT kF = (0, e) ∧ e.wf ∧ e.files.length ≤ 4 ∧ fget kF e.files = some ⟨kF, now, now.length⟩ := by
  have w := wf_rename s.wf kT kF
  have hl := len_rename d kT kF
  have hr : d.rename kT kF = (0, { d with files := frename kT kF ⟨kT, now, now.length⟩ d.files }) := by
    unfold DM.rename
    rw [hT]
    exact (if_neg (by decide)).trans (if_neg kTF)
  rw [hr] at w hl
  refine ⟨_, hr, w, Nat.le_trans hl (Nat.succ_le_succ s.len), ?_⟩
  show fget kF (frename kT kF ⟨kT, now, now.length⟩ d.files) = _
  rw [fget_rename s.wf.names, if_neg kFT, if_pos rfl]

theorem ren_4 {w : List UInt8} {d : DM} (hd : d.wf) (hf : fget kF d.files = some ⟨kF, w, w.length⟩) (picks : List Int) : (d.crash picks).wf ∧ (d.crash picks).bytes kF = w ∧ (d.crash picks).found kF = 0 := by
  have := crash_synced hf picks
  refine ⟨wf_crash hd picks, ?_, ?_⟩
  · unfold DM.bytes; rw [this]
  · unfold DM.found; rw [this]

/-- A slice of one slice, in a block of its own, beside memory where the inner slice reads. -/
def partArg (b : Nat) (v : Value) (z : Nat × Nat) (G : Assn) : Assn := star [pt b (.cells [v].toArray 30 z), G]
theorem partArg_1 (b n : Nat) (q : Part) (z : Nat × Nat) (G : Assn) : SlR [partArg b q.val z G] 1 (.slice (some ⟨b, 0, none⟩) 1 n) ([q].map Part.val) :=
  (SlR.pt (D := [pt b (.cells [q.val].toArray 30 z)]) 0 rfl rfl (fun j u h => by rw [Nat.zero_add]; exact h)).into 0 rfl
theorem partArg_2 (b : Nat) (q : Part) (z : Nat × Nat) (G : Assn) (h : SlR [G] 1 q.val (bytesV q.bs)) : ∀ r, r ∈ [q] → SlR [partArg b q.val z G] 1 r.val (bytesV r.bs) := by
  intro r hr
  simp only [List.mem_singleton] at hr
  subst hr
  exact h.into 1 rfl

theorem renames_spec (G : Assn) (op np : Option Addr) (oc nc : Nat) (old now : List UInt8) (at_ pk : Int) (ho : SlR [G] 1 (.slice op old.length oc) (bytesV old)) (hn : SlR [G] 1 (.slice np now.length nc) (bytesV now))
    (_ : -9223372036854775808 ≤ at_ ∧ at_ ≤ 9223372036854775807) (hp : -9223372036854775808 ≤ pk ∧ pk ≤ 9223372036854775807) :
    FSpec Try.prog 4 [.slice op old.length oc, .slice np now.length nc, .int .i64 at_, .int .i64 pk] [G] (fun v B => v = .bool true ∧ B = [G]) := by
  refine FSpec.of Try.func4 rfl Try.ntmps4 rfl fun W0 F => ?_
  refine J.seq ?_
  refine J.region ?_
  refine J.q rfl rfl (Q.asg rfl) ?_
  refine J.nil ?_
  refine J.then_n ?_
  refine J.seq ?_
  refine J.seq ?_
  refine J.region ?_
  refine J.call Try.call8 (known_spec) [] rfl rfl rfl rfl ?_
  rintro _ _ ⟨rfl, rfl⟩
  refine J.norm rfl ?_
  refine J.q rfl rfl (Q.not rfl) ?_
  refine J.nil ?_
  refine J.then_n ?_
  refine J.cond rfl (fun hc15 => ?_) (fun hc15 => ?_)
  ·
    cases hc15
  ·
    first | replace hc15 := X.tt_dec hc15 | replace hc15 := X.tt_not hc15 | replace hc15 := X.ff_dec hc15 | replace hc15 := X.ff_not hc15 | skip
    refine J.cskip ?_
    refine J.then_n ?_
    refine J.seq ?_
    refine J.seq ?_
    refine J.region ?_
    refine J.q rfl rfl (Q.mv rfl) ?_
    refine J.q rfl rfl (Q.lenSl Try.runUnderlying30 rfl) ?_
    refine J.q rfl rfl (Q.gtr rfl rfl) ?_
    refine J.q rfl rfl (Q.mv rfl) ?_
    refine J.cases 19 rfl (fun hb19 => ?_) (fun hb19 => ?_)
    ·
      first | replace hb19 := X.tt_dec hb19 | replace hb19 := X.tt_not hb19 | replace hb19 := X.ff_dec hb19 | replace hb19 := X.ff_not hb19 | skip
      refine J.skip rfl rfl ?_
      refine J.skip rfl rfl ?_
      refine J.skip rfl rfl ?_
      refine J.q rfl rfl (Q.pick_t rfl rfl) ?_
      refine J.nil ?_
      refine J.then_n ?_
      refine J.cond_t rfl ?_
      refine J.seq ?_
      refine J.region ?_
      refine J.q rfl rfl (Q.asg rfl) ?_
      refine J.nil ?_
      refine J.then_n ?_
      refine J.cret ?_
      refine J.then_r ?_
      refine J.ret1 (B := [G]) rfl rfl ⟨rfl, rfl⟩ rfl
    ·
      first | replace hb19 := X.tt_dec hb19 | replace hb19 := X.tt_not hb19 | replace hb19 := X.ff_dec hb19 | replace hb19 := X.ff_not hb19 | skip
      refine J.q rfl rfl (Q.mv rfl) ?_
      refine J.q rfl rfl (Q.lenSl Try.runUnderlying30 rfl) ?_
      refine J.q rfl rfl (Q.gtr rfl rfl) ?_
      refine J.q rfl rfl (Q.pick_f rfl rfl) ?_
      refine J.nil ?_
      refine J.then_n ?_
      refine J.cond rfl (fun hc23 => ?_) (fun hc23 => ?_)
      ·
        first | replace hc23 := X.tt_dec hc23 | replace hc23 := X.tt_not hc23 | replace hc23 := X.ff_dec hc23 | replace hc23 := X.ff_not hc23 | skip
        refine J.seq ?_
        refine J.region ?_
        refine J.q rfl rfl (Q.asg rfl) ?_
        refine J.nil ?_
        refine J.then_n ?_
        refine J.cret ?_
        refine J.then_r ?_
        refine J.ret1 (B := [G]) rfl rfl ⟨rfl, rfl⟩ rfl
      ·
        first | replace hc23 := X.tt_dec hc23 | replace hc23 := X.tt_not hc23 | replace hc23 := X.ff_dec hc23 | replace hc23 := X.ff_not hc23 | skip
        refine J.cskip ?_
        refine J.then_n ?_
        refine J.seq ?_
        skip
        refine J.region ?_
        refine J.call Try.call9 (new_yes 1048576 (by omega) (by omega)) [] rfl rfl rfl rfl ?_
        rintro _ _ ⟨p, rfl, rfl⟩
        refine J.norm rfl ?_
        refine J.q rfl rfl (Q.mv rfl) ?_
        refine J.q rfl rfl (Q.ext rfl rfl) ?_
        refine J.q rfl rfl (Q.ext rfl rfl) ?_
        refine J.q rfl rfl (Q.asg rfl) ?_
        refine J.q rfl rfl (Q.asg rfl) ?_
        refine J.nil ?_
        refine J.then_n ?_
        refine J.seq ?_
        refine J.seq ?_
        refine J.region ?_
        refine J.q rfl rfl (Q.mv rfl) ?_
        refine J.q rfl rfl (Q.neq rfl rfl) ?_
        refine J.q rfl rfl (Q.mv rfl) ?_
        refine J.cases 30 rfl (fun hb30 => ?_) (fun hb30 => ?_)
        ·
          exact absurd hb30 (by decide)
        ·
          first | replace hb30 := X.tt_dec hb30 | replace hb30 := X.tt_not hb30 | replace hb30 := X.ff_dec hb30 | replace hb30 := X.ff_not hb30 | skip
          refine J.q rfl rfl (Q.mv rfl) ?_
          refine J.q rfl rfl (Q.eqlp Try.runUnderlying24 rfl rfl) ?_
          refine J.q rfl rfl (Q.pick_f rfl rfl) ?_
          refine J.nil ?_
          refine J.then_n ?_
          refine J.cond rfl (fun hc33 => ?_) (fun hc33 => ?_)
          ·
            exact absurd hc33 Bool.false_ne_true
          ·
            first | replace hc33 := X.tt_dec hc33 | replace hc33 := X.tt_not hc33 | replace hc33 := X.ff_dec hc33 | replace hc33 := X.ff_not hc33 | skip
            refine J.cskip ?_
            refine J.then_n ?_
            refine J.seq ?_
            refine J.region ?_
            refine J.q rfl rfl (Q.mv rfl) ?_
            refine J.q rfl rfl (Q.mv rfl) ?_
            refine J.c rfl rfl (C.bslG (l := [_]) Try.runUnderlying68 Try.sizeOf30 Try.zeroValue30 (by decide) rfl rfl rfl rfl rfl) ?_
            rintro _ _ ⟨b36, rfl, rfl⟩
            refine J.norm rfl ?_
            refine J.pack [0, 2] rfl ?_
            refine J.conv (Y := partArg b36 (Part.val ⟨op, oc, old⟩) (0, 0) G) 0 rfl (fun _ h => h) ?_
            obtain ⟨d1, d2, hd1, w1, hd2, s2, hu2, hl2, hT2⟩ := ren_0 old (by omega)
            refine J.call Try.call10 (append_spec p ⟨1048576, 0, []⟩ ⟨by simp, by simp, by decide, by decide, by decide⟩ kF (by decide) (partArg b36 (Part.val ⟨op, oc, old⟩) (0, 0) G) (some ⟨b36, 0, none⟩) 1 1 [⟨op, oc, old⟩] (partArg_1 _ _ _ _ _) (by decide) (partArg_2 _ _ _ _ ho) (by simp [pcat]; omega)) [1, 0] rfl rfl rfl rfl ?_
            rintro _ _ ⟨rfl, rfl⟩
            refine J.norm rfl ?_
            rw [show pcat [(⟨op, oc, old⟩ : Part)] = old from by simp [pcat], hd1]
            refine J.unpack 1 rfl rfl ?_
            refine J.keep [2, 1, 3] rfl ?_
            refine J.nil ?_
            refine J.then_n ?_
            refine J.seq ?_
            refine J.region ?_
            refine J.q rfl rfl (Q.mv rfl) ?_
            refine J.c rfl rfl (C.bslG (l := [_]) Try.runUnderlying28 Try.sizeOf9 Try.zeroValue9 (by decide) rfl rfl rfl rfl rfl) ?_
            rintro _ _ ⟨b39, rfl, rfl⟩
            refine J.norm rfl ?_
            refine J.call Try.call14 (sync_spec p d1 (pt b39 (.cells [Value.string kF].toArray 9 (0, 0))) (some ⟨b39, 0, none⟩) 1 1 [kF] (SlR.pt 0 rfl rfl (fun j u h => by rw [Nat.zero_add]; exact h)) (by decide)) [1, 0] rfl rfl rfl rfl ?_
            rintro _ _ ⟨rfl, rfl⟩
            refine J.norm rfl ?_
            rw [hd2]
            refine J.keep [0, 2, 3] rfl ?_
            refine J.nil ?_
            refine J.then_n ?_
            refine J.seq ?_
            refine J.region ?_
            refine J.q rfl rfl (Q.mv rfl) ?_
            refine J.q rfl rfl (Q.rem rfl rfl (by omega)) ?_
            have ht1 : (at_.tmod 4).natAbs < 4 := by
              have := Int.natAbs_tmod at_ 4
              rw [this]; exact Nat.mod_lt _ (by omega)
            refine J.q rfl rfl (Q.asg rfl) ?_
            refine J.nil ?_
            refine J.then_n ?_
            refine J.cut (fun m : Nat => m ≤ 3) (fun m => [(0, .slice op old.length oc), (1, .slice np now.length nc), (2, .int .i64 m), (3, .int .i64 pk), (9, dv p)]) (fun _ => [DiskAt p d2, G, F]) ?_ fun m hm => ?_
            ·
              refine J.seq ?_
              refine J.region ?_
              refine J.q rfl rfl (Q.mv rfl) ?_
              refine J.q rfl rfl (Q.lss rfl rfl) ?_
              refine J.nil ?_
              refine J.then_n ?_
              refine J.cond rfl (fun hc44 => ?_) (fun hc44 => ?_)
              ·
                first | replace hc44 := X.tt_dec hc44 | replace hc44 := X.tt_not hc44 | replace hc44 := X.ff_dec hc44 | replace hc44 := X.ff_not hc44 | skip
                refine J.region ?_
                refine J.q rfl rfl (Q.mv rfl) ?_
                refine J.q rfl rfl (Q.sub64 rfl rfl (by omega)) ?_
                refine J.q rfl rfl (Q.asg rfl) ?_
                refine J.nil ?_
                refine J.meet (at_.tmod 4).natAbs (by omega) ⟨rfl, rfl, congrArg some (congrArg (Value.int .i64) (by omega)), rfl, rfl, trivial⟩ rfl
              ·
                first | replace hc44 := X.tt_dec hc44 | replace hc44 := X.tt_not hc44 | replace hc44 := X.ff_dec hc44 | replace hc44 := X.ff_not hc44 | skip
                refine J.cskip ?_
                refine J.meet (at_.tmod 4).natAbs (by omega) ⟨rfl, rfl, congrArg some (congrArg (Value.int .i64) (by omega)), rfl, rfl, trivial⟩ rfl
            ·
              refine J.cut (fun d : DM => StR old d ∧ (1 ≤ m → fget kT d.files = some ⟨kT, now, 0⟩)) (fun _ => [(0, .slice op old.length oc), (1, .slice np now.length nc), (2, .int .i64 m), (3, .int .i64 pk), (9, dv p)]) (fun d => [DiskAt p d, G, F]) ?_ fun d hd => ?_
              ·
                refine J.seq ?_
                refine J.region ?_
                refine J.q rfl rfl (Q.mv rfl) ?_
                refine J.q rfl rfl (Q.geq rfl rfl) ?_
                refine J.nil ?_
                refine J.then_n ?_
                refine J.cond rfl (fun hc48 => ?_) (fun hc48 => ?_)
                ·
                  first | replace hc48 := X.tt_dec hc48 | replace hc48 := X.tt_not hc48 | replace hc48 := X.ff_dec hc48 | replace hc48 := X.ff_not hc48 | skip
                  refine J.region ?_
                  refine J.q rfl rfl (Q.mv rfl) ?_
                  refine J.q rfl rfl (Q.mv rfl) ?_
                  refine J.c rfl rfl (C.bslG (l := [_]) Try.runUnderlying68 Try.sizeOf30 Try.zeroValue30 (by decide) rfl rfl rfl rfl rfl) ?_
                  rintro _ _ ⟨b51, rfl, rfl⟩
                  refine J.norm rfl ?_
                  refine J.pack [0, 2] rfl ?_
                  refine J.conv (Y := partArg b51 (Part.val ⟨np, nc, now⟩) (0, 0) G) 0 rfl (fun _ h => h) ?_
                  obtain ⟨d3, hd3, s3, hT3⟩ := ren_1 (now := now) s2 hu2 hl2 hT2 (by omega) (by omega)
                  refine J.call Try.call10 (append_spec p d2 s2.wf kT (by decide) (partArg b51 (Part.val ⟨np, nc, now⟩) (0, 0) G) (some ⟨b51, 0, none⟩) 1 1 [⟨np, nc, now⟩] (partArg_1 _ _ _ _ _) (by decide) (partArg_2 _ _ _ _ hn) (by simp [pcat]; omega)) [1, 0] rfl rfl rfl rfl ?_
                  rintro _ _ ⟨rfl, rfl⟩
                  refine J.norm rfl ?_
                  rw [show pcat [(⟨np, nc, now⟩ : Part)] = now from by simp [pcat], hd3]
                  refine J.unpack 1 rfl rfl ?_
                  refine J.keep [2, 1, 3] rfl ?_
                  refine J.nil ?_
                  refine J.meet d3 ⟨s3, fun _ => hT3⟩ ⟨rfl, rfl, rfl, rfl, rfl, trivial⟩ rfl
                ·
                  first | replace hc48 := X.tt_dec hc48 | replace hc48 := X.tt_not hc48 | replace hc48 := X.ff_dec hc48 | replace hc48 := X.ff_not hc48 | skip
                  refine J.cskip ?_
                  refine J.meet d2 ⟨s2, fun h => by omega⟩ ⟨rfl, rfl, rfl, rfl, rfl, trivial⟩ rfl
              ·
                obtain ⟨sd, hdT⟩ := hd
                refine J.cut (fun d : DM => StR old d ∧ (2 ≤ m → fget kT d.files = some ⟨kT, now, now.length⟩)) (fun _ => [(0, .slice op old.length oc), (1, .slice np now.length nc), (2, .int .i64 m), (3, .int .i64 pk), (9, dv p)]) (fun d => [DiskAt p d, G, F]) ?_ fun e he => ?_
                ·
                  refine J.seq ?_
                  refine J.region ?_
                  refine J.q rfl rfl (Q.mv rfl) ?_
                  refine J.q rfl rfl (Q.geq rfl rfl) ?_
                  refine J.nil ?_
                  refine J.then_n ?_
                  refine J.cond rfl (fun hc54 => ?_) (fun hc54 => ?_)
                  ·
                    first | replace hc54 := X.tt_dec hc54 | replace hc54 := X.tt_not hc54 | replace hc54 := X.ff_dec hc54 | replace hc54 := X.ff_not hc54 | skip
                    refine J.region ?_
                    refine J.q rfl rfl (Q.mv rfl) ?_
                    refine J.c rfl rfl (C.bslG (l := [_]) Try.runUnderlying28 Try.sizeOf9 Try.zeroValue9 (by decide) rfl rfl rfl rfl rfl) ?_
                    rintro _ _ ⟨b56, rfl, rfl⟩
                    refine J.norm rfl ?_
                    obtain ⟨d4, hd4, s4, hT4⟩ := ren_2 sd (hdT (by omega))
                    refine J.call Try.call14 (sync_spec p d (pt b56 (.cells [Value.string kT].toArray 9 (0, 0))) (some ⟨b56, 0, none⟩) 1 1 [kT] (SlR.pt 0 rfl rfl (fun j u h => by rw [Nat.zero_add]; exact h)) (by decide)) [1, 0] rfl rfl rfl rfl ?_
                    rintro _ _ ⟨rfl, rfl⟩
                    refine J.norm rfl ?_
                    rw [hd4]
                    refine J.keep [0, 2, 3] rfl ?_
                    refine J.nil ?_
                    refine J.meet d4 ⟨s4, fun _ => hT4⟩ ⟨rfl, rfl, rfl, rfl, rfl, trivial⟩ rfl
                  ·
                    first | replace hc54 := X.tt_dec hc54 | replace hc54 := X.tt_not hc54 | replace hc54 := X.ff_dec hc54 | replace hc54 := X.ff_not hc54 | skip
                    refine J.cskip ?_
                    refine J.meet d ⟨sd, fun h => by omega⟩ ⟨rfl, rfl, rfl, rfl, rfl, trivial⟩ rfl
                ·
                  obtain ⟨se, heT⟩ := he
                  refine J.cut (fun d : DM => d.wf ∧ d.files.length ≤ 4 ∧ ∃ w, fget kF d.files = some ⟨kF, w, w.length⟩ ∧ w = if m = 3 then now else old) (fun _ => [(0, .slice op old.length oc), (1, .slice np now.length nc), (2, .int .i64 m), (3, .int .i64 pk), (9, dv p)]) (fun d => [DiskAt p d, G, F]) ?_ fun g hg => ?_
                  ·
                    refine J.seq ?_
                    refine J.region ?_
                    refine J.q rfl rfl (Q.mv rfl) ?_
                    refine J.q rfl rfl (Q.geq rfl rfl) ?_
                    refine J.nil ?_
                    refine J.then_n ?_
                    refine J.cond rfl (fun hc59 => ?_) (fun hc59 => ?_)
                    ·
                      first | replace hc59 := X.tt_dec hc59 | replace hc59 := X.tt_not hc59 | replace hc59 := X.ff_dec hc59 | replace hc59 := X.ff_not hc59 | skip
                      refine J.region ?_
                      refine J.q rfl rfl (Q.mv rfl) ?_
                      obtain ⟨d5, hd5, w5, hl5, hF5⟩ := ren_3 se (heT (by omega))
                      refine J.call Try.call15 (rename_spec p e se.wf kT kF (by decide)) [0] rfl rfl rfl rfl ?_
                      rintro _ _ ⟨rfl, rfl⟩
                      refine J.norm rfl ?_
                      rw [hd5]
                      refine J.nil ?_
                      refine J.meet d5 ⟨w5, hl5, now, hF5, (if_pos (by omega)).symm⟩ ⟨rfl, rfl, rfl, rfl, rfl, trivial⟩ rfl
                    ·
                      first | replace hc59 := X.tt_dec hc59 | replace hc59 := X.tt_not hc59 | replace hc59 := X.ff_dec hc59 | replace hc59 := X.ff_not hc59 | skip
                      refine J.cskip ?_
                      refine J.meet e ⟨se.wf, by have := se.len; omega, old, se.file, (if_neg (by omega)).symm⟩ ⟨rfl, rfl, rfl, rfl, rfl, trivial⟩ rfl
                  ·
                    obtain ⟨wg, hlg, w, hFg, hw⟩ := hg
                    refine J.seq ?_
                    refine J.region ?_
                    refine J.q rfl rfl (Q.mv rfl) ?_
                    refine J.q rfl rfl (Q.mv rfl) ?_
                    refine J.q rfl rfl (Q.mv rfl) ?_
                    refine J.q rfl rfl (Q.mv rfl) ?_
                    refine J.c rfl rfl (C.bslG (l := [_, _, _]) Try.runUnderlying22 Try.sizeOf3 Try.zeroValue3 (by decide) rfl rfl rfl rfl rfl) ?_
                    rintro _ _ ⟨b66, rfl, rfl⟩
                    refine J.norm rfl ?_
                    obtain ⟨wc, hcb, hcf⟩ := ren_4 wg hFg [pk, pk, pk]
                    refine J.call Try.call16 (crash_spec p g wg (by omega) (pt b66 (.cells [Value.int .i64 pk, Value.int .i64 pk, Value.int .i64 pk].toArray 3 (0, 0))) (some ⟨b66, 0, none⟩) 3 3 [pk, pk, pk] (SlR.pt 0 rfl rfl (fun j u h => by rw [Nat.zero_add]; exact h)) (by decide) (by simp; exact hp)) [1, 0] rfl rfl rfl rfl ?_
                    rintro _ _ ⟨rfl, rfl⟩
                    refine J.norm rfl ?_
                    refine J.keep [0, 2, 3] rfl ?_
                    refine J.nil ?_
                    refine J.then_n ?_
                    refine J.seq ?_
                    refine J.region ?_
                    refine J.q rfl rfl (Q.mv rfl) ?_
                    refine J.call Try.call12 (read_spec p (g.crash [pk, pk, pk]) wc kF) [0] rfl rfl rfl rfl ?_
                    rintro _ _ ⟨sp70, sc70, rfl, rfl⟩
                    refine J.norm rfl ?_
                    rw [hcb, hcf]
                    refine J.q rfl rfl (Q.mv rfl) ?_
                    refine J.q rfl rfl (Q.ext rfl rfl) ?_
                    refine J.q rfl rfl (Q.ext rfl rfl) ?_
                    refine J.q rfl rfl (Q.asg rfl) ?_
                    refine J.q rfl rfl (Q.asg rfl) ?_
                    refine J.nil ?_
                    refine J.then_n ?_
                    refine J.seq ?_
                    refine J.region ?_
                    refine J.q rfl rfl (Q.mv rfl) ?_
                    refine J.q rfl rfl (Q.asg rfl) ?_
                    refine J.nil ?_
                    refine J.then_n ?_
                    refine J.cut (fun v13 : Value => SlR [G] 1 v13 (bytesV w)) (fun v13 => [(11, .slice sp70 w.length sc70), (12, .int .i64 0), (13, v13)]) (fun _ => [own 5 1 (.slice sp70 w.length sc70) (bytesV w), DiskAt p (g.crash [pk, pk, pk]), G, F]) ?_ fun v13 h13 => ?_
                    ·
                      refine J.seq ?_
                      refine J.region ?_
                      refine J.q rfl rfl (Q.mv rfl) ?_
                      refine J.q rfl rfl (Q.eql rfl rfl) ?_
                      refine J.nil ?_
                      refine J.then_n ?_
                      refine J.cond rfl (fun hc75 => ?_) (fun hc75 => ?_)
                      ·
                        first | replace hc75 := X.tt_dec hc75 | replace hc75 := X.tt_not hc75 | replace hc75 := X.ff_dec hc75 | replace hc75 := X.ff_not hc75 | skip
                        refine J.region ?_
                        refine J.q rfl rfl (Q.mv rfl) ?_
                        refine J.q rfl rfl (Q.asg rfl) ?_
                        refine J.nil ?_
                        obtain rfl : w = now := by rw [hw, if_pos (by omega)]
                        refine J.meet (.slice np w.length nc) hn ⟨rfl, rfl, rfl, trivial⟩ rfl
                      ·
                        first | replace hc75 := X.tt_dec hc75 | replace hc75 := X.tt_not hc75 | replace hc75 := X.ff_dec hc75 | replace hc75 := X.ff_not hc75 | skip
                        refine J.cskip ?_
                        obtain rfl : w = old := by rw [hw, if_neg (by omega)]
                        refine J.meet (.slice op w.length oc) ho ⟨rfl, rfl, rfl, trivial⟩ rfl
                    ·
                      refine J.seq ?_
                      refine J.region ?_
                      refine J.q rfl rfl (Q.mv rfl) ?_
                      refine J.q rfl rfl (Q.eql rfl rfl) ?_
                      refine J.q rfl rfl (Q.mv rfl) ?_
                      refine J.cases 79 rfl (fun hb79 => ?_) (fun hb79 => ?_)
                      ·
                        skip
                        refine J.q rfl rfl (Q.mv rfl) ?_
                        refine J.slr 0 rfl fun hsl => ?_
                        refine J.q rfl rfl (Q.b2s (bs := w) Try.runUnderlying30 Try.runUnderlying9 Try.runUnderlying5 rfl hsl) ?_
                        refine J.q rfl rfl (Q.mv rfl) ?_
                        refine J.q rfl rfl (Q.b2s (bs := w) Try.runUnderlying30 Try.runUnderlying9 Try.runUnderlying5 rfl (h13.within (i := 2) rfl)) ?_
                        refine J.q rfl rfl (Q.eqls rfl rfl) ?_
                        refine J.slot 84 (.bool true) rfl (congrArg Value.bool (decide_eq_true rfl)) ?_
                        refine J.q rfl rfl (Q.pick_t rfl rfl) ?_
                        refine J.q rfl rfl (Q.asg rfl) ?_
                        refine J.nil ?_
                        refine J.then_n ?_
                        refine J.cret ?_
                        refine J.keep [2, 3] rfl ?_
                        refine J.ret1 (B := [G]) rfl rfl ⟨rfl, rfl⟩ rfl
                      ·
                        cases hb79

end Go.Proofs.Ytkekcdcmmggbaaa
