/-
  BucketRooms: the plain law: a store that sees one bucket's ops alone tells of that bucket what the whole one tells.
-/
import Derived.Test.YtdancegklkifaaaBktN
namespace Go.Proofs.Ytdancegklkifaaa
set_option linter.unusedSectionVars false
set_option linter.unusedSimpArgs false
set_option linter.unusedVariables false
open Go.X
open Go.X.G (Ord3 ord3_nat ord3_int ord3_str ltB sget sput sdel Srtd)

theorem chk_in {o : OM} (h : o.chkB = true) (hk : o.kind ≤ 7) : o.bucket.data.toList ≠ [] := by
  rw [chk_eq] at h
  intro e
  have hn : nameOK o.bucket.data.toList = false := by rw [e]; rfl
  unfold OM.chkR at h
  rw [hn] at h
  simp only [Bool.false_and] at h
  repeat' split at h
  all_goals first
    | (cases h; done)
    | omega
theorem chk_out {o : OM} (h : o.chkB = true) (hk : ¬ o.kind ≤ 7) : o.bucket.data.toList = [] := by
  rw [chk_eq] at h
  unfold OM.chkR at h
  have h1 : ¬ (o.kind = 1 ∨ o.kind = 2) := by omega
  have h2 : ¬ o.kind = 3 := by omega
  have h3 : ¬ (o.kind = 4 ∨ o.kind = 5 ∨ o.kind = 7) := by omega
  have h4 : ¬ o.kind = 6 := by omega
  rw [if_neg h1, if_neg h2, if_neg h3, if_neg h4] at h
  have : emp o.bucket = true := by
    repeat' split at h
    all_goals first
      | (cases h; done)
      | (simp only [Bool.and_eq_true] at h; simp [h]; done)
  simpa [emp] using this
theorem chk_key {o : OM} (h : o.chkB = true) (hk : o.kind ≤ 7) : o.key.size ≤ 1024 := by
  rw [chk_eq] at h
  unfold OM.chkR at h
  repeat' split at h
  all_goals first
    | (simp only [Bool.and_eq_true, decide_eq_true_eq, longB, emp] at h; have e : o.key.data.toList.length = o.key.size := by simp
       first | omega | (have e2 : o.key.data.toList = [] := by simp_all
                        rw [e2] at e; simp at e; omega))
    | (cases h; done)
    | omega

theorem sget_in {κ ν : Type} [DecidableEq κ] {lt : κ → κ → Bool} (o : Ord3 lt) {l : List (κ × ν)} (h : Srtd lt l) {p : κ × ν} (hp : p ∈ l) : sget p.1 l = some p.2 := X.G.sget_of_mem (h.nodup o) hp

/-! ### The keys stay short -/
theorem kok_new : BM.kok ⟨[], [], []⟩ := ⟨(fun _ _ h => by cases h), (fun _ _ h => by cases h)⟩
theorem kok_put {k : Nat} {M : BM} (h : M.kok) (b : ByteArray) {o : Objs} (ho : ∀ p, p ∈ o → p.1.size ≤ 1024) (us : List (Nat × UM)) (hu : ∀ n u, sget n us = some u → u.key.size ≤ 1024) (d) : BM.kok ⟨sput ltB b o M.buckets, us, d⟩ := by
  refine ⟨fun n q hq => ?_, hu⟩
  rw [X.G.sget_put ord3_str] at hq
  split at hq
  · cases hq; exact ho
  · exact h.ob n q hq
theorem keys_put {k : Nat} {o : Objs} (hs : Srtd ltB o) (h : ∀ p, p ∈ o → p.1.size ≤ 1024) {a : ByteArray} (ha : a.size ≤ 1024) (d : List UInt8) : ∀ p, p ∈ sput ltB a d o → p.1.size ≤ 1024 := by
  intro p hp
  have := (X.G.sput_perm ord3_str (hs.nodup ord3_str) a d).mem_iff.1 hp
  rcases List.mem_cons.1 this with rfl | h'
  · exact ha
  · exact h p ((List.mem_filter.1 h').1)

theorem act_kok {k : Nat} {M : BM} (hM : M.ok k) (h : M.kok) {o : OM} (hc : o.chkB = true) : (M.act o).2.kok := by
  have hkey := chk_key hc
  unfold BM.act
  split
  · unfold BM.make
    split
    · exact h
    · exact kok_put (k := 0) h _ (by simp) _ h.up _
  split
  · unfold BM.unmake
    split
    · exact h
    · split
      · exact h
      · refine ⟨fun n q hq => ?_, h.up⟩
        rw [X.G.sget_del] at hq
        split at hq
        · cases hq
        · exact h.ob n q hq
  split
  · unfold BM.put
    split
    · exact h
    · rename_i objs hb
      exact kok_put (k := 0) h _ (keys_put (k := 0) (hM.os _ _ hb).1 (h.ob _ _ hb) (hkey (by omega)) _) _ h.up _
  split
  · have : (M.get o).2 = M := by unfold BM.get; repeat' split
                                 all_goals rfl
    rw [this]; exact h
  split
  · unfold BM.delete
    split
    · exact h
    · rename_i objs hb
      split
      · exact h
      · exact kok_put (k := 0) h _ (fun p hp => h.ob _ _ hb p ((List.mem_filter.1 hp).1)) _ h.up _
  split
  · have : (M.list o).2 = M := by unfold BM.list; split <;> rfl
    rw [this]; exact h
  split
  · unfold BM.begin
    split
    · exact h
    · refine ⟨h.ob, fun n u hu => ?_⟩
      rw [X.G.sget_put ord3_nat] at hu
      split at hu
      · cases hu; exact hkey (by omega)
      · exact h.up n u hu
  split
  · unfold BM.part
    split
    · exact h
    · rename_i u0 hu0
      refine ⟨h.ob, fun n u hu => ?_⟩
      rw [X.G.sget_put ord3_nat] at hu
      split at hu
      · cases hu
        show u0.key.size ≤ 1024
        exact h.up _ _ hu0
      · exact h.up n u hu
  split
  · unfold BM.complete
    split
    · exact h
    · rename_i u0 hu0
      split
      · exact h
      · refine kok_put (k := 0) h _ ?_ _ (fun n u hu => ?_) _
        · obtain ⟨objs, hB⟩ := Option.isSome_iff_exists.1 (hM.ps _ _ hu0).2.1
          rw [hB]
          exact keys_put (k := 0) (hM.os _ _ hB).1 (h.ob _ _ hB) (h.up _ _ hu0) _
        · rw [X.G.sget_del] at hu
          split at hu
          · cases hu
          · exact h.up n u hu
  · unfold BM.abort
    split
    · exact h
    · refine ⟨h.ob, fun n u hu => ?_⟩
      rw [X.G.sget_del] at hu
      split at hu
      · cases hu
      · exact h.up n u hu

theorem run_kok {k : Nat} {M : BM} (hM : M.ok k) (h : M.kok) (o : OM) : (M.run o).2.kok := by
  unfold BM.run
  split
  · rename_i hc
    have ha := act_kok hM h hc
    split
    · exact ha
    · split
      · exact h
      · exact ⟨ha.ob, ha.up⟩
  · exact h

/-! ### One room -/
structure RoomA (name : ByteArray) (mine : Nat → Bool) (M N : BM) : Prop where
  b : sget name M.buckets = sget name N.buckets
  u : ∀ i, mine i = true → sget i M.uploads = sget i N.uploads
  un : ∀ i u, sget i M.uploads = some u → (u.bucket = name ↔ mine i = true)
  uN : ∀ i u, sget i N.uploads = some u → u.bucket = name ∧ mine i = true

theorem uses_iff {k : Nat} {M : BM} (hM : M.ok k) (b : ByteArray) : M.uses b = true ↔ ∃ i u, sget i M.uploads = some u ∧ u.bucket = b := by
  unfold BM.uses
  rw [List.any_eq_true]
  constructor
  · rintro ⟨p, hp, he⟩
    exact ⟨p.1, p.2, sget_in ord3_nat hM.us hp, by simpa using he⟩
  · rintro ⟨i, u, hi, he⟩
    exact ⟨(i, u), X.G.sget_mem hi, by simpa using he⟩
theorem RoomA.uses {k j : Nat} {name : ByteArray} {mine : Nat → Bool} {M N : BM} (h : RoomA name mine M N) (hM : M.ok k) (hN : N.ok j) : M.uses name = N.uses name := by
  rw [Bool.eq_iff_iff, uses_iff hM, uses_iff hN]
  constructor
  · rintro ⟨i, u, hi, he⟩
    exact ⟨i, u, by rw [← h.u i ((h.un i u hi).1 he)]; exact hi, he⟩
  · rintro ⟨i, u, hi, he⟩
    exact ⟨i, u, by rw [h.u i (h.uN i u hi).2]; exact hi, he⟩

/-- Is an op one of this room's? -/
def hereB (name : ByteArray) (mine : Nat → Bool) (o : OM) : Bool := if o.kind ≤ 7 then decide (o.bucket = name) else mine o.upload
def mineUp (mine : Nat → Bool) (o : OM) (r : RM) : Nat → Bool := fun i => if o.kind = 7 ∧ r.status = 200 ∧ i = o.id then true else mine i

variable {k j : Nat} {name : ByteArray} {mine : Nat → Bool} {M N : BM} {o : OM}
theorem RoomA.setB (h : RoomA name mine M N) (v : Option Objs) (f g : List (ByteArray × Objs)) (hf : sget name f = v) (hg : sget name g = v) : RoomA name mine { M with buckets := f } { N with buckets := g } :=
  ⟨hf.trans hg.symm, h.u, h.un, h.uN⟩

theorem act_here (h : RoomA name mine M N) (hM : M.ok k) (hN : N.ok j) (hk1 : 1 ≤ o.kind) (hh : hereB name mine o = true) :
    (M.act o).1 = (N.act o).1 ∧ RoomA name (mineUp mine o (M.act o).1) (M.act o).2 (N.act o).2 := by
  have hu := h.uses hM hN
  have hmine : o.kind ≠ 7 → ∀ r, mineUp mine o r = mine := fun h7 r => by funext i; unfold mineUp; rw [if_neg (by rintro ⟨a, _⟩; exact h7 a)]
  have hb : o.kind ≤ 7 → o.bucket = name := fun hk => by unfold hereB at hh; rw [if_pos hk] at hh; simpa using hh
  have hm : ¬ o.kind ≤ 7 → mine o.upload = true := fun hk => by unfold hereB at hh; rw [if_neg hk] at hh; exact hh
  unfold BM.act
  split
  · rw [hmine (by omega)]
    unfold BM.make
    rw [hb (by omega), h.b]
    cases hB : sget name N.buckets with
    | some _ => exact ⟨rfl, h⟩
    | none => exact ⟨rfl, h.setB (some []) _ _ (by rw [X.G.sget_put ord3_str, if_pos rfl]) (by rw [X.G.sget_put ord3_str, if_pos rfl])⟩
  split
  · rw [hmine (by omega)]
    unfold BM.unmake
    rw [hb (by omega), h.b, hu]
    cases hB : sget name N.buckets with
    | none => exact ⟨rfl, h⟩
    | some objs =>
      dsimp only
      split
      · exact ⟨rfl, h⟩
      · exact ⟨rfl, h.setB none _ _ (by rw [X.G.sget_del, if_pos rfl]) (by rw [X.G.sget_del, if_pos rfl])⟩
  split
  · rw [hmine (by omega)]
    unfold BM.put
    rw [hb (by omega), h.b]
    cases hB : sget name N.buckets with
    | none => exact ⟨rfl, h⟩
    | some objs => exact ⟨rfl, h.setB (some (sput ltB o.key o.data objs)) _ _ (by rw [X.G.sget_put ord3_str, if_pos rfl]) (by rw [X.G.sget_put ord3_str, if_pos rfl])⟩
  split
  · rw [hmine (by omega)]
    unfold BM.get
    rw [hb (by omega), h.b]
    cases hB : sget name N.buckets with
    | none => exact ⟨rfl, h⟩
    | some objs =>
      dsimp only
      cases sget o.key objs with
      | none => exact ⟨rfl, h⟩
      | some _ => exact ⟨rfl, h⟩
  split
  · rw [hmine (by omega)]
    unfold BM.delete
    rw [hb (by omega), h.b]
    cases hB : sget name N.buckets with
    | none => exact ⟨rfl, h⟩
    | some objs =>
      dsimp only
      cases sget o.key objs with
      | none => exact ⟨rfl, h⟩
      | some _ => exact ⟨rfl, h.setB (some (sdel o.key objs)) _ _ (by rw [X.G.sget_put ord3_str, if_pos rfl]) (by rw [X.G.sget_put ord3_str, if_pos rfl])⟩
  split
  · rw [hmine (by omega)]
    unfold BM.list
    rw [hb (by omega), h.b]
    cases hB : sget name N.buckets with
    | none => exact ⟨rfl, h⟩
    | some objs => exact ⟨rfl, h⟩
  split
  · rename_i h7
    unfold BM.begin
    rw [hb (by omega), h.b]
    cases hB : sget name N.buckets with
    | none =>
      have : mineUp mine o (st 404) = mine := by funext i; unfold mineUp; rw [if_neg (by rintro ⟨_, a, _⟩; simp [st] at a)]
      dsimp only
      rw [this]; exact ⟨rfl, h⟩
    | some objs =>
      refine ⟨rfl, ⟨h.b, fun i hi => ?_, fun i u hu => ?_, fun i u hu => ?_⟩⟩
      · show sget i (sput ltN _ _ M.uploads) = sget i (sput ltN _ _ N.uploads)
        rw [X.G.sget_put ord3_nat, X.G.sget_put ord3_nat]
        by_cases e : i = o.id
        · rw [if_pos e, if_pos e]
        · rw [if_neg e, if_neg e]
          refine h.u i ?_
          have hi' : (if o.kind = 7 ∧ (200 : Int) = 200 ∧ i = o.id then true else mine i) = true := hi
          rw [if_neg (fun a => e a.2.2)] at hi'
          exact hi'
      · have hu' : sget i (sput ltN o.id ⟨name, o.key, []⟩ M.uploads) = some u := hu
        rw [X.G.sget_put ord3_nat] at hu'
        show u.bucket = name ↔ (if o.kind = 7 ∧ (200 : Int) = 200 ∧ i = o.id then true else mine i) = true
        by_cases e : i = o.id
        · rw [if_pos e] at hu'
          cases hu'
          rw [if_pos ⟨h7, rfl, e⟩]
          exact ⟨fun _ => rfl, fun _ => rfl⟩
        · rw [if_neg e] at hu'
          rw [if_neg (fun a => e a.2.2)]
          exact h.un i u hu'
      · have hu' : sget i (sput ltN o.id ⟨name, o.key, []⟩ N.uploads) = some u := hu
        rw [X.G.sget_put ord3_nat] at hu'
        show u.bucket = name ∧ (if o.kind = 7 ∧ (200 : Int) = 200 ∧ i = o.id then true else mine i) = true
        by_cases e : i = o.id
        · rw [if_pos e] at hu'
          cases hu'
          rw [if_pos ⟨h7, rfl, e⟩]
          exact ⟨rfl, rfl⟩
        · rw [if_neg e] at hu'
          rw [if_neg (fun a => e a.2.2)]
          exact h.uN i u hu'
  have hk7 : ¬ o.kind ≤ 7 := by omega
  split
  · rename_i h8
    rw [hmine (by omega)]
    unfold BM.part
    have hmm := hm (by omega)
    rw [h.u _ hmm]
    cases hU : sget o.upload N.uploads with
    | none => exact ⟨rfl, h⟩
    | some u0 =>
      have hu0 := h.uN _ _ hU
      refine ⟨rfl, ⟨h.b, fun i hi => ?_, fun i u hu => ?_, fun i u hu => ?_⟩⟩
      · show sget i (sput ltN _ _ M.uploads) = sget i (sput ltN _ _ N.uploads)
        rw [X.G.sget_put ord3_nat, X.G.sget_put ord3_nat, h.u i hi]
      · have hu' : sget i (sput ltN o.upload ⟨u0.bucket, u0.key, sput ltI o.n o.data u0.parts⟩ M.uploads) = some u := hu
        rw [X.G.sget_put ord3_nat] at hu'
        split at hu'
        · rename_i e
          cases hu'
          rw [e]
          exact ⟨fun _ => hmm, fun _ => hu0.1⟩
        · exact h.un i u hu'
      · have hu' : sget i (sput ltN o.upload ⟨u0.bucket, u0.key, sput ltI o.n o.data u0.parts⟩ N.uploads) = some u := hu
        rw [X.G.sget_put ord3_nat] at hu'
        split at hu'
        · rename_i e
          cases hu'
          rw [e]
          exact ⟨hu0.1, hmm⟩
        · exact h.uN i u hu'
  split
  · rw [hmine (by omega)]
    unfold BM.complete
    have hmm := hm (by omega)
    rw [h.u _ hmm]
    cases hU : sget o.upload N.uploads with
    | none => exact ⟨rfl, h⟩
    | some u0 =>
      have hu0 := h.uN _ _ hU
      dsimp only
      cases collect u0.parts o.parts with
      | none => exact ⟨rfl, h⟩
      | some d =>
        refine ⟨rfl, ⟨?_, fun i hi => ?_, fun i u hu => ?_, fun i u hu => ?_⟩⟩
        · show sget name (sput ltB u0.bucket _ M.buckets) = sget name (sput ltB u0.bucket _ N.buckets)
          rw [hu0.1, X.G.sget_put ord3_str, X.G.sget_put ord3_str, if_pos rfl, if_pos rfl, h.b]
        · show sget i (sdel _ M.uploads) = sget i (sdel _ N.uploads)
          rw [X.G.sget_del, X.G.sget_del, h.u i hi]
        · have hu' : sget i (sdel o.upload M.uploads) = some u := hu
          rw [X.G.sget_del] at hu'
          split at hu'
          · cases hu'
          · exact h.un i u hu'
        · have hu' : sget i (sdel o.upload N.uploads) = some u := hu
          rw [X.G.sget_del] at hu'
          split at hu'
          · cases hu'
          · exact h.uN i u hu'
  · · rw [hmine (by omega)]
      unfold BM.abort
      have hmm := hm hk7
      rw [h.u _ hmm]
      cases hU : sget o.upload N.uploads with
      | none => exact ⟨rfl, h⟩
      | some u0 =>
        refine ⟨rfl, ⟨h.b, fun i hi => ?_, fun i u hu => ?_, fun i u hu => ?_⟩⟩
        · show sget i (sdel _ M.uploads) = sget i (sdel _ N.uploads)
          rw [X.G.sget_del, X.G.sget_del, h.u i hi]
        · have hu' : sget i (sdel o.upload M.uploads) = some u := hu
          rw [X.G.sget_del] at hu'
          split at hu'
          · cases hu'
          · exact h.un i u hu'
        · have hu' : sget i (sdel o.upload N.uploads) = some u := hu
          rw [X.G.sget_del] at hu'
          split at hu'
          · cases hu'
          · exact h.uN i u hu'

theorem RoomA.setM (h : RoomA name mine M N) (f : List (ByteArray × Objs)) (hf : sget name f = sget name M.buckets) : RoomA name mine { M with buckets := f } N :=
  ⟨hf.trans h.b, h.u, h.un, h.uN⟩
theorem RoomA.setU (h : RoomA name mine M N) (us : List (Nat × UM)) (h1 : ∀ i, mine i = true → sget i us = sget i M.uploads) (h2 : ∀ i u, sget i us = some u → (u.bucket = name ↔ mine i = true)) : RoomA name mine { M with uploads := us } N :=
  ⟨h.b, fun i hi => (h1 i hi).trans (h.u i hi), h2, h.uN⟩

theorem act_off (h : RoomA name mine M N) (hk1 : 1 ≤ o.kind) (hf : mine o.id = false) (hh : hereB name mine o = false) : RoomA name mine (M.act o).2 N := by
  have hb : o.kind ≤ 7 → o.bucket ≠ name := fun hk => by unfold hereB at hh; rw [if_pos hk] at hh; simpa using hh
  have hm : ¬ o.kind ≤ 7 → mine o.upload = false := fun hk => by unfold hereB at hh; rw [if_neg hk] at hh; exact hh
  have hput : ∀ (b : ByteArray) v, b ≠ name → sget name (sput ltB b v M.buckets) = sget name M.buckets := fun b v e => by rw [X.G.sget_put ord3_str, if_neg (fun a => e a.symm)]
  unfold BM.act
  split
  · unfold BM.make
    split
    · exact h
    · exact h.setM _ (hput _ _ (hb (by omega)))
  split
  · unfold BM.unmake
    split
    · exact h
    · split
      · exact h
      · exact h.setM _ (by rw [X.G.sget_del, if_neg (fun a => hb (by omega) a.symm)])
  split
  · unfold BM.put
    split
    · exact h
    · exact h.setM _ (hput _ _ (hb (by omega)))
  split
  · have : (M.get o).2 = M := by unfold BM.get; repeat' split
                                 all_goals rfl
    rw [this]; exact h
  split
  · unfold BM.delete
    split
    · exact h
    · split
      · exact h
      · exact h.setM _ (hput _ _ (hb (by omega)))
  split
  · have : (M.list o).2 = M := by unfold BM.list; split <;> rfl
    rw [this]; exact h
  split
  · unfold BM.begin
    split
    · exact h
    · refine h.setU _ (fun i hi => ?_) (fun i u hu => ?_)
      · rw [X.G.sget_put ord3_nat, if_neg]
        intro e; rw [e, hf] at hi; cases hi
      · rw [X.G.sget_put ord3_nat] at hu
        split at hu
        · rename_i e
          cases hu
          rw [e, hf]
          exact ⟨fun a => absurd a (hb (by omega)), fun a => by cases a⟩
        · exact h.un i u hu
  have hk7 : ¬ o.kind ≤ 7 := by omega
  have hmm := hm hk7
  have hne : ∀ i, mine i = true → i ≠ o.upload := fun i hi e => by rw [e, hmm] at hi; cases hi
  split
  · unfold BM.part
    split
    · exact h
    · rename_i u0 hu0
      refine h.setU _ (fun i hi => by rw [X.G.sget_put ord3_nat, if_neg (hne i hi)]) (fun i u hu => ?_)
      rw [X.G.sget_put ord3_nat] at hu
      split at hu
      · rename_i e
        cases hu
        rw [e]
        show u0.bucket = name ↔ _
        exact h.un _ _ hu0
      · exact h.un i u hu
  split
  · unfold BM.complete
    split
    · exact h
    · rename_i u0 hu0
      split
      · exact h
      · have hub : u0.bucket ≠ name := fun a => by have := (h.un _ _ hu0).1 a; rw [hmm] at this; cases this
        exact (h.setM _ (hput _ _ hub)).setU _ (fun i hi => by rw [X.G.sget_del, if_neg (hne i hi)]) (fun i u hu => by
          rw [X.G.sget_del] at hu
          split at hu
          · cases hu
          · exact h.un i u hu)
  · unfold BM.abort
    split
    · exact h
    · exact h.setU _ (fun i hi => by rw [X.G.sget_del, if_neg (hne i hi)]) (fun i u hu => by
        rw [X.G.sget_del] at hu
        split at hu
        · cases hu
        · exact h.un i u hu)

/-- The two stores, with what the law keeps beside them. -/
structure Room (name : ByteArray) (seen mine : Nat → Bool) (M N : BM) : Prop where
  a : RoomA name mine M N
  ms : ∀ i, mine i = true → seen i = true
  dM : ∀ i, seen i = false → sget i M.done = none
  dN : ∀ i, seen i = false → sget i N.done = none
theorem Room.new (name : ByteArray) : Room name (fun _ => false) (fun _ => false) ⟨[], [], []⟩ ⟨[], [], []⟩ :=
  ⟨⟨rfl, (fun _ h => by cases h), (fun _ _ h => by cases h), (fun _ _ h => by cases h)⟩, (fun _ h => by cases h), (fun _ _ => rfl), (fun _ _ => rfl)⟩

theorem run_fresh (hc : o.chkB = true) (hd : sget o.id M.done = none) : (M.run o).1 = (M.act o).1 ∧ ((M.run o).2.buckets = (M.act o).2.buckets ∧ (M.run o).2.uploads = (M.act o).2.uploads) ∧ ∀ i, i ≠ o.id → sget i (M.run o).2.done = sget i M.done := by
  unfold BM.run
  rw [if_pos hc]
  split
  · exact ⟨rfl, ⟨rfl, rfl⟩, fun i _ => by rw [act_done]⟩
  · rw [hd]
    exact ⟨rfl, ⟨rfl, rfl⟩, fun i hi => by show sget i (sput ltN o.id _ M.done) = _; rw [X.G.sget_put ord3_nat, if_neg hi]⟩
theorem RoomA.of {M' N' : BM} (h : RoomA name mine M N) (h1 : M'.buckets = M.buckets) (h2 : M'.uploads = M.uploads) (h3 : N'.buckets = N.buckets) (h4 : N'.uploads = N.uploads) : RoomA name mine M' N' :=
  ⟨by rw [h1, h3]; exact h.b, by rw [h2, h4]; exact h.u, by rw [h2]; exact h.un, by rw [h4]; exact h.uN⟩

def seenUp (seen : Nat → Bool) (a : Nat) : Nat → Bool := fun i => if i = a then true else seen i
theorem seen_no {seen : Nat → Bool} {a i : Nat} (h : seenUp seen a i = false) : i ≠ a ∧ seen i = false := by
  unfold seenUp at h
  split at h
  · cases h
  · rename_i e; exact ⟨e, h⟩

theorem Room.here {seen : Nat → Bool} (h : Room name seen mine M N) (hM : M.ok k) (hN : N.ok j) (hc : o.chkB = true) (hs : seen o.id = false) (hh : hereB name mine o = true) :
    (M.run o).1 = (N.run o).1 ∧ Room name (seenUp seen o.id) (mineUp mine o (M.run o).1) (M.run o).2 (N.run o).2 := by
  obtain ⟨e1, ⟨e2, e3⟩, e4⟩ := run_fresh hc (h.dM _ hs)
  obtain ⟨f1, ⟨f2, f3⟩, f4⟩ := run_fresh hc (h.dN _ hs)
  obtain ⟨g1, g2⟩ := act_here h.a hM hN (chk_kind hc).1 hh
  refine ⟨by rw [e1, f1, g1], ⟨by rw [e1]; exact g2.of e2 e3 f2 f3, fun i hi => ?_, fun i hi => ?_, fun i hi => ?_⟩⟩
  · unfold mineUp at hi
    unfold seenUp
    split at hi
    · rename_i q; rw [if_pos q.2.2]
    · split
      · rfl
      · exact h.ms i hi
  · rw [e4 i (seen_no hi).1]; exact h.dM i (seen_no hi).2
  · rw [f4 i (seen_no hi).1]; exact h.dN i (seen_no hi).2
theorem Room.off {seen : Nat → Bool} (h : Room name seen mine M N) (hc : o.chkB = true) (hs : seen o.id = false) (hh : hereB name mine o = false) :
    Room name (seenUp seen o.id) mine (M.run o).2 N := by
  obtain ⟨e1, ⟨e2, e3⟩, e4⟩ := run_fresh hc (h.dM _ hs)
  have hf : mine o.id = false := by
    cases e : mine o.id with
    | false => rfl
    | true => rw [h.ms _ e] at hs; cases hs
  have g2 := act_off h.a (chk_kind hc).1 hf hh
  refine ⟨g2.of e2 e3 rfl rfl, fun i hi => ?_, fun i hi => ?_, fun i hi => h.dN i (seen_no hi).2⟩
  · unfold seenUp
    split
    · rfl
    · exact h.ms i hi
  · rw [e4 i (seen_no hi).1]; exact h.dM i (seen_no hi).2
theorem Room.keys {seen : Nat → Bool} (h : Room name seen mine M N) : keysM M name = keysM N name := by unfold keysM; rw [h.a.b]
end Go.Proofs.Ytdancegklkifaaa
