/-
  What ops do to a store, as plain laws: what each kind keeps.
-/
import Derived.Test.YtdancegklkifaaaBktG
namespace Go.Proofs.Ytdancegklkifaaa
set_option linter.unusedSectionVars false
set_option linter.unusedSimpArgs false
set_option linter.unusedVariables false
open Go.X
open Go.X.G (Ord3 ord3_nat ord3_int ord3_str ltB sget sput sdel Srtd MapAt MapHole)

/-- Does a text begin with another one? -/
def beg (s p : ByteArray) : Bool := decide (p.size ≤ s.size) && decide ((s.extract 0 p.size).data.toList = p.data.toList)
def listed (o : OM) (objs : Objs) : List ByteArray := (objs.map (·.1)).filter fun a => beg a o.key && ltB o.after a
def BM.list (M : BM) (o : OM) : RM × BM :=
  match sget o.bucket M.buckets with
  | none => (st 404, M)
  | some objs => (⟨200, 0, (listed o objs).take o.n.toNat, decide (o.n.toNat < (listed o objs).length), []⟩, M)

def BM.act (M : BM) (o : OM) : RM × BM :=
  if o.kind = 1 then M.make o else if o.kind = 2 then M.unmake o else if o.kind = 3 then M.put o else if o.kind = 4 then M.get o else if o.kind = 5 then M.delete o
  else if o.kind = 6 then M.list o else if o.kind = 7 then M.begin o else if o.kind = 8 then M.part o else if o.kind = 9 then M.complete o else M.abort o
def readsK (k : Int) : Bool := decide (k = 4) || decide (k = 6)
def BM.run (M : BM) (o : OM) : RM × BM :=
  if o.chkB = true then
    if readsK o.kind = true then M.act o
    else match sget o.id M.done with
      | some r => (r, M)
      | none => ((M.act o).1, { (M.act o).2 with done := sput ltN o.id (M.act o).1 M.done })
  else (st 400, M)

theorem sput_len {κ ν : Type} [DecidableEq κ] {lt : κ → κ → Bool} (o : Ord3 lt) {l : List (κ × ν)} (h : Srtd lt l) (k : κ) (v : ν) : (sput lt k v l).length ≤ l.length + 1 := by
  rw [(X.G.sput_perm o (h.nodup o) k v).length_eq, List.length_cons]
  have : (sdel k l).length ≤ l.length := List.length_filter_le _ _
  omega
theorem sdel_len {κ ν : Type} [DecidableEq κ] (k : κ) (l : List (κ × ν)) : (sdel k l).length ≤ l.length := List.length_filter_le _ _

theorem chk_9 {o : OM} (h : o.chkB = true) (hk : o.kind = 9) : o.parts.length ≤ 10000 := by
  rw [chk_eq] at h
  unfold OM.chkR at h
  simp only [hk] at h
  simp [partsOK] at h
  omega
theorem chk_len {o : OM} (h : o.chkB = true) : o.data.length ≤ 16777216 := by
  rw [chk_eq] at h
  unfold OM.chkR at h
  split at h
  · simp only [Bool.and_eq_true, decide_eq_true_eq] at h; omega
  split at h
  · simp only [Bool.and_eq_true, decide_eq_true_eq] at h; omega
  split at h
  · simp only [Bool.and_eq_true, decide_eq_true_eq] at h; omega
  split at h
  · simp only [Bool.and_eq_true, decide_eq_true_eq] at h; omega
  split at h
  · simp only [Bool.and_eq_true, decide_eq_true_eq] at h; omega
  split at h
  · simp only [Bool.and_eq_true, decide_eq_true_eq] at h; omega
  split at h
  · simp only [Bool.and_eq_true, decide_eq_true_eq] at h; omega
  · cases h
theorem chk_kind {o : OM} (h : o.chkB = true) : 1 ≤ o.kind ∧ o.kind ≤ 10 := by
  rw [chk_eq] at h
  unfold OM.chkR at h
  split at h
  · omega
  split at h
  · omega
  split at h
  · omega
  split at h
  · omega
  split at h
  · omega
  split at h
  · omega
  split at h
  · omega
  · cases h
theorem chk_6 {o : OM} (h : o.chkB = true) (hk : o.kind = 6) : 1 ≤ o.n ∧ o.n ≤ 1000 := by
  rw [chk_eq] at h
  unfold OM.chkR at h
  simp only [hk] at h
  simp only [show ¬ ((6 : Int) = 1 ∨ (6 : Int) = 2) by omega, show ¬ (6 : Int) = 3 by omega, show ¬ ((6 : Int) = 4 ∨ (6 : Int) = 5 ∨ (6 : Int) = 7) by omega, if_false, if_true, Bool.and_eq_true, decide_eq_true_eq] at h
  omega

theorem BM.ok.mono {k j : Nat} {M : BM} (h : M.ok k) (hk : k ≤ j) : M.ok j :=
  ⟨h.bs, fun n o e => ⟨(h.os n o e).1, Nat.le_trans (h.os n o e).2.1 hk, (h.os n o e).2.2⟩, h.us, h.ps, h.ds, h.rs, by have := h.len; omega⟩

/-- A bucket's objects are others. -/
theorem BM.ok.objs {k : Nat} {M : BM} (h : M.ok k) {b : ByteArray} {o o' : Objs} (hb : sget b M.buckets = some o) (h1 : Srtd ltB o') (h2 : o'.length ≤ k + 1) (h3 : ∀ a d, sget a o' = some d → d.length ≤ 274877906944) (us : List (Nat × UM)) (hus : Srtd ltN us) (hul : us.length ≤ k + 1)
    (hps : ∀ n u, sget n us = some u → sget n M.uploads = some u) : BM.ok (k + 1) ⟨sput ltB b o' M.buckets, us, M.done⟩ := by
  have hl := h.len
  refine ⟨X.G.srtd_put ord3_str h.bs _ _, ?_, hus, ?_, h.ds, h.rs, ?_, hul, by show M.done.length ≤ _; omega⟩
  · intro n q hq
    rw [X.G.sget_put ord3_str] at hq
    split at hq
    · cases hq; exact ⟨h1, h2, h3⟩
    · have := h.os n q hq; exact ⟨this.1, by omega, this.2.2⟩
  · intro n u hu
    obtain ⟨p1, p2, p3⟩ := h.ps n u (hps n u hu)
    refine ⟨p1, ?_, p3⟩
    show (sget u.bucket (sput ltB b o' M.buckets)).isSome = true
    rw [X.G.sget_put ord3_str]
    split
    · rfl
    · exact p2
  · have := sput_len ord3_str h.bs b o'
    show (sput ltB b o' M.buckets).length ≤ k + 1
    omega

theorem act_done (M : BM) (o : OM) : (M.act o).2.done = M.done := by
  unfold BM.act BM.make BM.unmake BM.put BM.get BM.delete BM.list BM.begin BM.part BM.complete BM.abort
  repeat' split
  all_goals rfl
theorem act_small {k : Nat} {M : BM} (h : M.ok k) {o : OM} (hc : o.chkB = true) : (M.act o).1.keys.length ≤ 1000 ∧ (M.act o).1.data.length ≤ 274877906944 := by
  have h6 := chk_6 hc
  unfold BM.act BM.make BM.unmake BM.put BM.get BM.delete BM.list BM.begin BM.part BM.complete BM.abort
  repeat' split
  all_goals first
    | (refine ⟨?_, ?_⟩ <;> simp [st] <;> done)
    | skip
  · rename_i h1 _ d h2
    exact ⟨by simp, (h.os _ _ h1).2.2 _ _ h2⟩
  · rename_i hk _ _ _
    have := h6 hk
    exact ⟨by simp only [List.length_take]; omega, by simp⟩

theorem act_ok {k : Nat} {M : BM} (h : M.ok k) {o : OM} (hc : o.chkB = true) : (M.act o).2.ok (k + 1) := by
  have hl := h.len
  have hd := chk_len hc
  unfold BM.act
  split
  · unfold BM.make
    split
    · exact h.mono (Nat.le_succ k)
    · rename_i hb
      refine ⟨X.G.srtd_put ord3_str h.bs _ _, ?_, h.us, ?_, h.ds, h.rs, ?_, by show M.uploads.length ≤ _; omega, by show M.done.length ≤ _; omega⟩
      · intro n q hq
        rw [X.G.sget_put ord3_str] at hq
        split at hq
        · cases hq; exact ⟨List.Pairwise.nil, by simp, by simp [sget]⟩
        · have := h.os n q hq; exact ⟨this.1, by omega, this.2.2⟩
      · intro n u hu
        obtain ⟨p1, p2, p3⟩ := h.ps n u hu
        refine ⟨p1, ?_, p3⟩
        show (sget u.bucket (sput ltB o.bucket [] M.buckets)).isSome = true
        rw [X.G.sget_put ord3_str]
        split
        · rfl
        · exact p2
      · have := sput_len ord3_str h.bs o.bucket []
        show (sput ltB o.bucket [] M.buckets).length ≤ k + 1
        omega
  split
  · unfold BM.unmake
    split
    · exact h.mono (Nat.le_succ k)
    · split
      · exact h.mono (Nat.le_succ k)
      · rename_i hu
        refine ⟨X.G.srtd_del h.bs _, ?_, h.us, ?_, h.ds, h.rs, ?_, by show M.uploads.length ≤ _; omega, by show M.done.length ≤ _; omega⟩
        · intro n q hq
          rw [X.G.sget_del] at hq
          split at hq
          · cases hq
          · have := h.os n q hq; exact ⟨this.1, by omega, this.2.2⟩
        · intro n u hu'
          obtain ⟨p1, p2, p3⟩ := h.ps n u hu'
          refine ⟨p1, ?_, p3⟩
          show (sget u.bucket (sdel o.bucket M.buckets)).isSome = true
          rw [X.G.sget_del]
          split
          · rename_i e
            exfalso
            apply hu
            rw [Bool.or_eq_true]; right
            unfold BM.uses
            rw [List.any_eq_true]
            exact ⟨_, X.G.sget_mem hu', by simpa using e⟩
          · exact p2
        · have := sdel_len o.bucket M.buckets
          show (sdel o.bucket M.buckets).length ≤ k + 1
          omega
  split
  · unfold BM.put
    split
    · exact h.mono (Nat.le_succ k)
    · rename_i objs hb
      have ho := h.os _ _ hb
      refine h.objs hb (X.G.srtd_put ord3_str ho.1 _ _) (by have := sput_len ord3_str ho.1 o.key o.data; omega) ?_ M.uploads h.us (by omega) (fun _ _ e => e)
      intro a d hq
      rw [X.G.sget_put ord3_str] at hq
      split at hq
      · cases hq; omega
      · exact ho.2.2 a d hq
  split
  · unfold BM.get
    repeat' split
    all_goals exact h.mono (Nat.le_succ k)
  split
  · unfold BM.delete
    split
    · exact h.mono (Nat.le_succ k)
    · rename_i objs hb
      split
      · exact h.mono (Nat.le_succ k)
      · have ho := h.os _ _ hb
        refine h.objs hb (X.G.srtd_del ho.1 _) (by have := sdel_len o.key objs; omega) ?_ M.uploads h.us (by omega) (fun _ _ e => e)
        intro a d hq
        rw [X.G.sget_del] at hq
        split at hq
        · cases hq
        · exact ho.2.2 a d hq
  split
  · unfold BM.list
    repeat' split
    all_goals exact h.mono (Nat.le_succ k)
  split
  · unfold BM.begin
    split
    · exact h.mono (Nat.le_succ k)
    · rename_i objs hb
      refine ⟨h.bs, fun n q hq => ⟨(h.os n q hq).1, by have := (h.os n q hq).2.1; omega, (h.os n q hq).2.2⟩, X.G.srtd_put ord3_nat h.us _ _, ?_, h.ds, h.rs, by show M.buckets.length ≤ _; omega, ?_, by show M.done.length ≤ _; omega⟩
      · intro n u hu
        rw [X.G.sget_put ord3_nat] at hu
        split at hu
        · cases hu; exact ⟨List.Pairwise.nil, by show (sget o.bucket M.buckets).isSome = true; rw [hb]; rfl, by simp [sget]⟩
        · exact h.ps n u hu
      · have := sput_len (lt := ltN) ord3_nat h.us o.id ⟨o.bucket, o.key, []⟩
        show (sput ltN o.id _ M.uploads).length ≤ k + 1
        omega
  split
  · unfold BM.part
    split
    · exact h.mono (Nat.le_succ k)
    · rename_i u hu
      obtain ⟨p1, p2, p3⟩ := h.ps _ _ hu
      refine ⟨h.bs, fun n q hq => ⟨(h.os n q hq).1, by have := (h.os n q hq).2.1; omega, (h.os n q hq).2.2⟩, X.G.srtd_put ord3_nat h.us _ _, ?_, h.ds, h.rs, by show M.buckets.length ≤ _; omega, ?_, by show M.done.length ≤ _; omega⟩
      · intro n v hv
        rw [X.G.sget_put ord3_nat] at hv
        split at hv
        · cases hv
          refine ⟨X.G.srtd_put ord3_int p1 _ _, p2, ?_⟩
          intro a d hq
          rw [X.G.sget_put ord3_int] at hq
          split at hq
          · cases hq; exact hd
          · exact p3 a d hq
        · exact h.ps n v hv
      · have := sput_len (lt := ltN) ord3_nat h.us o.upload ⟨u.bucket, u.key, sput ltI o.n o.data u.parts⟩
        show (sput ltN o.upload _ M.uploads).length ≤ k + 1
        omega
  split
  · rename_i hk
    have h9 := chk_9 hc hk
    unfold BM.complete
    split
    · exact h.mono (Nat.le_succ k)
    · rename_i u hu
      obtain ⟨p1, p2, p3⟩ := h.ps _ _ hu
      obtain ⟨objs, hb⟩ := Option.isSome_iff_exists.1 p2
      split
      · exact h.mono (Nat.le_succ k)
      · rename_i d hcd
        rw [hb]
        have ho := h.os _ _ hb
        have hdl : d.length ≤ 274877906944 := by
          unfold collect at hcd
          split at hcd
          · cases hcd
            have := flat_len p3 o.parts
            omega
          · cases hcd
        refine h.objs hb (X.G.srtd_put ord3_str ho.1 _ _) (by have := sput_len ord3_str ho.1 u.key d; show (sput ltB u.key d objs).length ≤ _; omega) ?_ (sdel o.upload M.uploads) (X.G.srtd_del h.us _) (by have := sdel_len o.upload M.uploads; omega) ?_
        · intro a e hq
          have hq : sget a (sput ltB u.key d objs) = some e := hq
          rw [X.G.sget_put ord3_str] at hq
          split at hq
          · cases hq; exact hdl
          · exact ho.2.2 a e hq
        · intro n v hv
          rw [X.G.sget_del] at hv
          split at hv
          · cases hv
          · exact hv
  · unfold BM.abort
    split
    · exact h.mono (Nat.le_succ k)
    · refine ⟨h.bs, fun n q hq => ⟨(h.os n q hq).1, by have := (h.os n q hq).2.1; omega, (h.os n q hq).2.2⟩, X.G.srtd_del h.us _, ?_, h.ds, h.rs, by show M.buckets.length ≤ _; omega, by have := sdel_len o.upload M.uploads; show (sdel o.upload M.uploads).length ≤ _; omega, by show M.done.length ≤ _; omega⟩
      intro n v hv
      rw [X.G.sget_del] at hv
      split at hv
      · cases hv
      · exact h.ps n v hv

theorem run_ok {k : Nat} {M : BM} (h : M.ok k) (o : OM) : (M.run o).2.ok (k + 1) := by
  unfold BM.run
  split
  · rename_i hc
    have h1 := act_ok h hc
    have h2 := act_small h hc
    split
    · exact h1
    · split
      · exact h.mono (Nat.le_succ k)
      · refine ⟨h1.bs, h1.os, h1.us, h1.ps, X.G.srtd_put ord3_nat h.ds _ _, ?_, h1.len.1, h1.len.2.1, ?_⟩
        · intro n r hr
          rw [X.G.sget_put ord3_nat] at hr
          split at hr
          · cases hr; exact h2
          · exact h.rs n r hr
        · have := sput_len (lt := ltN) ord3_nat h.ds o.id (M.act o).1
          have := h.len
          show (sput ltN o.id _ M.done).length ≤ k + 1
          omega
  · exact h.mono (Nat.le_succ k)
theorem run_small {k : Nat} {M : BM} (h : M.ok k) (o : OM) : (M.run o).1.keys.length ≤ 1000 ∧ (M.run o).1.data.length ≤ 274877906944 := by
  unfold BM.run
  split
  · rename_i hc
    have h2 := act_small h hc
    split
    · exact h2
    · split
      · rename_i r hr; exact h.rs _ _ hr
      · exact h2
  · exact ⟨by simp [st], by simp [st]⟩
end Go.Proofs.Ytdancegklkifaaa
