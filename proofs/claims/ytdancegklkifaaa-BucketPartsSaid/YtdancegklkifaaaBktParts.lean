/-
  BucketParts: parts in any order complete in theirs.
-/
import Derived.Test.YtdancegklkifaaaBktK
namespace Go.Proofs.Ytdancegklkifaaa
set_option linter.unusedSectionVars false
set_option linter.unusedSimpArgs false
set_option linter.unusedVariables false
open Go.X
open Go.X.G (Ord3 ord3_nat ord3_int ord3_str ltB sget sput sdel Srtd MapAt MapHole Ent Ents)

theorem u64_in {n : Int} (h : 0 ≤ n ∧ n ≤ 18446744073709551615) : IntKind.u64.wrap n = n := by
  unfold IntKind.wrap
  simp only [IntKind.bits, IntKind.signed]
  have : n % 18446744073709551616 = n := Int.emod_eq_of_lt h.1 (by omega)
  simp [this]

/-! ### The plain law -/
def pOp (i : Nat) (n : Int) (d : List UInt8) : OM := ⟨i, 8, bt [], bt [], bt [], n, 2, [], d⟩
def cOp (named : List Int) : OM := ⟨3, 9, bt [], bt [], bt [], 0, 2, named, []⟩
def gOp : OM := ⟨0, 4, bt [98], bt [107], bt [], 0, 0, [], []⟩
def aOp : OM := ⟨4, 10, bt [], bt [], bt [], 0, 2, [], []⟩
def b0 : List OM := [⟨1, 1, bt [98], bt [], bt [], 0, 0, [], []⟩, ⟨2, 7, bt [98], bt [107], bt [], 0, 0, [], []⟩]

/-- A store with one upload under way, whose parts are P. -/
structure Has (k : Nat) (P : Parts) (M : BM) : Prop where
  bs : M.buckets = [(bt [98], [])]
  us : M.uploads = [(2, ⟨bt [98], bt [107], P⟩)]
  dn : ∀ i, (i = 3 ∨ i = 4 ∨ 10 + k ≤ i) → sget i M.done = none

theorem has0 : Has 0 [] ((⟨[], [], []⟩ : BM).runs b0).2 := by
  have e : ((⟨[], [], []⟩ : BM).runs b0).2 = ⟨[(bt [98], [])], [(2, ⟨bt [98], bt [107], []⟩)], [(1, st 200), (2, ⟨200, 2, [], false, []⟩)]⟩ := by kernel_rfl
  rw [e]
  refine ⟨rfl, rfl, ?_⟩
  intro i hi
  have h1 : ¬ i = 1 := by omega
  have h2 : ¬ i = 2 := by omega
  simp [sget, h1, h2]

theorem chk_p (i : Nat) (n : Int) (d : List UInt8) (hd : d.length ≤ 1000) : (pOp i n d).chkB = (decide (1 ≤ n) && decide (n ≤ 10000)) := by
  rw [chk_eq]
  have : d.length ≤ 16777216 := by omega
  simp [OM.chkR, pOp, emp, bt, this]
  rfl
theorem chk_c (l : List Int) : (cOp l).chkB = partsOK l := by
  rw [chk_eq]
  simp [OM.chkR, cOp, emp, bt]
theorem chk_g : gOp.chkB = true := by kernel_rfl
theorem chk_a : aOp.chkB = true := by kernel_rfl

theorem has_part {k i : Nat} {P : Parts} {M : BM} (h : Has k P M) (hi : i = 10 + k) (n : Int) (d : List UInt8) (hd : d.length ≤ 1000) :
    ((pOp i n d).chkB = true → (M.run (pOp i n d)).1 = st 200 ∧ Has (k + 1) (sput ltI n d P) (M.run (pOp i n d)).2) ∧ ((pOp i n d).chkB = false → (M.run (pOp i n d)).1 = st 400 ∧ Has (k + 1) P (M.run (pOp i n d)).2) := by
  have hdn := h.dn i (by omega)
  refine ⟨fun hc => ?_, fun hc => ?_⟩
  · have hr : readsK (pOp i n d).kind = false := rfl
    have hid : (pOp i n d).id = i := rfl
    have hact : M.act (pOp i n d) = (st 200, { M with uploads := [(2, ⟨bt [98], bt [107], sput ltI n d P⟩)] }) := by
      show M.part (pOp i n d) = _
      unfold BM.part
      rw [h.us]
      simp [sget, sput, pOp]
    have e : M.run (pOp i n d) = (st 200, { buckets := M.buckets, uploads := [(2, ⟨bt [98], bt [107], sput ltI n d P⟩)], done := sput ltN i (st 200) M.done }) := by
      unfold BM.run
      rw [if_pos hc, hr, if_neg (by simp), hid, hdn, hact]
    rw [e]
    refine ⟨rfl, h.bs, rfl, fun j hj => ?_⟩
    show sget j (sput ltN i (st 200) M.done) = none
    rw [X.G.sget_put (lt := ltN) ord3_nat, if_neg (by omega)]
    exact h.dn j (by omega)
  · have e : M.run (pOp i n d) = (st 400, M) := by
      unfold BM.run
      rw [hc]; rfl
    rw [e]
    exact ⟨rfl, h.bs, h.us, fun j hj => h.dn j (by omega)⟩

/-- What the last three ops tell. -/
theorem has_end {k : Nat} {P : Parts} {M : BM} (h : Has k P M) (named : List Int) :
    (∀ d, partsOK named = true → collect P named = some d → (M.run (cOp named)).1.status = 200 ∧ ((M.run (cOp named)).2.run gOp).1 = ⟨200, 0, [], false, d⟩ ∧ (((M.run (cOp named)).2.run gOp).2.run aOp).1.status = 404) ∧
    ((partsOK named = false ∨ collect P named = none) → (M.run (cOp named)).1.status = 400 ∧ ((M.run (cOp named)).2.run gOp).1.status = 404) := by
  have hg : ∀ N : BM, N.run gOp = N.get gOp := by
    intro N
    unfold BM.run
    rw [chk_g]; rfl
  have h3 := h.dn 3 (by omega)
  have h4 := h.dn 4 (by omega)
  have hrun : partsOK named = true → M.run (cOp named) = ((M.complete (cOp named)).1, { (M.complete (cOp named)).2 with done := sput ltN 3 (M.complete (cOp named)).1 M.done }) := by
    intro hp
    have hc : (cOp named).chkB = true := by rw [chk_c]; exact hp
    have hr : readsK (cOp named).kind = false := rfl
    have hid : (cOp named).id = 3 := rfl
    unfold BM.run
    rw [if_pos hc, hr, if_neg (by simp), hid, h3]
    rfl
  have hcom : M.complete (cOp named) = (match collect P named with | none => (st 400, M) | some d => (st 200, { M with buckets := [(bt [98], [(bt [107], d)])], uploads := [] })) := by
    unfold BM.complete
    have hu : sget (cOp named).upload M.uploads = some ⟨bt [98], bt [107], P⟩ := by rw [h.us]; simp [sget, cOp]
    rw [hu]
    show (match collect P named with | none => _ | some d => _) = _
    cases collect P named with
    | none => rfl
    | some d =>
      simp only [h.bs, h.us]
      have e1 : sget (bt [98]) [(bt [98], ([] : Objs))] = some [] := by simp [sget]
      have e2 : sput ltB (bt [107]) d [] = [(bt [107], d)] := rfl
      have e3 : ltB (bt [98]) (bt [98]) = false := ord3_str.irr _
      rw [e1]
      simp [sput, sdel, cOp, e3]
  refine ⟨fun d hp hc => ?_, fun hn => ?_⟩
  · rw [hrun hp, hcom, hc]
    refine ⟨rfl, ?_, ?_⟩
    · rw [hg]
      have e1 : sget gOp.bucket [(bt [98], [(bt [107], d)])] = some [(bt [107], d)] := by simp [sget, gOp]
      have e2 : sget gOp.key [(bt [107], d)] = some d := by simp [sget, gOp]
      unfold BM.get
      dsimp only
      rw [e1]
      dsimp only
      rw [e2]
    · rw [hg]
      have hgs : ∀ N : BM, (N.get gOp).2 = N := by
        intro N; unfold BM.get; repeat' split
        all_goals rfl
      rw [hgs]
      have hr : readsK aOp.kind = false := rfl
      unfold BM.run
      rw [if_pos chk_a, hr, if_neg (by simp)]
      have e4 : sget aOp.id (sput ltN 3 (st 200) M.done) = none := by
        rw [X.G.sget_put (lt := ltN) ord3_nat, if_neg (by decide)]; exact h4
      show ((match sget aOp.id (sput ltN 3 (st 200) M.done) with | some r => _ | none => _) : RM × BM).1.status = 404
      rw [e4]; rfl
  · have hget : ∀ N : BM, N.buckets = [(bt [98], [])] → (N.run gOp).1.status = 404 := by
      intro N hN
      rw [hg]
      unfold BM.get
      have e1 : sget gOp.bucket N.buckets = some [] := by rw [hN]; simp [sget, gOp]
      rw [e1]; rfl
    by_cases hp : partsOK named = true
    · have hcn : collect P named = none := by
        rcases hn with h' | h'
        · rw [hp] at h'; cases h'
        · exact h'
      rw [hrun hp, hcom, hcn]
      exact ⟨rfl, hget _ h.bs⟩
    · have hc : (cOp named).chkB = false := by rw [chk_c]; simpa using hp
      have e : M.run (cOp named) = (st 400, M) := by unfold BM.run; rw [hc]; rfl
      rw [e]
      exact ⟨rfl, hget _ h.bs⟩
end Go.Proofs.Ytdancegklkifaaa
