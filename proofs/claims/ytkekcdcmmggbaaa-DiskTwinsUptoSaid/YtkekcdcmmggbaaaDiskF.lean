/-
  The disk's Crash.
-/
import Derived.Test.YtkekcdcmmggbaaaDiskE
namespace Go.Proofs.Ytkekcdcmmggbaaa
open Go.X

def keptOf (f : FM) (pk : Option Int) : Nat :=
  match pk with
  | some v => if 0 ≤ v then f.sy + (v % ((f.bs.length : Int) - f.sy + 1)).toNat else f.sy
  | none => f.sy
def fcrash (n : ByteArray) (pk : Option Int) (l : List FM) : List FM :=
  match fget n l with
  | some f => fset ⟨n, f.bs.take (keptOf f pk), keptOf f pk⟩ l
  | none => l
def crashN (names : List (List UInt8)) (picks : List Int) : Nat → List FM → List FM
  | 0, l => l
  | k + 1, l => match names[k]? with
    | some n => fcrash ⟨n.toArray⟩ picks[k]? (crashN names picks k l)
    | none => crashN names picks k l
def DM.crash (d : DM) (picks : List Int) : DM := { d with files := crashN (d.list []) picks (d.list []).length d.files }

theorem keptOf_le (f : FM) (h : f.sy ≤ f.bs.length) (pk : Option Int) : f.sy ≤ keptOf f pk ∧ keptOf f pk ≤ f.bs.length := by
  unfold keptOf
  split
  · rename_i v
    split
    · have h1 : 0 ≤ v % ((f.bs.length : Int) - f.sy + 1) := Int.emod_nonneg _ (by omega)
      have h2 : v % ((f.bs.length : Int) - f.sy + 1) < (f.bs.length : Int) - f.sy + 1 := Int.emod_lt_of_pos _ (by omega)
      omega
    · omega
  · omega

theorem mem_fset {g f : FM} : ∀ {l : List FM}, f ∈ fset g l → f = g ∨ f ∈ l
  | [], h => by cases h
  | x :: l, h => by
    simp only [fset] at h
    split at h
    · rcases List.mem_cons.1 h with h | h
      · exact .inl h
      · exact .inr (List.mem_cons_of_mem _ h)
    · rcases List.mem_cons.1 h with h | h
      · exact .inr (by rw [h]; simp)
      · rcases mem_fset h with h | h
        · exact .inl h
        · exact .inr (List.mem_cons_of_mem _ h)
theorem names_fset (g : FM) : ∀ l : List FM, (fset g l).map (·.name) = l.map (·.name)
  | [] => rfl
  | x :: l => by
    simp only [fset]
    split
    · rename_i e; simp [e]
    · simp [names_fset g l]

theorem crash_keeps (names : List (List UInt8)) (picks : List Int) (l : List FM) (hs : ∀ f, f ∈ l → f.sy ≤ f.bs.length) : ∀ k,
    (∀ f, f ∈ crashN names picks k l → f.sy ≤ f.bs.length) ∧ lenSum (crashN names picks k l) ≤ lenSum l ∧ (crashN names picks k l).map (·.name) = l.map (·.name) ∧ (∀ n, (fget n (crashN names picks k l)).isSome = (fget n l).isSome)
  | 0 => ⟨hs, Nat.le_refl _, rfl, fun _ => rfl⟩
  | k + 1 => by
    obtain ⟨h1, h2, h3, h4⟩ := crash_keeps names picks l hs k
    simp only [crashN]
    split
    · rename_i n hn
      unfold fcrash
      split
      · rename_i f hf
        have hk := keptOf_le f (h1 f (fget_mem hf)) picks[k]?
        refine ⟨?_, ?_, by rw [names_fset]; exact h3, fun m => by rw [fget_fset]; exact h4 m⟩
        · intro g hg
          rcases mem_fset hg with rfl | hg
          · simp only [List.length_take]; omega
          · exact h1 g hg
        · have := lenSum_fset (g := ⟨⟨n.toArray⟩, f.bs.take (keptOf f picks[k]?), keptOf f picks[k]?⟩) hf rfl
          simp only [List.length_take] at this
          omega
      · exact ⟨h1, h2, h3, h4⟩
    · exact ⟨h1, h2, h3, h4⟩

theorem own.cut {E : TypeId} {p : Option Addr} {n c : Nat} {xs : List Value} (k : Nat) (hk : k ≤ n) : ∀ h, own E 1 (.slice p n c) xs h → own E 1 (.slice p k k) (xs.take k) h := by
  rintro h (⟨e1, e2⟩ | ⟨o, ho, hb⟩)
  · cases e1; subst e2
    have : k = 0 := by omega
    subst this; exact .inl ⟨rfl, rfl⟩
  · have hv := ho.val
    simp only [Value.slice.injEq] at hv
    obtain ⟨rfl, rfl, rfl⟩ := hv
    have h1 := ho.len
    have h2 := ho.fits
    have h3 := ho.cap
    refine .inr ⟨{ o with len := k, cap := k }, ⟨rfl, by simp; omega, Nat.le_refl _, by simp; omega, ?_, ho.free⟩, hb⟩
    intro j u hj
    have hjk : j < k := by
      have := (List.getElem?_eq_some_iff.1 hj).1
      simp at this; omega
    rw [List.getElem?_take_of_lt hjk] at hj
    exact ho.get j u hj

theorem list_mem {d : DM} {pre : List ByteArray} {n : List UInt8} (h : n ∈ d.list pre) : ∃ f, f ∈ d.files ∧ f.name = ⟨n.toArray⟩ := by
  unfold DM.list at h
  have h1 := (sortN_perm _).mem_iff.1 h
  simp only [List.mem_map, List.mem_filter] at h1
  obtain ⟨a, ⟨⟨f, hf, rfl⟩, _⟩, rfl⟩ := h1
  exact ⟨f, hf, rfl⟩
theorem fget_of_mem {n : ByteArray} : ∀ {l : List FM} {f : FM}, f ∈ l → f.name = n → (fget n l).isSome = true
  | [], _, h, _ => by cases h
  | x :: l, f, h, e => by
    simp only [fget]
    split
    · rfl
    · rename_i hx
      rcases List.mem_cons.1 h with rfl | h
      · exact absurd e.symm hx
      · exact fget_of_mem h e

theorem crash_spec (p : Nat) (d : DM) (hd : d.wf) (hfl : d.files.length ≤ 1073741824) (G : Assn) (qp : Option Addr) (qn qc : Nat) (picks : List Int) (hq : SlR [G] 1 (.slice qp qn qc) (picks.map (Value.int .i64))) (hqn : qn ≤ 140737488355328)
    (hqr : ∀ v, v ∈ picks → -9223372036854775808 ≤ v ∧ v ≤ 9223372036854775807) :
    FSpec Try.prog 16 [.pointer (some ⟨p, 0, none⟩), .slice qp qn qc] [DiskAt p d, G] (fun v B => v = .tuple #[] ∧ B = [DiskAt p (d.crash picks), G]) := by
  refine FSpec.of Try.func16 rfl Try.ntmps16 rfl fun W0 F => ?_
  refine J.seq ?_
  refine J.region ?_
  refine J.q rfl rfl (Q.mv rfl) ?_
  refine J.call Try.call21 (list_spec p d G none 0 0 [] (.inl ⟨none, 0, rfl, rfl⟩) (by omega) hfl) [0, 1] rfl rfl rfl rfl ?_
  rintro _ _ ⟨sp, sc, rfl, rfl⟩
  refine J.norm rfl ?_
  refine J.q rfl rfl (Q.lenSl Try.runUnderlying28 rfl) ?_
  refine J.q rfl rfl (Q.mv rfl) ?_
  refine J.nil ?_
  refine J.then_n ?_
  refine J.block ?_
  refine J.slr1 0 rfl fun hsl => ?_
  have hql : picks.length = qn := by have := hq.len; simpa using this
  have hll : (d.list []).length ≤ d.files.length := by
    unfold DM.list; rw [sortN_length, List.length_map]; exact Nat.le_trans (List.length_filter_le _ _) (by simp)
  refine J.loop (fun k : Nat => k ≤ (d.list []).length) (fun k => (d.list []).length - k) (fun k => [(0, .pointer (some ⟨p, 0, none⟩)), (1, .slice qp qn qc), (9, .slice sp (d.list []).length sc), (10, .int .i64 (d.list []).length), (11, .int .i64 k)])
    (fun k => [own 9 1 (.slice sp (d.list []).length sc) ((d.list []).map encStr), DiskAt p { d with files := crashN (d.list []) picks k d.files }, G, F]) 0 (by omega) ⟨rfl, rfl, rfl, rfl, rfl, trivial⟩ rfl fun k hk => ?_
  refine J.seq ?_
  refine J.region ?_
  refine J.q rfl rfl (Q.lss rfl rfl) ?_
  refine J.nil ?_
  refine J.then_n ?_
  refine J.seq ?_
  refine J.cond rfl (fun hc12 => ?_) (fun hc12 => ?_)
  ·
    first | replace hc12 := X.tt_dec hc12 | replace hc12 := X.tt_not hc12 | replace hc12 := X.ff_dec hc12 | replace hc12 := X.ff_not hc12 | skip
    refine J.cskip ?_
    refine J.then_n ?_
    refine J.seq ?_
    refine J.block ?_
    refine J.seq ?_
    refine J.region ?_
    refine J.q rfl rfl (Q.mv rfl) ?_
    obtain ⟨b, off, rfl, hrd⟩ := hsl.some_ (by omega)
    obtain ⟨nm, hnm⟩ : ∃ nm, (d.list [])[k]? = some nm := ⟨_, List.getElem?_eq_getElem (by omega)⟩
    refine J.q rfl rfl (Q.ia Try.runUnderlying28 Try.sizeOf9 rfl rfl (by omega) (by omega)) ?_
    refine J.q rfl rfl (Q.ld Try.isAgg9 rfl (((hrd k (encStr nm) (by simp [hnm])).within (i := 0) rfl).cast (by simp))) ?_
    refine J.q rfl rfl (Q.asg rfl) ?_
    refine J.q rfl rfl (Q.asg rfl) ?_
    refine J.nil ?_
    refine J.then_n ?_
    refine J.seq ?_
    obtain ⟨hs1, hs2, hs3, hs4⟩ := crash_keeps (d.list []) picks d.files hd.sy k
    refine J.open_ 1 rfl rfl DiskAt.open_ fun x hx => ?_
    refine J.norm rfl ?_
    obtain ⟨o, ho, hlk⟩ := look' ⟨nm.toArray⟩ x.fs
    have hu := hd.used
    have hsz := hd.size
    have hdu : d.used = lenSum d.files := rfl
    have hdk : ({ d with files := crashN (d.list []) picks k d.files } : DM).used = lenSum (crashN (d.list []) picks k d.files) := rfl
    have hsome : (fget ⟨nm.toArray⟩ (crashN (d.list []) picks k d.files)).isSome = true := by
      rw [hs4]
      obtain ⟨f, hf, hfn⟩ := list_mem (List.mem_of_getElem? hnm)
      exact fget_of_mem hf hfn
    have hol : o.isNone = false := by
      rcases hlk with ⟨rfl, hl⟩ | ⟨i, y, rfl, hl⟩
      · have := hl.fget; rw [hx.files] at this; rw [this] at hsome; cases hsome
      · rfl
    obtain ⟨i, y, rfl, hl⟩ := look_some hlk hol
    have hg : fget ⟨nm.toArray⟩ (crashN (d.list []) picks k d.files) = some y.f := by have := hl.fget; rwa [hx.files] at this
    have hym := fget_mem hg
    have hysy := hs1 y.f hym
    have hylen := lenSum_mem hym
    have hkp := keptOf_le y.f hysy picks[k]?
    refine J.focus 2 i rfl hl.at_ ?_
    refine J.conv (Y := star y.asns) 0 rfl (fun _ h => h) ?_
    refine J.unpack 0 rfl rfl ?_
    refine J.region ?_
    refine J.q rfl rfl (Q.mv rfl) ?_
    refine J.q rfl rfl (Q.nil_ rfl) ?_
    refine J.q rfl rfl (Q.fa (n := 3) Try.runUnderlying67 rfl rfl Try.sizeOf65 rfl) ?_
    refine J.q rfl rfl (Q.ld Try.isAgg65 rfl (by first | exact Reads.pt 0 rfl rfl | exact Reads.pt 1 rfl rfl | exact Reads.pt 2 rfl rfl | exact Reads.pt 3 rfl rfl | exact Reads.pt 4 rfl rfl | exact Reads.pt 5 rfl rfl | exact Reads.pt 6 rfl rfl | exact Reads.pt 7 rfl rfl)) ?_
    refine J.q rfl rfl (Q.mv rfl) ?_
    refine J.q rfl rfl (Q.lk (i := 4) Try.runUnderlying65 Try.runUnderlying9 Try.zeroValue69 rfl rfl rfl ho) ?_
    refine J.q rfl rfl (Q.asg rfl) ?_
    refine J.nil ?_
    refine J.then_n ?_
    refine J.seq ?_
    refine J.region ?_
    refine J.q rfl rfl (Q.mv rfl) ?_
    refine J.q rfl rfl (Q.nil_ rfl) ?_
    refine J.q rfl rfl (Q.fa (n := 1) Try.runUnderlying71 rfl rfl Try.sizeOf3 rfl) ?_
    refine J.q rfl rfl (Q.ld Try.isAgg3 rfl (by first | exact Reads.pt 0 rfl rfl | exact Reads.pt 1 rfl rfl | exact Reads.pt 2 rfl rfl | exact Reads.pt 3 rfl rfl | exact Reads.pt 4 rfl rfl | exact Reads.pt 5 rfl rfl | exact Reads.pt 6 rfl rfl | exact Reads.pt 7 rfl rfl)) ?_
    refine J.q rfl rfl (Q.asg rfl) ?_
    refine J.nil ?_
    refine J.then_n ?_
    refine J.seq ?_
    refine J.seq ?_
    refine J.region ?_
    refine J.q rfl rfl (Q.mv rfl) ?_
    refine J.q rfl rfl (Q.mv rfl) ?_
    refine J.q rfl rfl (Q.lenSl Try.runUnderlying22 rfl) ?_
    refine J.q rfl rfl (Q.lss rfl rfl) ?_
    refine J.q rfl rfl (Q.mv rfl) ?_
    refine J.cases 30 rfl (fun hb30 => ?_) (fun hb30 => ?_)
    ·
      first | replace hb30 := X.tt_dec hb30 | replace hb30 := X.tt_not hb30 | replace hb30 := X.ff_dec hb30 | replace hb30 := X.ff_not hb30 | skip
      refine J.q rfl rfl (Q.mv rfl) ?_
      refine J.q rfl rfl (Q.mv rfl) ?_
      obtain ⟨qb, qo, rfl, hqrd⟩ := hq.some_ (by omega)
      obtain ⟨pk, hpk⟩ : ∃ pk, picks[k]? = some pk := ⟨_, List.getElem?_eq_getElem (by omega)⟩
      have hpkr := hqr pk (List.mem_of_getElem? hpk)
      refine J.q rfl rfl (Q.ia Try.runUnderlying22 Try.sizeOf3 rfl rfl (by omega) (by omega)) ?_
      refine J.q rfl rfl (Q.ld Try.isAgg3 rfl (((hqrd k (.int .i64 pk) (by simp [hpk])).within (i := 6) rfl).cast (by simp))) ?_
      refine J.q rfl rfl (Q.geq rfl rfl) ?_
      refine J.q rfl rfl (Q.pick_t rfl rfl) ?_
      refine J.nil ?_
      refine J.then_n ?_
      refine J.cond rfl (fun hc36 => ?_) (fun hc36 => ?_)
      ·
        first | replace hc36 := X.tt_dec hc36 | replace hc36 := X.tt_not hc36 | replace hc36 := X.ff_dec hc36 | replace hc36 := X.ff_not hc36 | skip
        have hm1 : 0 ≤ pk % ((y.f.bs.length : Int) - y.f.sy + 1) := Int.emod_nonneg _ (by omega)
        have hm2 : pk % ((y.f.bs.length : Int) - y.f.sy + 1) < (y.f.bs.length : Int) - y.f.sy + 1 := Int.emod_lt_of_pos _ (by omega)
        refine J.draw [18] Try.mixed (by kernel_rfl) fun hR => ?_
        refine RG.q 0 hR rfl rfl rfl rfl rfl rfl (Q.mv rfl) ?_
        refine RG.q 1 hR rfl rfl rfl rfl rfl rfl (Q.mv rfl) ?_
        refine RG.q 2 hR rfl rfl rfl rfl rfl rfl (Q.mv rfl) ?_
        refine RG.q 3 hR rfl rfl rfl rfl rfl rfl (Q.ia Try.runUnderlying22 Try.sizeOf3 rfl rfl (by omega) (by omega)) ?_
        refine RG.q 4 hR rfl rfl rfl rfl rfl rfl (Q.ld Try.isAgg3 rfl (((hqrd k (.int .i64 pk) (by simp [hpk])).within (i := 6) rfl).cast (by simp))) ?_
        refine RG.q 5 hR rfl rfl rfl rfl rfl rfl (Q.mv rfl) ?_
        refine RG.q 6 hR rfl rfl rfl rfl rfl rfl (Q.nil_ rfl) ?_
        refine RG.q 7 hR rfl rfl rfl rfl rfl rfl (Q.fa (n := 0) Try.runUnderlying71 rfl rfl Try.sizeOf30 rfl) ?_
        refine RG.q 8 hR rfl rfl rfl rfl rfl rfl (Q.ld Try.isAgg30 rfl (by first | exact Reads.pt 0 rfl rfl | exact Reads.pt 1 rfl rfl | exact Reads.pt 2 rfl rfl | exact Reads.pt 3 rfl rfl | exact Reads.pt 4 rfl rfl | exact Reads.pt 5 rfl rfl | exact Reads.pt 6 rfl rfl | exact Reads.pt 7 rfl rfl)) ?_
        refine RG.q 9 hR rfl rfl rfl rfl rfl rfl (Q.lenSl Try.runUnderlying30 rfl) ?_
        refine RG.q 10 hR rfl rfl rfl rfl rfl rfl (Q.mv rfl) ?_
        refine RG.q 11 hR rfl rfl rfl rfl rfl rfl (Q.nil_ rfl) ?_
        refine RG.q 12 hR rfl rfl rfl rfl rfl rfl (Q.fa (n := 1) Try.runUnderlying71 rfl rfl Try.sizeOf3 rfl) ?_
        refine RG.q 13 hR rfl rfl rfl rfl rfl rfl (Q.ld Try.isAgg3 rfl (by first | exact Reads.pt 0 rfl rfl | exact Reads.pt 1 rfl rfl | exact Reads.pt 2 rfl rfl | exact Reads.pt 3 rfl rfl | exact Reads.pt 4 rfl rfl | exact Reads.pt 5 rfl rfl | exact Reads.pt 6 rfl rfl | exact Reads.pt 7 rfl rfl)) ?_
        refine RG.q 14 hR rfl rfl rfl rfl rfl rfl (Q.sub64 rfl rfl (by omega)) ?_
        refine RG.q 15 hR rfl rfl rfl rfl rfl rfl (Q.add64 rfl rfl (by omega)) ?_
        refine RG.q 16 hR rfl rfl rfl rfl rfl rfl (Q.rem64 rfl rfl (by omega) (by omega)) ?_
        refine RG.q 17 hR rfl rfl rfl rfl rfl rfl (Q.add64 rfl rfl (by omega)) ?_
        refine RG.bar 18 hR rfl rfl rfl rfl rfl rfl (Q.asg rfl).toC ?_
        rintro _ _ ⟨rfl, rfl⟩
        refine RG.norm rfl ?_
        refine RG.fin hR rfl ?_
        refine J.norm rfl ?_
        refine J.then_n ?_
        refine J.seq ?_
        first
          | (have hke : (y.f.sy : Int) + pk % ((y.f.bs.length : Int) - y.f.sy + 1) = ((keptOf y.f picks[k]? : Nat) : Int) := by
               unfold keptOf; rw [hpk]; simp only; rw [if_pos (by omega)]; omega
             refine J.slot 7 (.int .i64 (keptOf y.f picks[k]?)) rfl (congrArg (Value.int .i64) hke) ?_)
          | (have hke : (y.f.sy : Int) = ((keptOf y.f picks[k]? : Nat) : Int) := by
               unfold keptOf; rw [hpk]; simp only; rw [if_neg (by omega)]
             refine J.slot 7 (.int .i64 (keptOf y.f picks[k]?)) rfl (congrArg (Value.int .i64) hke) ?_)
          | (have hke : (y.f.sy : Int) = ((keptOf y.f picks[k]? : Nat) : Int) := by
               unfold keptOf; rw [List.getElem?_eq_none (by omega)]
             refine J.slot 7 (.int .i64 (keptOf y.f picks[k]?)) rfl (congrArg (Value.int .i64) hke) ?_)
        refine J.tells (p := y.f.bs.length ≤ y.sc) 1 rfl (fun h hh => (own.len h hh).2) fun hcap => ?_
        refine J.draw [14] Try.mixed (by kernel_rfl) fun hR => ?_
        refine RG.q 0 hR rfl rfl rfl rfl rfl rfl (Q.mv rfl) ?_
        refine RG.q 1 hR rfl rfl rfl rfl rfl rfl (Q.nil_ rfl) ?_
        refine RG.q 2 hR rfl rfl rfl rfl rfl rfl (Q.fa (n := 1) Try.runUnderlying67 rfl rfl Try.sizeOf3 rfl) ?_
        refine RG.q 3 hR rfl rfl rfl rfl rfl rfl (Q.ld Try.isAgg3 rfl (by first | exact Reads.pt 0 rfl rfl | exact Reads.pt 1 rfl rfl | exact Reads.pt 2 rfl rfl | exact Reads.pt 3 rfl rfl | exact Reads.pt 4 rfl rfl | exact Reads.pt 5 rfl rfl | exact Reads.pt 6 rfl rfl | exact Reads.pt 7 rfl rfl)) ?_
        refine RG.q 4 hR rfl rfl rfl rfl rfl rfl (Q.mv rfl) ?_
        refine RG.q 5 hR rfl rfl rfl rfl rfl rfl (Q.nil_ rfl) ?_
        refine RG.q 6 hR rfl rfl rfl rfl rfl rfl (Q.fa (n := 0) Try.runUnderlying71 rfl rfl Try.sizeOf30 rfl) ?_
        refine RG.q 7 hR rfl rfl rfl rfl rfl rfl (Q.ld Try.isAgg30 rfl (by first | exact Reads.pt 0 rfl rfl | exact Reads.pt 1 rfl rfl | exact Reads.pt 2 rfl rfl | exact Reads.pt 3 rfl rfl | exact Reads.pt 4 rfl rfl | exact Reads.pt 5 rfl rfl | exact Reads.pt 6 rfl rfl | exact Reads.pt 7 rfl rfl)) ?_
        refine RG.q 8 hR rfl rfl rfl rfl rfl rfl (Q.lenSl Try.runUnderlying30 rfl) ?_
        refine RG.q 9 hR rfl rfl rfl rfl rfl rfl (Q.mv rfl) ?_
        refine RG.q 10 hR rfl rfl rfl rfl rfl rfl (Q.sub64 rfl rfl (by omega)) ?_
        refine RG.q 11 hR rfl rfl rfl rfl rfl rfl (Q.sub64 rfl rfl (by omega)) ?_
        refine RG.q 12 hR rfl rfl rfl rfl rfl rfl (Q.nil_ rfl) ?_
        refine RG.q 13 hR rfl rfl rfl rfl rfl rfl (Q.fa (n := 1) Try.runUnderlying67 rfl rfl Try.sizeOf3 rfl) ?_
        first | refine RG.st 14 (j := 0) hR rfl rfl rfl rfl rfl Try.sizeOf3 rfl rfl rfl rfl rfl rfl rfl ?_ | refine RG.st 14 (j := 1) hR rfl rfl rfl rfl rfl Try.sizeOf3 rfl rfl rfl rfl rfl rfl rfl ?_ | refine RG.st 14 (j := 2) hR rfl rfl rfl rfl rfl Try.sizeOf3 rfl rfl rfl rfl rfl rfl rfl ?_ | refine RG.st 14 (j := 3) hR rfl rfl rfl rfl rfl Try.sizeOf3 rfl rfl rfl rfl rfl rfl rfl ?_ | refine RG.st 14 (j := 4) hR rfl rfl rfl rfl rfl Try.sizeOf3 rfl rfl rfl rfl rfl rfl rfl ?_ | refine RG.st 14 (j := 5) hR rfl rfl rfl rfl rfl Try.sizeOf3 rfl rfl rfl rfl rfl rfl rfl ?_
        refine RG.fin hR rfl ?_
        refine J.norm rfl ?_
        refine J.then_n ?_
        refine J.region ?_
        refine J.q rfl rfl (Q.mv rfl) ?_
        refine J.q rfl rfl (Q.mv rfl) ?_
        refine J.q rfl rfl (Q.mv rfl) ?_
        refine J.q rfl rfl (Q.nil_ rfl) ?_
        refine J.q rfl rfl (Q.fa (n := 0) Try.runUnderlying71 rfl rfl Try.sizeOf30 rfl) ?_
        refine J.q rfl rfl (Q.ld Try.isAgg30 rfl (by first | exact Reads.pt 0 rfl rfl | exact Reads.pt 1 rfl rfl | exact Reads.pt 2 rfl rfl | exact Reads.pt 3 rfl rfl | exact Reads.pt 4 rfl rfl | exact Reads.pt 5 rfl rfl | exact Reads.pt 6 rfl rfl | exact Reads.pt 7 rfl rfl)) ?_
        refine J.q rfl rfl (Q.mv rfl) ?_
        refine J.q rfl rfl (Q.mv rfl) ?_
        refine J.q rfl rfl (Q.slHM Try.runUnderlying30 Try.sizeOf5 rfl rfl rfl (by omega) (by omega) (by omega)) ?_
        refine J.slot 77 (.slice y.sp (keptOf y.f picks[k]?) (keptOf y.f picks[k]?)) rfl (by simp only [Int.toNat_natCast]) ?_
        refine J.q rfl rfl (Q.mv rfl) ?_
        refine J.q rfl rfl (Q.nil_ rfl) ?_
        refine J.q rfl rfl (Q.fa (n := 0) Try.runUnderlying71 rfl rfl Try.sizeOf30 rfl) ?_
        first | refine J.st (i := 0) rfl Try.sizeOf30 rfl rfl rfl rfl rfl rfl rfl ?_ | refine J.st (i := 1) rfl Try.sizeOf30 rfl rfl rfl rfl rfl rfl rfl ?_ | refine J.st (i := 2) rfl Try.sizeOf30 rfl rfl rfl rfl rfl rfl rfl ?_ | refine J.st (i := 3) rfl Try.sizeOf30 rfl rfl rfl rfl rfl rfl rfl ?_ | refine J.st (i := 4) rfl Try.sizeOf30 rfl rfl rfl rfl rfl rfl rfl ?_ | refine J.st (i := 5) rfl Try.sizeOf30 rfl rfl rfl rfl rfl rfl rfl ?_
        refine J.q rfl rfl (Q.nil_ rfl) ?_
        refine J.q rfl rfl (Q.fa (n := 1) Try.runUnderlying71 rfl rfl Try.sizeOf3 rfl) ?_
        first | refine J.st (i := 0) rfl Try.sizeOf3 rfl rfl rfl rfl rfl rfl rfl ?_ | refine J.st (i := 1) rfl Try.sizeOf3 rfl rfl rfl rfl rfl rfl rfl ?_ | refine J.st (i := 2) rfl Try.sizeOf3 rfl rfl rfl rfl rfl rfl rfl ?_ | refine J.st (i := 3) rfl Try.sizeOf3 rfl rfl rfl rfl rfl rfl rfl ?_ | refine J.st (i := 4) rfl Try.sizeOf3 rfl rfl rfl rfl rfl rfl rfl ?_ | refine J.st (i := 5) rfl Try.sizeOf3 rfl rfl rfl rfl rfl rfl rfl ?_
        refine J.nil ?_
        refine J.blk_n ?_
        refine J.then_n ?_
        refine J.region ?_
        refine J.q rfl rfl (Q.add64 rfl rfl (by omega)) ?_
        refine J.q rfl rfl (Q.mv rfl) ?_
        refine J.nil ?_
        have hcr : crashN (d.list []) picks (k + 1) d.files = fset ⟨⟨nm.toArray⟩, y.f.bs.take (keptOf y.f picks[k]?), keptOf y.f picks[k]?⟩ (crashN (d.list []) picks k d.files) := by
          simp only [crashN, hnm]; unfold fcrash; rw [hg]
        have hmin : (y.f.bs.take (keptOf y.f picks[k]?)).length = keptOf y.f picks[k]? := by rw [List.length_take]; omega
        refine J.conv (Y := own 5 1 (.slice y.sp (keptOf y.f picks[k]?) (keptOf y.f picks[k]?)) (bytesV (y.f.bs.take (keptOf y.f picks[k]?)))) 1 rfl (fun h hh => by have := own.cut (keptOf y.f picks[k]?) hkp.2 h hh; unfold bytesV at this ⊢; rw [List.map_take]; exact this) ?_
        refine J.pack [1, 0] rfl ?_
        refine J.conv (Y := FW.asn ⟨⟨⟨nm.toArray⟩, y.f.bs.take (keptOf y.f picks[k]?), keptOf y.f picks[k]?⟩, y.p, y.sp, keptOf y.f picks[k]?, y.born⟩) 0 rfl (fun _ h => by unfold FW.asn FW.asns FW.sl; simp only; rw [hmin]; exact h) ?_
        refine J.unfocus 0 1 i ⟨⟨⟨nm.toArray⟩, y.f.bs.take (keptOf y.f picks[k]?), keptOf y.f picks[k]?⟩, y.p, y.sp, keptOf y.f picks[k]?, y.born⟩ rfl (List.getElem?_eq_some_iff.1 hl.at_).1 ?_
        refine J.shut [0, 1, 2] (DiskAt p { d with files := crashN (d.list []) picks (k + 1) d.files }) rfl (by
          rw [hcr]
          exact DiskAt.of_put (d := { d with files := crashN (d.list []) picks k d.files }) hx hl ⟨⟨⟨nm.toArray⟩, y.f.bs.take (keptOf y.f picks[k]?), keptOf y.f picks[k]?⟩, y.p, y.sp, keptOf y.f picks[k]?, y.born⟩ rfl rfl rfl (by
            have h1 := lenSum_fset (g := ⟨⟨nm.toArray⟩, y.f.bs.take (keptOf y.f picks[k]?), keptOf y.f picks[k]?⟩) hg rfl
            simp only [hmin] at h1
            show ((lenSum (crashN (d.list []) picks k d.files) : Nat) : Int) - _ = ((lenSum (fset ⟨⟨nm.toArray⟩, y.f.bs.take (keptOf y.f picks[k]?), keptOf y.f picks[k]?⟩ (crashN (d.list []) picks k d.files)) : Nat) : Int)
            omega)) ?_
        refine J.pick [1, 0, 2] rfl ?_
        refine J.again (k + 1) (by omega) (by omega) ⟨rfl, rfl, rfl, rfl, rfl, trivial⟩ rfl
      ·
        first | replace hc36 := X.tt_dec hc36 | replace hc36 := X.tt_not hc36 | replace hc36 := X.ff_dec hc36 | replace hc36 := X.ff_not hc36 | skip
        refine J.cskip ?_
        refine J.then_n ?_
        refine J.seq ?_
        first
          | (have hke : (y.f.sy : Int) + pk % ((y.f.bs.length : Int) - y.f.sy + 1) = ((keptOf y.f picks[k]? : Nat) : Int) := by
               unfold keptOf; rw [hpk]; simp only; rw [if_pos (by omega)]; omega
             refine J.slot 7 (.int .i64 (keptOf y.f picks[k]?)) rfl (congrArg (Value.int .i64) hke) ?_)
          | (have hke : (y.f.sy : Int) = ((keptOf y.f picks[k]? : Nat) : Int) := by
               unfold keptOf; rw [hpk]; simp only; rw [if_neg (by omega)]
             refine J.slot 7 (.int .i64 (keptOf y.f picks[k]?)) rfl (congrArg (Value.int .i64) hke) ?_)
          | (have hke : (y.f.sy : Int) = ((keptOf y.f picks[k]? : Nat) : Int) := by
               unfold keptOf; rw [List.getElem?_eq_none (by omega)]
             refine J.slot 7 (.int .i64 (keptOf y.f picks[k]?)) rfl (congrArg (Value.int .i64) hke) ?_)
        refine J.tells (p := y.f.bs.length ≤ y.sc) 1 rfl (fun h hh => (own.len h hh).2) fun hcap => ?_
        refine J.draw [14] Try.mixed (by kernel_rfl) fun hR => ?_
        refine RG.q 0 hR rfl rfl rfl rfl rfl rfl (Q.mv rfl) ?_
        refine RG.q 1 hR rfl rfl rfl rfl rfl rfl (Q.nil_ rfl) ?_
        refine RG.q 2 hR rfl rfl rfl rfl rfl rfl (Q.fa (n := 1) Try.runUnderlying67 rfl rfl Try.sizeOf3 rfl) ?_
        refine RG.q 3 hR rfl rfl rfl rfl rfl rfl (Q.ld Try.isAgg3 rfl (by first | exact Reads.pt 0 rfl rfl | exact Reads.pt 1 rfl rfl | exact Reads.pt 2 rfl rfl | exact Reads.pt 3 rfl rfl | exact Reads.pt 4 rfl rfl | exact Reads.pt 5 rfl rfl | exact Reads.pt 6 rfl rfl | exact Reads.pt 7 rfl rfl)) ?_
        refine RG.q 4 hR rfl rfl rfl rfl rfl rfl (Q.mv rfl) ?_
        refine RG.q 5 hR rfl rfl rfl rfl rfl rfl (Q.nil_ rfl) ?_
        refine RG.q 6 hR rfl rfl rfl rfl rfl rfl (Q.fa (n := 0) Try.runUnderlying71 rfl rfl Try.sizeOf30 rfl) ?_
        refine RG.q 7 hR rfl rfl rfl rfl rfl rfl (Q.ld Try.isAgg30 rfl (by first | exact Reads.pt 0 rfl rfl | exact Reads.pt 1 rfl rfl | exact Reads.pt 2 rfl rfl | exact Reads.pt 3 rfl rfl | exact Reads.pt 4 rfl rfl | exact Reads.pt 5 rfl rfl | exact Reads.pt 6 rfl rfl | exact Reads.pt 7 rfl rfl)) ?_
        refine RG.q 8 hR rfl rfl rfl rfl rfl rfl (Q.lenSl Try.runUnderlying30 rfl) ?_
        refine RG.q 9 hR rfl rfl rfl rfl rfl rfl (Q.mv rfl) ?_
        refine RG.q 10 hR rfl rfl rfl rfl rfl rfl (Q.sub64 rfl rfl (by omega)) ?_
        refine RG.q 11 hR rfl rfl rfl rfl rfl rfl (Q.sub64 rfl rfl (by omega)) ?_
        refine RG.q 12 hR rfl rfl rfl rfl rfl rfl (Q.nil_ rfl) ?_
        refine RG.q 13 hR rfl rfl rfl rfl rfl rfl (Q.fa (n := 1) Try.runUnderlying67 rfl rfl Try.sizeOf3 rfl) ?_
        first | refine RG.st 14 (j := 0) hR rfl rfl rfl rfl rfl Try.sizeOf3 rfl rfl rfl rfl rfl rfl rfl ?_ | refine RG.st 14 (j := 1) hR rfl rfl rfl rfl rfl Try.sizeOf3 rfl rfl rfl rfl rfl rfl rfl ?_ | refine RG.st 14 (j := 2) hR rfl rfl rfl rfl rfl Try.sizeOf3 rfl rfl rfl rfl rfl rfl rfl ?_ | refine RG.st 14 (j := 3) hR rfl rfl rfl rfl rfl Try.sizeOf3 rfl rfl rfl rfl rfl rfl rfl ?_ | refine RG.st 14 (j := 4) hR rfl rfl rfl rfl rfl Try.sizeOf3 rfl rfl rfl rfl rfl rfl rfl ?_ | refine RG.st 14 (j := 5) hR rfl rfl rfl rfl rfl Try.sizeOf3 rfl rfl rfl rfl rfl rfl rfl ?_
        refine RG.fin hR rfl ?_
        refine J.norm rfl ?_
        refine J.then_n ?_
        refine J.region ?_
        refine J.q rfl rfl (Q.mv rfl) ?_
        refine J.q rfl rfl (Q.mv rfl) ?_
        refine J.q rfl rfl (Q.mv rfl) ?_
        refine J.q rfl rfl (Q.nil_ rfl) ?_
        refine J.q rfl rfl (Q.fa (n := 0) Try.runUnderlying71 rfl rfl Try.sizeOf30 rfl) ?_
        refine J.q rfl rfl (Q.ld Try.isAgg30 rfl (by first | exact Reads.pt 0 rfl rfl | exact Reads.pt 1 rfl rfl | exact Reads.pt 2 rfl rfl | exact Reads.pt 3 rfl rfl | exact Reads.pt 4 rfl rfl | exact Reads.pt 5 rfl rfl | exact Reads.pt 6 rfl rfl | exact Reads.pt 7 rfl rfl)) ?_
        refine J.q rfl rfl (Q.mv rfl) ?_
        refine J.q rfl rfl (Q.mv rfl) ?_
        refine J.q rfl rfl (Q.slHM Try.runUnderlying30 Try.sizeOf5 rfl rfl rfl (by omega) (by omega) (by omega)) ?_
        refine J.slot 77 (.slice y.sp (keptOf y.f picks[k]?) (keptOf y.f picks[k]?)) rfl (by simp only [Int.toNat_natCast]) ?_
        refine J.q rfl rfl (Q.mv rfl) ?_
        refine J.q rfl rfl (Q.nil_ rfl) ?_
        refine J.q rfl rfl (Q.fa (n := 0) Try.runUnderlying71 rfl rfl Try.sizeOf30 rfl) ?_
        first | refine J.st (i := 0) rfl Try.sizeOf30 rfl rfl rfl rfl rfl rfl rfl ?_ | refine J.st (i := 1) rfl Try.sizeOf30 rfl rfl rfl rfl rfl rfl rfl ?_ | refine J.st (i := 2) rfl Try.sizeOf30 rfl rfl rfl rfl rfl rfl rfl ?_ | refine J.st (i := 3) rfl Try.sizeOf30 rfl rfl rfl rfl rfl rfl rfl ?_ | refine J.st (i := 4) rfl Try.sizeOf30 rfl rfl rfl rfl rfl rfl rfl ?_ | refine J.st (i := 5) rfl Try.sizeOf30 rfl rfl rfl rfl rfl rfl rfl ?_
        refine J.q rfl rfl (Q.nil_ rfl) ?_
        refine J.q rfl rfl (Q.fa (n := 1) Try.runUnderlying71 rfl rfl Try.sizeOf3 rfl) ?_
        first | refine J.st (i := 0) rfl Try.sizeOf3 rfl rfl rfl rfl rfl rfl rfl ?_ | refine J.st (i := 1) rfl Try.sizeOf3 rfl rfl rfl rfl rfl rfl rfl ?_ | refine J.st (i := 2) rfl Try.sizeOf3 rfl rfl rfl rfl rfl rfl rfl ?_ | refine J.st (i := 3) rfl Try.sizeOf3 rfl rfl rfl rfl rfl rfl rfl ?_ | refine J.st (i := 4) rfl Try.sizeOf3 rfl rfl rfl rfl rfl rfl rfl ?_ | refine J.st (i := 5) rfl Try.sizeOf3 rfl rfl rfl rfl rfl rfl rfl ?_
        refine J.nil ?_
        refine J.blk_n ?_
        refine J.then_n ?_
        refine J.region ?_
        refine J.q rfl rfl (Q.add64 rfl rfl (by omega)) ?_
        refine J.q rfl rfl (Q.mv rfl) ?_
        refine J.nil ?_
        have hcr : crashN (d.list []) picks (k + 1) d.files = fset ⟨⟨nm.toArray⟩, y.f.bs.take (keptOf y.f picks[k]?), keptOf y.f picks[k]?⟩ (crashN (d.list []) picks k d.files) := by
          simp only [crashN, hnm]; unfold fcrash; rw [hg]
        have hmin : (y.f.bs.take (keptOf y.f picks[k]?)).length = keptOf y.f picks[k]? := by rw [List.length_take]; omega
        refine J.conv (Y := own 5 1 (.slice y.sp (keptOf y.f picks[k]?) (keptOf y.f picks[k]?)) (bytesV (y.f.bs.take (keptOf y.f picks[k]?)))) 1 rfl (fun h hh => by have := own.cut (keptOf y.f picks[k]?) hkp.2 h hh; unfold bytesV at this ⊢; rw [List.map_take]; exact this) ?_
        refine J.pack [1, 0] rfl ?_
        refine J.conv (Y := FW.asn ⟨⟨⟨nm.toArray⟩, y.f.bs.take (keptOf y.f picks[k]?), keptOf y.f picks[k]?⟩, y.p, y.sp, keptOf y.f picks[k]?, y.born⟩) 0 rfl (fun _ h => by unfold FW.asn FW.asns FW.sl; simp only; rw [hmin]; exact h) ?_
        refine J.unfocus 0 1 i ⟨⟨⟨nm.toArray⟩, y.f.bs.take (keptOf y.f picks[k]?), keptOf y.f picks[k]?⟩, y.p, y.sp, keptOf y.f picks[k]?, y.born⟩ rfl (List.getElem?_eq_some_iff.1 hl.at_).1 ?_
        refine J.shut [0, 1, 2] (DiskAt p { d with files := crashN (d.list []) picks (k + 1) d.files }) rfl (by
          rw [hcr]
          exact DiskAt.of_put (d := { d with files := crashN (d.list []) picks k d.files }) hx hl ⟨⟨⟨nm.toArray⟩, y.f.bs.take (keptOf y.f picks[k]?), keptOf y.f picks[k]?⟩, y.p, y.sp, keptOf y.f picks[k]?, y.born⟩ rfl rfl rfl (by
            have h1 := lenSum_fset (g := ⟨⟨nm.toArray⟩, y.f.bs.take (keptOf y.f picks[k]?), keptOf y.f picks[k]?⟩) hg rfl
            simp only [hmin] at h1
            show ((lenSum (crashN (d.list []) picks k d.files) : Nat) : Int) - _ = ((lenSum (fset ⟨⟨nm.toArray⟩, y.f.bs.take (keptOf y.f picks[k]?), keptOf y.f picks[k]?⟩ (crashN (d.list []) picks k d.files)) : Nat) : Int)
            omega)) ?_
        refine J.pick [1, 0, 2] rfl ?_
        refine J.again (k + 1) (by omega) (by omega) ⟨rfl, rfl, rfl, rfl, rfl, trivial⟩ rfl
    ·
      first | replace hb30 := X.tt_dec hb30 | replace hb30 := X.tt_not hb30 | replace hb30 := X.ff_dec hb30 | replace hb30 := X.ff_not hb30 | skip
      refine J.skip rfl rfl ?_
      refine J.skip rfl rfl ?_
      refine J.skip rfl rfl ?_
      refine J.skip rfl rfl ?_
      refine J.skip rfl rfl ?_
      refine J.q rfl rfl (Q.pick_f rfl rfl) ?_
      refine J.nil ?_
      refine J.then_n ?_
      refine J.cond_f rfl ?_
      refine J.cskip ?_
      refine J.then_n ?_
      refine J.seq ?_
      first
        | (have hke : (y.f.sy : Int) + pk % ((y.f.bs.length : Int) - y.f.sy + 1) = ((keptOf y.f picks[k]? : Nat) : Int) := by
             unfold keptOf; rw [hpk]; simp only; rw [if_pos (by omega)]; omega
           refine J.slot 7 (.int .i64 (keptOf y.f picks[k]?)) rfl (congrArg (Value.int .i64) hke) ?_)
        | (have hke : (y.f.sy : Int) = ((keptOf y.f picks[k]? : Nat) : Int) := by
             unfold keptOf; rw [hpk]; simp only; rw [if_neg (by omega)]
           refine J.slot 7 (.int .i64 (keptOf y.f picks[k]?)) rfl (congrArg (Value.int .i64) hke) ?_)
        | (have hke : (y.f.sy : Int) = ((keptOf y.f picks[k]? : Nat) : Int) := by
             unfold keptOf; rw [List.getElem?_eq_none (by omega)]
           refine J.slot 7 (.int .i64 (keptOf y.f picks[k]?)) rfl (congrArg (Value.int .i64) hke) ?_)
      refine J.tells (p := y.f.bs.length ≤ y.sc) 1 rfl (fun h hh => (own.len h hh).2) fun hcap => ?_
      refine J.draw [14] Try.mixed (by kernel_rfl) fun hR => ?_
      refine RG.q 0 hR rfl rfl rfl rfl rfl rfl (Q.mv rfl) ?_
      refine RG.q 1 hR rfl rfl rfl rfl rfl rfl (Q.nil_ rfl) ?_
      refine RG.q 2 hR rfl rfl rfl rfl rfl rfl (Q.fa (n := 1) Try.runUnderlying67 rfl rfl Try.sizeOf3 rfl) ?_
      refine RG.q 3 hR rfl rfl rfl rfl rfl rfl (Q.ld Try.isAgg3 rfl (by first | exact Reads.pt 0 rfl rfl | exact Reads.pt 1 rfl rfl | exact Reads.pt 2 rfl rfl | exact Reads.pt 3 rfl rfl | exact Reads.pt 4 rfl rfl | exact Reads.pt 5 rfl rfl | exact Reads.pt 6 rfl rfl | exact Reads.pt 7 rfl rfl)) ?_
      refine RG.q 4 hR rfl rfl rfl rfl rfl rfl (Q.mv rfl) ?_
      refine RG.q 5 hR rfl rfl rfl rfl rfl rfl (Q.nil_ rfl) ?_
      refine RG.q 6 hR rfl rfl rfl rfl rfl rfl (Q.fa (n := 0) Try.runUnderlying71 rfl rfl Try.sizeOf30 rfl) ?_
      refine RG.q 7 hR rfl rfl rfl rfl rfl rfl (Q.ld Try.isAgg30 rfl (by first | exact Reads.pt 0 rfl rfl | exact Reads.pt 1 rfl rfl | exact Reads.pt 2 rfl rfl | exact Reads.pt 3 rfl rfl | exact Reads.pt 4 rfl rfl | exact Reads.pt 5 rfl rfl | exact Reads.pt 6 rfl rfl | exact Reads.pt 7 rfl rfl)) ?_
      refine RG.q 8 hR rfl rfl rfl rfl rfl rfl (Q.lenSl Try.runUnderlying30 rfl) ?_
      refine RG.q 9 hR rfl rfl rfl rfl rfl rfl (Q.mv rfl) ?_
      refine RG.q 10 hR rfl rfl rfl rfl rfl rfl (Q.sub64 rfl rfl (by omega)) ?_
      refine RG.q 11 hR rfl rfl rfl rfl rfl rfl (Q.sub64 rfl rfl (by omega)) ?_
      refine RG.q 12 hR rfl rfl rfl rfl rfl rfl (Q.nil_ rfl) ?_
      refine RG.q 13 hR rfl rfl rfl rfl rfl rfl (Q.fa (n := 1) Try.runUnderlying67 rfl rfl Try.sizeOf3 rfl) ?_
      first | refine RG.st 14 (j := 0) hR rfl rfl rfl rfl rfl Try.sizeOf3 rfl rfl rfl rfl rfl rfl rfl ?_ | refine RG.st 14 (j := 1) hR rfl rfl rfl rfl rfl Try.sizeOf3 rfl rfl rfl rfl rfl rfl rfl ?_ | refine RG.st 14 (j := 2) hR rfl rfl rfl rfl rfl Try.sizeOf3 rfl rfl rfl rfl rfl rfl rfl ?_ | refine RG.st 14 (j := 3) hR rfl rfl rfl rfl rfl Try.sizeOf3 rfl rfl rfl rfl rfl rfl rfl ?_ | refine RG.st 14 (j := 4) hR rfl rfl rfl rfl rfl Try.sizeOf3 rfl rfl rfl rfl rfl rfl rfl ?_ | refine RG.st 14 (j := 5) hR rfl rfl rfl rfl rfl Try.sizeOf3 rfl rfl rfl rfl rfl rfl rfl ?_
      refine RG.fin hR rfl ?_
      refine J.norm rfl ?_
      refine J.then_n ?_
      refine J.region ?_
      refine J.q rfl rfl (Q.mv rfl) ?_
      refine J.q rfl rfl (Q.mv rfl) ?_
      refine J.q rfl rfl (Q.mv rfl) ?_
      refine J.q rfl rfl (Q.nil_ rfl) ?_
      refine J.q rfl rfl (Q.fa (n := 0) Try.runUnderlying71 rfl rfl Try.sizeOf30 rfl) ?_
      refine J.q rfl rfl (Q.ld Try.isAgg30 rfl (by first | exact Reads.pt 0 rfl rfl | exact Reads.pt 1 rfl rfl | exact Reads.pt 2 rfl rfl | exact Reads.pt 3 rfl rfl | exact Reads.pt 4 rfl rfl | exact Reads.pt 5 rfl rfl | exact Reads.pt 6 rfl rfl | exact Reads.pt 7 rfl rfl)) ?_
      refine J.q rfl rfl (Q.mv rfl) ?_
      refine J.q rfl rfl (Q.mv rfl) ?_
      refine J.q rfl rfl (Q.slHM Try.runUnderlying30 Try.sizeOf5 rfl rfl rfl (by omega) (by omega) (by omega)) ?_
      refine J.slot 77 (.slice y.sp (keptOf y.f picks[k]?) (keptOf y.f picks[k]?)) rfl (by simp only [Int.toNat_natCast]) ?_
      refine J.q rfl rfl (Q.mv rfl) ?_
      refine J.q rfl rfl (Q.nil_ rfl) ?_
      refine J.q rfl rfl (Q.fa (n := 0) Try.runUnderlying71 rfl rfl Try.sizeOf30 rfl) ?_
      first | refine J.st (i := 0) rfl Try.sizeOf30 rfl rfl rfl rfl rfl rfl rfl ?_ | refine J.st (i := 1) rfl Try.sizeOf30 rfl rfl rfl rfl rfl rfl rfl ?_ | refine J.st (i := 2) rfl Try.sizeOf30 rfl rfl rfl rfl rfl rfl rfl ?_ | refine J.st (i := 3) rfl Try.sizeOf30 rfl rfl rfl rfl rfl rfl rfl ?_ | refine J.st (i := 4) rfl Try.sizeOf30 rfl rfl rfl rfl rfl rfl rfl ?_ | refine J.st (i := 5) rfl Try.sizeOf30 rfl rfl rfl rfl rfl rfl rfl ?_
      refine J.q rfl rfl (Q.nil_ rfl) ?_
      refine J.q rfl rfl (Q.fa (n := 1) Try.runUnderlying71 rfl rfl Try.sizeOf3 rfl) ?_
      first | refine J.st (i := 0) rfl Try.sizeOf3 rfl rfl rfl rfl rfl rfl rfl ?_ | refine J.st (i := 1) rfl Try.sizeOf3 rfl rfl rfl rfl rfl rfl rfl ?_ | refine J.st (i := 2) rfl Try.sizeOf3 rfl rfl rfl rfl rfl rfl rfl ?_ | refine J.st (i := 3) rfl Try.sizeOf3 rfl rfl rfl rfl rfl rfl rfl ?_ | refine J.st (i := 4) rfl Try.sizeOf3 rfl rfl rfl rfl rfl rfl rfl ?_ | refine J.st (i := 5) rfl Try.sizeOf3 rfl rfl rfl rfl rfl rfl rfl ?_
      refine J.nil ?_
      refine J.blk_n ?_
      refine J.then_n ?_
      refine J.region ?_
      refine J.q rfl rfl (Q.add64 rfl rfl (by omega)) ?_
      refine J.q rfl rfl (Q.mv rfl) ?_
      refine J.nil ?_
      have hcr : crashN (d.list []) picks (k + 1) d.files = fset ⟨⟨nm.toArray⟩, y.f.bs.take (keptOf y.f picks[k]?), keptOf y.f picks[k]?⟩ (crashN (d.list []) picks k d.files) := by
        simp only [crashN, hnm]; unfold fcrash; rw [hg]
      have hmin : (y.f.bs.take (keptOf y.f picks[k]?)).length = keptOf y.f picks[k]? := by rw [List.length_take]; omega
      refine J.conv (Y := own 5 1 (.slice y.sp (keptOf y.f picks[k]?) (keptOf y.f picks[k]?)) (bytesV (y.f.bs.take (keptOf y.f picks[k]?)))) 1 rfl (fun h hh => by have := own.cut (keptOf y.f picks[k]?) hkp.2 h hh; unfold bytesV at this ⊢; rw [List.map_take]; exact this) ?_
      refine J.pack [1, 0] rfl ?_
      refine J.conv (Y := FW.asn ⟨⟨⟨nm.toArray⟩, y.f.bs.take (keptOf y.f picks[k]?), keptOf y.f picks[k]?⟩, y.p, y.sp, keptOf y.f picks[k]?, y.born⟩) 0 rfl (fun _ h => by unfold FW.asn FW.asns FW.sl; simp only; rw [hmin]; exact h) ?_
      refine J.unfocus 0 1 i ⟨⟨⟨nm.toArray⟩, y.f.bs.take (keptOf y.f picks[k]?), keptOf y.f picks[k]?⟩, y.p, y.sp, keptOf y.f picks[k]?, y.born⟩ rfl (List.getElem?_eq_some_iff.1 hl.at_).1 ?_
      refine J.shut [0, 1, 2] (DiskAt p { d with files := crashN (d.list []) picks (k + 1) d.files }) rfl (by
        rw [hcr]
        exact DiskAt.of_put (d := { d with files := crashN (d.list []) picks k d.files }) hx hl ⟨⟨⟨nm.toArray⟩, y.f.bs.take (keptOf y.f picks[k]?), keptOf y.f picks[k]?⟩, y.p, y.sp, keptOf y.f picks[k]?, y.born⟩ rfl rfl rfl (by
          have h1 := lenSum_fset (g := ⟨⟨nm.toArray⟩, y.f.bs.take (keptOf y.f picks[k]?), keptOf y.f picks[k]?⟩) hg rfl
          simp only [hmin] at h1
          show ((lenSum (crashN (d.list []) picks k d.files) : Nat) : Int) - _ = ((lenSum (fset ⟨⟨nm.toArray⟩, y.f.bs.take (keptOf y.f picks[k]?), keptOf y.f picks[k]?⟩ (crashN (d.list []) picks k d.files)) : Nat) : Int)
          omega)) ?_
      refine J.pick [1, 0, 2] rfl ?_
      refine J.again (k + 1) (by omega) (by omega) ⟨rfl, rfl, rfl, rfl, rfl, trivial⟩ rfl
  ·
    first | replace hc12 := X.tt_dec hc12 | replace hc12 := X.tt_not hc12 | replace hc12 := X.ff_dec hc12 | replace hc12 := X.ff_not hc12 | skip
    refine J.exit ?_
    refine J.then_x ?_
    refine J.lp_x ?_
    refine J.blk_x ?_
    have hkn : k = (d.list []).length := by omega
    subst hkn
    refine J.keep [1, 2, 3] rfl ?_
    refine J.end0 (B := [DiskAt p (d.crash picks), G]) rfl ⟨rfl, rfl⟩ rfl

end Go.Proofs.Ytkekcdcmmggbaaa
