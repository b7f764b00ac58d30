/-
  The document's disk in memory, whole: crash.
-/
import Derived.Test.YtkekcdcmmggbaaaRefH
namespace Go.Proofs.Ytkekcdcmmggbaaa
open Go.X

def cr1 (f : FM) (pk : Option Int) : FM := ⟨f.name, f.bs.take (keptOf f pk), keptOf f pk⟩
def crashR (picks : List Int) (l : List FM) : List FM := l.mapIdx fun i f => cr1 f picks[i]?
def DM.rcrash (d : DM) (picks : List Int) : DM := { d with files := crashR picks d.files }

theorem keptOf_pos {f : FM} {pk : Int} (h : 0 ≤ pk) : keptOf f (some pk) = f.sy + (pk % ((f.bs.length : Int) - f.sy + 1)).toNat := if_pos h
theorem keptOf_neg {f : FM} {pk : Int} (h : ¬ 0 ≤ pk) : keptOf f (some pk) = f.sy := if_neg h
theorem keptOf_none {f : FM} : keptOf f none = f.sy := rfl

theorem asn_len {fs : List RFile} {k : Nat} {x : RFile} (hx : fs[k]? = some x) : ∀ h, star (fs.map RFile.asn) h → x.f.bs.length ≤ x.sc := by
  intro h s
  obtain ⟨q', hq', _⟩ := HSat.at_ s (i := k) (A := RFile.asn x) (by rw [List.getElem?_map, hx]; rfl)
  exact (own.len _ hq').2

structure CrI (r : DM) (picks : List Int) (k : Nat) (fs : List RFile) : Prop where
  le : k ≤ r.files.length
  len : fs.length = r.files.length
  done : ∀ (i : Nat) f, i < k → r.files[i]? = some f → (fms fs)[i]? = some (cr1 f picks[i]?)
  left : ∀ (i : Nat) f, k ≤ i → r.files[i]? = some f → (fms fs)[i]? = some f

theorem CrI.step {r : DM} {picks : List Int} {k : Nat} {fs : List RFile} (h : CrI r picks k fs) {x : RFile} {f : FM} (hf : r.files[k]? = some f) (hx : x.f = cr1 f picks[k]?) : CrI r picks (k + 1) (fs.set k x) := by
  have hk : k < r.files.length := (List.getElem?_eq_some_iff.1 hf).1
  refine ⟨hk, by rw [List.length_set]; exact h.len, ?_, ?_⟩
  · intro i g hi hg
    rw [fms, List.map_set, List.getElem?_set]
    by_cases he : k = i
    · subst he
      rw [hf] at hg; cases hg
      rw [if_pos rfl, if_pos (by rw [List.length_map, h.len]; exact hk), hx]
    · rw [if_neg he]; exact h.done i g (by omega) hg
  · intro i g hi hg
    rw [fms, List.map_set, List.getElem?_set, if_neg (by omega)]
    exact h.left i g (by omega) hg
theorem CrI.end_ {r : DM} {picks : List Int} {k : Nat} {fs : List RFile} (h : CrI r picks k fs) (hk : k = r.files.length) : fms fs = (r.rcrash picks).files := by
  subst hk
  apply List.ext_getElem?
  intro i
  show _ = (crashR picks r.files)[i]?
  unfold crashR
  rw [List.getElem?_mapIdx]
  cases e : r.files[i]? with
  | some f => rw [h.done i f (List.getElem?_eq_some_iff.1 e).1 e]; rfl
  | none =>
    rw [List.getElem?_eq_none_iff] at e
    exact List.getElem?_eq_none (by rw [List.length_map, h.len]; exact e)

theorem rcrash_spec (q : Nat) (r : DM) (hr : RWf r) (G : Assn) (qp : Option Addr) (qn qc : Nat) (picks : List Int) (hq : SlR [G] 1 (.slice qp qn qc) (picks.map (Value.int .i64))) (hqn : qn ≤ 140737488355328)
    (hqr : ∀ v, v ∈ picks → -9223372036854775808 ≤ v ∧ v ≤ 9223372036854775807) :
    FSpec Try.prog 39 [.pointer (some ⟨q, 0, none⟩), .slice qp qn qc] [RefAt q r, G] (fun v B => v = .tuple #[] ∧ B = [RefAt q (r.rcrash picks), G]) := by
  refine FSpec.of Try.func39 rfl Try.ntmps39 rfl fun W0 F => ?_
  refine J.seq ?_
  refine J.open_ 0 rfl rfl (fun _ h => h) fun fs hfs => ?_
  refine J.norm rfl ?_
  have hlen : fs.length = r.files.length := by rw [← hfs, List.length_map]
  refine J.open1 0 rfl (fun _ h => h) fun z => ?_
  refine J.norm rfl ?_
  obtain ⟨p, c⟩ := z
  refine J.slr1 1 rfl fun hsl => ?_
  refine J.tells 1 rfl own.len fun hlc => ?_
  obtain ⟨_, hlc⟩ := hlc
  have hlc' : fs.length ≤ c := hlc
  dsimp only at hsl
  have hpk : picks.length = qn := by have := hq.len; simpa using this
  have hrl := hr.len
  refine J.region ?_
  refine J.q rfl rfl (Q.asg rfl) ?_
  refine J.nil ?_
  refine J.then_n ?_
  refine J.block ?_
  refine J.loop (fun z : Nat × List RFile => CrI r picks z.1 z.2) (fun z => fs.length - z.1) (fun z => [(0, .pointer (some ⟨q, 0, none⟩)), (1, .slice qp qn qc), (4, .int .i64 z.1)])
    (fun z => [pt q (.cells [.int .i64 r.size, .slice p fs.length c, .int .i64 r.born].toArray 56 (0, 0)), own 82 3 (.slice p fs.length c) (z.2.flatMap RFile.cells), star (z.2.map RFile.asn), G, F]) (0, fs)
    ⟨Nat.zero_le _, hlen, fun i f hi => by omega, fun i f _ h => by rw [hfs]; exact h⟩ ⟨rfl, rfl, rfl, trivial⟩ rfl fun z hz => ?_
  obtain ⟨k, fs'⟩ := z
  dsimp only at hz
  have hkl := hz.le
  have hln := hz.len
  refine J.slr1 1 rfl fun hsl' => ?_
  refine J.seq ?_
  refine J.seq ?_
  refine J.region ?_
  refine J.q rfl rfl (Q.mv rfl) ?_
  refine J.q rfl rfl (Q.mv rfl) ?_
  refine J.q rfl rfl (Q.nil_ rfl) ?_
  refine J.q rfl rfl (Q.fa (n := 1) Try.runUnderlying56 rfl rfl Try.sizeOf54 rfl) ?_
  refine J.q rfl rfl (Q.ld Try.isAgg54 rfl (by first | exact Reads.pt 0 rfl rfl | exact Reads.pt 1 rfl rfl | exact Reads.pt 2 rfl rfl | exact Reads.pt 3 rfl rfl | exact Reads.pt 4 rfl rfl | exact Reads.pt 5 rfl rfl | exact Reads.pt 6 rfl rfl | exact Reads.pt 7 rfl rfl)) ?_
  refine J.q rfl rfl (Q.lenSl Try.runUnderlying54 rfl) ?_
  refine J.q rfl rfl (Q.lss rfl rfl) ?_
  refine J.nil ?_
  refine J.then_n ?_
  refine J.cond rfl (fun hc14 => ?_) (fun hc14 => ?_)
  ·
    first | replace hc14 := X.tt_dec hc14 | replace hc14 := X.tt_not hc14 | replace hc14 := X.ff_dec hc14 | replace hc14 := X.ff_not hc14 | skip
    refine J.cskip ?_
    refine J.then_n ?_
    refine J.seq ?_
    refine J.block ?_
    refine J.seq ?_
    obtain ⟨b, off, rfl, hrd⟩ := hsl'.some_ (by omega)
    obtain ⟨x, hx⟩ : ∃ x, fs'[k]? = some x := ⟨_, List.getElem?_eq_getElem (by omega)⟩
    obtain ⟨f, hf⟩ : ∃ f, r.files[k]? = some f := ⟨_, List.getElem?_eq_getElem (by omega)⟩
    have hxf : x.f = f := by
      have := hz.left k f (Nat.le_refl _) hf
      rw [List.getElem?_map, hx] at this
      exact Option.some.inj this
    subst hxf
    have hsy := hr.wf.sy _ (List.mem_of_getElem? hf)
    have hxl : x.f.bs.length ≤ r.size := Nat.le_trans (lenSum_mem (List.mem_of_getElem? hf)) hr.wf.used
    have hsz := hr.wf.size
    refine J.tells 2 rfl (asn_len hx) fun hxc => ?_
    refine J.slrStar 2 k rfl hx rfl fun hys => ?_
    refine J.region ?_
    refine J.q rfl rfl (Q.mv rfl) ?_
    refine J.q rfl rfl (Q.nil_ rfl) ?_
    refine J.q rfl rfl (Q.fa (n := 1) Try.runUnderlying56 rfl rfl Try.sizeOf54 rfl) ?_
    refine J.q rfl rfl (Q.ld Try.isAgg54 rfl (by first | exact Reads.pt 0 rfl rfl | exact Reads.pt 1 rfl rfl | exact Reads.pt 2 rfl rfl | exact Reads.pt 3 rfl rfl | exact Reads.pt 4 rfl rfl | exact Reads.pt 5 rfl rfl | exact Reads.pt 6 rfl rfl | exact Reads.pt 7 rfl rfl)) ?_
    refine J.q rfl rfl (Q.mv rfl) ?_
    refine J.q rfl rfl (Q.ia Try.runUnderlying54 Try.sizeOf82 rfl rfl (by omega) (by omega)) ?_
    refine J.q rfl rfl (Q.ldN (vs := [_, _, _]) Try.isAgg82 Try.sizeOf82 rfl ((rd_elem RFile.cells_length hrd hx (by simp)).within (i := 1) rfl)) ?_
    refine J.c rfl rfl (C.alloc (l := [_, _, _]) Try.zeroValue82 rfl) ?_
    rintro _ _ ⟨b5, rfl, rfl⟩
    refine J.norm rfl ?_
    refine J.c0 rfl (C.stA (i := 0) (vs := x.cells) Try.sizeOf82 rfl rfl rfl rfl rfl rfl) ?_
    rintro _ _ ⟨rfl, rfl⟩
    refine J.nil ?_
    refine J.then_n ?_
    refine J.seq ?_
    refine J.region ?_
    refine J.q rfl rfl (Q.fa (n := 1) Try.runUnderlying82 rfl rfl Try.sizeOf30 rfl) ?_
    refine J.q rfl rfl (Q.ld Try.isAgg30 rfl (by first | exact Reads.pt 0 rfl rfl | exact Reads.pt 1 rfl rfl | exact Reads.pt 2 rfl rfl | exact Reads.pt 3 rfl rfl | exact Reads.pt 4 rfl rfl | exact Reads.pt 5 rfl rfl | exact Reads.pt 6 rfl rfl | exact Reads.pt 7 rfl rfl)) ?_
    refine J.q rfl rfl (Q.lenSl Try.runUnderlying30 rfl) ?_
    refine J.q rfl rfl (Q.fa (n := 2) Try.runUnderlying82 rfl rfl Try.sizeOf3 rfl) ?_
    refine J.q rfl rfl (Q.ld Try.isAgg3 rfl (by first | exact Reads.pt 0 rfl rfl | exact Reads.pt 1 rfl rfl | exact Reads.pt 2 rfl rfl | exact Reads.pt 3 rfl rfl | exact Reads.pt 4 rfl rfl | exact Reads.pt 5 rfl rfl | exact Reads.pt 6 rfl rfl | exact Reads.pt 7 rfl rfl)) ?_
    refine J.q rfl rfl (Q.sub64 rfl rfl (by omega)) ?_
    refine J.q rfl rfl (Q.asg rfl) ?_
    refine J.nil ?_
    refine J.then_n ?_
    refine J.seq ?_
    refine J.region ?_
    refine J.q rfl rfl (Q.asg rfl) ?_
    refine J.nil ?_
    refine J.then_n ?_
    have hkept := keptOf_le x.f hsy picks[k]?
    refine J.cut (fun _ : Unit => True) (fun _ => [(0, .pointer (some ⟨q, 0, none⟩)), (1, .slice qp qn qc), (4, .int .i64 k), (5, .pointer (some ⟨b5, 0, none⟩)), (7, .int .i64 ((keptOf x.f picks[k]? : Int) - x.f.sy))])
      (fun _ => [pt b5 (.cells x.cells.toArray 82 (0, 0)), pt q (.cells [.int .i64 r.size, .slice (some ⟨b, off, none⟩) fs.length c, .int .i64 r.born].toArray 56 (0, 0)), own 82 3 (.slice (some ⟨b, off, none⟩) fs.length c) (fs'.flatMap RFile.cells), star (fs'.map RFile.asn), G, F]) ?_ fun _ _ => ?_
    ·
      refine J.seq ?_
      refine J.region ?_
      refine J.q rfl rfl (Q.mv rfl) ?_
      refine J.q rfl rfl (Q.mv rfl) ?_
      refine J.q rfl rfl (Q.lenSl Try.runUnderlying22 rfl) ?_
      refine J.q rfl rfl (Q.lss rfl rfl) ?_
      refine J.q rfl rfl (Q.mv rfl) ?_
      refine J.cases 34 rfl (fun hb34 => ?_) (fun hb34 => ?_)
      ·
        first | replace hb34 := X.tt_dec hb34 | replace hb34 := X.tt_not hb34 | replace hb34 := X.ff_dec hb34 | replace hb34 := X.ff_not hb34 | skip
        refine J.q rfl rfl (Q.mv rfl) ?_
        refine J.q rfl rfl (Q.mv rfl) ?_
        obtain ⟨pk, hpk'⟩ : ∃ v, picks[k]? = some v := ⟨_, List.getElem?_eq_getElem (by omega)⟩
        obtain ⟨b1, off1, rfl, hrd1⟩ := hq.some_ (by omega)
        have hpr := hqr pk (List.mem_of_getElem? hpk')
        refine J.q rfl rfl (Q.ia Try.runUnderlying22 Try.sizeOf3 rfl rfl (by omega) (by omega)) ?_
        refine J.q rfl rfl (Q.ld Try.isAgg3 rfl (((hrd1 k (.int .i64 pk) (by simp [hpk'])).within (i := 4) rfl).cast (by simp))) ?_
        refine J.q rfl rfl (Q.geq rfl rfl) ?_
        refine J.q rfl rfl (Q.pick_t rfl rfl) ?_
        refine J.nil ?_
        refine J.then_n ?_
        refine J.cond rfl (fun hc40 => ?_) (fun hc40 => ?_)
        ·
          first | replace hc40 := X.tt_dec hc40 | replace hc40 := X.tt_not hc40 | replace hc40 := X.ff_dec hc40 | replace hc40 := X.ff_not hc40 | skip
          refine J.region ?_
          refine J.q rfl rfl (Q.mv rfl) ?_
          refine J.q rfl rfl (Q.mv rfl) ?_
          refine J.q rfl rfl (Q.ia Try.runUnderlying22 Try.sizeOf3 rfl rfl (by omega) (by omega)) ?_
          refine J.q rfl rfl (Q.ld Try.isAgg3 rfl (((hrd1 k (.int .i64 pk) (by simp [hpk'])).within (i := 4) rfl).cast (by simp))) ?_
          refine J.q rfl rfl (Q.mv rfl) ?_
          refine J.q rfl rfl (Q.add64 rfl rfl (by omega)) ?_
          refine J.q rfl rfl (Q.rem64 rfl rfl (by omega) (by omega)) ?_
          refine J.q rfl rfl (Q.asg rfl) ?_
          refine J.nil ?_
          refine J.meet () trivial ⟨rfl, rfl, rfl, rfl, congrArg some (congrArg (Value.int .i64) (by rw [hpk']; rw [keptOf_pos hc40]; have := Int.emod_nonneg pk (show (x.f.bs.length : Int) - x.f.sy + 1 ≠ 0 by omega); omega)), trivial⟩ rfl
        ·
          first | replace hc40 := X.tt_dec hc40 | replace hc40 := X.tt_not hc40 | replace hc40 := X.ff_dec hc40 | replace hc40 := X.ff_not hc40 | skip
          refine J.cskip ?_
          refine J.meet () trivial ⟨rfl, rfl, rfl, rfl, congrArg some (congrArg (Value.int .i64) (by rw [hpk']; rw [keptOf_neg hc40]; omega)), trivial⟩ rfl
      ·
        first | replace hb34 := X.tt_dec hb34 | replace hb34 := X.tt_not hb34 | replace hb34 := X.ff_dec hb34 | replace hb34 := X.ff_not hb34 | skip
        refine J.skip rfl rfl ?_
        refine J.skip rfl rfl ?_
        refine J.skip rfl rfl ?_
        refine J.skip rfl rfl ?_
        refine J.skip rfl rfl ?_
        refine J.q rfl rfl (Q.pick_f rfl rfl) ?_
        refine J.nil ?_
        refine J.then_n ?_
        refine J.cond_f rfl ?_
        refine J.cskip ?_
        refine J.meet () trivial ⟨rfl, rfl, rfl, rfl, congrArg some (congrArg (Value.int .i64) (by rw [List.getElem?_eq_none (by omega)]; rw [keptOf_none]; omega)), trivial⟩ rfl
    ·
      obtain ⟨hq55, hr55⟩ := slH_ (P := Try.prog) (T := 30) Try.runUnderlying30 Try.sizeOf5 hys (hi := keptOf x.f picks[k]?) (by omega) hxc
      refine J.seq ?_
      refine J.region ?_
      refine J.c rfl rfl (C.bslG (l := []) Try.runUnderlying30 Try.sizeOf5 Try.zeroValue5 (by decide) rfl rfl rfl rfl rfl) ?_
      rintro _ _ ⟨b48, rfl, rfl⟩
      refine J.norm rfl ?_
      refine J.q rfl rfl (Q.fa (n := 1) Try.runUnderlying82 rfl rfl Try.sizeOf30 rfl) ?_
      refine J.q rfl rfl (Q.ld Try.isAgg30 rfl (by first | exact Reads.pt 0 rfl rfl | exact Reads.pt 1 rfl rfl | exact Reads.pt 2 rfl rfl | exact Reads.pt 3 rfl rfl | exact Reads.pt 4 rfl rfl | exact Reads.pt 5 rfl rfl | exact Reads.pt 6 rfl rfl | exact Reads.pt 7 rfl rfl)) ?_
      refine J.q rfl rfl (Q.fa (n := 2) Try.runUnderlying82 rfl rfl Try.sizeOf3 rfl) ?_
      refine J.q rfl rfl (Q.ld Try.isAgg3 rfl (by first | exact Reads.pt 0 rfl rfl | exact Reads.pt 1 rfl rfl | exact Reads.pt 2 rfl rfl | exact Reads.pt 3 rfl rfl | exact Reads.pt 4 rfl rfl | exact Reads.pt 5 rfl rfl | exact Reads.pt 6 rfl rfl | exact Reads.pt 7 rfl rfl)) ?_
      refine J.q rfl rfl (Q.mv rfl) ?_
      refine J.q rfl rfl (Q.add64 rfl rfl (by omega)) ?_
      refine J.slot 54 (.int .i64 (keptOf x.f picks[k]?)) rfl (congrArg (Value.int .i64) (by omega)) ?_
      refine J.q rfl rfl (hq55 _ _ _ _ _ _ rfl rfl) ?_
      refine J.conv 0 rfl (own_of_zero (sz := 1)) ?_
      refine J.c rfl rfl (C.app (i := 0) Try.runUnderlying30 Try.runUnderlying30 Try.typeInfo5 Try.sizeOf5 Try.zeroValue5 rfl rfl rfl (hr55.within (i := 4) rfl) (fun v hv => bytesV_one _ v (List.mem_of_mem_take hv)) (by simp [Try.t5] <;> omega) (by decide)) ?_
      rintro _ _ ⟨p56, c56, rfl, rfl⟩
      refine J.norm rfl ?_
      have hkl2 : 0 + keptOf x.f picks[k]? = (x.f.bs.take (keptOf x.f picks[k]?)).length := by rw [List.length_take]; omega
      have hkl3 : [] ++ (bytesV x.f.bs).take (keptOf x.f picks[k]? * 1) = bytesV (x.f.bs.take (keptOf x.f picks[k]?)) := by simp [bytesV]
      rw [hkl2, hkl3]
      refine J.q rfl rfl (Q.fa (n := 1) Try.runUnderlying82 rfl rfl Try.sizeOf30 rfl) ?_
      first | refine J.st (i := 0) rfl Try.sizeOf30 rfl rfl rfl rfl rfl rfl rfl ?_ | refine J.st (i := 1) rfl Try.sizeOf30 rfl rfl rfl rfl rfl rfl rfl ?_ | refine J.st (i := 2) rfl Try.sizeOf30 rfl rfl rfl rfl rfl rfl rfl ?_ | refine J.st (i := 3) rfl Try.sizeOf30 rfl rfl rfl rfl rfl rfl rfl ?_ | refine J.st (i := 4) rfl Try.sizeOf30 rfl rfl rfl rfl rfl rfl rfl ?_ | refine J.st (i := 5) rfl Try.sizeOf30 rfl rfl rfl rfl rfl rfl rfl ?_
      refine J.nil ?_
      refine J.then_n ?_
      refine J.seq ?_
      refine J.region ?_
      refine J.q rfl rfl (Q.fa (n := 1) Try.runUnderlying82 rfl rfl Try.sizeOf30 rfl) ?_
      refine J.q rfl rfl (Q.ld Try.isAgg30 rfl (by first | exact Reads.pt 0 rfl rfl | exact Reads.pt 1 rfl rfl | exact Reads.pt 2 rfl rfl | exact Reads.pt 3 rfl rfl | exact Reads.pt 4 rfl rfl | exact Reads.pt 5 rfl rfl | exact Reads.pt 6 rfl rfl | exact Reads.pt 7 rfl rfl)) ?_
      refine J.q rfl rfl (Q.lenSl Try.runUnderlying30 rfl) ?_
      refine J.slot 60 (.int .i64 (keptOf x.f picks[k]?)) rfl (congrArg (Value.int .i64) (by rw [← hkl2]; omega)) ?_
      refine J.q rfl rfl (Q.fa (n := 2) Try.runUnderlying82 rfl rfl Try.sizeOf3 rfl) ?_
      first | refine J.st (i := 0) rfl Try.sizeOf3 rfl rfl rfl rfl rfl rfl rfl ?_ | refine J.st (i := 1) rfl Try.sizeOf3 rfl rfl rfl rfl rfl rfl rfl ?_ | refine J.st (i := 2) rfl Try.sizeOf3 rfl rfl rfl rfl rfl rfl rfl ?_ | refine J.st (i := 3) rfl Try.sizeOf3 rfl rfl rfl rfl rfl rfl rfl ?_ | refine J.st (i := 4) rfl Try.sizeOf3 rfl rfl rfl rfl rfl rfl rfl ?_ | refine J.st (i := 5) rfl Try.sizeOf3 rfl rfl rfl rfl rfl rfl rfl ?_
      refine J.nil ?_
      refine J.then_n ?_
      refine J.draw [7] Try.mixed (by kernel_rfl) fun hR => ?_
      refine RG.q 0 hR rfl rfl rfl rfl rfl rfl (Q.mv rfl) ?_
      refine RG.q 1 hR rfl rfl rfl rfl rfl rfl (Q.nil_ rfl) ?_
      refine RG.q 2 hR rfl rfl rfl rfl rfl rfl (Q.fa (n := 1) Try.runUnderlying56 rfl rfl Try.sizeOf54 rfl) ?_
      refine RG.q 3 hR rfl rfl rfl rfl rfl rfl (Q.ld Try.isAgg54 rfl (by first | exact Reads.pt 0 rfl rfl | exact Reads.pt 1 rfl rfl | exact Reads.pt 2 rfl rfl | exact Reads.pt 3 rfl rfl | exact Reads.pt 4 rfl rfl | exact Reads.pt 5 rfl rfl | exact Reads.pt 6 rfl rfl | exact Reads.pt 7 rfl rfl)) ?_
      refine RG.q 4 hR rfl rfl rfl rfl rfl rfl (Q.mv rfl) ?_
      refine RG.q 5 hR rfl rfl rfl rfl rfl rfl (Q.ldN (vs := [_, _, _]) Try.isAgg82 Try.sizeOf82 rfl (fun j u h => Reads.pt 1 rfl (by rw [Nat.zero_add]; exact h))) ?_
      refine RG.q 6 hR rfl rfl rfl rfl rfl rfl (Q.ia Try.runUnderlying54 Try.sizeOf82 rfl rfl (by omega) (by omega)) ?_
      refine RG.bar 7 hR rfl rfl rfl rfl rfl rfl (C.stON 3 (vs := RFile.cells ⟨cr1 x.f picks[k]?, p56, c56⟩) (j := k * 3) Try.sizeOf82 rfl rfl rfl (by simp) (by rw [flat_length RFile.cells_length, RFile.cells_length]; omega) (by simp [RFile.cells, oneC])) ?_
      rintro _ _ ⟨rfl, rfl⟩
      refine RG.norm rfl ?_
      refine RG.fin hR rfl ?_
      refine J.norm rfl ?_
      refine J.blk_n ?_
      refine J.then_n ?_
      refine J.region ?_
      refine J.q rfl rfl (Q.mv rfl) ?_
      refine J.q rfl rfl (Q.add64 rfl rfl (by omega)) ?_
      refine J.q rfl rfl (Q.asg rfl) ?_
      refine J.nil ?_
      rw [flat_set RFile.cells_length fs' k ⟨cr1 x.f picks[k]?, p56, c56⟩ (by omega)]
      refine J.shut [0, 4] (star ((fs'.set k ⟨cr1 x.f picks[k]?, p56, c56⟩).map RFile.asn)) rfl (star_set1 (f := RFile.asn) k ⟨cr1 x.f picks[k]?, p56, c56⟩) ?_
      refine J.keep [2, 3, 0, 4, 5] rfl ?_
      refine J.again (k + 1, fs'.set k ⟨cr1 x.f picks[k]?, p56, c56⟩) (hz.step hf rfl) (by show fs.length - (k + 1) < fs.length - k; omega) ⟨rfl, rfl, rfl, trivial⟩ rfl
  ·
    first | replace hc14 := X.tt_dec hc14 | replace hc14 := X.tt_not hc14 | replace hc14 := X.ff_dec hc14 | replace hc14 := X.ff_not hc14 | skip
    refine J.exit ?_
    refine J.then_x ?_
    refine J.lp_x ?_
    refine J.blk_x ?_
    have hfs2 := hz.end_ (by omega)
    refine J.shut [0, 1, 2] (RefAt q (r.rcrash picks)) rfl (fun h s => RefAt.mk (fs := fs') (z := (p, c)) hfs2 (by rw [show fs'.length = fs.length from by omega]; exact s)) ?_
    refine J.end0 (B := [RefAt q (r.rcrash picks), G]) rfl ⟨rfl, rfl⟩ rfl

end Go.Proofs.Ytkekcdcmmggbaaa
