/-
  Two disks that hold the same: 'equal', 'same'.
-/
import Derived.Test.YtkekcdcmmggbaaaLawC
namespace Go.Proofs.Ytkekcdcmmggbaaa
open Go.X

/-- The same under every name. -/
structure Alk (a b : DM) : Prop where
  size : a.size = b.size
  born : a.born = b.born
  files : ∀ n, fget n a.files = fget n b.files

theorem fget_iff {l : List FM} (h : (l.map (·.name)).Nodup) (f : FM) : f ∈ l ↔ fget f.name l = some f := by
  refine ⟨fun hf => ?_, fget_mem⟩
  induction l with
  | nil => cases hf
  | cons x l ih =>
    simp only [List.map_cons, List.nodup_cons] at h
    rcases List.mem_cons.1 hf with rfl | hf
    · simp [fget]
    · have hne : f.name ≠ x.name := by
        intro e
        exact h.1 (by rw [← e]; exact List.mem_map_of_mem hf)
      simp only [fget, if_neg hne]; exact ih h.2 hf

theorem nodup_of_names {l : List FM} (h : (l.map (·.name)).Nodup) : l.Nodup := by
  rw [List.Nodup, List.pairwise_map] at h
  exact h.imp fun hab e => hab (by rw [e])

theorem Alk.perm {a b : DM} (h : Alk a b) (ha : a.wf) (hb : b.wf) : a.files.Perm b.files := by
  rw [List.perm_ext_iff_of_nodup (nodup_of_names ha.names) (nodup_of_names hb.names)]
  intro f
  rw [fget_iff ha.names, fget_iff hb.names, h.files]
theorem Alk.list {a b : DM} (h : Alk a b) (ha : a.wf) (hb : b.wf) (pre : List ByteArray) : a.list pre = b.list pre := by
  unfold DM.list
  exact sortN_congr ((((h.perm ha hb).map _).filter _).map _)
theorem Alk.used {a b : DM} (h : Alk a b) (ha : a.wf) (hb : b.wf) : a.used = b.used := lenSum_perm (h.perm ha hb)
theorem Alk.bytes {a b : DM} (h : Alk a b) (n : ByteArray) : a.bytes n = b.bytes n := by unfold DM.bytes; rw [h.files]
theorem Alk.found {a b : DM} (h : Alk a b) (n : ByteArray) : a.found n = b.found n := by unfold DM.found; rw [h.files]
theorem Alk.unsynced {a b : DM} (h : Alk a b) (n : ByteArray) : a.unsynced n = b.unsynced n := by unfold DM.unsynced; rw [h.files]
theorem Alk.symm {a b : DM} (h : Alk a b) : Alk b a := ⟨h.size.symm, h.born.symm, fun n => (h.files n).symm⟩
theorem Alk.trans {a b c : DM} (h : Alk a b) (k : Alk b c) : Alk a c := ⟨h.size.trans k.size, h.born.trans k.born, fun n => (h.files n).trans (k.files n)⟩
theorem Alk.rfl' (a : DM) : Alk a a := ⟨rfl, rfl, fun _ => rfl⟩

theorem unsynced_range {d : DM} (hd : d.wf) (n : ByteArray) : 0 ≤ d.unsynced n ∧ d.unsynced n ≤ 1073741824 := by
  unfold DM.unsynced; split
  · rename_i f hf
    obtain ⟨_, h2, h3⟩ := hd.len hf
    have := hd.size
    omega
  · omega

theorem list_len (d : DM) (pre : List ByteArray) : (d.list pre).length ≤ d.files.length := by
  unfold DM.list
  rw [sortN_length, List.length_map]
  exact Nat.le_trans (List.length_filter_le _ _) (by simp)

theorem equal_spec (pa pb : Nat) (a b : DM) (ha : a.wf) (hb : b.wf) (hla : a.files.length ≤ 1073741824) (hlb : b.files.length ≤ 1073741824) (h : Alk a b) :
    FSpec Try.prog 26 [.pointer (some ⟨pa, 0, none⟩), .pointer (some ⟨pb, 0, none⟩)] [DiskAt pa a, DiskAt pb b] (fun v B => v = .bool true ∧ B = [DiskAt pa a, DiskAt pb b]) := by
  refine FSpec.of Try.func26 rfl Try.ntmps26 rfl fun W0 F => ?_
  refine J.seq ?_
  refine J.region ?_
  refine J.q rfl rfl (Q.asg rfl) ?_
  refine J.nil ?_
  refine J.then_n ?_
  refine J.seq ?_
  refine J.region ?_
  refine J.q rfl rfl (Q.mv rfl) ?_
  refine J.call Try.call21 (list_spec pa a F none 0 0 [] (.inl ⟨none, 0, rfl, rfl⟩) (by omega) hla) [0, 2] rfl rfl rfl rfl ?_
  rintro _ _ ⟨sp5, sc5, rfl, rfl⟩
  refine J.norm rfl ?_
  have hL : b.list [] = a.list [] := (h.list ha hb []).symm
  have hll : (a.list []).length ≤ 1073741824 := Nat.le_trans (list_len a []) hla
  refine J.q rfl rfl (Q.asg rfl) ?_
  refine J.nil ?_
  refine J.then_n ?_
  refine J.seq ?_
  refine J.region ?_
  refine J.q rfl rfl (Q.mv rfl) ?_
  refine J.call Try.call21 (list_spec pb b F none 0 0 [] (.inl ⟨none, 0, rfl, rfl⟩) (by omega) hlb) [3, 2] rfl rfl rfl rfl ?_
  rintro _ _ ⟨sp6, sc6, rfl, rfl⟩
  refine J.norm rfl ?_
  rw [hL]
  refine J.q rfl rfl (Q.asg rfl) ?_
  refine J.nil ?_
  refine J.then_n ?_
  refine J.seq ?_
  refine J.seq ?_
  refine J.region ?_
  refine J.q rfl rfl (Q.mv rfl) ?_
  refine J.q rfl rfl (Q.lenSl Try.runUnderlying28 rfl) ?_
  refine J.q rfl rfl (Q.mv rfl) ?_
  refine J.q rfl rfl (Q.lenSl Try.runUnderlying28 rfl) ?_
  refine J.q rfl rfl (Q.neq rfl rfl) ?_
  refine J.q rfl rfl (Q.mv rfl) ?_
  refine J.cases 21 rfl (fun hb21 => ?_) (fun hb21 => ?_)
  ·
    simp at hb21
  ·
    skip
    refine J.q rfl rfl (Q.mv rfl) ?_
    refine J.call Try.call46 (born_spec pa a) [4] rfl rfl rfl rfl ?_
    rintro _ _ ⟨rfl, rfl⟩
    refine J.norm rfl ?_
    refine J.q rfl rfl (Q.mv rfl) ?_
    refine J.call Try.call46 (born_spec pb b) [2] rfl rfl rfl rfl ?_
    rintro _ _ ⟨rfl, rfl⟩
    refine J.norm rfl ?_
    rw [← h.born]
    refine J.q rfl rfl (Q.neq rfl rfl) ?_
    refine J.q rfl rfl (Q.pick_f rfl rfl) ?_
    refine J.nil ?_
    refine J.then_n ?_
    refine J.cond rfl (fun hc27 => ?_) (fun hc27 => ?_)
    ·
      simp at hc27
    ·
      first | replace hc27 := X.tt_dec hc27 | replace hc27 := X.tt_not hc27 | replace hc27 := X.ff_dec hc27 | replace hc27 := X.ff_not hc27 | skip
      refine J.cskip ?_
      refine J.then_n ?_
      refine J.seq ?_
      refine J.seq ?_
      refine J.pick [4, 2, 1, 0, 3] rfl ?_
      refine J.norm rfl ?_
      refine J.slr1 0 rfl fun hs5 => ?_
      refine J.slr1 1 rfl fun hs6 => ?_
      refine J.region ?_
      refine J.q rfl rfl (Q.asg rfl) ?_
      refine J.nil ?_
      refine J.then_n ?_
      refine J.block ?_
      refine J.loop (fun k : Nat => k ≤ (a.list []).length) (fun k => (a.list []).length - k) (fun k => [(0, .pointer (some ⟨pa, 0, none⟩)), (1, .pointer (some ⟨pb, 0, none⟩)), (5, .slice sp5 (a.list []).length sc5), (6, .slice sp6 (a.list []).length sc6), (7, .int .i64 k)])
        (fun _ => [own 9 1 (.slice sp5 (a.list []).length sc5) ((a.list []).map encStr), own 9 1 (.slice sp6 (a.list []).length sc6) ((a.list []).map encStr), DiskAt pa a, DiskAt pb b, F]) 0 (Nat.zero_le _) ⟨rfl, rfl, rfl, rfl, rfl, trivial⟩ rfl fun k hk => ?_
      refine J.seq ?_
      refine J.seq ?_
      refine J.region ?_
      refine J.q rfl rfl (Q.mv rfl) ?_
      refine J.q rfl rfl (Q.mv rfl) ?_
      refine J.q rfl rfl (Q.lenSl Try.runUnderlying28 rfl) ?_
      refine J.q rfl rfl (Q.lss rfl rfl) ?_
      refine J.nil ?_
      refine J.then_n ?_
      refine J.cond rfl (fun hc31 => ?_) (fun hc31 => ?_)
      ·
        first | replace hc31 := X.tt_dec hc31 | replace hc31 := X.tt_not hc31 | replace hc31 := X.ff_dec hc31 | replace hc31 := X.ff_not hc31 | skip
        refine J.cskip ?_
        refine J.then_n ?_
        refine J.seq ?_
        refine J.block ?_
        refine J.seq ?_
        obtain ⟨b5, off5, rfl, hrd5⟩ := hs5.some_ (by omega)
        obtain ⟨b6, off6, rfl, hrd6⟩ := hs6.some_ (by omega)
        obtain ⟨n, hn⟩ : ∃ n, (a.list [])[k]? = some n := ⟨_, List.getElem?_eq_getElem (by omega)⟩
        refine J.region ?_
        refine J.q rfl rfl (Q.mv rfl) ?_
        refine J.q rfl rfl (Q.mv rfl) ?_
        refine J.q rfl rfl (Q.mv rfl) ?_
        refine J.q rfl rfl (Q.ia Try.runUnderlying28 Try.sizeOf9 rfl rfl (by omega) (by omega)) ?_
        refine J.q rfl rfl (Q.ld Try.isAgg9 rfl (((hrd5 k (encStr n) (by simp [hn])).within (i := 0) rfl).cast (by simp))) ?_
        refine J.call Try.call12 (read_spec pa a ha ⟨n.toArray⟩) [2] rfl rfl rfl rfl ?_
        rintro _ _ ⟨p40, c40, rfl, rfl⟩
        refine J.norm rfl ?_
        refine J.q rfl rfl (Q.mv rfl) ?_
        refine J.q rfl rfl (Q.ext rfl rfl) ?_
        refine J.q rfl rfl (Q.ext rfl rfl) ?_
        refine J.q rfl rfl (Q.asg rfl) ?_
        refine J.q rfl rfl (Q.asg rfl) ?_
        refine J.nil ?_
        refine J.then_n ?_
        refine J.seq ?_
        refine J.region ?_
        refine J.q rfl rfl (Q.mv rfl) ?_
        refine J.q rfl rfl (Q.mv rfl) ?_
        refine J.q rfl rfl (Q.mv rfl) ?_
        refine J.q rfl rfl (Q.ia Try.runUnderlying28 Try.sizeOf9 rfl rfl (by omega) (by omega)) ?_
        refine J.q rfl rfl (Q.ld Try.isAgg9 rfl (((hrd5 k (encStr n) (by simp [hn])).within (i := 2) rfl).cast (by simp))) ?_
        refine J.call Try.call12 (read_spec pb b hb ⟨n.toArray⟩) [4] rfl rfl rfl rfl ?_
        rintro _ _ ⟨p49, c49, rfl, rfl⟩
        refine J.norm rfl ?_
        rw [← h.bytes]
        refine J.q rfl rfl (Q.mv rfl) ?_
        refine J.q rfl rfl (Q.ext rfl rfl) ?_
        refine J.q rfl rfl (Q.ext rfl rfl) ?_
        refine J.q rfl rfl (Q.asg rfl) ?_
        refine J.q rfl rfl (Q.asg rfl) ?_
        refine J.nil ?_
        refine J.then_n ?_
        refine J.seq ?_
        refine J.slr1 0 rfl fun hs49 => ?_
        refine J.slr1 2 rfl fun hs40 => ?_
        refine J.draw [22, 28] Try.mixed (by kernel_rfl) fun hR => ?_
        refine RG.q 0 hR rfl rfl rfl rfl rfl rfl (Q.mv rfl) ?_
        refine RG.q 1 hR rfl rfl rfl rfl rfl rfl (Q.mv rfl) ?_
        refine RG.q 2 hR rfl rfl rfl rfl rfl rfl (Q.ia Try.runUnderlying28 Try.sizeOf9 rfl rfl (by omega) (by omega)) ?_
        refine RG.q 3 hR rfl rfl rfl rfl rfl rfl (Q.ld Try.isAgg9 rfl (((hrd5 k (encStr n) (by simp [hn])).within (i := 4) rfl).cast (by simp))) ?_
        refine RG.q 4 hR rfl rfl rfl rfl rfl rfl (Q.mv rfl) ?_
        refine RG.q 5 hR rfl rfl rfl rfl rfl rfl (Q.mv rfl) ?_
        refine RG.q 6 hR rfl rfl rfl rfl rfl rfl (Q.ia Try.runUnderlying28 Try.sizeOf9 rfl rfl (by omega) (by omega)) ?_
        refine RG.q 7 hR rfl rfl rfl rfl rfl rfl (Q.ld Try.isAgg9 rfl (((hrd6 k (encStr n) (by simp [hn])).within (i := 5) rfl).cast (by simp))) ?_
        refine RG.q 8 hR rfl rfl rfl rfl rfl rfl (Q.neqs rfl rfl) ?_
        refine RG.q 9 hR rfl rfl rfl rfl rfl rfl (Q.mv rfl) ?_
        refine RG.cases 61 rfl (fun hb61 => ?_) (fun hb61 => ?_)
        ·
          simp at hb61
        ·
          skip
          refine RG.q 10 hR rfl rfl rfl rfl rfl rfl (Q.mv rfl) ?_
          refine RG.q 11 hR rfl rfl rfl rfl rfl rfl (Q.b2s (bs := a.bytes ⟨n.toArray⟩) Try.runUnderlying30 Try.runUnderlying9 Try.runUnderlying5 rfl (hs40.within (i := 2) rfl)) ?_
          refine RG.q 12 hR rfl rfl rfl rfl rfl rfl (Q.mv rfl) ?_
          refine RG.q 13 hR rfl rfl rfl rfl rfl rfl (Q.b2s (bs := a.bytes ⟨n.toArray⟩) Try.runUnderlying30 Try.runUnderlying9 Try.runUnderlying5 rfl (hs49.within (i := 0) rfl)) ?_
          refine RG.q 14 hR rfl rfl rfl rfl rfl rfl (Q.neqs rfl rfl) ?_
          refine RG.q 15 hR rfl rfl rfl rfl rfl rfl (Q.pick_f rfl rfl) ?_
          refine RG.q 16 hR rfl rfl rfl rfl rfl rfl (Q.mv rfl) ?_
          refine RG.cases 68 rfl (fun hb68 => ?_) (fun hb68 => ?_)
          ·
            simp at hb68
          ·
            skip
            refine RG.q 17 hR rfl rfl rfl rfl rfl rfl (Q.mv rfl) ?_
            refine RG.q 18 hR rfl rfl rfl rfl rfl rfl (Q.mv rfl) ?_
            refine RG.q 19 hR rfl rfl rfl rfl rfl rfl (Q.mv rfl) ?_
            refine RG.q 20 hR rfl rfl rfl rfl rfl rfl (Q.ia Try.runUnderlying28 Try.sizeOf9 rfl rfl (by omega) (by omega)) ?_
            refine RG.q 21 hR rfl rfl rfl rfl rfl rfl (Q.ld Try.isAgg9 rfl (((hrd5 k (encStr n) (by simp [hn])).within (i := 4) rfl).cast (by simp))) ?_
            refine RG.q 23 hR rfl rfl rfl rfl rfl rfl (Q.mv rfl) ?_
            refine RG.q 24 hR rfl rfl rfl rfl rfl rfl (Q.mv rfl) ?_
            refine RG.q 25 hR rfl rfl rfl rfl rfl rfl (Q.mv rfl) ?_
            refine RG.q 26 hR rfl rfl rfl rfl rfl rfl (Q.ia Try.runUnderlying28 Try.sizeOf9 rfl rfl (by omega) (by omega)) ?_
            refine RG.q 27 hR rfl rfl rfl rfl rfl rfl (Q.ld Try.isAgg9 rfl (((hrd5 k (encStr n) (by simp [hn])).within (i := 4) rfl).cast (by simp))) ?_
            refine RG.callk 22 hR rfl rfl rfl rfl rfl Try.call22 (unsynced_spec pa a ha ⟨n.toArray⟩) [3] rfl rfl ?_
            rintro _ _ ⟨rfl, rfl⟩
            refine ⟨_, X.pick_perm (is := [1, 2, 3, 0, 4, 5, 6]) rfl, ?_⟩
            refine RG.call 28 hR rfl rfl rfl rfl rfl rfl Try.call22 (unsynced_spec pb b hb ⟨n.toArray⟩) [1] rfl rfl ?_
            rintro _ _ ⟨rfl, rfl⟩
            refine RG.norm rfl ?_
            rw [← h.unsynced]
            refine RG.q 29 hR rfl rfl rfl rfl rfl rfl (Q.neq rfl rfl) ?_
            refine RG.q 30 hR rfl rfl rfl rfl rfl rfl (Q.pick_f rfl rfl) ?_
            refine RG.fin hR rfl ?_
            refine J.norm rfl ?_
            refine J.then_n ?_
            refine J.cond rfl (fun hc82 => ?_) (fun hc82 => ?_)
            ·
              simp at hc82
            ·
              first | replace hc82 := X.tt_dec hc82 | replace hc82 := X.tt_not hc82 | replace hc82 := X.ff_dec hc82 | replace hc82 := X.ff_not hc82 | skip
              refine J.cskip ?_
              refine J.blk_n ?_
              refine J.then_n ?_
              refine J.region ?_
              refine J.q rfl rfl (Q.mv rfl) ?_
              refine J.q rfl rfl (Q.add64 rfl rfl (by omega)) ?_
              refine J.q rfl rfl (Q.asg rfl) ?_
              refine J.nil ?_
              refine J.keep [4, 5, 3, 0, 6] rfl ?_
              refine J.again (k + 1) (by show k + 1 ≤ _; omega) (by show (a.list []).length - (k + 1) < (a.list []).length - k; omega) ⟨rfl, rfl, rfl, rfl, rfl, trivial⟩ rfl
      ·
        first | replace hc31 := X.tt_dec hc31 | replace hc31 := X.tt_not hc31 | replace hc31 := X.ff_dec hc31 | replace hc31 := X.ff_not hc31 | skip
        refine J.exit ?_
        refine J.then_x ?_
        refine J.lp_x ?_
        refine J.blk_x ?_
        refine J.then_n ?_
        refine J.seq ?_
        refine J.region ?_
        refine J.q rfl rfl (Q.asg rfl) ?_
        refine J.nil ?_
        refine J.then_n ?_
        refine J.cret ?_
        refine J.keep [2, 3, 4] rfl ?_
        refine J.ret1 (B := [DiskAt pa a, DiskAt pb b]) rfl rfl ⟨rfl, rfl⟩ rfl

end Go.Proofs.Ytkekcdcmmggbaaa
