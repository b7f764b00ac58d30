/-
  Plays: what acts keep; a play on a disk.
-/
import Derived.Test.YtkekcdcmmggbaaaLawB
namespace Go.Proofs.Ytkekcdcmmggbaaa
open Go.X

/-- A disk within bounds: so many files, so often born, at the most. -/
structure Dk (k : Nat) (d : DM) : Prop where
  wf : d.wf
  len : d.files.length ≤ k
  born : d.born ≤ k

theorem Dk.mono {k m : Nat} {d : DM} (h : Dk k d) (hk : k ≤ m) : Dk m d := ⟨h.wf, Nat.le_trans h.len hk, Nat.le_trans h.born hk⟩
theorem Dk.rwf {k : Nat} {r : DM} (h : Dk k r) (hs : Srt r.files) (hk : k ≤ 1000000) : RWf r := ⟨h.wf, hs, Nat.le_trans h.len hk⟩

theorem Dk.step {k : Nat} {d : DM} (h : Dk k d) (hk : k < 1000000) (x : AM) : Dk (k + 1) (stepD d x) ∧ (stepD d x).size = d.size := by
  have hl := h.len
  have hb := h.born
  have hb' : d.born < 1000000 := by omega
  unfold stepD
  split
  · refine ⟨⟨wf_append h.wf _ _, Nat.le_trans (len_append _ _ _) (by omega), ?_⟩, ?_⟩ <;> unfold DM.append <;> repeat' split
    all_goals first | omega | rfl | exact Nat.le_succ_of_le hb
  · split
    · refine ⟨⟨wf_sync h.wf _, by rw [len_sync]; omega, ?_⟩, ?_⟩ <;> unfold DM.sync <;> split
      all_goals first | exact Nat.le_succ_of_le hb | rfl
    · split
      · refine ⟨⟨wf_rename h.wf _ _, Nat.le_trans (len_rename _ _ _) (by omega), ?_⟩, ?_⟩ <;> unfold DM.rename <;> repeat' split
        all_goals first | exact Nat.le_succ_of_le hb | rfl
      · split
        · refine ⟨⟨wf_delete h.wf _, Nat.le_trans (len_delete _ _) (by omega), ?_⟩, ?_⟩ <;> unfold DM.delete <;> split
          all_goals first | exact Nat.le_succ_of_le hb | rfl
        · split
          · exact ⟨⟨wf_crash h.wf _, by rw [len_crash]; omega, Nat.le_succ_of_le hb⟩, rfl⟩
          · split
            · exact ⟨⟨wf_lose h.wf hb', by simp [DM.lose], by show d.born + 1 ≤ k + 1; omega⟩, rfl⟩
            · exact ⟨h.mono (Nat.le_succ k), rfl⟩

theorem mem_rins {f g : FM} {l : List FM} (h : g ∈ rins f l) : g = f ∨ g ∈ l := by
  unfold rins at h; split at h
  · exact mem_fset h
  · rcases List.mem_append.1 h with h | h
    · exact .inr (List.mem_of_mem_take h)
    · rcases List.mem_cons.1 h with h | h
      · exact .inl h
      · exact .inr (List.mem_of_mem_drop h)
theorem len_rins (f : FM) (l : List FM) : (rins f l).length ≤ l.length + 1 := by
  unfold rins; split
  · rw [len_fset]; omega
  · simp only [List.length_append, List.length_cons, List.length_take, List.length_drop]; omega
theorem syOf_le {n : ByteArray} {l : List FM} (h : ∀ f, f ∈ l → f.sy ≤ f.bs.length) : syOf n l ≤ (bytesOf n l).length := by
  unfold syOf bytesOf; split
  · rename_i f hf; exact h f (fget_mem hf)
  · exact Nat.zero_le _

theorem wf_rappend {d : DM} (hd : d.wf) (hs : Srt d.files) (n : ByteArray) (bs : List UInt8) : (d.rappend n bs).2.wf ∧ Srt (d.rappend n bs).2.files ∧ (d.rappend n bs).2.files.length ≤ d.files.length + 1 := by
  unfold DM.rappend
  split
  · exact ⟨hd, hs, Nat.le_succ _⟩
  · split
    · exact ⟨hd, hs, Nat.le_succ _⟩
    · have h1 := sum_rins (f := ⟨n, bytesOf n d.files ++ bs, syOf n d.files⟩) (l := d.files)
      simp only [List.length_append] at h1
      refine ⟨⟨srt_nodup (srt_rins hs), ?_, ?_, hd.size, hd.born⟩, srt_rins hs, len_rins _ _⟩
      · intro g hg
        rcases mem_rins hg with rfl | hg
        · have := syOf_le (n := n) hd.sy; simp only [List.length_append]; omega
        · exact hd.sy g hg
      · rename_i h; unfold DM.used at h ⊢; simp only at h1 ⊢; omega
theorem wf_rrename {d : DM} (hd : d.wf) (hs : Srt d.files) (a b : ByteArray) : (d.rrename a b).2.wf ∧ Srt (d.rrename a b).2.files ∧ (d.rrename a b).2.files.length ≤ d.files.length + 1 := by
  unfold DM.rrename
  split
  · exact ⟨hd, hs, Nat.le_succ _⟩
  · rename_i f hf
    split
    · exact ⟨hd, hs, Nat.le_succ _⟩
    · split
      · exact ⟨hd, hs, Nat.le_succ _⟩
      · have h1 := sum_rins (f := ⟨b, f.bs, f.sy⟩) (l := fdel a d.files)
        have h2 := lenSum_fdel hf
        have hu := hd.used
        refine ⟨⟨srt_nodup (srt_rins (srt_fdel hs)), ?_, ?_, hd.size, hd.born⟩, srt_rins (srt_fdel hs), Nat.le_trans (len_rins _ _) (Nat.succ_le_succ (fdel_sub _ _).length_le)⟩
        · intro g hg
          rcases mem_rins hg with rfl | hg
          · exact hd.sy f (fget_mem hf)
          · exact hd.sy g ((fdel_sub _ _).mem hg)
        · unfold DM.used at hu ⊢; simp only at h1 ⊢; omega
theorem crashR_names (picks : List Int) (l : List FM) : (crashR picks l).map (·.name) = l.map (·.name) := by
  apply List.ext_getElem?
  intro i
  unfold crashR
  rw [List.getElem?_map, List.getElem?_map, List.getElem?_mapIdx]
  cases l[i]? <;> rfl
theorem mem_crashR {picks : List Int} {l : List FM} {g : FM} (h : g ∈ crashR picks l) : ∃ (i : Nat) (f : FM), l[i]? = some f ∧ g = cr1 f picks[i]? := by
  obtain ⟨i, hi⟩ := List.getElem?_of_mem h
  unfold crashR at hi
  rw [List.getElem?_mapIdx] at hi
  cases e : l[i]? with
  | none => rw [e] at hi; cases hi
  | some f => rw [e] at hi; exact ⟨i, f, e, (Option.some.inj hi).symm⟩
theorem lenSum_le_of {l m : List FM} (h : m.length = l.length) (hi : ∀ (i : Nat) f g, l[i]? = some f → m[i]? = some g → g.bs.length ≤ f.bs.length) : lenSum m ≤ lenSum l := by
  induction l generalizing m with
  | nil => have : m = [] := List.length_eq_zero_iff.1 h; subst this; exact Nat.le_refl _
  | cons f l ih =>
    cases m with
    | nil => simp at h
    | cons g m =>
      have h1 := hi 0 f g rfl rfl
      have h2 := ih (m := m) (by simpa using h) (fun i f g a b => hi (i + 1) f g (by simpa using a) (by simpa using b))
      simp only [lenSum]; omega
theorem wf_rcrash {d : DM} (hd : d.wf) (hs : Srt d.files) (picks : List Int) : (d.rcrash picks).wf ∧ Srt (d.rcrash picks).files ∧ (d.rcrash picks).files.length = d.files.length := by
  have hn := crashR_names picks d.files
  have hl : (crashR picks d.files).length = d.files.length := by have := congrArg List.length hn; simpa using this
  refine ⟨⟨by show ((crashR picks d.files).map (·.name)).Nodup; rw [hn]; exact hd.names, ?_, ?_, hd.size, hd.born⟩, srt_names hn.symm hs, hl⟩
  · intro g hg
    obtain ⟨i, f, hf, rfl⟩ := mem_crashR hg
    have := keptOf_le f (hd.sy f (List.mem_of_getElem? hf)) picks[i]?
    simp only [cr1, List.length_take]; omega
  · refine Nat.le_trans (lenSum_le_of hl ?_) hd.used
    intro i f g hf hg
    have hg' : (crashR picks d.files)[i]? = some g := hg
    have : (crashR picks d.files)[i]? = some (cr1 f picks[i]?) := by unfold crashR; rw [List.getElem?_mapIdx, hf]; rfl
    rw [this] at hg'; cases hg'
    simp only [cr1, List.length_take]; omega

theorem Dk.stepR {k : Nat} {r : DM} (h : Dk k r) (hs : Srt r.files) (hk : k < 1000000) (x : AM) : Dk (k + 1) (stepR r x) ∧ Srt (stepR r x).files ∧ (stepR r x).size = r.size := by
  have hl := h.len
  have hb := h.born
  have hb' : r.born < 1000000 := by omega
  unfold Go.Proofs.Ytkekcdcmmggbaaa.stepR
  split
  · obtain ⟨h1, h2, h3⟩ := wf_rappend h.wf hs x.name x.bytes
    refine ⟨⟨h1, by omega, ?_⟩, h2, ?_⟩ <;> unfold DM.rappend <;> repeat' split
    all_goals first | exact Nat.le_succ_of_le hb | rfl
  · split
    · refine ⟨⟨wf_sync h.wf _, by rw [len_sync]; omega, ?_⟩, ?_, ?_⟩ <;> unfold DM.sync <;> split
      all_goals first | exact Nat.le_succ_of_le hb | rfl | exact srt_fsyncs _ hs | exact hs
    · split
      · obtain ⟨h1, h2, h3⟩ := wf_rrename h.wf hs x.name x.to_
        refine ⟨⟨h1, by omega, ?_⟩, h2, ?_⟩ <;> unfold DM.rrename <;> repeat' split
        all_goals first | exact Nat.le_succ_of_le hb | rfl
      · split
        · refine ⟨⟨wf_delete h.wf _, Nat.le_trans (len_delete _ _) (by omega), ?_⟩, ?_, ?_⟩ <;> unfold DM.delete <;> split
          all_goals first | exact Nat.le_succ_of_le hb | rfl | exact srt_fdels _ hs | exact hs
        · split
          · obtain ⟨h1, h2, h3⟩ := wf_rcrash h.wf hs x.picks
            exact ⟨⟨h1, by omega, Nat.le_succ_of_le hb⟩, h2, rfl⟩
          · split
            · exact ⟨⟨wf_lose h.wf hb', by simp [DM.lose], by show r.born + 1 ≤ k + 1; omega⟩, List.Pairwise.nil, rfl⟩
            · exact ⟨h.mono (Nat.le_succ k), hs, rfl⟩

def playD (d : DM) (l : List AW) : DM := l.foldl (fun d x => stepD d x.a) d

theorem Dk.new (n : Nat) (h : n ≤ 1073741824) : Dk 0 ⟨n, 0, []⟩ := ⟨⟨by simp, by simp, by simp [DM.used, lenSum], h, by simp⟩, by simp, by simp⟩

theorem play_spec (p : Nat) (d : DM) (hd : Dk 10000 d) (G : Assn) (lp : Option Addr) (ln lc : Nat) (l : List AW) (hl : Acts G lp ln lc l) (hn : ln ≤ 500) :
    FSpec Try.prog 25 [.pointer (some ⟨p, 0, none⟩), .slice lp ln lc] [DiskAt p d, G] (fun v B => v = .tuple #[] ∧ B = [DiskAt p (playD d l), G]) := by
  refine FSpec.of Try.func25 rfl Try.ntmps25 rfl fun W0 F => ?_
  refine J.seq ?_
  refine J.region ?_
  refine J.call Try.call18 (rnew_yes 1048576 (by omega) (by omega)) [] rfl rfl rfl rfl ?_
  rintro _ _ ⟨q, rfl, rfl⟩
  refine J.norm rfl ?_
  refine J.q rfl rfl (Q.mv rfl) ?_
  refine J.q rfl rfl (Q.ext rfl rfl) ?_
  refine J.q rfl rfl (Q.ext rfl rfl) ?_
  refine J.q rfl rfl (Q.asg rfl) ?_
  refine J.q rfl rfl (Q.asg rfl) ?_
  refine J.nil ?_
  refine J.then_n ?_
  refine J.seq ?_
  refine J.region ?_
  refine J.q rfl rfl (Q.asg rfl) ?_
  refine J.nil ?_
  refine J.then_n ?_
  refine J.block ?_
  have hlen := hl.len
  refine J.loop (fun z : Nat × DM × DM => z.1 ≤ ln ∧ z.2.1 = playD d (l.take z.1) ∧ Dk (10000 + z.1) z.2.1 ∧ Dk z.1 z.2.2 ∧ Srt z.2.2.files) (fun z => ln - z.1) (fun z => [(0, .pointer (some ⟨p, 0, none⟩)), (1, .slice lp ln lc), (4, .pointer (some ⟨q, 0, none⟩)), (6, .int .i64 z.1)])
    (fun z => [RefAt q z.2.2, DiskAt p z.2.1, G, F]) (0, d, ⟨1048576, 0, []⟩) ⟨Nat.zero_le _, rfl, hd, Dk.new _ (by omega), List.Pairwise.nil⟩ ⟨rfl, rfl, rfl, rfl, trivial⟩ rfl fun z hz => ?_
  obtain ⟨k, d2, r2⟩ := z
  obtain ⟨hk, hd2, hdk, hrk, hrs⟩ := hz
  dsimp only at hk hd2 hdk hrk hrs
  refine J.seq ?_
  refine J.seq ?_
  refine J.region ?_
  refine J.q rfl rfl (Q.mv rfl) ?_
  refine J.q rfl rfl (Q.mv rfl) ?_
  refine J.q rfl rfl (Q.lenSl Try.runUnderlying39 rfl) ?_
  refine J.q rfl rfl (Q.lss rfl rfl) ?_
  refine J.nil ?_
  refine J.then_n ?_
  refine J.cond rfl (fun hc14 => ?_) (fun hc14 => ?_)
  ·
    first | replace hc14 := X.tt_dec hc14 | replace hc14 := X.tt_not hc14 | replace hc14 := X.ff_dec hc14 | replace hc14 := X.ff_not hc14 | skip
    refine J.cskip ?_
    refine J.then_n ?_
    refine J.seq ?_
    refine J.block ?_
    refine J.region ?_
    refine J.q rfl rfl (Q.mv rfl) ?_
    refine J.q rfl rfl (Q.mv rfl) ?_
    refine J.q rfl rfl (Q.mv rfl) ?_
    refine J.q rfl rfl (Q.mv rfl) ?_
    obtain ⟨b, off, rfl, hrd⟩ := hl.rd.some_ (by omega)
    obtain ⟨x, hx⟩ : ∃ x, l[k]? = some x := ⟨_, List.getElem?_eq_getElem (by omega)⟩
    refine J.q rfl rfl (Q.ia Try.runUnderlying39 Try.sizeOf46 rfl rfl (by omega) (by omega)) ?_
    refine J.q rfl rfl (Q.ldN (vs := [_, _, _, _, _, _]) Try.isAgg46 Try.sizeOf46 rfl ((rd_elem AW.cells_length hrd hx (by simp)).within (i := 2) rfl)) ?_
    refine J.call Try.call19 (step_spec p q d2 r2 hdk.wf (by have := hdk.len; omega) (hrk.rwf hrs (by omega)) (by have := hrk.born; omega) G x (hl.ok x (List.mem_of_getElem? hx))) [1, 0, 2] rfl rfl rfl rfl ?_
    rintro _ _ ⟨rfl, rfl⟩
    refine J.norm rfl ?_
    refine J.nil ?_
    refine J.blk_n ?_
    refine J.then_n ?_
    refine J.region ?_
    refine J.q rfl rfl (Q.mv rfl) ?_
    refine J.q rfl rfl (Q.add64 rfl rfl (by omega)) ?_
    refine J.q rfl rfl (Q.asg rfl) ?_
    refine J.nil ?_
    refine J.pick [1, 0, 2, 3] rfl ?_
    refine J.again (k + 1, stepD d2 x.a, stepR r2 x.a) ⟨by show k + 1 ≤ ln; omega, by rw [hd2]; exact (foldl_take (fun d (x : AW) => stepD d x.a) d hx).symm, (hdk.step (by omega) x.a).1, (hrk.stepR hrs (by omega) x.a).1, (hrk.stepR hrs (by omega) x.a).2.1⟩ (by show ln - (k + 1) < ln - k; omega) ⟨rfl, rfl, rfl, rfl, trivial⟩ rfl
  ·
    first | replace hc14 := X.tt_dec hc14 | replace hc14 := X.tt_not hc14 | replace hc14 := X.ff_dec hc14 | replace hc14 := X.ff_not hc14 | skip
    refine J.exit ?_
    refine J.then_x ?_
    refine J.lp_x ?_
    refine J.blk_x ?_
    rw [List.take_of_length_le (by omega)] at hd2
    rw [hd2]
    refine J.keep [1, 2, 3] rfl ?_
    refine J.end0 (B := [DiskAt p (playD d l), G]) rfl ⟨rfl, rfl⟩ rfl

end Go.Proofs.Ytkekcdcmmggbaaa
