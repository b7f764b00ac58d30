/-
  DiskFronts: behind a crash each file has a front of what it had, with all that was synced.
-/
import Derived.Test.YtkekcdcmmggbaaaPlays
namespace Go.Proofs.Ytkekcdcmmggbaaa
open Go.X

theorem list_of_names {d e : DM} (h : d.files.map (·.name) = e.files.map (·.name)) (pre : List ByteArray) : d.list pre = e.list pre := by
  unfold DM.list; rw [h]
theorem crash_names (d : DM) (hd : d.wf) (picks : List Int) : (d.crash picks).files.map (·.name) = d.files.map (·.name) := (crash_keeps (d.list []) picks d.files hd.sy (d.list []).length).2.2.1
theorem crash_used (d : DM) (hd : d.wf) (picks : List Int) : (d.crash picks).used ≤ d.used := (crash_keeps (d.list []) picks d.files hd.sy (d.list []).length).2.1

/-- What a crash leaves of a file. -/
theorem crash_front {d r : DM} (h : Alk d r) (hd : d.wf) (hr : r.wf) (hs : Srt r.files) (picks : List Int) {n : ByteArray} {f : FM} (hf : fget n d.files = some f) : ∃ k, f.sy ≤ k ∧ k ≤ f.bs.length ∧ fget n (d.crash picks).files = some ⟨n, f.bs.take k, k⟩ := by
  have hL : d.list [] = r.files.map (·.name.data.toList) := by rw [list_eq h hd hr hs, selN_nil, List.map_map]; rfl
  have hq : Fq (crashN (d.list []) picks (d.list []).length d.files) (crashR picks r.files) := by rw [hL]; exact h.fq.crash hr.names picks
  have hfr : fget n r.files = some f := by rw [← h.files]; exact hf
  have hnm := fget_name hfr
  subst hnm
  obtain ⟨i, hi⟩ := List.getElem?_of_mem (fget_mem hfr)
  have hk := keptOf_le f (hr.sy f (fget_mem hfr)) picks[i]?
  refine ⟨keptOf f picks[i]?, hk.1, hk.2, ?_⟩
  show fget f.name (crashN (d.list []) picks (d.list []).length d.files) = _
  rw [hq]; exact (crashR_get hr.names picks).1 i f hi

/-- A second crash finds all synced. -/
theorem crash_again {d r : DM} (h : Alk d r) (hd : d.wf) (hr : r.wf) (hs : Srt r.files) (picks : List Int) : (((d.crash picks).crash picks)).used = (d.crash picks).used := by
  have hc := wf_crash hd picks
  have hcc := wf_crash hc picks
  have hal : Alk ((d.crash picks).crash picks) (d.crash picks) := by
    refine ⟨rfl, rfl, fun n => ?_⟩
    cases e : fget n (d.crash picks).files with
    | none => rw [fget_none_iff, crash_names _ hc]; exact fget_none_iff.1 e
    | some f =>
      cases e0 : fget n d.files with
      | none =>
        rw [fget_none_iff, ← crash_names _ hd picks] at e0
        rw [fget_none_iff.2 e0] at e; cases e
      | some g =>
        obtain ⟨k, h1, h2, h3⟩ := crash_front h hd hr hs picks e0
        have hk : (g.bs.take k).length = k := by rw [List.length_take]; omega
        rw [e] at h3
        have h4 : fget n (d.crash picks).files = some ⟨n, g.bs.take k, (g.bs.take k).length⟩ := by rw [e, h3, hk]
        have := crash_synced h4 picks
        rw [this, ← h4]; exact e
  exact hal.used hcc hc

theorem fronts_spec (G : Assn) (lp : Option Addr) (ln lc : Nat) (l : List AW) (hl : Acts G lp ln lc l) (pp : Option Addr) (pn pc : Nat) (picks : List Int) (hp : SlR [G] 1 (.slice pp pn pc) (picks.map (Value.int .i64))) (hpn : pn ≤ 1048576) (hpr : ∀ v, v ∈ picks → -9223372036854775808 ≤ v ∧ v ≤ 9223372036854775807) :
    FSpec Try.prog 5 [.slice lp ln lc, .slice pp pn pc] [G] (fun v B => v = .bool true ∧ B = [G]) := by
  refine FSpec.of Try.func5 rfl Try.ntmps5 rfl fun W0 F => ?_
  refine J.seq ?_
  refine J.region ?_
  refine J.q rfl rfl (Q.asg rfl) ?_
  refine J.nil ?_
  refine J.then_n ?_
  refine J.seq ?_
  refine J.seq ?_
  refine J.region ?_
  refine J.call Try.call8 (known_spec) [] rfl rfl rfl rfl ?_
  rintro _ _ ⟨rfl, rfl⟩
  refine J.norm rfl ?_
  refine J.q rfl rfl (Q.not rfl) ?_
  refine J.nil ?_
  refine J.then_n ?_
  refine J.cond rfl (fun hc21 => ?_) (fun hc21 => ?_)
  ·
    cases hc21
  ·
    first | replace hc21 := X.tt_dec hc21 | replace hc21 := X.tt_not hc21 | replace hc21 := X.ff_dec hc21 | replace hc21 := X.ff_not hc21 | skip
    refine J.cskip ?_
    refine J.then_n ?_
    refine J.seq ?_
    refine J.seq ?_
    refine J.region ?_
    refine J.q rfl rfl (Q.mv rfl) ?_
    refine J.call Try.call17 (few_spec G lp ln lc l hl) [0] rfl rfl rfl rfl ?_
    rintro _ _ ⟨rfl, rfl⟩
    refine J.norm rfl ?_
    refine J.q rfl rfl (Q.not rfl) ?_
    refine J.q rfl rfl (Q.mv rfl) ?_
    refine J.cases 25 rfl (fun hb25 => ?_) (fun hb25 => ?_)
    ·
      first | replace hb25 := X.tt_dec hb25 | replace hb25 := X.tt_not hb25 | replace hb25 := X.ff_dec hb25 | replace hb25 := X.ff_not hb25 | skip
      refine J.skip rfl rfl ?_
      refine J.skip rfl rfl ?_
      refine J.skip rfl rfl ?_
      refine J.q rfl rfl (Q.pick_t rfl rfl) ?_
      refine J.nil ?_
      refine J.then_n ?_
      refine J.cond_t rfl ?_
      refine J.seq ?_
      refine J.region ?_
      refine J.q rfl rfl (Q.asg rfl) ?_
      refine J.nil ?_
      refine J.then_n ?_
      refine J.cret ?_
      refine J.then_r ?_
      refine J.ret1 (B := [G]) rfl rfl ⟨rfl, rfl⟩ rfl
    ·
      first | replace hb25 := X.tt_dec hb25 | replace hb25 := X.tt_not hb25 | replace hb25 := X.ff_dec hb25 | replace hb25 := X.ff_not hb25 | skip
      refine J.q rfl rfl (Q.mv rfl) ?_
      refine J.q rfl rfl (Q.lenSl Try.runUnderlying22 rfl) ?_
      refine J.q rfl rfl (Q.gtr rfl rfl) ?_
      refine J.q rfl rfl (Q.pick_f rfl rfl) ?_
      refine J.nil ?_
      refine J.then_n ?_
      refine J.cond rfl (fun hc29 => ?_) (fun hc29 => ?_)
      ·
        first | replace hc29 := X.tt_dec hc29 | replace hc29 := X.tt_not hc29 | replace hc29 := X.ff_dec hc29 | replace hc29 := X.ff_not hc29 | skip
        refine J.seq ?_
        refine J.region ?_
        refine J.q rfl rfl (Q.asg rfl) ?_
        refine J.nil ?_
        refine J.then_n ?_
        refine J.cret ?_
        refine J.then_r ?_
        refine J.ret1 (B := [G]) rfl rfl ⟨rfl, rfl⟩ rfl
      ·
        first | replace hc29 := X.tt_dec hc29 | replace hc29 := X.tt_not hc29 | replace hc29 := X.ff_dec hc29 | replace hc29 := X.ff_not hc29 | skip
        refine J.cskip ?_
        refine J.then_n ?_
        refine J.seq ?_
        refine J.region ?_
        refine J.call Try.call9 (new_yes 1048576 (by decide) (by decide)) [] rfl rfl rfl rfl ?_
        rintro _ _ ⟨p0, rfl, rfl⟩
        refine J.norm rfl ?_
        refine J.q rfl rfl (Q.mv rfl) ?_
        refine J.q rfl rfl (Q.ext rfl rfl) ?_
        refine J.q rfl rfl (Q.ext rfl rfl) ?_
        refine J.q rfl rfl (Q.asg rfl) ?_
        refine J.q rfl rfl (Q.asg rfl) ?_
        refine J.nil ?_
        refine J.then_n ?_
        refine J.seq ?_
        refine J.seq ?_
        refine J.region ?_
        refine J.q rfl rfl (Q.mv rfl) ?_
        refine J.q rfl rfl (Q.neq rfl rfl) ?_
        refine J.q rfl rfl (Q.mv rfl) ?_
        refine J.cases 36 rfl (fun hb36 => ?_) (fun hb36 => ?_)
        ·
          simp at hb36
        ·
          skip
          refine J.q rfl rfl (Q.mv rfl) ?_
          refine J.q rfl rfl (Q.eqlp Try.runUnderlying24 rfl rfl) ?_
          refine J.q rfl rfl (Q.pick_f rfl rfl) ?_
          refine J.nil ?_
          refine J.then_n ?_
          refine J.cond rfl (fun hc39 => ?_) (fun hc39 => ?_)
          ·
            simp at hc39
          ·
            first | replace hc39 := X.tt_dec hc39 | replace hc39 := X.tt_not hc39 | replace hc39 := X.ff_dec hc39 | replace hc39 := X.ff_not hc39 | skip
            refine J.cskip ?_
            refine J.then_n ?_
            refine J.seq ?_
            refine J.region ?_
            refine J.call Try.call18 (rnew_yes 1048576 (by decide) (by decide)) [] rfl rfl rfl rfl ?_
            rintro _ _ ⟨q0, rfl, rfl⟩
            refine J.norm rfl ?_
            refine J.q rfl rfl (Q.mv rfl) ?_
            refine J.q rfl rfl (Q.ext rfl rfl) ?_
            refine J.q rfl rfl (Q.ext rfl rfl) ?_
            refine J.q rfl rfl (Q.asg rfl) ?_
            refine J.q rfl rfl (Q.asg rfl) ?_
            refine J.nil ?_
            refine J.then_n ?_
            refine J.seq ?_
            refine J.seq ?_
            refine J.region ?_
            refine J.q rfl rfl (Q.asg rfl) ?_
            refine J.nil ?_
            refine J.then_n ?_
            refine J.block ?_
            have hfew : fewV l = true := by simpa using hb25
            have hln : ln ≤ 500 := by
              unfold fewV at hfew
              simp only [Bool.and_eq_true, decide_eq_true_eq] at hfew
              have := hl.len; omega
            have hlen := hl.len
            refine J.loop (fun z : Nat × DM × DM => z.1 ≤ ln ∧ Dk z.1 z.2.1 ∧ Dk z.1 z.2.2 ∧ Srt z.2.2.files ∧ Alk z.2.1 z.2.2) (fun z => ln - z.1) (fun z => [(0, .slice lp ln lc), (1, .slice pp pn pc), (5, .pointer (some ⟨p0, 0, none⟩)), (7, .pointer (some ⟨q0, 0, none⟩)), (9, .int .i64 z.1)])
              (fun z => [RefAt q0 z.2.2, DiskAt p0 z.2.1, G, F]) (0, ⟨1048576, 0, []⟩, ⟨1048576, 0, []⟩) ⟨Nat.zero_le _, Dk.new _ (by decide), Dk.new _ (by decide), List.Pairwise.nil, Alk.rfl' _⟩ ⟨rfl, rfl, rfl, rfl, rfl, trivial⟩ rfl fun z hz => ?_
            obtain ⟨k, d, r⟩ := z
            obtain ⟨hk, hdk, hrk, hrs, halk⟩ := hz
            dsimp only at hk hdk hrk hrs halk
            have hdl := hdk.len
            refine J.seq ?_
            refine J.seq ?_
            refine J.region ?_
            refine J.q rfl rfl (Q.mv rfl) ?_
            refine J.q rfl rfl (Q.mv rfl) ?_
            refine J.q rfl rfl (Q.lenSl Try.runUnderlying39 rfl) ?_
            refine J.q rfl rfl (Q.lss rfl rfl) ?_
            refine J.nil ?_
            refine J.then_n ?_
            refine J.cond rfl (fun hc47 => ?_) (fun hc47 => ?_)
            ·
              first | replace hc47 := X.tt_dec hc47 | replace hc47 := X.tt_not hc47 | replace hc47 := X.ff_dec hc47 | replace hc47 := X.ff_not hc47 | skip
              refine J.cskip ?_
              refine J.then_n ?_
              refine J.seq ?_
              refine J.block ?_
              obtain ⟨b, off, rfl, hrd⟩ := hl.rd.some_ (by omega)
              obtain ⟨x, hx⟩ : ∃ x, l[k]? = some x := ⟨_, List.getElem?_eq_getElem (by omega)⟩
              have hxo := hl.ok x (List.mem_of_getElem? hx)
              obtain ⟨_, halk'⟩ := step_alk halk hdk.wf hrk.wf hrs x.a
              obtain ⟨hdk', _⟩ := hdk.step (by omega) x.a
              obtain ⟨hrk', hrs', _⟩ := hrk.stepR hrs (by omega) x.a
              refine J.region ?_
              refine J.q rfl rfl (Q.mv rfl) ?_
              refine J.q rfl rfl (Q.mv rfl) ?_
              refine J.q rfl rfl (Q.mv rfl) ?_
              refine J.q rfl rfl (Q.mv rfl) ?_
              refine J.q rfl rfl (Q.ia Try.runUnderlying39 Try.sizeOf46 rfl rfl (by omega) (by omega)) ?_
              refine J.q rfl rfl (Q.ldN (vs := [_, _, _, _, _, _]) Try.isAgg46 Try.sizeOf46 rfl ((rd_elem AW.cells_length hrd hx (by simp)).within (i := 2) rfl)) ?_
              refine J.call Try.call19 (step_spec p0 q0 d r hdk.wf (by omega) (hrk.rwf hrs (by omega)) (by have := hrk.born; omega) G x hxo) [1, 0, 2] rfl rfl rfl rfl ?_
              rintro _ _ ⟨rfl, rfl⟩
              refine J.norm rfl ?_
              refine J.nil ?_
              refine J.blk_n ?_
              refine J.then_n ?_
              refine J.region ?_
              refine J.q rfl rfl (Q.mv rfl) ?_
              refine J.q rfl rfl (Q.add64 rfl rfl (by omega)) ?_
              refine J.q rfl rfl (Q.asg rfl) ?_
              refine J.nil ?_
              refine J.keep [1, 0, 2, 3] rfl ?_
              refine J.again (k + 1, stepD d x.a, stepR r x.a) ⟨by show k + 1 ≤ ln; omega, hdk', hrk', hrs', halk'⟩ (by show ln - (k + 1) < ln - k; omega) ⟨rfl, rfl, rfl, rfl, rfl, trivial⟩ rfl
            ·
              first | replace hc47 := X.tt_dec hc47 | replace hc47 := X.tt_not hc47 | replace hc47 := X.ff_dec hc47 | replace hc47 := X.ff_not hc47 | skip
              refine J.exit ?_
              refine J.then_x ?_
              refine J.lp_x ?_
              refine J.blk_x ?_
              refine J.then_n ?_
              refine J.seq ?_
              refine J.region ?_
              refine J.q rfl rfl (Q.mv rfl) ?_
              refine J.call Try.call20 (twin_spec p0 d hdk.wf) [1] rfl rfl rfl rfl ?_
              rintro _ _ ⟨p2, d2, rfl, htw, rfl⟩
              refine J.norm rfl ?_
              have hwd := hdk.wf
              have ht2 := htw.alk hwd
              have hd2 := (htw.dk hdk)
              have hd2l := hd2.len
              refine J.q rfl rfl (Q.asg rfl) ?_
              refine J.nil ?_
              refine J.then_n ?_
              refine J.seq ?_
              refine J.region ?_
              refine J.q rfl rfl (Q.mv rfl) ?_
              refine J.q rfl rfl (Q.mv rfl) ?_
              refine J.call Try.call16 (crash_spec p0 d hwd (by omega) G pp pn pc picks hp (by omega) hpr) [1, 3] rfl rfl rfl rfl ?_
              rintro _ _ ⟨rfl, rfl⟩
              refine J.norm rfl ?_
              have hwc := wf_crash hwd picks
              have hcn := crash_names d hwd picks
              have hcu := crash_used d hwd picks
              have hcl : (d.crash picks).files.length = d.files.length := len_crash d picks
              refine J.nil ?_
              refine J.then_n ?_
              refine J.seq ?_
              refine J.region ?_
              refine J.q rfl rfl (Q.mv rfl) ?_
              refine J.call Try.call21 (list_spec p2 d2 G none 0 0 [] (.inl ⟨none, 0, rfl, rfl⟩) (by omega) (by omega)) [2, 1] rfl rfl rfl rfl ?_
              rintro _ _ ⟨sp11, sc11, rfl, rfl⟩
              refine J.norm rfl ?_
              have hL2 : d2.list [] = d.list [] := ht2.list hd2.wf hwd []
              rw [hL2]
              refine J.q rfl rfl (Q.asg rfl) ?_
              refine J.nil ?_
              refine J.then_n ?_
              refine J.seq ?_
              refine J.region ?_
              refine J.q rfl rfl (Q.mv rfl) ?_
              refine J.call Try.call21 (list_spec p0 (d.crash picks) G none 0 0 [] (.inl ⟨none, 0, rfl, rfl⟩) (by omega) (by omega)) [3, 2] rfl rfl rfl rfl ?_
              rintro _ _ ⟨sp12, sc12, rfl, rfl⟩
              refine J.norm rfl ?_
              have hLc : (d.crash picks).list [] = d.list [] := list_of_names hcn []
              have hll : (d.list []).length ≤ 1000 := Nat.le_trans (list_len d []) (by omega)
              rw [hLc]
              refine J.q rfl rfl (Q.asg rfl) ?_
              refine J.nil ?_
              refine J.then_n ?_
              refine J.seq ?_
              refine J.seq ?_
              refine J.region ?_
              refine J.q rfl rfl (Q.mv rfl) ?_
              refine J.q rfl rfl (Q.lenSl Try.runUnderlying28 rfl) ?_
              refine J.q rfl rfl (Q.mv rfl) ?_
              refine J.q rfl rfl (Q.lenSl Try.runUnderlying28 rfl) ?_
              refine J.q rfl rfl (Q.neq rfl rfl) ?_
              refine J.q rfl rfl (Q.mv rfl) ?_
              refine J.cases 71 rfl (fun hb71 => ?_) (fun hb71 => ?_)
              ·
                simp at hb71
              ·
                skip
                refine J.q rfl rfl (Q.mv rfl) ?_
                refine J.call Try.call11 (used_spec p0 (d.crash picks)) [1] rfl rfl rfl rfl ?_
                rintro _ _ ⟨rfl, rfl⟩
                refine J.norm rfl ?_
                refine J.q rfl rfl (Q.mv rfl) ?_
                refine J.call Try.call11 (used_spec p2 d2) [4] rfl rfl rfl rfl ?_
                rintro _ _ ⟨rfl, rfl⟩
                refine J.norm rfl ?_
                have hu2 := ht2.used hd2.wf hwd
                refine J.q rfl rfl (Q.gtr rfl rfl) ?_
                refine J.q rfl rfl (Q.pick_f rfl rfl) ?_
                refine J.nil ?_
                refine J.then_n ?_
                refine J.cond rfl (fun hc77 => ?_) (fun hc77 => ?_)
                ·
                  simp at hc77; omega
                ·
                  first | replace hc77 := X.tt_dec hc77 | replace hc77 := X.tt_not hc77 | replace hc77 := X.ff_dec hc77 | replace hc77 := X.ff_not hc77 | skip
                  refine J.cskip ?_
                  refine J.then_n ?_
                  refine J.seq ?_
                  refine J.seq ?_
                  refine J.pick [4, 2, 0, 1, 3, 5, 6] rfl ?_
                  refine J.norm rfl ?_
                  refine J.slr1 0 rfl fun hs11 => ?_
                  refine J.slr1 1 rfl fun hs12 => ?_
                  refine J.region ?_
                  refine J.q rfl rfl (Q.asg rfl) ?_
                  refine J.nil ?_
                  refine J.then_n ?_
                  refine J.block ?_
                  refine J.loop (fun j : Nat => j ≤ (d.list []).length) (fun j => (d.list []).length - j) (fun j => [(1, .slice pp pn pc), (5, .pointer (some ⟨p0, 0, none⟩)), (10, .pointer (some ⟨p2, 0, none⟩)), (11, .slice sp11 (d.list []).length sc11), (12, .slice sp12 (d.list []).length sc12), (13, .int .i64 j)])
                    (fun _ => [own 9 1 (.slice sp11 (d.list []).length sc11) ((d.list []).map encStr), own 9 1 (.slice sp12 (d.list []).length sc12) ((d.list []).map encStr), DiskAt p2 d2, DiskAt p0 (d.crash picks), G, RefAt q0 r, F]) 0 (Nat.zero_le _) ⟨rfl, rfl, rfl, rfl, rfl, rfl, trivial⟩ rfl fun j hj => ?_
                  refine J.seq ?_
                  refine J.seq ?_
                  refine J.region ?_
                  refine J.q rfl rfl (Q.mv rfl) ?_
                  refine J.q rfl rfl (Q.mv rfl) ?_
                  refine J.q rfl rfl (Q.lenSl Try.runUnderlying28 rfl) ?_
                  refine J.q rfl rfl (Q.lss rfl rfl) ?_
                  refine J.nil ?_
                  refine J.then_n ?_
                  refine J.cond rfl (fun hc81 => ?_) (fun hc81 => ?_)
                  ·
                    first | replace hc81 := X.tt_dec hc81 | replace hc81 := X.tt_not hc81 | replace hc81 := X.ff_dec hc81 | replace hc81 := X.ff_not hc81 | skip
                    refine J.cskip ?_
                    refine J.then_n ?_
                    refine J.seq ?_
                    refine J.block ?_
                    refine J.seq ?_
                    obtain ⟨b11, off11, rfl, hrd11⟩ := hs11.some_ (by omega)
                    obtain ⟨b12, off12, rfl, hrd12⟩ := hs12.some_ (by omega)
                    obtain ⟨n, hn⟩ : ∃ n, (d.list [])[j]? = some n := ⟨_, List.getElem?_eq_getElem (by omega)⟩
                    obtain ⟨f, hf⟩ : ∃ f, fget ⟨n.toArray⟩ d.files = some f := by
                      obtain ⟨f, hf1, hf2⟩ := list_mem (List.mem_of_getElem? hn)
                      exact Option.isSome_iff_exists.1 (fget_of_mem hf1 hf2)
                    have hf2 : fget ⟨n.toArray⟩ d2.files = some f := by rw [ht2.files]; exact hf
                    obtain ⟨m, hm1, hm2, hm3⟩ := crash_front halk hwd hrk.wf hrs picks hf
                    have hby2 : d2.bytes ⟨n.toArray⟩ = f.bs := by unfold DM.bytes; rw [hf2]
                    have hun2 : d2.unsynced ⟨n.toArray⟩ = (f.bs.length : Int) - f.sy := by unfold DM.unsynced; rw [hf2]
                    have hbyc : (d.crash picks).bytes ⟨n.toArray⟩ = f.bs.take m := by unfold DM.bytes; rw [hm3]
                    have hfoc : (d.crash picks).found ⟨n.toArray⟩ = 0 := by unfold DM.found; rw [hm3]
                    have htl : (f.bs.take m).length = m := by rw [List.length_take]; omega
                    have hunc : (d.crash picks).unsynced ⟨n.toArray⟩ = 0 := by unfold DM.unsynced; rw [hm3]; show ((f.bs.take m).length : Int) - m = 0; omega
                    have hfb := (hwd.len hf)
                    have hsz := hwd.size
                    refine J.region ?_
                    refine J.q rfl rfl (Q.mv rfl) ?_
                    refine J.q rfl rfl (Q.mv rfl) ?_
                    refine J.q rfl rfl (Q.mv rfl) ?_
                    refine J.q rfl rfl (Q.ia Try.runUnderlying28 Try.sizeOf9 rfl rfl (by omega) (by omega)) ?_
                    refine J.q rfl rfl (Q.ld Try.isAgg9 rfl (((hrd11 j (encStr n) (by simp [hn])).within (i := 0) rfl).cast (by simp))) ?_
                    refine J.call Try.call12 (read_spec p2 d2 hd2.wf ⟨n.toArray⟩) [2] rfl rfl rfl rfl ?_
                    rintro _ _ ⟨p90, c90, rfl, rfl⟩
                    refine J.norm rfl ?_
                    rw [hby2]
                    refine J.q rfl rfl (Q.mv rfl) ?_
                    refine J.q rfl rfl (Q.ext rfl rfl) ?_
                    refine J.q rfl rfl (Q.ext rfl rfl) ?_
                    refine J.q rfl rfl (Q.asg rfl) ?_
                    refine J.q rfl rfl (Q.asg rfl) ?_
                    refine J.nil ?_
                    refine J.then_n ?_
                    refine J.seq ?_
                    refine J.region ?_
                    refine J.q rfl rfl (Q.mv rfl) ?_
                    refine J.q rfl rfl (Q.mv rfl) ?_
                    refine J.q rfl rfl (Q.mv rfl) ?_
                    refine J.q rfl rfl (Q.ia Try.runUnderlying28 Try.sizeOf9 rfl rfl (by omega) (by omega)) ?_
                    refine J.q rfl rfl (Q.ld Try.isAgg9 rfl (((hrd11 j (encStr n) (by simp [hn])).within (i := 2) rfl).cast (by simp))) ?_
                    refine J.call Try.call12 (read_spec p0 (d.crash picks) hwc ⟨n.toArray⟩) [4] rfl rfl rfl rfl ?_
                    rintro _ _ ⟨p99, c99, rfl, rfl⟩
                    refine J.norm rfl ?_
                    rw [hbyc, hfoc, htl]
                    refine J.slr1 0 rfl fun hs99 => ?_
                    refine J.slr1 2 rfl fun hs90 => ?_
                    refine J.tells 2 rfl own.len fun hl90 => ?_
                    refine J.q rfl rfl (Q.mv rfl) ?_
                    refine J.q rfl rfl (Q.ext rfl rfl) ?_
                    refine J.q rfl rfl (Q.ext rfl rfl) ?_
                    refine J.q rfl rfl (Q.asg rfl) ?_
                    refine J.q rfl rfl (Q.asg rfl) ?_
                    refine J.nil ?_
                    refine J.then_n ?_
                    refine J.seq ?_
                    refine J.region ?_
                    refine J.q rfl rfl (Q.mv rfl) ?_
                    refine J.q rfl rfl (Q.lenSl Try.runUnderlying30 rfl) ?_
                    refine J.q rfl rfl (Q.mv rfl) ?_
                    refine J.q rfl rfl (Q.mv rfl) ?_
                    refine J.q rfl rfl (Q.mv rfl) ?_
                    refine J.q rfl rfl (Q.ia Try.runUnderlying28 Try.sizeOf9 rfl rfl (by omega) (by omega)) ?_
                    refine J.q rfl rfl (Q.ld Try.isAgg9 rfl (((hrd11 j (encStr n) (by simp [hn])).within (i := 4) rfl).cast (by simp))) ?_
                    refine J.call Try.call22 (unsynced_spec p2 d2 hd2.wf ⟨n.toArray⟩) [3] rfl rfl rfl rfl ?_
                    rintro _ _ ⟨rfl, rfl⟩
                    refine J.norm rfl ?_
                    rw [hun2]
                    refine J.q rfl rfl (Q.sub64 rfl rfl (by omega)) ?_
                    refine J.q rfl rfl (Q.asg rfl) ?_
                    refine J.nil ?_
                    refine J.then_n ?_
                    refine J.seq ?_
                    obtain ⟨hq141, hr141⟩ := slH_ (P := Try.prog) (T := 30) Try.runUnderlying30 Try.sizeOf5 hs90 (hi := m) (by omega) hl90.2
                    have hr141' : SlR [own 5 1 (.slice p90 f.bs.length c90) (bytesV f.bs)] 1 (.slice p90 m c90) (bytesV (f.bs.take m)) := by
                      have e : bytesV (f.bs.take m) = (bytesV f.bs).take (m * 1) := by simp [bytesV]
                      rw [e]; exact hr141
                    refine J.draw [42] Try.mixed (by kernel_rfl) fun hR => ?_
                    refine RG.q 0 hR rfl rfl rfl rfl rfl rfl (Q.mv rfl) ?_
                    refine RG.q 1 hR rfl rfl rfl rfl rfl rfl (Q.neq rfl rfl) ?_
                    refine RG.q 2 hR rfl rfl rfl rfl rfl rfl (Q.mv rfl) ?_
                    refine RG.cases 113 rfl (fun hb113 => ?_) (fun hb113 => ?_)
                    ·
                      simp at hb113
                    ·
                      skip
                      refine RG.q 3 hR rfl rfl rfl rfl rfl rfl (Q.mv rfl) ?_
                      refine RG.q 4 hR rfl rfl rfl rfl rfl rfl (Q.mv rfl) ?_
                      refine RG.q 5 hR rfl rfl rfl rfl rfl rfl (Q.ia Try.runUnderlying28 Try.sizeOf9 rfl rfl (by omega) (by omega)) ?_
                      refine RG.q 6 hR rfl rfl rfl rfl rfl rfl (Q.ld Try.isAgg9 rfl (((hrd12 j (encStr n) (by simp [hn])).within (i := 5) rfl).cast (by simp))) ?_
                      refine RG.q 7 hR rfl rfl rfl rfl rfl rfl (Q.mv rfl) ?_
                      refine RG.q 8 hR rfl rfl rfl rfl rfl rfl (Q.mv rfl) ?_
                      refine RG.q 9 hR rfl rfl rfl rfl rfl rfl (Q.ia Try.runUnderlying28 Try.sizeOf9 rfl rfl (by omega) (by omega)) ?_
                      refine RG.q 10 hR rfl rfl rfl rfl rfl rfl (Q.ld Try.isAgg9 rfl (((hrd11 j (encStr n) (by simp [hn])).within (i := 4) rfl).cast (by simp))) ?_
                      refine RG.q 11 hR rfl rfl rfl rfl rfl rfl (Q.neqs rfl rfl) ?_
                      refine RG.q 12 hR rfl rfl rfl rfl rfl rfl (Q.pick_f rfl rfl) ?_
                      refine RG.q 13 hR rfl rfl rfl rfl rfl rfl (Q.mv rfl) ?_
                      refine RG.cases 124 rfl (fun hb124 => ?_) (fun hb124 => ?_)
                      ·
                        simp at hb124
                      ·
                        skip
                        refine RG.q 14 hR rfl rfl rfl rfl rfl rfl (Q.mv rfl) ?_
                        refine RG.q 15 hR rfl rfl rfl rfl rfl rfl (Q.lenSl Try.runUnderlying30 rfl) ?_
                        refine RG.q 16 hR rfl rfl rfl rfl rfl rfl (Q.mv rfl) ?_
                        refine RG.q 17 hR rfl rfl rfl rfl rfl rfl (Q.lss rfl rfl) ?_
                        refine RG.q 18 hR rfl rfl rfl rfl rfl rfl (Q.pick_f rfl rfl) ?_
                        refine RG.q 19 hR rfl rfl rfl rfl rfl rfl (Q.mv rfl) ?_
                        refine RG.cases 130 rfl (fun hb130 => ?_) (fun hb130 => ?_)
                        ·
                          simp at hb130; omega
                        ·
                          skip
                          refine RG.q 20 hR rfl rfl rfl rfl rfl rfl (Q.mv rfl) ?_
                          refine RG.q 21 hR rfl rfl rfl rfl rfl rfl (Q.lenSl Try.runUnderlying30 rfl) ?_
                          refine RG.q 22 hR rfl rfl rfl rfl rfl rfl (Q.mv rfl) ?_
                          refine RG.q 23 hR rfl rfl rfl rfl rfl rfl (Q.lenSl Try.runUnderlying30 rfl) ?_
                          refine RG.q 24 hR rfl rfl rfl rfl rfl rfl (Q.gtr rfl rfl) ?_
                          refine RG.q 25 hR rfl rfl rfl rfl rfl rfl (Q.pick_f rfl rfl) ?_
                          refine RG.q 26 hR rfl rfl rfl rfl rfl rfl (Q.mv rfl) ?_
                          refine RG.cases 137 rfl (fun hb137 => ?_) (fun hb137 => ?_)
                          ·
                            simp at hb137; omega
                          ·
                            skip
                            refine RG.q 27 hR rfl rfl rfl rfl rfl rfl (Q.mv rfl) ?_
                            refine RG.q 28 hR rfl rfl rfl rfl rfl rfl (Q.mv rfl) ?_
                            refine RG.q 29 hR rfl rfl rfl rfl rfl rfl (Q.lenSl Try.runUnderlying30 rfl) ?_
                            refine RG.q 30 hR rfl rfl rfl rfl rfl rfl (hq141 _ _ _ _ _ _ rfl rfl) ?_
                            refine RG.q 31 hR rfl rfl rfl rfl rfl rfl (Q.b2s (bs := f.bs.take m) Try.runUnderlying30 Try.runUnderlying9 Try.runUnderlying5 rfl (hr141'.within (i := 3) rfl)) ?_
                            refine RG.q 32 hR rfl rfl rfl rfl rfl rfl (Q.mv rfl) ?_
                            refine RG.q 33 hR rfl rfl rfl rfl rfl rfl (Q.b2s (bs := f.bs.take m) Try.runUnderlying30 Try.runUnderlying9 Try.runUnderlying5 rfl (hs99.within (i := 1) rfl)) ?_
                            refine RG.q 34 hR rfl rfl rfl rfl rfl rfl (Q.neqs rfl rfl) ?_
                            refine RG.q 35 hR rfl rfl rfl rfl rfl rfl (Q.pick_f rfl rfl) ?_
                            refine RG.q 36 hR rfl rfl rfl rfl rfl rfl (Q.mv rfl) ?_
                            refine RG.cases 147 rfl (fun hb147 => ?_) (fun hb147 => ?_)
                            ·
                              simp at hb147
                            ·
                              skip
                              refine RG.q 37 hR rfl rfl rfl rfl rfl rfl (Q.mv rfl) ?_
                              refine RG.q 38 hR rfl rfl rfl rfl rfl rfl (Q.mv rfl) ?_
                              refine RG.q 39 hR rfl rfl rfl rfl rfl rfl (Q.mv rfl) ?_
                              refine RG.q 40 hR rfl rfl rfl rfl rfl rfl (Q.ia Try.runUnderlying28 Try.sizeOf9 rfl rfl (by omega) (by omega)) ?_
                              refine RG.q 41 hR rfl rfl rfl rfl rfl rfl (Q.ld Try.isAgg9 rfl (((hrd11 j (encStr n) (by simp [hn])).within (i := 4) rfl).cast (by simp))) ?_
                              refine RG.call 42 hR rfl rfl rfl rfl rfl rfl Try.call22 (unsynced_spec p0 (d.crash picks) hwc ⟨n.toArray⟩) [2] rfl rfl ?_
                              rintro _ _ ⟨rfl, rfl⟩
                              refine RG.norm rfl ?_
                              rw [hunc]
                              refine RG.q 43 hR rfl rfl rfl rfl rfl rfl (Q.neq rfl rfl) ?_
                              refine RG.q 44 hR rfl rfl rfl rfl rfl rfl (Q.pick_f rfl rfl) ?_
                              refine RG.fin hR rfl ?_
                              refine J.norm rfl ?_
                              refine J.then_n ?_
                              refine J.cond rfl (fun hc155 => ?_) (fun hc155 => ?_)
                              ·
                                simp at hc155
                              ·
                                first | replace hc155 := X.tt_dec hc155 | replace hc155 := X.tt_not hc155 | replace hc155 := X.ff_dec hc155 | replace hc155 := X.ff_not hc155 | skip
                                refine J.cskip ?_
                                refine J.blk_n ?_
                                refine J.then_n ?_
                                refine J.region ?_
                                refine J.q rfl rfl (Q.mv rfl) ?_
                                refine J.q rfl rfl (Q.add64 rfl rfl (by omega)) ?_
                                refine J.q rfl rfl (Q.asg rfl) ?_
                                refine J.nil ?_
                                refine J.keep [4, 5, 1, 0, 6, 7, 8] rfl ?_
                                refine J.again (j + 1) (by show j + 1 ≤ _; omega) (by show (d.list []).length - (j + 1) < (d.list []).length - j; omega) ⟨rfl, rfl, rfl, rfl, rfl, rfl, trivial⟩ rfl
                  ·
                    first | replace hc81 := X.tt_dec hc81 | replace hc81 := X.tt_not hc81 | replace hc81 := X.ff_dec hc81 | replace hc81 := X.ff_not hc81 | skip
                    refine J.exit ?_
                    refine J.then_x ?_
                    refine J.lp_x ?_
                    refine J.blk_x ?_
                    refine J.then_n ?_
                    refine J.seq ?_
                    refine J.region ?_
                    refine J.q rfl rfl (Q.mv rfl) ?_
                    refine J.call Try.call20 (twin_spec p0 (d.crash picks) hwc) [3] rfl rfl rfl rfl ?_
                    rintro _ _ ⟨p3, d3, rfl, htw3, rfl⟩
                    refine J.norm rfl ?_
                    have hu3 := (htw3.alk hwc).used (htw3.dk ⟨hwc, by rw [hcl]; exact hdl, by show (d.crash picks).born ≤ k; exact hdk.born⟩).wf hwc
                    refine J.q rfl rfl (Q.asg rfl) ?_
                    refine J.nil ?_
                    refine J.then_n ?_
                    refine J.seq ?_
                    refine J.region ?_
                    refine J.q rfl rfl (Q.mv rfl) ?_
                    refine J.q rfl rfl (Q.mv rfl) ?_
                    refine J.call Try.call16 (crash_spec p0 (d.crash picks) hwc (by omega) G pp pn pc picks hp (by omega) hpr) [1, 5] rfl rfl rfl rfl ?_
                    rintro _ _ ⟨rfl, rfl⟩
                    refine J.norm rfl ?_
                    have hag := crash_again halk hwd hrk.wf hrs picks
                    refine J.nil ?_
                    refine J.then_n ?_
                    refine J.seq ?_
                    refine J.region ?_
                    refine J.q rfl rfl (Q.mv rfl) ?_
                    refine J.call Try.call11 (used_spec p0 ((d.crash picks).crash picks)) [0] rfl rfl rfl rfl ?_
                    rintro _ _ ⟨rfl, rfl⟩
                    refine J.norm rfl ?_
                    refine J.q rfl rfl (Q.mv rfl) ?_
                    refine J.call Try.call11 (used_spec p3 d3) [2] rfl rfl rfl rfl ?_
                    rintro _ _ ⟨rfl, rfl⟩
                    refine J.norm rfl ?_
                    rw [hag, hu3]
                    refine J.q rfl rfl (Q.eql rfl rfl) ?_
                    refine J.q rfl rfl (Q.asg rfl) ?_
                    refine J.nil ?_
                    refine J.then_n ?_
                    refine J.cret ?_
                    refine J.keep [2, 7] rfl ?_
                    refine J.ret1 (B := [G]) rfl (congrArg some (congrArg Value.bool (decide_eq_true rfl))) ⟨rfl, rfl⟩ rfl

end Go.Proofs.Ytkekcdcmmggbaaa
