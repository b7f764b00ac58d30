/-
  DiskPlays: any disk, any acts: each answer, and all files behind each, are the document's.
-/
import Derived.Test.YtkekcdcmmggbaaaLawF
namespace Go.Proofs.Ytkekcdcmmggbaaa
open Go.X

theorem fq_perm {l m : List FM} (h : l.Perm m) (hm : (m.map (·.name)).Nodup) : Fq l m := by
  have hl : (l.map (·.name)).Nodup := (h.map _).nodup_iff.2 hm
  intro n
  cases e : fget n l with
  | some f =>
    have hn := fget_name e
    subst hn
    exact ((fget_iff hm f).1 (h.mem_iff.1 (fget_mem e))).symm
  | none =>
    cases e2 : fget n m with
    | none => rfl
    | some f =>
      have hn := fget_name e2
      subst hn
      have := (fget_iff hl f).1 (h.mem_iff.2 (fget_mem e2))
      rw [e] at this; cases this
theorem TwinOf.alk {d e : DM} (h : TwinOf d e) (hd : d.wf) : Alk e d := ⟨h.size, h.born, fq_perm h.files hd.names⟩
theorem TwinOf.dk {d e : DM} {k : Nat} (h : TwinOf d e) (hd : Dk k d) : Dk k e := by
  have hu := lenSum_perm h.files
  have h1 := hd.wf.used
  unfold DM.used at h1
  refine ⟨⟨(h.files.map _).nodup_iff.2 hd.wf.names, fun f hf => hd.wf.sy f (h.files.mem_iff.1 hf), ?_, by rw [h.size]; exact hd.wf.size, by rw [h.born]; exact hd.wf.born⟩, by rw [h.files.length_eq]; exact hd.len, by rw [h.born]; exact hd.born⟩
  unfold DM.used; rw [h.size]; omega

theorem sel_enc (l : List ByteArray) : (l.map (·.data.toList)).map encStr = l.map Value.string := by
  rw [List.map_map]; congr 1

theorem plays_no (n : Int) (G : Assn) (lp : Option Addr) (ln lc : Nat) (l : List AW) (hl : Acts G lp ln lc l) (h : n < 1 ∨ 1073741824 < n) :
    FSpec Try.prog 7 [.int .i64 n, .slice lp ln lc] [G] (fun v B => v = .bool true ∧ B = [G]) := by
  refine FSpec.of Try.func7 rfl Try.ntmps7 rfl fun W0 F => ?_
  refine J.seq ?_
  refine J.region ?_
  refine J.q rfl rfl (Q.asg rfl) ?_
  refine J.nil ?_
  refine J.then_n ?_
  refine J.seq ?_
  refine J.seq ?_
  refine J.region ?_
  refine J.call Try.call8 (known_spec) [] rfl rfl rfl rfl ?_
  rintro _ _ ⟨rfl, rfl⟩
  refine J.norm rfl ?_
  refine J.q rfl rfl (Q.not rfl) ?_
  refine J.nil ?_
  refine J.then_n ?_
  refine J.cond rfl (fun hc19 => ?_) (fun hc19 => ?_)
  ·
    cases hc19
  ·
    first | replace hc19 := X.tt_dec hc19 | replace hc19 := X.tt_not hc19 | replace hc19 := X.ff_dec hc19 | replace hc19 := X.ff_not hc19 | skip
    refine J.cskip ?_
    refine J.then_n ?_
    refine J.seq ?_
    refine J.seq ?_
    refine J.region ?_
    refine J.q rfl rfl (Q.mv rfl) ?_
    refine J.call Try.call17 (few_spec G lp ln lc l hl) [0] rfl rfl rfl rfl ?_
    rintro _ _ ⟨rfl, rfl⟩
    refine J.norm rfl ?_
    refine J.q rfl rfl (Q.not rfl) ?_
    refine J.nil ?_
    refine J.then_n ?_
    refine J.cond rfl (fun hc22 => ?_) (fun hc22 => ?_)
    ·
      first | replace hc22 := X.tt_dec hc22 | replace hc22 := X.tt_not hc22 | replace hc22 := X.ff_dec hc22 | replace hc22 := X.ff_not hc22 | skip
      refine J.seq ?_
      refine J.region ?_
      refine J.q rfl rfl (Q.asg rfl) ?_
      refine J.nil ?_
      refine J.then_n ?_
      refine J.cret ?_
      refine J.then_r ?_
      refine J.ret1 (B := [G]) rfl rfl ⟨rfl, rfl⟩ rfl
    ·
      first | replace hc22 := X.tt_dec hc22 | replace hc22 := X.tt_not hc22 | replace hc22 := X.ff_dec hc22 | replace hc22 := X.ff_not hc22 | skip
      refine J.cskip ?_
      refine J.then_n ?_
      refine J.seq ?_
      refine J.region ?_
      refine J.q rfl rfl (Q.mv rfl) ?_
      refine J.call Try.call9 (new_no n h) [] rfl rfl rfl rfl ?_
      rintro _ _ ⟨rfl, rfl⟩
      refine J.norm rfl ?_
      refine J.q rfl rfl (Q.mv rfl) ?_
      refine J.q rfl rfl (Q.ext rfl rfl) ?_
      refine J.q rfl rfl (Q.ext rfl rfl) ?_
      refine J.q rfl rfl (Q.asg rfl) ?_
      refine J.q rfl rfl (Q.asg rfl) ?_
      refine J.nil ?_
      refine J.then_n ?_
      refine J.seq ?_
      refine J.region ?_
      refine J.q rfl rfl (Q.mv rfl) ?_
      refine J.call Try.call18 (rnew_no n h) [] rfl rfl rfl rfl ?_
      rintro _ _ ⟨rfl, rfl⟩
      refine J.norm rfl ?_
      refine J.q rfl rfl (Q.mv rfl) ?_
      refine J.q rfl rfl (Q.ext rfl rfl) ?_
      refine J.q rfl rfl (Q.ext rfl rfl) ?_
      refine J.q rfl rfl (Q.asg rfl) ?_
      refine J.q rfl rfl (Q.asg rfl) ?_
      refine J.nil ?_
      refine J.then_n ?_
      refine J.seq ?_
      refine J.seq ?_
      refine J.region ?_
      refine J.q rfl rfl (Q.mv rfl) ?_
      refine J.q rfl rfl (Q.mv rfl) ?_
      refine J.q rfl rfl (Q.neq rfl rfl) ?_
      refine J.q rfl rfl (Q.mv rfl) ?_
      refine J.cases 36 rfl (fun hb36 => ?_) (fun hb36 => ?_)
      ·
        simp at hb36
      ·
        skip
        refine J.q rfl rfl (Q.mv rfl) ?_
        refine J.q rfl rfl (Q.eqlp Try.runUnderlying24 rfl rfl) ?_
        refine J.q rfl rfl (Q.mv rfl) ?_
        refine J.q rfl rfl (Q.eqlp Try.runUnderlying41 rfl rfl) ?_
        refine J.q rfl rfl (Q.neqb Try.runUnderlying4 rfl rfl) ?_
        refine J.q rfl rfl (Q.pick_f rfl rfl) ?_
        refine J.nil ?_
        refine J.then_n ?_
        refine J.cond rfl (fun hc42 => ?_) (fun hc42 => ?_)
        ·
          simp at hc42
        ·
          first | replace hc42 := X.tt_dec hc42 | replace hc42 := X.tt_not hc42 | replace hc42 := X.ff_dec hc42 | replace hc42 := X.ff_not hc42 | skip
          refine J.cskip ?_
          refine J.then_n ?_
          refine J.seq ?_
          refine J.seq ?_
          refine J.region ?_
          refine J.q rfl rfl (Q.mv rfl) ?_
          refine J.q rfl rfl (Q.eqlp Try.runUnderlying24 rfl rfl) ?_
          refine J.nil ?_
          refine J.then_n ?_
          refine J.cond rfl (fun hc44 => ?_) (fun hc44 => ?_)
          ·
            first | replace hc44 := X.tt_dec hc44 | replace hc44 := X.tt_not hc44 | replace hc44 := X.ff_dec hc44 | replace hc44 := X.ff_not hc44 | skip
            skip
            refine J.seq ?_
            refine J.region ?_
            refine J.q rfl rfl (Q.asg rfl) ?_
            refine J.nil ?_
            refine J.then_n ?_
            refine J.cret ?_
            refine J.then_r ?_
            refine J.ret1 (B := [G]) rfl rfl ⟨rfl, rfl⟩ rfl
          ·
            simp at hc44

theorem plays_yes (n : Nat) (G : Assn) (lp : Option Addr) (ln lc : Nat) (l : List AW) (hl : Acts G lp ln lc l) (h1 : 1 ≤ n) (h2 : n ≤ 1073741824) :
    FSpec Try.prog 7 [.int .i64 n, .slice lp ln lc] [G] (fun v B => v = .bool true ∧ B = [G]) := by
  refine FSpec.of Try.func7 rfl Try.ntmps7 rfl fun W0 F => ?_
  refine J.seq ?_
  refine J.region ?_
  refine J.q rfl rfl (Q.asg rfl) ?_
  refine J.nil ?_
  refine J.then_n ?_
  refine J.seq ?_
  refine J.seq ?_
  refine J.region ?_
  refine J.call Try.call8 (known_spec) [] rfl rfl rfl rfl ?_
  rintro _ _ ⟨rfl, rfl⟩
  refine J.norm rfl ?_
  refine J.q rfl rfl (Q.not rfl) ?_
  refine J.nil ?_
  refine J.then_n ?_
  refine J.cond rfl (fun hc19 => ?_) (fun hc19 => ?_)
  ·
    cases hc19
  ·
    first | replace hc19 := X.tt_dec hc19 | replace hc19 := X.tt_not hc19 | replace hc19 := X.ff_dec hc19 | replace hc19 := X.ff_not hc19 | skip
    refine J.cskip ?_
    refine J.then_n ?_
    refine J.seq ?_
    refine J.seq ?_
    refine J.region ?_
    refine J.q rfl rfl (Q.mv rfl) ?_
    refine J.call Try.call17 (few_spec G lp ln lc l hl) [0] rfl rfl rfl rfl ?_
    rintro _ _ ⟨rfl, rfl⟩
    refine J.norm rfl ?_
    refine J.q rfl rfl (Q.not rfl) ?_
    refine J.nil ?_
    refine J.then_n ?_
    refine J.cond rfl (fun hc22 => ?_) (fun hc22 => ?_)
    ·
      first | replace hc22 := X.tt_dec hc22 | replace hc22 := X.tt_not hc22 | replace hc22 := X.ff_dec hc22 | replace hc22 := X.ff_not hc22 | skip
      refine J.seq ?_
      refine J.region ?_
      refine J.q rfl rfl (Q.asg rfl) ?_
      refine J.nil ?_
      refine J.then_n ?_
      refine J.cret ?_
      refine J.then_r ?_
      refine J.ret1 (B := [G]) rfl rfl ⟨rfl, rfl⟩ rfl
    ·
      first | replace hc22 := X.tt_dec hc22 | replace hc22 := X.tt_not hc22 | replace hc22 := X.ff_dec hc22 | replace hc22 := X.ff_not hc22 | skip
      refine J.cskip ?_
      refine J.then_n ?_
      refine J.seq ?_
      refine J.region ?_
      refine J.q rfl rfl (Q.mv rfl) ?_
      refine J.call Try.call9 (new_yes n h1 h2) [] rfl rfl rfl rfl ?_
      rintro _ _ ⟨p0, rfl, rfl⟩
      refine J.norm rfl ?_
      refine J.q rfl rfl (Q.mv rfl) ?_
      refine J.q rfl rfl (Q.ext rfl rfl) ?_
      refine J.q rfl rfl (Q.ext rfl rfl) ?_
      refine J.q rfl rfl (Q.asg rfl) ?_
      refine J.q rfl rfl (Q.asg rfl) ?_
      refine J.nil ?_
      refine J.then_n ?_
      refine J.seq ?_
      refine J.region ?_
      refine J.q rfl rfl (Q.mv rfl) ?_
      refine J.call Try.call18 (rnew_yes n h1 h2) [] rfl rfl rfl rfl ?_
      rintro _ _ ⟨q0, rfl, rfl⟩
      refine J.norm rfl ?_
      refine J.q rfl rfl (Q.mv rfl) ?_
      refine J.q rfl rfl (Q.ext rfl rfl) ?_
      refine J.q rfl rfl (Q.ext rfl rfl) ?_
      refine J.q rfl rfl (Q.asg rfl) ?_
      refine J.q rfl rfl (Q.asg rfl) ?_
      refine J.nil ?_
      refine J.then_n ?_
      refine J.seq ?_
      refine J.seq ?_
      refine J.region ?_
      refine J.q rfl rfl (Q.mv rfl) ?_
      refine J.q rfl rfl (Q.mv rfl) ?_
      refine J.q rfl rfl (Q.neq rfl rfl) ?_
      refine J.q rfl rfl (Q.mv rfl) ?_
      refine J.cases 36 rfl (fun hb36 => ?_) (fun hb36 => ?_)
      ·
        simp at hb36
      ·
        skip
        refine J.q rfl rfl (Q.mv rfl) ?_
        refine J.q rfl rfl (Q.eqlp Try.runUnderlying24 rfl rfl) ?_
        refine J.q rfl rfl (Q.mv rfl) ?_
        refine J.q rfl rfl (Q.eqlp Try.runUnderlying41 rfl rfl) ?_
        refine J.q rfl rfl (Q.neqb Try.runUnderlying4 rfl rfl) ?_
        refine J.q rfl rfl (Q.pick_f rfl rfl) ?_
        refine J.nil ?_
        refine J.then_n ?_
        refine J.cond rfl (fun hc42 => ?_) (fun hc42 => ?_)
        ·
          simp at hc42
        ·
          first | replace hc42 := X.tt_dec hc42 | replace hc42 := X.tt_not hc42 | replace hc42 := X.ff_dec hc42 | replace hc42 := X.ff_not hc42 | skip
          refine J.cskip ?_
          refine J.then_n ?_
          refine J.seq ?_
          refine J.seq ?_
          refine J.region ?_
          refine J.q rfl rfl (Q.mv rfl) ?_
          refine J.q rfl rfl (Q.eqlp Try.runUnderlying24 rfl rfl) ?_
          refine J.nil ?_
          refine J.then_n ?_
          refine J.cond rfl (fun hc44 => ?_) (fun hc44 => ?_)
          ·
            simp at hc44
          ·
            first | replace hc44 := X.tt_dec hc44 | replace hc44 := X.tt_not hc44 | replace hc44 := X.ff_dec hc44 | replace hc44 := X.ff_not hc44 | skip
            refine J.cskip ?_
            refine J.then_n ?_
            refine J.seq ?_
            refine J.seq ?_
            refine J.region ?_
            refine J.q rfl rfl (Q.asg rfl) ?_
            refine J.nil ?_
            refine J.then_n ?_
            refine J.block ?_
            have hfew : fewV l = true := by simpa using hc22
            have hln : ln ≤ 500 := by
              unfold fewV at hfew
              simp only [Bool.and_eq_true, decide_eq_true_eq] at hfew
              have := hl.len; omega
            have hlen := hl.len
            refine J.loop (fun z : Nat × Nat × Nat × DM × DM => z.1 ≤ ln ∧ Dk z.1 z.2.2.2.1 ∧ Dk z.1 z.2.2.2.2 ∧ Srt z.2.2.2.2.files ∧ Alk z.2.2.2.1 z.2.2.2.2) (fun z => ln - z.1) (fun z => [(1, .slice lp ln lc), (5, .pointer (some ⟨z.2.1, 0, none⟩)), (7, .pointer (some ⟨z.2.2.1, 0, none⟩)), (9, .int .i64 z.1)])
              (fun z => [RefAt z.2.2.1 z.2.2.2.2, DiskAt z.2.1 z.2.2.2.1, G, F]) (0, p0, q0, ⟨n, 0, []⟩, ⟨n, 0, []⟩) ⟨Nat.zero_le _, Dk.new _ h2, Dk.new _ h2, List.Pairwise.nil, Alk.rfl' _⟩ ⟨rfl, rfl, rfl, rfl, trivial⟩ rfl fun z hz => ?_
            obtain ⟨k, p, q, d, r⟩ := z
            obtain ⟨hk, hdk, hrk, hrs, halk⟩ := hz
            dsimp only at hk hdk hrk hrs halk
            refine J.seq ?_
            refine J.seq ?_
            refine J.region ?_
            refine J.q rfl rfl (Q.mv rfl) ?_
            refine J.q rfl rfl (Q.mv rfl) ?_
            refine J.q rfl rfl (Q.lenSl Try.runUnderlying39 rfl) ?_
            refine J.q rfl rfl (Q.lss rfl rfl) ?_
            refine J.nil ?_
            refine J.then_n ?_
            refine J.cond rfl (fun hc48 => ?_) (fun hc48 => ?_)
            ·
              first | replace hc48 := X.tt_dec hc48 | replace hc48 := X.tt_not hc48 | replace hc48 := X.ff_dec hc48 | replace hc48 := X.ff_not hc48 | skip
              refine J.cskip ?_
              refine J.then_n ?_
              refine J.seq ?_
              refine J.block ?_
              refine J.seq ?_
              obtain ⟨b, off, rfl, hrd⟩ := hl.rd.some_ (by omega)
              obtain ⟨x, hx⟩ : ∃ x, l[k]? = some x := ⟨_, List.getElem?_eq_getElem (by omega)⟩
              have hxo := hl.ok x (List.mem_of_getElem? hx)
              have hxs := hxo.small
              obtain ⟨hV, halk'⟩ := step_alk halk hdk.wf hrk.wf hrs x.a
              obtain ⟨hdk', _⟩ := hdk.step (by omega) x.a
              obtain ⟨hrk', hrs', _⟩ := hrk.stepR hrs (by omega) x.a
              have hdl := hdk.len
              have hdl' := hdk'.len
              have hrw' := hrk'.rwf hrs' (by omega)
              refine J.region ?_
              refine J.q rfl rfl (Q.mv rfl) ?_
              refine J.q rfl rfl (Q.mv rfl) ?_
              refine J.q rfl rfl (Q.ia Try.runUnderlying39 Try.sizeOf46 rfl rfl (by omega) (by omega)) ?_
              refine J.q rfl rfl (Q.ldN (vs := [_, _, _, _, _, _]) Try.isAgg46 Try.sizeOf46 rfl ((rd_elem AW.cells_length hrd hx (by simp)).within (i := 2) rfl)) ?_
              refine J.c rfl rfl (C.alloc (l := [_, _, _, _, _, _]) Try.zeroValue46 rfl) ?_
              rintro _ _ ⟨b10, rfl, rfl⟩
              refine J.norm rfl ?_
              refine J.c0 rfl (C.stA (i := 0) (vs := x.cells) Try.sizeOf46 rfl rfl rfl rfl rfl rfl) ?_
              rintro _ _ ⟨rfl, rfl⟩
              refine J.nil ?_
              refine J.then_n ?_
              refine J.seq ?_
              refine J.seq ?_
              refine J.region ?_
              refine J.q rfl rfl (Q.mv rfl) ?_
              refine J.q rfl rfl (Q.mv rfl) ?_
              refine J.q rfl rfl (Q.ldN (vs := [_, _, _, _, _, _]) Try.isAgg46 Try.sizeOf46 rfl (fun j u h => Reads.pt 0 rfl (by rw [Nat.zero_add]; exact h))) ?_
              refine J.call Try.call19 (step_spec p q d r hdk.wf (by omega) (hrk.rwf hrs (by omega)) (by have := hrk.born; omega) G x hxo) [2, 1, 3] rfl rfl rfl rfl ?_
              rintro _ _ ⟨rfl, rfl⟩
              refine J.norm rfl ?_
              rw [hV]
              obtain ⟨d1, hd1⟩ : ∃ d1, d1 = stepD d x.a := ⟨_, rfl⟩
              obtain ⟨r1, hr1⟩ : ∃ r1, r1 = stepR r x.a := ⟨_, rfl⟩
              rw [← hd1, ← hr1] at halk'
              rw [← hd1] at hdk' hdl'
              rw [← hr1] at hrk' hrs' hrw'
              rw [← hd1, ← hr1]
              refine J.q rfl rfl (Q.not rfl) ?_
              refine J.q rfl rfl (Q.mv rfl) ?_
              refine J.cases 60 rfl (fun hb60 => ?_) (fun hb60 => ?_)
              ·
                simp at hb60
              ·
                skip
                refine J.q rfl rfl (Q.mv rfl) ?_
                refine J.q rfl rfl (Q.mv rfl) ?_
                refine J.call Try.call27 (alike_spec p q d1 r1 hdk'.wf (by omega) hrw' halk') [0, 1] rfl rfl rfl rfl ?_
                rintro _ _ ⟨rfl, rfl⟩
                refine J.norm rfl ?_
                refine J.q rfl rfl (Q.not rfl) ?_
                refine J.q rfl rfl (Q.pick_f rfl rfl) ?_
                refine J.nil ?_
                refine J.then_n ?_
                refine J.cond rfl (fun hc65 => ?_) (fun hc65 => ?_)
                ·
                  simp at hc65
                ·
                  first | replace hc65 := X.tt_dec hc65 | replace hc65 := X.tt_not hc65 | replace hc65 := X.ff_dec hc65 | replace hc65 := X.ff_not hc65 | skip
                  refine J.cskip ?_
                  refine J.then_n ?_
                  refine J.seq ?_
                  refine J.region ?_
                  refine J.q rfl rfl (Q.mv rfl) ?_
                  refine J.q rfl rfl (Q.fa (n := 3) Try.runUnderlying46 rfl rfl Try.sizeOf28 rfl) ?_
                  refine J.q rfl rfl (Q.ld Try.isAgg28 rfl (by first | exact Reads.pt 0 rfl rfl | exact Reads.pt 1 rfl rfl | exact Reads.pt 2 rfl rfl | exact Reads.pt 3 rfl rfl | exact Reads.pt 4 rfl rfl | exact Reads.pt 5 rfl rfl | exact Reads.pt 6 rfl rfl | exact Reads.pt 7 rfl rfl)) ?_
                  refine J.call Try.call21 (list_spec p d1 G x.np x.a.names.length x.nc x.a.names hxo.names (by omega) (by omega)) [0, 2] rfl rfl rfl rfl ?_
                  rintro _ _ ⟨p69, c69, rfl, rfl⟩
                  refine J.norm rfl ?_
                  have hL : d1.list x.a.names = (selN x.a.names r1.files).map (·.data.toList) := list_eq halk' hdk'.wf hrk'.wf hrs' _
                  have hLl : ((selN x.a.names r1.files).map (·.data.toList)).length = (selN x.a.names r1.files).length := List.length_map _
                  rw [hL, hLl, sel_enc]
                  refine J.q rfl rfl (Q.asg rfl) ?_
                  refine J.nil ?_
                  refine J.then_n ?_
                  refine J.seq ?_
                  refine J.region ?_
                  refine J.q rfl rfl (Q.mv rfl) ?_
                  refine J.q rfl rfl (Q.fa (n := 3) Try.runUnderlying46 rfl rfl Try.sizeOf28 rfl) ?_
                  refine J.q rfl rfl (Q.ld Try.isAgg28 rfl (by first | exact Reads.pt 0 rfl rfl | exact Reads.pt 1 rfl rfl | exact Reads.pt 2 rfl rfl | exact Reads.pt 3 rfl rfl | exact Reads.pt 4 rfl rfl | exact Reads.pt 5 rfl rfl | exact Reads.pt 6 rfl rfl | exact Reads.pt 7 rfl rfl)) ?_
                  refine J.call Try.call28 (rlist_spec q r1 hrw' G x.np x.a.names.length x.nc x.a.names hxo.names (by omega)) [3, 2] rfl rfl rfl rfl ?_
                  rintro _ _ ⟨p73, c73, rfl, rfl⟩
                  refine J.norm rfl ?_
                  obtain ⟨ns, hns⟩ : ∃ ns, ns = selN x.a.names r1.files := ⟨_, rfl⟩
                  rw [← hns]
                  have hnl : ns.length ≤ 1000000 := by rw [hns]; exact Nat.le_trans (selN_le _ _) hrw'.len
                  refine J.slr1 0 rfl fun h73 => ?_
                  refine J.slr1 3 rfl fun h69 => ?_
                  refine J.q rfl rfl (Q.asg rfl) ?_
                  refine J.nil ?_
                  refine J.then_n ?_
                  refine J.cut (fun _ : Unit => True) (fun _ => [(1, .slice (some ⟨b, off, none⟩) ln lc), (5, .pointer (some ⟨p, 0, none⟩)), (7, .pointer (some ⟨q, 0, none⟩)), (9, .int .i64 k), (10, .pointer (some ⟨b10, 0, none⟩)), (11, .slice p69 ns.length c69), (12, .slice p73 ns.length c73)])
                    (fun _ => [own 9 1 (.slice p73 ns.length c73) (ns.map Value.string), own 9 1 (.slice p69 ns.length c69) (ns.map Value.string), RefAt q r1, DiskAt p d1, pt b10 (.cells x.cells.toArray 46 (0, 0)), G, F]) ?_ fun _ _ => ?_
                  ·
                    refine J.seq ?_
                    refine J.region ?_
                    refine J.q rfl rfl (Q.fa (n := 3) Try.runUnderlying46 rfl rfl Try.sizeOf28 rfl) ?_
                    refine J.q rfl rfl (Q.ld Try.isAgg28 rfl (by first | exact Reads.pt 0 rfl rfl | exact Reads.pt 1 rfl rfl | exact Reads.pt 2 rfl rfl | exact Reads.pt 3 rfl rfl | exact Reads.pt 4 rfl rfl | exact Reads.pt 5 rfl rfl | exact Reads.pt 6 rfl rfl | exact Reads.pt 7 rfl rfl)) ?_
                    refine J.q rfl rfl (Q.lenSl Try.runUnderlying28 rfl) ?_
                    refine J.q rfl rfl (Q.gtr rfl rfl) ?_
                    refine J.q rfl rfl (Q.mv rfl) ?_
                    refine J.cases 78 rfl (fun hb78 => ?_) (fun hb78 => ?_)
                    ·
                      first | replace hb78 := X.tt_dec hb78 | replace hb78 := X.tt_not hb78 | replace hb78 := X.ff_dec hb78 | replace hb78 := X.ff_not hb78 | skip
                      refine J.q rfl rfl (Q.mv rfl) ?_
                      refine J.q rfl rfl (Q.lenSl Try.runUnderlying28 rfl) ?_
                      refine J.q rfl rfl (Q.mv rfl) ?_
                      refine J.q rfl rfl (Q.lenSl Try.runUnderlying28 rfl) ?_
                      refine J.q rfl rfl (Q.neq rfl rfl) ?_
                      refine J.q rfl rfl (Q.pick_t rfl rfl) ?_
                      refine J.nil ?_
                      refine J.then_n ?_
                      refine J.cond rfl (fun hc84 => ?_) (fun hc84 => ?_)
                      ·
                        simp at hc84
                      ·
                        first | replace hc84 := X.tt_dec hc84 | replace hc84 := X.tt_not hc84 | replace hc84 := X.ff_dec hc84 | replace hc84 := X.ff_not hc84 | skip
                        refine J.cskip ?_
                        refine J.keep [0, 3, 1, 4, 5, 2, 6] rfl ?_
                        refine J.meet () trivial ⟨rfl, rfl, rfl, rfl, rfl, rfl, rfl, trivial⟩ rfl
                    ·
                      first | replace hb78 := X.tt_dec hb78 | replace hb78 := X.tt_not hb78 | replace hb78 := X.ff_dec hb78 | replace hb78 := X.ff_not hb78 | skip
                      refine J.skip rfl rfl ?_
                      refine J.skip rfl rfl ?_
                      refine J.skip rfl rfl ?_
                      refine J.skip rfl rfl ?_
                      refine J.skip rfl rfl ?_
                      refine J.q rfl rfl (Q.pick_f rfl rfl) ?_
                      refine J.nil ?_
                      refine J.then_n ?_
                      refine J.cond_f rfl ?_
                      refine J.cskip ?_
                      refine J.keep [0, 3, 1, 4, 5, 2, 6] rfl ?_
                      refine J.meet () trivial ⟨rfl, rfl, rfl, rfl, rfl, rfl, rfl, trivial⟩ rfl
                  ·
                    refine J.cut (fun _ : Unit => True) (fun _ => [(1, .slice (some ⟨b, off, none⟩) ln lc), (5, .pointer (some ⟨p, 0, none⟩)), (7, .pointer (some ⟨q, 0, none⟩)), (9, .int .i64 k), (10, .pointer (some ⟨b10, 0, none⟩))])
                      (fun _ => [RefAt q r1, DiskAt p d1, pt b10 (.cells x.cells.toArray 46 (0, 0)), G, F]) ?_ fun _ _ => ?_
                    ·
                      refine J.seq ?_
                      refine J.region ?_
                      refine J.q rfl rfl (Q.asg rfl) ?_
                      refine J.nil ?_
                      refine J.then_n ?_
                      refine J.block ?_
                      refine J.loop (fun j : Nat => j ≤ ns.length) (fun j => ns.length - j) (fun j => [(1, .slice (some ⟨b, off, none⟩) ln lc), (5, .pointer (some ⟨p, 0, none⟩)), (7, .pointer (some ⟨q, 0, none⟩)), (9, .int .i64 k), (10, .pointer (some ⟨b10, 0, none⟩)), (11, .slice p69 ns.length c69), (12, .slice p73 ns.length c73), (13, .int .i64 j)])
                        (fun _ => [own 9 1 (.slice p73 ns.length c73) (ns.map Value.string), own 9 1 (.slice p69 ns.length c69) (ns.map Value.string), RefAt q r1, DiskAt p d1, pt b10 (.cells x.cells.toArray 46 (0, 0)), G, F]) 0 (Nat.zero_le _) ⟨rfl, rfl, rfl, rfl, rfl, rfl, rfl, rfl, trivial⟩ rfl fun j hj => ?_
                      refine J.seq ?_
                      refine J.seq ?_
                      refine J.region ?_
                      refine J.q rfl rfl (Q.mv rfl) ?_
                      refine J.q rfl rfl (Q.mv rfl) ?_
                      refine J.q rfl rfl (Q.lenSl Try.runUnderlying28 rfl) ?_
                      refine J.q rfl rfl (Q.lss rfl rfl) ?_
                      refine J.q rfl rfl (Q.mv rfl) ?_
                      refine J.cases 89 rfl (fun hb89 => ?_) (fun hb89 => ?_)
                      ·
                        first | replace hb89 := X.tt_dec hb89 | replace hb89 := X.tt_not hb89 | replace hb89 := X.ff_dec hb89 | replace hb89 := X.ff_not hb89 | skip
                        refine J.q rfl rfl (Q.fa (n := 3) Try.runUnderlying46 rfl rfl Try.sizeOf28 rfl) ?_
                        refine J.q rfl rfl (Q.ld Try.isAgg28 rfl (by first | exact Reads.pt 0 rfl rfl | exact Reads.pt 1 rfl rfl | exact Reads.pt 2 rfl rfl | exact Reads.pt 3 rfl rfl | exact Reads.pt 4 rfl rfl | exact Reads.pt 5 rfl rfl | exact Reads.pt 6 rfl rfl | exact Reads.pt 7 rfl rfl)) ?_
                        refine J.q rfl rfl (Q.lenSl Try.runUnderlying28 rfl) ?_
                        refine J.q rfl rfl (Q.gtr rfl rfl) ?_
                        refine J.q rfl rfl (Q.pick_t rfl rfl) ?_
                        refine J.nil ?_
                        refine J.then_n ?_
                        refine J.cond rfl (fun hc94 => ?_) (fun hc94 => ?_)
                        ·
                          first | replace hc94 := X.tt_dec hc94 | replace hc94 := X.tt_not hc94 | replace hc94 := X.ff_dec hc94 | replace hc94 := X.ff_not hc94 | skip
                          refine J.cskip ?_
                          refine J.then_n ?_
                          refine J.seq ?_
                          refine J.block ?_
                          refine J.seq ?_
                          obtain ⟨b7, off7, rfl, hrd7⟩ := h73.some_ (by omega)
                          obtain ⟨b6, off6, rfl, hrd6⟩ := h69.some_ (by omega)
                          obtain ⟨s, hs⟩ : ∃ s, ns[j]? = some s := ⟨_, List.getElem?_eq_getElem (by omega)⟩
                          refine J.draw [] Try.mixed (by kernel_rfl) fun hR => ?_
                          refine RG.q 0 hR rfl rfl rfl rfl rfl rfl (Q.mv rfl) ?_
                          refine RG.q 1 hR rfl rfl rfl rfl rfl rfl (Q.mv rfl) ?_
                          refine RG.q 2 hR rfl rfl rfl rfl rfl rfl (Q.ia Try.runUnderlying28 Try.sizeOf9 rfl rfl (by omega) (by omega)) ?_
                          refine RG.q 3 hR rfl rfl rfl rfl rfl rfl (Q.ld Try.isAgg9 rfl (((hrd6 j (.string s) (by simp [hs])).within (i := 1) rfl).cast (by simp))) ?_
                          refine RG.q 4 hR rfl rfl rfl rfl rfl rfl (Q.mv rfl) ?_
                          refine RG.q 5 hR rfl rfl rfl rfl rfl rfl (Q.mv rfl) ?_
                          refine RG.q 6 hR rfl rfl rfl rfl rfl rfl (Q.ia Try.runUnderlying28 Try.sizeOf9 rfl rfl (by omega) (by omega)) ?_
                          refine RG.q 7 hR rfl rfl rfl rfl rfl rfl (Q.ld Try.isAgg9 rfl (((hrd7 j (.string s) (by simp [hs])).within (i := 0) rfl).cast (by simp))) ?_
                          refine RG.q 8 hR rfl rfl rfl rfl rfl rfl (Q.neqs rfl rfl) ?_
                          refine RG.fin hR rfl ?_
                          refine J.norm rfl ?_
                          refine J.then_n ?_
                          refine J.cond rfl (fun hc105 => ?_) (fun hc105 => ?_)
                          ·
                            simp at hc105
                          ·
                            first | replace hc105 := X.tt_dec hc105 | replace hc105 := X.tt_not hc105 | replace hc105 := X.ff_dec hc105 | replace hc105 := X.ff_not hc105 | skip
                            refine J.cskip ?_
                            refine J.blk_n ?_
                            refine J.then_n ?_
                            refine J.region ?_
                            refine J.q rfl rfl (Q.mv rfl) ?_
                            refine J.q rfl rfl (Q.add64 rfl rfl (by omega)) ?_
                            refine J.q rfl rfl (Q.asg rfl) ?_
                            refine J.nil ?_
                            refine J.again (j + 1) (by show j + 1 ≤ _; omega) (by show ns.length - (j + 1) < ns.length - j; omega) ⟨rfl, rfl, rfl, rfl, rfl, rfl, rfl, rfl, trivial⟩ rfl
                        ·
                          first | replace hc94 := X.tt_dec hc94 | replace hc94 := X.tt_not hc94 | replace hc94 := X.ff_dec hc94 | replace hc94 := X.ff_not hc94 | skip
                          refine J.exit ?_
                          refine J.then_x ?_
                          refine J.lp_x ?_
                          refine J.blk_x ?_
                          refine J.keep [2, 3, 4, 5, 6] rfl ?_
                          refine J.meet () trivial ⟨rfl, rfl, rfl, rfl, rfl, trivial⟩ rfl
                      ·
                        first | replace hb89 := X.tt_dec hb89 | replace hb89 := X.tt_not hb89 | replace hb89 := X.ff_dec hb89 | replace hb89 := X.ff_not hb89 | skip
                        refine J.skip rfl rfl ?_
                        refine J.skip rfl rfl ?_
                        refine J.skip rfl rfl ?_
                        refine J.skip rfl rfl ?_
                        refine J.q rfl rfl (Q.pick_f rfl rfl) ?_
                        refine J.nil ?_
                        refine J.then_n ?_
                        refine J.cond_f rfl ?_
                        refine J.exit ?_
                        refine J.then_x ?_
                        refine J.lp_x ?_
                        refine J.blk_x ?_
                        refine J.keep [2, 3, 4, 5, 6] rfl ?_
                        refine J.meet () trivial ⟨rfl, rfl, rfl, rfl, rfl, trivial⟩ rfl
                    ·
                      refine J.cut (fun z : Nat × Nat × DM => Dk (k + 1) z.2.2 ∧ Alk z.2.2 r1) (fun z => [(1, .slice (some ⟨b, off, none⟩) ln lc), (5, .pointer (some ⟨z.1, 0, none⟩)), (7, .pointer (some ⟨z.2.1, 0, none⟩)), (9, .int .i64 k), (10, .pointer (some ⟨b10, 0, none⟩))])
                        (fun z => [RefAt z.2.1 r1, DiskAt z.1 z.2.2, pt b10 (.cells x.cells.toArray 46 (0, 0)), G, F]) ?_ fun z hz => ?_
                      ·
                        refine J.seq ?_
                        refine J.region ?_
                        refine J.q rfl rfl (Q.fa (n := 0) Try.runUnderlying46 rfl rfl Try.sizeOf3 rfl) ?_
                        refine J.q rfl rfl (Q.ld Try.isAgg3 rfl (by first | exact Reads.pt 0 rfl rfl | exact Reads.pt 1 rfl rfl | exact Reads.pt 2 rfl rfl | exact Reads.pt 3 rfl rfl | exact Reads.pt 4 rfl rfl | exact Reads.pt 5 rfl rfl | exact Reads.pt 6 rfl rfl | exact Reads.pt 7 rfl rfl)) ?_
                        refine J.q rfl rfl (Q.eql rfl rfl) ?_
                        refine J.nil ?_
                        refine J.then_n ?_
                        refine J.cond rfl (fun hc108 => ?_) (fun hc108 => ?_)
                        ·
                          first | replace hc108 := X.tt_dec hc108 | replace hc108 := X.tt_not hc108 | replace hc108 := X.ff_dec hc108 | replace hc108 := X.ff_not hc108 | skip
                          refine J.seq ?_
                          refine J.region ?_
                          refine J.q rfl rfl (Q.mv rfl) ?_
                          refine J.call Try.call20 (twin_spec p d1 hdk'.wf) [1] rfl rfl rfl rfl ?_
                          rintro _ _ ⟨p2, d2, rfl, htw, rfl⟩
                          refine J.norm rfl ?_
                          refine J.q rfl rfl (Q.asg rfl) ?_
                          refine J.nil ?_
                          refine J.then_n ?_
                          refine J.region ?_
                          refine J.q rfl rfl (Q.mv rfl) ?_
                          refine J.call Try.call24 (rtwin_spec q r1 hrw') [2] rfl rfl rfl rfl ?_
                          rintro _ _ ⟨q2, rfl, rfl⟩
                          refine J.norm rfl ?_
                          refine J.q rfl rfl (Q.asg rfl) ?_
                          refine J.nil ?_
                          refine J.keep [0, 2, 4, 5, 6] rfl ?_
                          refine J.meet (p2, q2, d2) ⟨htw.dk hdk', (htw.alk hdk'.wf).trans halk'⟩ ⟨rfl, rfl, rfl, rfl, rfl, trivial⟩ rfl
                        ·
                          first | replace hc108 := X.tt_dec hc108 | replace hc108 := X.tt_not hc108 | replace hc108 := X.ff_dec hc108 | replace hc108 := X.ff_not hc108 | skip
                          refine J.cskip ?_
                          refine J.meet (p, q, d1) ⟨hdk', halk'⟩ ⟨rfl, rfl, rfl, rfl, rfl, trivial⟩ rfl
                      ·
                        obtain ⟨p3, q3, d3⟩ := z
                        obtain ⟨hd3, ha3⟩ := hz
                        dsimp only at hd3 ha3
                        refine J.seq ?_
                        refine J.region ?_
                        refine J.q rfl rfl (Q.mv rfl) ?_
                        refine J.q rfl rfl (Q.fa (n := 1) Try.runUnderlying46 rfl rfl Try.sizeOf9 rfl) ?_
                        refine J.q rfl rfl (Q.ld Try.isAgg9 rfl (by first | exact Reads.pt 0 rfl rfl | exact Reads.pt 1 rfl rfl | exact Reads.pt 2 rfl rfl | exact Reads.pt 3 rfl rfl | exact Reads.pt 4 rfl rfl | exact Reads.pt 5 rfl rfl | exact Reads.pt 6 rfl rfl | exact Reads.pt 7 rfl rfl)) ?_
                        refine J.call Try.call12 (read_spec p3 d3 hd3.wf x.a.name) [1] rfl rfl rfl rfl ?_
                        rintro _ _ ⟨p117, c117, rfl, rfl⟩
                        refine J.norm rfl ?_
                        refine J.q rfl rfl (Q.mv rfl) ?_
                        refine J.q rfl rfl (Q.ext rfl rfl) ?_
                        refine J.q rfl rfl (Q.ext rfl rfl) ?_
                        refine J.q rfl rfl (Q.asg rfl) ?_
                        refine J.q rfl rfl (Q.asg rfl) ?_
                        refine J.nil ?_
                        refine J.then_n ?_
                        refine J.seq ?_
                        refine J.region ?_
                        refine J.q rfl rfl (Q.mv rfl) ?_
                        refine J.q rfl rfl (Q.fa (n := 1) Try.runUnderlying46 rfl rfl Try.sizeOf9 rfl) ?_
                        refine J.q rfl rfl (Q.ld Try.isAgg9 rfl (by first | exact Reads.pt 0 rfl rfl | exact Reads.pt 1 rfl rfl | exact Reads.pt 2 rfl rfl | exact Reads.pt 3 rfl rfl | exact Reads.pt 4 rfl rfl | exact Reads.pt 5 rfl rfl | exact Reads.pt 6 rfl rfl | exact Reads.pt 7 rfl rfl)) ?_
                        refine J.call Try.call29 (rread_spec q3 r1 hrw' x.a.name) [2] rfl rfl rfl rfl ?_
                        rintro _ _ ⟨s124, rfl, rfl⟩
                        refine J.norm rfl ?_
                        rw [← ha3.found]
                        refine J.q rfl rfl (Q.mv rfl) ?_
                        refine J.q rfl rfl (Q.ext rfl rfl) ?_
                        refine J.q rfl rfl (Q.ext rfl rfl) ?_
                        refine J.q rfl rfl (Q.asg rfl) ?_
                        refine J.q rfl rfl (Q.asg rfl) ?_
                        refine J.nil ?_
                        refine J.then_n ?_
                        refine J.seq ?_
                        refine J.draw [6, 9, 16, 20] Try.mixed (by kernel_rfl) fun hR => ?_
                        refine RG.q 0 hR rfl rfl rfl rfl rfl rfl (Q.mv rfl) ?_
                        refine RG.q 1 hR rfl rfl rfl rfl rfl rfl (Q.mv rfl) ?_
                        refine RG.q 2 hR rfl rfl rfl rfl rfl rfl (Q.neq rfl rfl) ?_
                        refine RG.q 3 hR rfl rfl rfl rfl rfl rfl (Q.mv rfl) ?_
                        refine RG.cases 130 rfl (fun hb130 => ?_) (fun hb130 => ?_)
                        ·
                          simp at hb130
                        ·
                          skip
                          refine RG.q 4 hR rfl rfl rfl rfl rfl rfl (Q.fa (n := 1) Try.runUnderlying46 rfl rfl Try.sizeOf9 rfl) ?_
                          refine RG.q 5 hR rfl rfl rfl rfl rfl rfl (Q.ld Try.isAgg9 rfl (by first | exact Reads.pt 0 rfl rfl | exact Reads.pt 1 rfl rfl | exact Reads.pt 2 rfl rfl | exact Reads.pt 3 rfl rfl | exact Reads.pt 4 rfl rfl | exact Reads.pt 5 rfl rfl | exact Reads.pt 6 rfl rfl | exact Reads.pt 7 rfl rfl)) ?_
                          refine RG.q 7 hR rfl rfl rfl rfl rfl rfl (Q.fa (n := 1) Try.runUnderlying46 rfl rfl Try.sizeOf9 rfl) ?_
                          refine RG.q 8 hR rfl rfl rfl rfl rfl rfl (Q.ld Try.isAgg9 rfl (by first | exact Reads.pt 0 rfl rfl | exact Reads.pt 1 rfl rfl | exact Reads.pt 2 rfl rfl | exact Reads.pt 3 rfl rfl | exact Reads.pt 4 rfl rfl | exact Reads.pt 5 rfl rfl | exact Reads.pt 6 rfl rfl | exact Reads.pt 7 rfl rfl)) ?_
                          refine RG.callk 6 hR rfl rfl rfl rfl rfl Try.call30 (name_spec x.a.name (by omega)) [] rfl rfl ?_
                          rintro _ _ ⟨rfl, rfl⟩
                          refine ⟨_, X.pick_perm (is := [0, 1, 2, 3, 4, 5]) rfl, ?_⟩
                          refine RG.call 9 hR rfl rfl rfl rfl rfl rfl Try.call31 (rname_spec x.a.name (by omega)) [] rfl rfl ?_
                          rintro _ _ ⟨rfl, rfl⟩
                          refine RG.norm rfl ?_
                          refine RG.q 10 hR rfl rfl rfl rfl rfl rfl (Q.neqb Try.runUnderlying4 rfl rfl) ?_
                          refine RG.q 11 hR rfl rfl rfl rfl rfl rfl (Q.pick_f rfl rfl) ?_
                          refine RG.q 12 hR rfl rfl rfl rfl rfl rfl (Q.mv rfl) ?_
                          refine RG.cases 139 rfl (fun hb139 => ?_) (fun hb139 => ?_)
                          ·
                            simp at hb139
                          ·
                            skip
                            refine RG.q 13 hR rfl rfl rfl rfl rfl rfl (Q.mv rfl) ?_
                            refine RG.q 14 hR rfl rfl rfl rfl rfl rfl (Q.fa (n := 1) Try.runUnderlying46 rfl rfl Try.sizeOf9 rfl) ?_
                            refine RG.q 15 hR rfl rfl rfl rfl rfl rfl (Q.ld Try.isAgg9 rfl (by first | exact Reads.pt 0 rfl rfl | exact Reads.pt 1 rfl rfl | exact Reads.pt 2 rfl rfl | exact Reads.pt 3 rfl rfl | exact Reads.pt 4 rfl rfl | exact Reads.pt 5 rfl rfl | exact Reads.pt 6 rfl rfl | exact Reads.pt 7 rfl rfl)) ?_
                            refine RG.q 17 hR rfl rfl rfl rfl rfl rfl (Q.mv rfl) ?_
                            refine RG.q 18 hR rfl rfl rfl rfl rfl rfl (Q.fa (n := 1) Try.runUnderlying46 rfl rfl Try.sizeOf9 rfl) ?_
                            refine RG.q 19 hR rfl rfl rfl rfl rfl rfl (Q.ld Try.isAgg9 rfl (by first | exact Reads.pt 0 rfl rfl | exact Reads.pt 1 rfl rfl | exact Reads.pt 2 rfl rfl | exact Reads.pt 3 rfl rfl | exact Reads.pt 4 rfl rfl | exact Reads.pt 5 rfl rfl | exact Reads.pt 6 rfl rfl | exact Reads.pt 7 rfl rfl)) ?_
                            refine RG.callk 16 hR rfl rfl rfl rfl rfl Try.call22 (unsynced_spec p3 d3 hd3.wf x.a.name) [2] rfl rfl ?_
                            rintro _ _ ⟨rfl, rfl⟩
                            refine ⟨_, X.pick_perm (is := [1, 2, 0, 3, 4, 5]) rfl, ?_⟩
                            refine RG.call 20 hR rfl rfl rfl rfl rfl rfl Try.call32 (runsynced_spec q3 r1 hrw' x.a.name) [0] rfl rfl ?_
                            rintro _ _ ⟨rfl, rfl⟩
                            refine RG.norm rfl ?_
                            rw [← ha3.unsynced]
                            refine RG.q 21 hR rfl rfl rfl rfl rfl rfl (Q.neq rfl rfl) ?_
                            refine RG.q 22 hR rfl rfl rfl rfl rfl rfl (Q.pick_f rfl rfl) ?_
                            refine RG.fin hR rfl ?_
                            refine J.norm rfl ?_
                            refine J.then_n ?_
                            refine J.cond rfl (fun hc149 => ?_) (fun hc149 => ?_)
                            ·
                              simp at hc149
                            ·
                              first | replace hc149 := X.tt_dec hc149 | replace hc149 := X.tt_not hc149 | replace hc149 := X.ff_dec hc149 | replace hc149 := X.ff_not hc149 | skip
                              refine J.cskip ?_
                              refine J.blk_n ?_
                              refine J.then_n ?_
                              refine J.region ?_
                              refine J.q rfl rfl (Q.mv rfl) ?_
                              refine J.q rfl rfl (Q.add64 rfl rfl (by omega)) ?_
                              refine J.q rfl rfl (Q.asg rfl) ?_
                              refine J.nil ?_
                              refine J.keep [0, 2, 4, 5] rfl ?_
                              refine J.again (k + 1, p3, q3, d3, r1) ⟨by show k + 1 ≤ ln; omega, hd3, hrk', hrs', ha3⟩ (by show ln - (k + 1) < ln - k; omega) ⟨rfl, rfl, rfl, rfl, trivial⟩ rfl
            ·
              first | replace hc48 := X.tt_dec hc48 | replace hc48 := X.tt_not hc48 | replace hc48 := X.ff_dec hc48 | replace hc48 := X.ff_not hc48 | skip
              refine J.exit ?_
              refine J.then_x ?_
              refine J.lp_x ?_
              refine J.blk_x ?_
              refine J.then_n ?_
              refine J.seq ?_
              refine J.region ?_
              refine J.q rfl rfl (Q.asg rfl) ?_
              refine J.nil ?_
              refine J.then_n ?_
              refine J.cret ?_
              refine J.keep [2, 3] rfl ?_
              refine J.ret1 (B := [G]) rfl rfl ⟨rfl, rfl⟩ rfl

end Go.Proofs.Ytkekcdcmmggbaaa
