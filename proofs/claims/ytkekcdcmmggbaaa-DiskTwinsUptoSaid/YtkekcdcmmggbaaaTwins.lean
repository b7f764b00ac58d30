/-
  DiskTwins: a twin and a disk do not see one another.
-/
import Derived.Test.YtkekcdcmmggbaaaPlays
namespace Go.Proofs.Ytkekcdcmmggbaaa
open Go.X

theorem few_len {G : Assn} {lp : Option Addr} {ln lc : Nat} {l : List AW} (hl : Acts G lp ln lc l) (h : fewV l = true) : ln ≤ 500 := by
  unfold fewV at h
  simp only [Bool.and_eq_true, decide_eq_true_eq] at h
  have := hl.len; omega

theorem Dk.play {k : Nat} {d : DM} (h : Dk k d) : ∀ (l : List AW), k + l.length ≤ 1000000 → Dk (k + l.length) (playD d l) := by
  intro l
  induction l generalizing k d with
  | nil => intro _; exact h
  | cons x l ih =>
    intro hk
    simp only [List.length_cons] at hk ⊢
    have := ih (h.step (by omega) x.a).1 (by omega)
    rw [show k + 1 + l.length = k + (l.length + 1) from by omega] at this
    exact this

theorem play_alk {k : Nat} {a b r : DM} (h1 : Alk a r) (h2 : Alk b r) (ha : Dk k a) (hb : Dk k b) (hr : Dk k r) (hs : Srt r.files) : ∀ (l : List AW), k + l.length ≤ 1000000 → Alk (playD a l) (playD b l) := by
  intro l
  induction l generalizing k a b r with
  | nil => intro _; exact h1.trans h2.symm
  | cons x l ih =>
    intro hk
    simp only [List.length_cons] at hk
    obtain ⟨hr', hs', _⟩ := hr.stepR hs (by omega) x.a
    exact ih (step_alk h1 ha.wf hr.wf hs x.a).2 (step_alk h2 hb.wf hr.wf hs x.a).2 (ha.step (by omega) x.a).1 (hb.step (by omega) x.a).1 hr' hs' (by omega)

theorem same_spec (p : Nat) (G : Assn) (lp : Option Addr) (ln lc : Nat) (l : List AW) (hl : Acts G lp ln lc l) (hn : ln ≤ 500) :
    FSpec Try.prog 23 [.pointer (some ⟨p, 0, none⟩), .slice lp ln lc] [DiskAt p (playD ⟨1048576, 0, []⟩ l), G] (fun v B => v = .bool true ∧ B = [DiskAt p (playD ⟨1048576, 0, []⟩ l), G]) := by
  have hll := hl.len
  have hdk := (Dk.new 1048576 (by decide)).play l (by omega)
  have hdl := hdk.len
  refine FSpec.of Try.func23 rfl Try.ntmps23 rfl fun W0 F => ?_
  refine J.seq ?_
  refine J.region ?_
  refine J.q rfl rfl (Q.asg rfl) ?_
  refine J.nil ?_
  refine J.then_n ?_
  refine J.seq ?_
  refine J.region ?_
  refine J.call Try.call9 (new_yes 1048576 (by decide) (by decide)) [] rfl rfl rfl rfl ?_
  rintro _ _ ⟨p1, rfl, rfl⟩
  refine J.norm rfl ?_
  refine J.q rfl rfl (Q.mv rfl) ?_
  refine J.q rfl rfl (Q.ext rfl rfl) ?_
  refine J.q rfl rfl (Q.ext rfl rfl) ?_
  refine J.q rfl rfl (Q.asg rfl) ?_
  refine J.q rfl rfl (Q.asg rfl) ?_
  refine J.nil ?_
  refine J.then_n ?_
  refine J.seq ?_
  refine J.region ?_
  refine J.q rfl rfl (Q.mv rfl) ?_
  refine J.q rfl rfl (Q.mv rfl) ?_
  refine J.call Try.call25 (play_spec p1 ⟨1048576, 0, []⟩ ((Dk.new _ (by decide)).mono (by decide)) G lp ln lc l hl hn) [0, 2] rfl rfl rfl rfl ?_
  rintro _ _ ⟨rfl, rfl⟩
  refine J.norm rfl ?_
  refine J.nil ?_
  refine J.then_n ?_
  refine J.seq ?_
  refine J.region ?_
  refine J.q rfl rfl (Q.mv rfl) ?_
  refine J.q rfl rfl (Q.mv rfl) ?_
  refine J.call Try.call26 (equal_spec p p1 (playD ⟨1048576, 0, []⟩ l) (playD ⟨1048576, 0, []⟩ l) hdk.wf hdk.wf (by omega) (by omega) (Alk.rfl' _)) [2, 0] rfl rfl rfl rfl ?_
  rintro _ _ ⟨rfl, rfl⟩
  refine J.norm rfl ?_
  refine J.q rfl rfl (Q.asg rfl) ?_
  refine J.nil ?_
  refine J.then_n ?_
  refine J.cret ?_
  refine J.keep [0, 2, 3] rfl ?_
  refine J.ret1 (B := [DiskAt p (playD ⟨1048576, 0, []⟩ l), G]) rfl rfl ⟨rfl, rfl⟩ rfl

theorem twins_spec (G : Assn) (lp : Option Addr) (ln lc : Nat) (l : List AW) (hl : Acts G lp ln lc l) (ep : Option Addr) (en ec : Nat) (left : List AW) (hle : Acts G ep en ec left) (gp : Option Addr) (gn gc : Nat) (right : List AW) (hri : Acts G gp gn gc right) :
    FSpec Try.prog 6 [.slice lp ln lc, .slice ep en ec, .slice gp gn gc] [G] (fun v B => v = .bool true ∧ B = [G]) := by
  refine FSpec.of Try.func6 rfl Try.ntmps6 rfl fun W0 F => ?_
  refine J.seq ?_
  refine J.region ?_
  refine J.q rfl rfl (Q.asg rfl) ?_
  refine J.nil ?_
  refine J.then_n ?_
  refine J.seq ?_
  refine J.seq ?_
  refine J.region ?_
  refine J.call Try.call8 (known_spec) [] rfl rfl rfl rfl ?_
  rintro _ _ ⟨rfl, rfl⟩
  refine J.norm rfl ?_
  refine J.q rfl rfl (Q.not rfl) ?_
  refine J.nil ?_
  refine J.then_n ?_
  refine J.cond rfl (fun hc25 => ?_) (fun hc25 => ?_)
  ·
    cases hc25
  ·
    first | replace hc25 := X.tt_dec hc25 | replace hc25 := X.tt_not hc25 | replace hc25 := X.ff_dec hc25 | replace hc25 := X.ff_not hc25 | skip
    refine J.cskip ?_
    refine J.then_n ?_
    refine J.seq ?_
    refine J.seq ?_
    refine J.region ?_
    refine J.q rfl rfl (Q.mv rfl) ?_
    refine J.call Try.call17 (few_spec G lp ln lc l hl) [0] rfl rfl rfl rfl ?_
    rintro _ _ ⟨rfl, rfl⟩
    refine J.norm rfl ?_
    refine J.q rfl rfl (Q.not rfl) ?_
    refine J.q rfl rfl (Q.mv rfl) ?_
    refine J.cases 29 rfl (fun hb29 => ?_) (fun hb29 => ?_)
    ·
      first | replace hb29 := X.tt_dec hb29 | replace hb29 := X.tt_not hb29 | replace hb29 := X.ff_dec hb29 | replace hb29 := X.ff_not hb29 | skip
      refine J.skip rfl rfl ?_
      refine J.skip rfl rfl ?_
      refine J.skip rfl rfl ?_
      refine J.q rfl rfl (Q.pick_t rfl rfl) ?_
      refine J.q rfl rfl (Q.mv rfl) ?_
      refine J.skip rfl rfl ?_
      refine J.skip rfl rfl ?_
      refine J.skip rfl rfl ?_
      refine J.q rfl rfl (Q.pick_t rfl rfl) ?_
      refine J.nil ?_
      refine J.then_n ?_
      refine J.cond_t rfl ?_
      refine J.seq ?_
      refine J.region ?_
      refine J.q rfl rfl (Q.asg rfl) ?_
      refine J.nil ?_
      refine J.then_n ?_
      refine J.cret ?_
      refine J.then_r ?_
      refine J.ret1 (B := [G]) rfl rfl ⟨rfl, rfl⟩ rfl
    ·
      first | replace hb29 := X.tt_dec hb29 | replace hb29 := X.tt_not hb29 | replace hb29 := X.ff_dec hb29 | replace hb29 := X.ff_not hb29 | skip
      refine J.q rfl rfl (Q.mv rfl) ?_
      refine J.call Try.call17 (few_spec G ep en ec left hle) [0] rfl rfl rfl rfl ?_
      rintro _ _ ⟨rfl, rfl⟩
      refine J.norm rfl ?_
      refine J.q rfl rfl (Q.not rfl) ?_
      refine J.q rfl rfl (Q.pick_f rfl rfl) ?_
      refine J.q rfl rfl (Q.mv rfl) ?_
      refine J.cases 34 rfl (fun hb34 => ?_) (fun hb34 => ?_)
      ·
        first | replace hb34 := X.tt_dec hb34 | replace hb34 := X.tt_not hb34 | replace hb34 := X.ff_dec hb34 | replace hb34 := X.ff_not hb34 | skip
        refine J.skip rfl rfl ?_
        refine J.skip rfl rfl ?_
        refine J.skip rfl rfl ?_
        refine J.q rfl rfl (Q.pick_t rfl rfl) ?_
        refine J.nil ?_
        refine J.then_n ?_
        refine J.cond_t rfl ?_
        refine J.seq ?_
        refine J.region ?_
        refine J.q rfl rfl (Q.asg rfl) ?_
        refine J.nil ?_
        refine J.then_n ?_
        refine J.cret ?_
        refine J.then_r ?_
        refine J.ret1 (B := [G]) rfl rfl ⟨rfl, rfl⟩ rfl
      ·
        first | replace hb34 := X.tt_dec hb34 | replace hb34 := X.tt_not hb34 | replace hb34 := X.ff_dec hb34 | replace hb34 := X.ff_not hb34 | skip
        refine J.q rfl rfl (Q.mv rfl) ?_
        refine J.call Try.call17 (few_spec G gp gn gc right hri) [0] rfl rfl rfl rfl ?_
        rintro _ _ ⟨rfl, rfl⟩
        refine J.norm rfl ?_
        refine J.q rfl rfl (Q.not rfl) ?_
        refine J.q rfl rfl (Q.pick_f rfl rfl) ?_
        refine J.nil ?_
        refine J.then_n ?_
        refine J.cond rfl (fun hc38 => ?_) (fun hc38 => ?_)
        ·
          first | replace hc38 := X.tt_dec hc38 | replace hc38 := X.tt_not hc38 | replace hc38 := X.ff_dec hc38 | replace hc38 := X.ff_not hc38 | skip
          refine J.seq ?_
          refine J.region ?_
          refine J.q rfl rfl (Q.asg rfl) ?_
          refine J.nil ?_
          refine J.then_n ?_
          refine J.cret ?_
          refine J.then_r ?_
          refine J.ret1 (B := [G]) rfl rfl ⟨rfl, rfl⟩ rfl
        ·
          first | replace hc38 := X.tt_dec hc38 | replace hc38 := X.tt_not hc38 | replace hc38 := X.ff_dec hc38 | replace hc38 := X.ff_not hc38 | skip
          refine J.cskip ?_
          refine J.then_n ?_
          refine J.seq ?_
          refine J.region ?_
          refine J.call Try.call9 (new_yes 1048576 (by decide) (by decide)) [] rfl rfl rfl rfl ?_
          rintro _ _ ⟨p0, rfl, rfl⟩
          refine J.norm rfl ?_
          refine J.q rfl rfl (Q.mv rfl) ?_
          refine J.q rfl rfl (Q.ext rfl rfl) ?_
          refine J.q rfl rfl (Q.ext rfl rfl) ?_
          refine J.q rfl rfl (Q.asg rfl) ?_
          refine J.q rfl rfl (Q.asg rfl) ?_
          refine J.nil ?_
          refine J.then_n ?_
          refine J.seq ?_
          refine J.region ?_
          refine J.call Try.call18 (rnew_yes 1048576 (by decide) (by decide)) [] rfl rfl rfl rfl ?_
          rintro _ _ ⟨q0, rfl, rfl⟩
          refine J.norm rfl ?_
          refine J.q rfl rfl (Q.mv rfl) ?_
          refine J.q rfl rfl (Q.ext rfl rfl) ?_
          refine J.q rfl rfl (Q.ext rfl rfl) ?_
          refine J.q rfl rfl (Q.asg rfl) ?_
          refine J.q rfl rfl (Q.asg rfl) ?_
          refine J.nil ?_
          refine J.then_n ?_
          refine J.seq ?_
          refine J.seq ?_
          refine J.region ?_
          refine J.q rfl rfl (Q.mv rfl) ?_
          refine J.q rfl rfl (Q.neq rfl rfl) ?_
          refine J.q rfl rfl (Q.mv rfl) ?_
          refine J.cases 49 rfl (fun hb49 => ?_) (fun hb49 => ?_)
          ·
            simp at hb49
          ·
            skip
            refine J.q rfl rfl (Q.mv rfl) ?_
            refine J.q rfl rfl (Q.eqlp Try.runUnderlying24 rfl rfl) ?_
            refine J.q rfl rfl (Q.pick_f rfl rfl) ?_
            refine J.nil ?_
            refine J.then_n ?_
            refine J.cond rfl (fun hc52 => ?_) (fun hc52 => ?_)
            ·
              simp at hc52
            ·
              first | replace hc52 := X.tt_dec hc52 | replace hc52 := X.tt_not hc52 | replace hc52 := X.ff_dec hc52 | replace hc52 := X.ff_not hc52 | skip
              refine J.cskip ?_
              refine J.then_n ?_
              refine J.seq ?_
              refine J.seq ?_
              refine J.region ?_
              refine J.q rfl rfl (Q.asg rfl) ?_
              refine J.nil ?_
              refine J.then_n ?_
              refine J.block ?_
              have hln : ln ≤ 500 := few_len hl (by simpa using hb29)
              have hen : en ≤ 500 := few_len hle (by simpa using hb34)
              have hgn : gn ≤ 500 := few_len hri (by simpa using hc38)
              have hlen := hl.len
              have hlene := hle.len
              have hleng := hri.len
              refine J.loop (fun z : Nat × DM × DM => z.1 ≤ ln ∧ z.2.1 = playD ⟨1048576, 0, []⟩ (l.take z.1) ∧ Dk z.1 z.2.1 ∧ Dk z.1 z.2.2 ∧ Srt z.2.2.files ∧ Alk z.2.1 z.2.2) (fun z => ln - z.1) (fun z => [(0, .slice lp ln lc), (1, .slice ep en ec), (2, .slice gp gn gc), (7, .pointer (some ⟨p0, 0, none⟩)), (9, .pointer (some ⟨q0, 0, none⟩)), (11, .int .i64 z.1)])
                (fun z => [RefAt q0 z.2.2, DiskAt p0 z.2.1, G, F]) (0, ⟨1048576, 0, []⟩, ⟨1048576, 0, []⟩) ⟨Nat.zero_le _, rfl, Dk.new _ (by decide), Dk.new _ (by decide), List.Pairwise.nil, Alk.rfl' _⟩ ⟨rfl, rfl, rfl, rfl, rfl, rfl, trivial⟩ rfl fun z hz => ?_
              obtain ⟨k, d, r⟩ := z
              obtain ⟨hk, hdp, hdk, hrk, hrs, halk⟩ := hz
              dsimp only at hk hdp hdk hrk hrs halk
              have hdl := hdk.len
              refine J.seq ?_
              refine J.seq ?_
              refine J.region ?_
              refine J.q rfl rfl (Q.mv rfl) ?_
              refine J.q rfl rfl (Q.mv rfl) ?_
              refine J.q rfl rfl (Q.lenSl Try.runUnderlying39 rfl) ?_
              refine J.q rfl rfl (Q.lss rfl rfl) ?_
              refine J.nil ?_
              refine J.then_n ?_
              refine J.cond rfl (fun hc56 => ?_) (fun hc56 => ?_)
              ·
                first | replace hc56 := X.tt_dec hc56 | replace hc56 := X.tt_not hc56 | replace hc56 := X.ff_dec hc56 | replace hc56 := X.ff_not hc56 | skip
                refine J.cskip ?_
                refine J.then_n ?_
                refine J.seq ?_
                refine J.block ?_
                refine J.seq ?_
                obtain ⟨b, off, rfl, hrd⟩ := hl.rd.some_ (by omega)
                obtain ⟨x, hx⟩ : ∃ x, l[k]? = some x := ⟨_, List.getElem?_eq_getElem (by omega)⟩
                have hxo := hl.ok x (List.mem_of_getElem? hx)
                have hsm := hxo.small
                obtain ⟨_, halk'⟩ := step_alk halk hdk.wf hrk.wf hrs x.a
                obtain ⟨hdk', _⟩ := hdk.step (by omega) x.a
                obtain ⟨hrk', hrs', _⟩ := hrk.stepR hrs (by omega) x.a
                refine J.region ?_
                refine J.c rfl rfl (C.bslG (l := []) Try.runUnderlying30 Try.sizeOf5 Try.zeroValue5 (by decide) rfl rfl rfl rfl rfl) ?_
                rintro _ _ ⟨b59, rfl, rfl⟩
                refine J.norm rfl ?_
                refine J.q rfl rfl (Q.mv rfl) ?_
                refine J.q rfl rfl (Q.mv rfl) ?_
                refine J.q rfl rfl (Q.ia Try.runUnderlying39 Try.sizeOf46 rfl rfl (by omega) (by omega)) ?_
                refine J.q rfl rfl (Q.fa (n := 4) Try.runUnderlying46 rfl rfl Try.sizeOf30 rfl) ?_
                refine J.q rfl rfl (Q.ld Try.isAgg30 rfl ((rd_field AW.cells_length hrd hx (k := 4) rfl (by simp; omega)).within (i := 3) rfl)) ?_
                refine J.conv 0 rfl (own_of_zero (sz := 1)) ?_
                refine J.c rfl rfl (C.app (i := 0) Try.runUnderlying30 Try.runUnderlying30 Try.typeInfo5 Try.sizeOf5 Try.zeroValue5 rfl rfl rfl (hxo.bytes.within (i := 3) rfl) (bytesV_one _) (by simp [Try.t5] <;> omega) (by decide)) ?_
                rintro _ _ ⟨p65, c65, rfl, rfl⟩
                refine J.norm rfl ?_
                rw [show 0 + x.a.bytes.length = x.a.bytes.length from by omega, List.nil_append]
                refine J.slr1 0 rfl fun hs65 => ?_
                refine J.tells 0 rfl own.len fun hl65 => ?_
                refine J.q rfl rfl (Q.asg rfl) ?_
                refine J.nil ?_
                refine J.then_n ?_
                refine J.seq ?_
                refine J.region ?_
                refine J.q rfl rfl (Q.mv rfl) ?_
                refine J.q rfl rfl (Q.mv rfl) ?_
                refine J.q rfl rfl (Q.ia Try.runUnderlying39 Try.sizeOf46 rfl rfl (by omega) (by omega)) ?_
                refine J.q rfl rfl (Q.ldN (vs := [_, _, _, _, _, _]) Try.isAgg46 Try.sizeOf46 rfl ((rd_elem AW.cells_length hrd hx (by simp)).within (i := 3) rfl)) ?_
                refine J.c rfl rfl (C.alloc (l := [_, _, _, _, _, _]) Try.zeroValue46 rfl) ?_
                rintro _ _ ⟨b13, rfl, rfl⟩
                refine J.norm rfl ?_
                refine J.c0 rfl (C.stA (i := 0) (vs := x.cells) Try.sizeOf46 rfl rfl rfl rfl rfl rfl) ?_
                rintro _ _ ⟨rfl, rfl⟩
                refine J.nil ?_
                refine J.then_n ?_
                refine J.seq ?_
                refine J.region ?_
                refine J.q rfl rfl (Q.mv rfl) ?_
                refine J.q rfl rfl (Q.fa (n := 4) Try.runUnderlying46 rfl rfl Try.sizeOf30 rfl) ?_
                refine J.st (i := 0) rfl Try.sizeOf30 rfl rfl rfl rfl rfl rfl rfl ?_
                refine J.nil ?_
                refine J.then_n ?_
                refine J.seq ?_
                refine J.region ?_
                refine J.q rfl rfl (Q.mv rfl) ?_
                refine J.q rfl rfl (Q.mv rfl) ?_
                refine J.q rfl rfl (Q.ldN (vs := [_, _, _, _, _, _]) Try.isAgg46 Try.sizeOf46 rfl (fun j u h => Reads.pt 0 rfl (by rw [Nat.zero_add]; exact h))) ?_
                refine J.pack [1, 4] rfl ?_
                refine J.call Try.call19 (step_spec p0 q0 d r hdk.wf (by omega) (hrk.rwf hrs (by omega)) (by have := hrk.born; omega) (star [own 5 1 (.slice p65 x.a.bytes.length c65) (bytesV x.a.bytes), G]) ⟨x.a, x.np, x.nc, p65, c65, x.pp, x.pc⟩ ⟨hxo.names.into 1 rfl, hs65.into 0 rfl, hxo.picks.into 1 rfl, hl65.2, hxo.op, hxo.ints, hxo.small, hxo.nsmall⟩) [3, 2, 0] rfl rfl rfl rfl ?_
                rintro _ _ ⟨rfl, rfl⟩
                refine J.norm rfl ?_
                refine J.unpack 2 rfl rfl ?_
                refine J.nil ?_
                refine J.then_n ?_
                refine J.seq ?_
                refine J.seq ?_
                refine J.draw [] Try.mixed (by kernel_rfl) fun hR => ?_
                refine RG.q 0 hR rfl rfl rfl rfl rfl rfl (Q.mv rfl) ?_
                refine RG.q 1 hR rfl rfl rfl rfl rfl rfl (Q.b2s (bs := x.a.bytes) Try.runUnderlying30 Try.runUnderlying9 Try.runUnderlying5 rfl (hs65.within (i := 0) rfl)) ?_
                refine RG.q 2 hR rfl rfl rfl rfl rfl rfl (Q.mv rfl) ?_
                refine RG.q 3 hR rfl rfl rfl rfl rfl rfl (Q.mv rfl) ?_
                refine RG.q 4 hR rfl rfl rfl rfl rfl rfl (Q.ia Try.runUnderlying39 Try.sizeOf46 rfl rfl (by omega) (by omega)) ?_
                refine RG.q 5 hR rfl rfl rfl rfl rfl rfl (Q.fa (n := 4) Try.runUnderlying46 rfl rfl Try.sizeOf30 rfl) ?_
                refine RG.q 6 hR rfl rfl rfl rfl rfl rfl (Q.ld Try.isAgg30 rfl ((rd_field AW.cells_length hrd hx (k := 4) rfl (by simp; omega)).within (i := 1) rfl)) ?_
                refine RG.q 7 hR rfl rfl rfl rfl rfl rfl (Q.b2s (bs := x.a.bytes) Try.runUnderlying30 Try.runUnderlying9 Try.runUnderlying5 rfl (hxo.bytes.within (i := 1) rfl)) ?_
                refine RG.q 8 hR rfl rfl rfl rfl rfl rfl (Q.neqs rfl rfl) ?_
                refine RG.fin hR rfl ?_
                refine J.norm rfl ?_
                refine J.then_n ?_
                refine J.cond rfl (fun hc84 => ?_) (fun hc84 => ?_)
                ·
                  simp at hc84
                ·
                  first | replace hc84 := X.tt_dec hc84 | replace hc84 := X.tt_not hc84 | replace hc84 := X.ff_dec hc84 | replace hc84 := X.ff_not hc84 | skip
                  refine J.cskip ?_
                  refine J.then_n ?_
                  refine J.seq ?_
                  refine J.seq ?_
                  refine J.region ?_
                  refine J.q rfl rfl (Q.asg rfl) ?_
                  refine J.nil ?_
                  refine J.then_n ?_
                  refine J.block ?_
                  refine J.keep [0, 1, 2, 3, 5] rfl ?_
                  refine J.loop (fun z : Nat × List Value => z.1 ≤ x.a.bytes.length ∧ z.2.length = x.a.bytes.length) (fun z => x.a.bytes.length - z.1) (fun z => [(0, .slice (some ⟨b, off, none⟩) ln lc), (1, .slice ep en ec), (2, .slice gp gn gc), (7, .pointer (some ⟨p0, 0, none⟩)), (9, .pointer (some ⟨q0, 0, none⟩)), (11, .int .i64 k), (12, .slice p65 x.a.bytes.length c65), (14, .int .i64 z.1)])
                    (fun z => [own 5 1 (.slice p65 x.a.bytes.length c65) z.2, G, DiskAt p0 (stepD d x.a), RefAt q0 (stepR r x.a), F]) (0, bytesV x.a.bytes) ⟨Nat.zero_le _, bytesV_length _⟩ ⟨rfl, rfl, rfl, rfl, rfl, rfl, rfl, rfl, trivial⟩ rfl fun z hz => ?_
                  obtain ⟨j, xs⟩ := z
                  obtain ⟨hj, hxs⟩ := hz
                  dsimp only at hj hxs
                  refine J.seq ?_
                  refine J.seq ?_
                  refine J.region ?_
                  refine J.q rfl rfl (Q.mv rfl) ?_
                  refine J.q rfl rfl (Q.mv rfl) ?_
                  refine J.q rfl rfl (Q.lenSl Try.runUnderlying30 rfl) ?_
                  refine J.q rfl rfl (Q.lss rfl rfl) ?_
                  refine J.nil ?_
                  refine J.then_n ?_
                  refine J.cond rfl (fun hc88 => ?_) (fun hc88 => ?_)
                  ·
                    first | replace hc88 := X.tt_dec hc88 | replace hc88 := X.tt_not hc88 | replace hc88 := X.ff_dec hc88 | replace hc88 := X.ff_not hc88 | skip
                    refine J.cskip ?_
                    refine J.then_n ?_
                    refine J.seq ?_
                    refine J.block ?_
                    obtain ⟨b65, o65, rfl, _⟩ := hs65.some_ (by omega)
                    refine J.region ?_
                    refine J.q rfl rfl (Q.mv rfl) ?_
                    refine J.q rfl rfl (Q.mv rfl) ?_
                    refine J.q rfl rfl (Q.ia Try.runUnderlying30 Try.sizeOf5 rfl rfl (by omega) (by omega)) ?_
                    refine J.c0 rfl (C.stO 0 (j := j) Try.sizeOf5 rfl rfl rfl rfl (by simp) (by show j + 1 ≤ xs.length; omega)) ?_
                    rintro _ _ ⟨rfl, rfl⟩
                    refine J.norm rfl ?_
                    refine J.nil ?_
                    refine J.blk_n ?_
                    refine J.then_n ?_
                    refine J.region ?_
                    refine J.q rfl rfl (Q.mv rfl) ?_
                    refine J.q rfl rfl (Q.add64 rfl rfl (by omega)) ?_
                    refine J.q rfl rfl (Q.asg rfl) ?_
                    refine J.nil ?_
                    refine J.again (j + 1, xs.set j (.int .u8 122)) ⟨by show j + 1 ≤ _; omega, by show (xs.set j _).length = _; rw [List.length_set]; exact hxs⟩ (by show x.a.bytes.length - (j + 1) < x.a.bytes.length - j; omega) ⟨rfl, rfl, rfl, rfl, rfl, rfl, rfl, rfl, trivial⟩ rfl
                  ·
                    first | replace hc88 := X.tt_dec hc88 | replace hc88 := X.tt_not hc88 | replace hc88 := X.ff_dec hc88 | replace hc88 := X.ff_not hc88 | skip
                    refine J.exit ?_
                    refine J.then_x ?_
                    refine J.lp_x ?_
                    refine J.blk_x ?_
                    refine J.then_n ?_
                    refine J.seq ?_
                    refine J.region ?_
                    refine J.q rfl rfl (Q.mv rfl) ?_
                    refine J.q rfl rfl (Q.mv rfl) ?_
                    refine J.q rfl rfl (Q.mv rfl) ?_
                    refine J.q rfl rfl (Q.ia Try.runUnderlying39 Try.sizeOf46 rfl rfl (by omega) (by omega)) ?_
                    refine J.q rfl rfl (Q.fa (n := 1) Try.runUnderlying46 rfl rfl Try.sizeOf9 rfl) ?_
                    refine J.q rfl rfl (Q.ld Try.isAgg9 rfl ((rd_field AW.cells_length hrd hx (k := 1) rfl (by simp; omega)).within (i := 1) rfl)) ?_
                    refine J.call Try.call12 (read_spec p0 (stepD d x.a) hdk'.wf x.a.name) [2] rfl rfl rfl rfl ?_
                    rintro _ _ ⟨p101, c101, rfl, rfl⟩
                    refine J.norm rfl ?_
                    obtain ⟨bs2, hbs2⟩ : ∃ bs2, bs2 = (stepD d x.a).bytes x.a.name := ⟨_, rfl⟩
                    have hbl2 : bs2.length ≤ 1073741824 := by
                      rw [hbs2]; unfold DM.bytes
                      split
                      · rename_i f hf
                        have h1 := hdk'.wf.len hf
                        have h2 := hdk'.wf.size
                        omega
                      · simp
                    rw [← hbs2]
                    refine J.slr1 0 rfl fun hs101 => ?_
                    refine J.q rfl rfl (Q.mv rfl) ?_
                    refine J.q rfl rfl (Q.ext rfl rfl) ?_
                    refine J.q rfl rfl (Q.ext rfl rfl) ?_
                    refine J.q rfl rfl (Q.asg rfl) ?_
                    refine J.q rfl rfl (Q.asg rfl) ?_
                    refine J.nil ?_
                    refine J.then_n ?_
                    refine J.seq ?_
                    refine J.region ?_
                    refine J.q rfl rfl (Q.asg rfl) ?_
                    refine J.nil ?_
                    refine J.then_n ?_
                    refine J.block ?_
                    refine J.keep [0, 1, 3, 4, 5] rfl ?_
                    refine J.loop (fun z : Nat × List Value => z.1 ≤ bs2.length ∧ z.2.length = bs2.length) (fun z => bs2.length - z.1) (fun z => [(0, .slice (some ⟨b, off, none⟩) ln lc), (1, .slice ep en ec), (2, .slice gp gn gc), (7, .pointer (some ⟨p0, 0, none⟩)), (9, .pointer (some ⟨q0, 0, none⟩)), (11, .int .i64 k), (15, .slice p101 bs2.length c101), (17, .int .i64 z.1)])
                      (fun z => [own 5 1 (.slice p101 bs2.length c101) z.2, DiskAt p0 (stepD d x.a), G, RefAt q0 (stepR r x.a), F]) (0, bytesV bs2) ⟨Nat.zero_le _, bytesV_length _⟩ ⟨rfl, rfl, rfl, rfl, rfl, rfl, rfl, rfl, trivial⟩ rfl fun z hz => ?_
                    obtain ⟨j, xs⟩ := z
                    obtain ⟨hj, hxs⟩ := hz
                    dsimp only at hj hxs
                    refine J.seq ?_
                    refine J.seq ?_
                    refine J.region ?_
                    refine J.q rfl rfl (Q.mv rfl) ?_
                    refine J.q rfl rfl (Q.mv rfl) ?_
                    refine J.q rfl rfl (Q.lenSl Try.runUnderlying30 rfl) ?_
                    refine J.q rfl rfl (Q.lss rfl rfl) ?_
                    refine J.nil ?_
                    refine J.then_n ?_
                    refine J.cond rfl (fun hc107 => ?_) (fun hc107 => ?_)
                    ·
                      first | replace hc107 := X.tt_dec hc107 | replace hc107 := X.tt_not hc107 | replace hc107 := X.ff_dec hc107 | replace hc107 := X.ff_not hc107 | skip
                      refine J.cskip ?_
                      refine J.then_n ?_
                      refine J.seq ?_
                      refine J.block ?_
                      obtain ⟨b101, o101, rfl, _⟩ := hs101.some_ (by omega)
                      refine J.region ?_
                      refine J.q rfl rfl (Q.mv rfl) ?_
                      refine J.q rfl rfl (Q.mv rfl) ?_
                      refine J.q rfl rfl (Q.ia Try.runUnderlying30 Try.sizeOf5 rfl rfl (by omega) (by omega)) ?_
                      refine J.c0 rfl (C.stO 0 (j := j) Try.sizeOf5 rfl rfl rfl rfl (by simp) (by show j + 1 ≤ xs.length; omega)) ?_
                      rintro _ _ ⟨rfl, rfl⟩
                      refine J.norm rfl ?_
                      refine J.nil ?_
                      refine J.blk_n ?_
                      refine J.then_n ?_
                      refine J.region ?_
                      refine J.q rfl rfl (Q.mv rfl) ?_
                      refine J.q rfl rfl (Q.add64 rfl rfl (by omega)) ?_
                      refine J.q rfl rfl (Q.asg rfl) ?_
                      refine J.nil ?_
                      refine J.again (j + 1, xs.set j (.int .u8 122)) ⟨by show j + 1 ≤ _; omega, by show (xs.set j _).length = _; rw [List.length_set]; exact hxs⟩ (by show bs2.length - (j + 1) < bs2.length - j; omega) ⟨rfl, rfl, rfl, rfl, rfl, rfl, rfl, rfl, trivial⟩ rfl
                    ·
                      first | replace hc107 := X.tt_dec hc107 | replace hc107 := X.tt_not hc107 | replace hc107 := X.ff_dec hc107 | replace hc107 := X.ff_not hc107 | skip
                      refine J.exit ?_
                      refine J.then_x ?_
                      refine J.lp_x ?_
                      refine J.blk_x ?_
                      refine J.blk_n ?_
                      refine J.then_n ?_
                      refine J.region ?_
                      refine J.q rfl rfl (Q.mv rfl) ?_
                      refine J.q rfl rfl (Q.add64 rfl rfl (by omega)) ?_
                      refine J.q rfl rfl (Q.asg rfl) ?_
                      refine J.nil ?_
                      refine J.keep [3, 1, 2, 4] rfl ?_
                      refine J.again (k + 1, stepD d x.a, stepR r x.a) ⟨by show k + 1 ≤ ln; omega, by rw [hdp]; exact (foldl_take (fun d (x : AW) => stepD d x.a) _ hx).symm, hdk', hrk', hrs', halk'⟩ (by show ln - (k + 1) < ln - k; omega) ⟨rfl, rfl, rfl, rfl, rfl, rfl, trivial⟩ rfl
              ·
                first | replace hc56 := X.tt_dec hc56 | replace hc56 := X.tt_not hc56 | replace hc56 := X.ff_dec hc56 | replace hc56 := X.ff_not hc56 | skip
                refine J.exit ?_
                refine J.then_x ?_
                refine J.lp_x ?_
                refine J.blk_x ?_
                refine J.then_n ?_
                refine J.seq ?_
                refine J.seq ?_
                rw [List.take_of_length_le (by omega)] at hdp
                subst hdp
                refine J.region ?_
                refine J.q rfl rfl (Q.mv rfl) ?_
                refine J.q rfl rfl (Q.mv rfl) ?_
                refine J.call Try.call23 (same_spec p0 G lp ln lc l hl hln) [1, 2] rfl rfl rfl rfl ?_
                rintro _ _ ⟨rfl, rfl⟩
                refine J.norm rfl ?_
                refine J.q rfl rfl (Q.not rfl) ?_
                refine J.nil ?_
                refine J.then_n ?_
                refine J.cond rfl (fun hc116 => ?_) (fun hc116 => ?_)
                ·
                  cases hc116
                ·
                  first | replace hc116 := X.tt_dec hc116 | replace hc116 := X.tt_not hc116 | replace hc116 := X.ff_dec hc116 | replace hc116 := X.ff_not hc116 | skip
                  refine J.cskip ?_
                  refine J.then_n ?_
                  refine J.seq ?_
                  obtain ⟨d, hdd⟩ : ∃ d, d = playD ⟨1048576, 0, []⟩ l := ⟨_, rfl⟩
                  rw [← hdd] at hdk halk
                  rw [← hdd]
                  refine J.region ?_
                  refine J.q rfl rfl (Q.mv rfl) ?_
                  refine J.call Try.call20 (twin_spec p0 d hdk.wf) [0] rfl rfl rfl rfl ?_
                  rintro _ _ ⟨p2, d2, rfl, htw, rfl⟩
                  refine J.norm rfl ?_
                  have hd2 := htw.dk hdk
                  have hal2 := (htw.alk hdk.wf)
                  refine J.q rfl rfl (Q.asg rfl) ?_
                  refine J.nil ?_
                  refine J.then_n ?_
                  refine J.seq ?_
                  refine J.region ?_
                  refine J.q rfl rfl (Q.mv rfl) ?_
                  refine J.call Try.call24 (rtwin_spec q0 r (hrk.rwf hrs (by omega))) [3] rfl rfl rfl rfl ?_
                  rintro _ _ ⟨q2, rfl, rfl⟩
                  refine J.norm rfl ?_
                  refine J.q rfl rfl (Q.asg rfl) ?_
                  refine J.nil ?_
                  refine J.then_n ?_
                  refine J.seq ?_
                  refine J.seq ?_
                  refine J.region ?_
                  refine J.q rfl rfl (Q.mv rfl) ?_
                  refine J.q rfl rfl (Q.eqlp Try.runUnderlying24 rfl rfl) ?_
                  refine J.nil ?_
                  refine J.then_n ?_
                  refine J.cond rfl (fun hc122 => ?_) (fun hc122 => ?_)
                  ·
                    cases hc122
                  ·
                    first | replace hc122 := X.tt_dec hc122 | replace hc122 := X.tt_not hc122 | replace hc122 := X.ff_dec hc122 | replace hc122 := X.ff_not hc122 | skip
                    refine J.cskip ?_
                    refine J.then_n ?_
                    refine J.seq ?_
                    refine J.region ?_
                    refine J.q rfl rfl (Q.mv rfl) ?_
                    refine J.q rfl rfl (Q.mv rfl) ?_
                    refine J.call Try.call25 (play_spec p0 d (hdk.mono (by omega)) G ep en ec left hle hen) [3, 4] rfl rfl rfl rfl ?_
                    rintro _ _ ⟨rfl, rfl⟩
                    refine J.norm rfl ?_
                    refine J.nil ?_
                    refine J.then_n ?_
                    refine J.seq ?_
                    refine J.region ?_
                    refine J.q rfl rfl (Q.mv rfl) ?_
                    refine J.q rfl rfl (Q.mv rfl) ?_
                    refine J.call Try.call25 (play_spec p2 d2 (hd2.mono (by omega)) G gp gn gc right hri hgn) [4, 1] rfl rfl rfl rfl ?_
                    rintro _ _ ⟨rfl, rfl⟩
                    refine J.norm rfl ?_
                    refine J.nil ?_
                    refine J.then_n ?_
                    refine J.seq ?_
                    refine J.region ?_
                    refine J.call Try.call9 (new_yes 1048576 (by decide) (by decide)) [] rfl rfl rfl rfl ?_
                    rintro _ _ ⟨p3, rfl, rfl⟩
                    refine J.norm rfl ?_
                    refine J.q rfl rfl (Q.mv rfl) ?_
                    refine J.q rfl rfl (Q.ext rfl rfl) ?_
                    refine J.q rfl rfl (Q.ext rfl rfl) ?_
                    refine J.q rfl rfl (Q.asg rfl) ?_
                    refine J.q rfl rfl (Q.asg rfl) ?_
                    refine J.nil ?_
                    refine J.then_n ?_
                    refine J.seq ?_
                    refine J.region ?_
                    refine J.call Try.call9 (new_yes 1048576 (by decide) (by decide)) [] rfl rfl rfl rfl ?_
                    rintro _ _ ⟨p4, rfl, rfl⟩
                    refine J.norm rfl ?_
                    refine J.q rfl rfl (Q.mv rfl) ?_
                    refine J.q rfl rfl (Q.ext rfl rfl) ?_
                    refine J.q rfl rfl (Q.ext rfl rfl) ?_
                    refine J.q rfl rfl (Q.asg rfl) ?_
                    refine J.q rfl rfl (Q.asg rfl) ?_
                    refine J.nil ?_
                    refine J.then_n ?_
                    refine J.seq ?_
                    refine J.region ?_
                    refine J.q rfl rfl (Q.mv rfl) ?_
                    refine J.q rfl rfl (Q.mv rfl) ?_
                    refine J.call Try.call25 (play_spec p3 ⟨1048576, 0, []⟩ ((Dk.new _ (by decide)).mono (by decide)) G lp ln lc l hl hln) [1, 3] rfl rfl rfl rfl ?_
                    rintro _ _ ⟨rfl, rfl⟩
                    refine J.norm rfl ?_
                    rw [← hdd]
                    refine J.nil ?_
                    refine J.then_n ?_
                    refine J.seq ?_
                    refine J.region ?_
                    refine J.q rfl rfl (Q.mv rfl) ?_
                    refine J.q rfl rfl (Q.mv rfl) ?_
                    refine J.call Try.call25 (play_spec p3 d (hdk.mono (by omega)) G ep en ec left hle hen) [0, 1] rfl rfl rfl rfl ?_
                    rintro _ _ ⟨rfl, rfl⟩
                    refine J.norm rfl ?_
                    refine J.nil ?_
                    refine J.then_n ?_
                    refine J.seq ?_
                    refine J.region ?_
                    refine J.q rfl rfl (Q.mv rfl) ?_
                    refine J.q rfl rfl (Q.mv rfl) ?_
                    refine J.call Try.call25 (play_spec p4 ⟨1048576, 0, []⟩ ((Dk.new _ (by decide)).mono (by decide)) G lp ln lc l hl hln) [2, 1] rfl rfl rfl rfl ?_
                    rintro _ _ ⟨rfl, rfl⟩
                    refine J.norm rfl ?_
                    rw [← hdd]
                    refine J.nil ?_
                    refine J.then_n ?_
                    refine J.seq ?_
                    refine J.region ?_
                    refine J.q rfl rfl (Q.mv rfl) ?_
                    refine J.q rfl rfl (Q.mv rfl) ?_
                    refine J.call Try.call25 (play_spec p4 d (hdk.mono (by omega)) G gp gn gc right hri hgn) [0, 1] rfl rfl rfl rfl ?_
                    rintro _ _ ⟨rfl, rfl⟩
                    refine J.norm rfl ?_
                    refine J.nil ?_
                    refine J.then_n ?_
                    refine J.seq ?_
                    have hdL := hdk.play left (by omega)
                    have hdR := hdk.play right (by omega)
                    have hd2R := hd2.play right (by omega)
                    have halR : Alk (playD d2 right) (playD d right) := play_alk (hal2.trans halk) halk hd2 hdk hrk hrs right (by omega)
                    have hdL1 := hdL.len
                    have hdR1 := hdR.len
                    have hd2R1 := hd2R.len
                    refine J.open_ 5 rfl rfl (fun _ h => h) fun fs hfs => ?_
                    refine J.norm rfl ?_
                    refine J.open1 0 rfl (fun _ h => h) fun z => ?_
                    refine J.norm rfl ?_
                    refine J.open_ 8 rfl rfl (fun _ h => h) fun fs2 hfs2 => ?_
                    refine J.norm rfl ?_
                    refine J.open1 0 rfl (fun _ h => h) fun z2 => ?_
                    refine J.norm rfl ?_
                    have hfl : fs.length = fs2.length := by
                      have h1 : fs.length = r.files.length := by rw [← hfs, List.length_map]
                      have h2 : fs2.length = r.files.length := by rw [← hfs2, List.length_map]
                      omega
                    refine J.draw [14, 19, 21] Try.mixed (by kernel_rfl) fun hR => ?_
                    refine RG.q 0 hR rfl rfl rfl rfl rfl rfl (Q.mv rfl) ?_
                    refine RG.q 1 hR rfl rfl rfl rfl rfl rfl (Q.nil_ rfl) ?_
                    refine RG.q 2 hR rfl rfl rfl rfl rfl rfl (Q.fa (n := 1) Try.runUnderlying56 rfl rfl Try.sizeOf54 rfl) ?_
                    refine RG.q 3 hR rfl rfl rfl rfl rfl rfl (Q.ld Try.isAgg54 rfl (by first | exact Reads.pt 0 rfl rfl | exact Reads.pt 1 rfl rfl | exact Reads.pt 2 rfl rfl | exact Reads.pt 3 rfl rfl | exact Reads.pt 4 rfl rfl | exact Reads.pt 5 rfl rfl | exact Reads.pt 6 rfl rfl | exact Reads.pt 7 rfl rfl)) ?_
                    refine RG.q 4 hR rfl rfl rfl rfl rfl rfl (Q.lenSl Try.runUnderlying54 rfl) ?_
                    refine RG.q 5 hR rfl rfl rfl rfl rfl rfl (Q.mv rfl) ?_
                    refine RG.q 6 hR rfl rfl rfl rfl rfl rfl (Q.nil_ rfl) ?_
                    refine RG.q 7 hR rfl rfl rfl rfl rfl rfl (Q.fa (n := 1) Try.runUnderlying56 rfl rfl Try.sizeOf54 rfl) ?_
                    refine RG.q 8 hR rfl rfl rfl rfl rfl rfl (Q.ld Try.isAgg54 rfl (by first | exact Reads.pt 0 rfl rfl | exact Reads.pt 1 rfl rfl | exact Reads.pt 2 rfl rfl | exact Reads.pt 3 rfl rfl | exact Reads.pt 4 rfl rfl | exact Reads.pt 5 rfl rfl | exact Reads.pt 6 rfl rfl | exact Reads.pt 7 rfl rfl)) ?_
                    refine RG.q 9 hR rfl rfl rfl rfl rfl rfl (Q.lenSl Try.runUnderlying54 rfl) ?_
                    refine RG.q 10 hR rfl rfl rfl rfl rfl rfl (Q.eql rfl rfl) ?_
                    refine RG.q 11 hR rfl rfl rfl rfl rfl rfl (Q.mv rfl) ?_
                    refine RG.cases 160 rfl (fun hb160 => ?_) (fun hb160 => ?_)
                    ·
                      skip
                      refine RG.q 12 hR rfl rfl rfl rfl rfl rfl (Q.mv rfl) ?_
                      refine RG.q 13 hR rfl rfl rfl rfl rfl rfl (Q.mv rfl) ?_
                      refine RG.call 14 hR rfl rfl rfl rfl rfl rfl Try.call26 (equal_spec p0 p3 (playD d left) (playD d left) hdL.wf hdL.wf (by omega) (by omega) (Alk.rfl' _)) [10, 8] rfl rfl ?_
                      rintro _ _ ⟨rfl, rfl⟩
                      refine RG.norm rfl ?_
                      refine RG.q 15 hR rfl rfl rfl rfl rfl rfl (Q.pick_t rfl rfl) ?_
                      refine RG.q 16 hR rfl rfl rfl rfl rfl rfl (Q.mv rfl) ?_
                      refine RG.cases 165 rfl (fun hb165 => ?_) (fun hb165 => ?_)
                      ·
                        skip
                        refine RG.q 17 hR rfl rfl rfl rfl rfl rfl (Q.mv rfl) ?_
                        refine RG.q 18 hR rfl rfl rfl rfl rfl rfl (Q.mv rfl) ?_
                        refine RG.call 19 hR rfl rfl rfl rfl rfl rfl Try.call26 (equal_spec p2 p4 (playD d2 right) (playD d right) hd2R.wf hdR.wf (by omega) (by omega) halR) [10, 8] rfl rfl ?_
                        rintro _ _ ⟨rfl, rfl⟩
                        refine RG.norm rfl ?_
                        refine RG.q 20 hR rfl rfl rfl rfl rfl rfl (Q.pick_t rfl rfl) ?_
                        refine RG.bar 21 hR rfl rfl rfl rfl rfl rfl (Q.asg rfl).toC ?_
                        rintro _ _ ⟨rfl, rfl⟩
                        refine RG.norm rfl ?_
                        refine RG.fin hR rfl ?_
                        refine J.norm rfl ?_
                        refine J.then_n ?_
                        refine J.cret ?_
                        refine J.keep [10, 11] rfl ?_
                        refine J.ret1 (B := [G]) rfl rfl ⟨rfl, rfl⟩ rfl
                      ·
                        cases hb165
                    ·
                      simp at hb160; omega

end Go.Proofs.Ytkekcdcmmggbaaa
