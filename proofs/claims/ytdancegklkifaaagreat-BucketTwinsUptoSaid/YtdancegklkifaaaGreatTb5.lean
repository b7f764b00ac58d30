/-
  What the proof of the last of these texts leans on: part 5 of 7.
-/
import Derived.Test.YtdancegklkifaaaGreatTb4
namespace Go.Proofs.YtdancegklkifaaaGreat
set_option linter.unusedSectionVars false
set_option linter.unusedSimpArgs false
set_option linter.unusedVariables false
open Go.X
open Go.X.G (Ord3 ord3_nat ord3_int ord3_str ltB sget sput sdel Srtd)

theorem rdone_spec (m : Nat) (M : BM) (hM : M.lite) (n : Nat) : FSpec Tryz.prog 39 [.pointer (some ⟨m, 0, none⟩), .int .u64 n] [RefAt m M]
    (fun v B => v = .tuple #[bareV ((sget n M.done).getD ⟨0, 0, [], false, []⟩), .bool (sget n M.done).isSome] ∧ B = [RefAt m M]) := by
  refine FSpec.of Tryz.func39 rfl Tryz.ntmps39 rfl fun W0 F => ?_
  refine J.seq <| J.region ?_
  refine J.c rfl rfl (C.alloc (l := [_, _, _, _, _]) Tryz.zeroValue37 rfl) ?_
  rintro _ _ ⟨b4, rfl, rfl⟩
  refine J.norm rfl <| J.p rfl (Q.asg rfl) <| J.nil <| J.then_n <| J.seq <| J.seq ?_
  refine J.openRef (m := m) (M := M) fun p1 c1 bs p2 c2 us p3 c3 hyb hyu hyk => ?_
  refine J.norm rfl ?_
  have hbs : Srtd ltB (bs.map RBk.kv) := by rw [hyb]; exact hM.bs
  have hus : Srtd ltN (us.map RUp.kv) := by rw [hyu]; exact hM.us
  have hbl : bs.length = M.buckets.length := by rw [← hyb, List.length_map]
  have hul : us.length = M.uploads.length := by rw [← hyu, List.length_map]
  have hlen := hM.len
  refine J.slrI (E0 := 101) (sz := 2) (p := p1) (n := bs.length) (c := c1) (xs := bs.flatMap RBk.cells) fun hsb => ?_
  refine J.slrI (E0 := 107) (sz := 4) (p := p2) (n := us.length) (c := c2) (xs := us.flatMap RUp.cells) fun hsu => ?_
  refine J.tells 3 rfl own.len fun hck => ?_
  refine J.slrI (E0 := 96) (sz := 6) (p := p3) (n := M.done.length) (c := c3) (xs := M.done.flatMap RKp.cells) fun hsk => ?_
  refine J.region <| J.p rfl (Q.asg rfl) <| J.nil <| J.then_n <| J.block ?_
  refine J.loop (fun j : Nat => j ≤ M.done.length ∧ ∀ q, q ∈ M.done.take j → q.1 ≠ n) (fun j => M.done.length - j) (fun j => [(0, .pointer (some ⟨m, 0, none⟩)), (1, .int .u64 n), (4, .pointer (some ⟨b4, 0, none⟩)), (6, .int .i64 j)])
   (fun _ => refL m M p1 c1 bs p2 c2 us p3 c3 ++ [pt b4 (.cells [Value.int .i64 0, .int .u64 0, .slice none 0 0, .bool false, .slice none 0 0].toArray 37 (0, 0)), F]) 0 ⟨Nat.zero_le _, (fun _ h => by cases h)⟩ ⟨rfl, rfl, rfl, rfl, trivial⟩ rfl fun j hj => ?_
  obtain ⟨hj, hno⟩ := hj
  refine J.norm rfl <| J.seq <| J.seq <| J.region <| J.m rfl <| J.m rfl <| J.p rfl (Q.nil_ rfl) <| J.p rfl (Q.fa (n := 2) Tryz.runUnderlying92 rfl rfl Tryz.sizeOf90 rfl) ?_
  refine J.p rfl (Q.ld Tryz.isAgg90 rfl (rdI (by exact rfl))) ?_
  refine J.p rfl (Q.lenSl Tryz.runUnderlying90 rfl) <| J.p rfl (Q.lss rfl rfl) <| J.nil <| J.then_n ?_
  refine J.cases 13 rfl (fun hc13 => ?_) (fun hc13 => ?_)
  ·
   replace hc13 := X.nm hc13
   refine J.cond_t rfl <| J.cskip <| J.then_n <| J.seq <| J.block <| J.seq ?_
   obtain ⟨bb, off, rfl, hrd⟩ := hsk.some_ (by omega)
   obtain ⟨q, hq⟩ : ∃ q, M.done[j]? = some q := ⟨_, List.getElem?_eq_getElem (by omega)⟩
   refine J.region <| J.m rfl <| J.p rfl (Q.nil_ rfl) <| J.p rfl (Q.fa (n := 2) Tryz.runUnderlying92 rfl rfl Tryz.sizeOf90 rfl) ?_
   refine J.p rfl (Q.ld Tryz.isAgg90 rfl (rdI (by exact rfl))) ?_
   refine J.m rfl <| J.p rfl (Q.ia Tryz.runUnderlying90 Tryz.sizeOf96 rfl rfl (by omega) (by omega)) <| J.p rfl (Q.fa (n := 0) Tryz.runUnderlying96 rfl rfl Tryz.sizeOf23 rfl) <| J.p rfl (Q.ld Tryz.isAgg23 rfl (rfO 0 RKp.len hq (show _ = some (Value.int .u64 q.1) from rfl) (by omega))) <| J.m rfl <| J.p rfl (Q.eql rfl rfl) <| J.nil <| J.then_n ?_
   refine J.cases 25 rfl (fun hc25 => ?_) (fun hc25 => ?_)
   ·
    replace hc25 := X.nm hc25
    refine J.cond_t rfl <| J.seq <| J.region <| J.m rfl <| J.p rfl (Q.nil_ rfl) <| J.p rfl (Q.fa (n := 2) Tryz.runUnderlying92 rfl rfl Tryz.sizeOf90 rfl) ?_
    refine J.p rfl (Q.ld Tryz.isAgg90 rfl (rdI (by exact rfl))) ?_
    refine J.m rfl <| J.p rfl (Q.ia Tryz.runUnderlying90 Tryz.sizeOf96 rfl rfl (by omega) (by omega)) <| J.p rfl (Q.fa (n := 1) Tryz.runUnderlying96 rfl rfl Tryz.sizeOf37 rfl) <| J.p rfl (Q.ldN (vs := [_, _, _, _, _]) Tryz.isAgg37 Tryz.sizeOf37 rfl (rnOd (vs := [.int .i64 q.2.status, .int .u64 q.2.upload, .slice none 0 0, .bool false, .slice none 0 0]) 1 RKp.len hq (fun _ _ h => h) (by omega))) ?_
    refine J.stAI (vs := [_, _, _, _, _]) rfl Tryz.sizeOf37 rfl rfl (by exact rfl) (by exact rfl) (by exact rfl) ?_
    refine J.p rfl (Q.asg rfl) <| J.nil <| J.then_n <| J.cret <| J.blk_r <| J.then_r <| J.lp_r <| J.blk_r <| J.then_r ?_
    have hg : sget n M.done = some q.2 := by
     have h1 := X.G.sget_of_mem (hM.ds.nodup ord3_nat) (show (q.1, q.2) ∈ M.done from List.mem_of_getElem? hq)
     have : q.1 = n := by omega
     rwa [this] at h1
    refine J.shutI (refL m M p1 c1 bs p2 c2 us (some ⟨bb, off, none⟩) c3) (RefAt m M) (RefAt.of hyb hyu hyk) ?_
    refine J.retC2I (vs := [_, _, _, _, _]) [RefAt m M] rfl rfl rfl Tryz.isAgg37 Tryz.sizeOf37 rnI ⟨by rw [hg]; rfl, rfl⟩
   replace hc25 := X.nm hc25
   refine J.cond_f rfl <| J.cskip <| J.blk_n <| J.then_n <| J.region <| J.m rfl <| J.p rfl (Q.add64 rfl rfl (by omega)) <| J.p rfl (Q.asg rfl) <| J.nil ?_
   refine J.againI (j + 1) ⟨by show j + 1 ≤ _; omega, by
    obtain ⟨h1, h2⟩ := List.getElem?_eq_some_iff.1 hq
    intro p hp
    rw [List.take_succ_eq_append_getElem h1, h2, List.mem_append] at hp
    rcases hp with hp | hp
    · exact hno p hp
    · rw [List.mem_singleton.1 hp]; omega⟩ (by show M.done.length - (j + 1) < M.done.length - j; omega) ⟨rfl, rfl, rfl, rfl, trivial⟩
  replace hc13 := X.nm hc13
  refine J.cond_f rfl <| J.exit <| J.then_x <| J.lp_x <| J.blk_x <| J.then_n <| J.seq <| J.region <| J.p rfl (Q.bld (l := [_, _, _, _, _]) Tryz.runUnderlying37 Tryz.zeroValue37 Tryz.places37 rfl rfl) ?_
  refine J.stAI (vs := [_, _, _, _, _]) rfl Tryz.sizeOf37 rfl rfl (by exact rfl) (by exact rfl) (by exact rfl) ?_
  refine J.p rfl (Q.asg rfl) <| J.nil <| J.then_n <| J.cret ?_
  have hg : sget n M.done = none := by
   rw [List.take_of_length_le (by omega)] at hno
   exact X.G.sget_none.2 hno
  refine J.shutI (refL m M p1 c1 bs p2 c2 us p3 c3) (RefAt m M) (RefAt.of hyb hyu hyk) ?_
  refine J.retC2I (vs := [_, _, _, _, _]) [RefAt m M] rfl rfl rfl Tryz.isAgg37 Tryz.sizeOf37 rnI ⟨by rw [hg]; rfl, rfl⟩

theorem rlist_spec (b0 o0 c0 : Nat) (bs : List RBk) {i : Nat} {y : RBk} (hy : bs[i]? = some y) (x : OW) (hn : 1 ≤ x.o.n ∧ x.o.n ≤ 1000) (hl : y.l.length ≤ 32768) :
    FSpec Tryz.prog 82 [.pointer (some ⟨b0, o0 + i * 2, none⟩), .agg x.cells.toArray] [bksO (some ⟨b0, o0, none⟩) c0 bs, y.own]
    (fun v B => ∃ r : RW, v = .agg r.cells.toArray ∧ r.r = ⟨200, 0, (listed x.o (y.l.map ROb.kv)).take x.o.n.toNat, decide (x.o.n.toNat < (listed x.o (y.l.map ROb.kv)).length), []⟩ ∧ B = [bksO (some ⟨b0, o0, none⟩) c0 bs, y.own, r.asn]) := by
  obtain ⟨yk, yp, yc, yl⟩ := y
  dsimp only [RBk.own, RBk.kv, RBk.cells] at *
  have hj := (List.getElem?_eq_some_iff.1 hy).1
  refine FSpec.of Tryz.func82 rfl Tryz.ntmps82 rfl fun W0 F => ?_
  refine J.slrI (E0 := 104) (sz := 2) (p := yp) (n := yl.length) (c := yc) (xs := yl.flatMap ROb.cells) fun hsl => ?_
  obtain ⟨ks, hks⟩ : ∃ ks, ks = yl.map ROb.k := ⟨_, rfl⟩
  have hkl : ks.length = yl.length := by rw [hks, List.length_map]
  have hlst : listed x.o (yl.map ROb.kv) = ks.filter (lsel x.o) := by rw [hks]; unfold listed; rw [List.map_map]; rfl
  refine J.seq <| J.region ?_
  refine J.c rfl rfl (C.box (l := [_, _, _, _, _, _, _, _, _]) rfl rfl) ?_
  rintro _ _ ⟨b3, rfl, rfl⟩
  refine J.norm rfl ?_
  refine J.c rfl rfl (C.alloc (l := [_, _, _, _, _]) Tryz.zeroValue37 rfl) ?_
  rintro _ _ ⟨b4, rfl, rfl⟩
  refine J.norm rfl <| J.nil <| J.then_n <| J.seq <| J.region ?_
  refine J.callI Tryz.call38 (ris_spec 200) rfl rfl rfl ?_
  rintro _ _ ⟨rfl, rfl⟩
  refine J.norm rfl ?_
  refine J.c rfl rfl (C.alloc (l := [_, _, _, _, _]) Tryz.zeroValue37 rfl) ?_
  rintro _ _ ⟨b5, rfl, rfl⟩
  refine J.norm rfl ?_
  refine J.stAI (vs := [_, _, _, _, _]) rfl Tryz.sizeOf37 rfl rfl (by exact rfl) (by exact rfl) (by exact rfl) ?_
  refine J.nil <| J.then_n <| J.seq <| J.seq <| J.region <| J.p rfl (Q.asg rfl) <| J.nil <| J.then_n <| J.block ?_
  refine J.give (X := own 9 1 (.slice none 0 0) []) (own.nil _ _ _) ?_
  refine J.keepI [own 9 1 (.slice none 0 0) [], bksO (some ⟨b0, o0, none⟩) c0 bs, own 104 2 (.slice yp yl.length yc) (yl.flatMap ROb.cells), pt b5 (.cells [Value.int .i64 (st 200).status, .int .u64 (st 200).upload, .slice none 0 0, .bool false, .slice none 0 0].toArray 37 (0, 0)), pt b4 (.cells [Value.int .i64 0, .int .u64 0, .slice none 0 0, .bool false, .slice none 0 0].toArray 37 (0, 0)), pt b3 (.cells x.cells.toArray 27 (0, 0)), F] ?_
  refine J.loop3 (fun (j : Nat) (_ : Option Addr) (_ : Nat) => j ≤ yl.length ∧ ((ks.take j).filter (lsel x.o)).length ≤ x.o.n.toNat) (fun j _ _ => yl.length - j) (fun j _ _ => [(0, .pointer (some ⟨b0, o0 + i * 2, none⟩)), (3, .pointer (some ⟨b3, 0, none⟩)), (4, .pointer (some ⟨b4, 0, none⟩)), (5, .pointer (some ⟨b5, 0, none⟩)), (6, .int .i64 j)])
   (fun j pa ca => [own 9 1 (.slice pa ((ks.take j).filter (lsel x.o)).length ca) (((ks.take j).filter (lsel x.o)).map Value.string), bksO (some ⟨b0, o0, none⟩) c0 bs, own 104 2 (.slice yp yl.length yc) (yl.flatMap ROb.cells), pt b5 (.cells [Value.int .i64 200, .int .u64 0, .slice pa ((ks.take j).filter (lsel x.o)).length ca, .bool false, .slice none 0 0].toArray 37 (0, 0)), pt b4 (.cells [Value.int .i64 0, .int .u64 0, .slice none 0 0, .bool false, .slice none 0 0].toArray 37 (0, 0)), pt b3 (.cells x.cells.toArray 27 (0, 0)), F])
   0 none 0 ⟨Nat.zero_le _, by simp⟩ ⟨rfl, rfl, rfl, rfl, rfl, trivial⟩ rfl fun j pa ca hw => ?_
  obtain ⟨hj2, ha⟩ := hw
  refine J.seq <| J.seq <| J.region <| J.m rfl <| J.m rfl <| J.p rfl (Q.nil_ rfl) <| J.p rfl (Q.fa (n := 1) Tryz.runUnderlying101 rfl rfl Tryz.sizeOf99 rfl) <| J.p rfl (Q.ld Tryz.isAgg99 rfl (rfO 1 RBk.len hy (show _ = some (Value.slice yp yl.length yc) from rfl) (by omega))) <| J.p rfl (Q.lenSl Tryz.runUnderlying99 rfl) <| J.p rfl (Q.lss rfl rfl) <| J.nil <| J.then_n ?_
  refine J.cases 15 rfl (fun hc15 => ?_) (fun hc15 => ?_)
  ·
   replace hc15 := X.nm hc15
   refine J.cond_t rfl <| J.cskip <| J.then_n <| J.seq <| J.block <| J.seq ?_
   obtain ⟨bb, off, rfl, hrd⟩ := hsl.some_ (by omega)
   obtain ⟨a, hya⟩ : ∃ a, yl[j]? = some a := ⟨_, List.getElem?_eq_getElem (by omega)⟩
   have hka : ks[j]? = some a.k := by rw [hks, List.getElem?_map, hya]; rfl
   have hft := filter_take (p := lsel x.o) hka
   refine J.region <| J.m rfl <| J.p rfl (Q.nil_ rfl) <| J.p rfl (Q.fa (n := 1) Tryz.runUnderlying101 rfl rfl Tryz.sizeOf99 rfl) <| J.p rfl (Q.ld Tryz.isAgg99 rfl (rfO 1 RBk.len hy (show _ = some (Value.slice (some ⟨bb, off, none⟩) yl.length yc) from rfl) (by omega))) <| J.m rfl <| J.p rfl (Q.ia Tryz.runUnderlying99 Tryz.sizeOf104 rfl rfl (by omega) (by omega)) <| J.p rfl (Q.fa (n := 0) Tryz.runUnderlying104 rfl rfl Tryz.sizeOf9 rfl) ?_
   refine J.p rfl (Q.ld Tryz.isAgg9 rfl (rfO 0 ROb.len hya (show _ = some (Value.string a.k) from rfl) (by omega))) <| J.p rfl (Q.asg rfl) <| J.nil <| J.then_n <| J.seq <| J.seq <| J.region <| J.m rfl <| J.p rfl (Q.fa (n := 3) Tryz.runUnderlying27 rfl rfl Tryz.sizeOf9 rfl) ?_
   refine J.p rfl (Q.ld Tryz.isAgg9 rfl (rdI (by exact rfl))) ?_
   refine J.callI Tryz.call96 (rbegins_spec a.k x.o.key) rfl rfl rfl ?_
   rintro _ _ ⟨rfl, rfl⟩
   refine J.norm rfl <| J.p rfl (Q.not rfl) <| J.m rfl ?_
   refine J.cases 31 rfl (fun hb31 => ?_) (fun hb31 => ?_)
   ·
    replace hb31 := X.nm hb31
    refine J.skip rfl rfl <| J.skip rfl rfl <| J.skip rfl rfl <| J.skip rfl rfl <| J.p rfl (Q.pick_t rfl rfl) <| J.nil <| J.then_n <| J.cond_t rfl <| J.exit <| J.then_x <| J.blk_x <| J.then_n <| J.region <| J.m rfl <| J.p rfl (Q.add64 rfl rfl (by omega)) <| J.p rfl (Q.asg rfl) <| J.nil ?_
    have hsel : lsel x.o a.k = false := by unfold lsel; first | (have h1 := hb31; have h2 : ltB x.o.after a.k = false := (by simpa using hc36); revert h1 h2; cases beg a.k x.o.key <;> cases ltB x.o.after a.k <;> decide) | (have h1 := hb31; revert h1; cases beg a.k x.o.key <;> cases ltB x.o.after a.k <;> decide)
    rw [hsel] at hft
    simp only [Bool.false_eq_true, if_false, List.append_nil] at hft
    rw [← hft] at ha ⊢
    refine J.againI (j + 1, pa, ca) ⟨by show j + 1 ≤ _; omega, ha⟩ (by show yl.length - (j + 1) < yl.length - j; omega) ⟨rfl, rfl, rfl, rfl, rfl, trivial⟩
   replace hb31 := X.nm hb31
   refine J.m rfl <| J.p rfl (Q.fa (n := 4) Tryz.runUnderlying27 rfl rfl Tryz.sizeOf9 rfl) ?_
   refine J.p rfl (Q.ld Tryz.isAgg9 rfl (rdI (by exact rfl))) ?_
   refine J.p rfl (leqs rfl rfl) ?_
   refine J.p rfl (Q.pick_f rfl rfl) <| J.nil <| J.then_n ?_
   refine J.cases 36 rfl (fun hc36 => ?_) (fun hc36 => ?_)
   ·
    replace hc36 := X.nm hc36
    refine J.cond_t rfl <| J.exit <| J.then_x <| J.blk_x <| J.then_n <| J.region <| J.m rfl <| J.p rfl (Q.add64 rfl rfl (by omega)) <| J.p rfl (Q.asg rfl) <| J.nil ?_
    have hsel : lsel x.o a.k = false := by unfold lsel; first | (have h1 := hb31; have h2 : ltB x.o.after a.k = false := (by simpa using hc36); revert h1 h2; cases beg a.k x.o.key <;> cases ltB x.o.after a.k <;> decide) | (have h1 := hb31; revert h1; cases beg a.k x.o.key <;> cases ltB x.o.after a.k <;> decide)
    rw [hsel] at hft
    simp only [Bool.false_eq_true, if_false, List.append_nil] at hft
    rw [← hft] at ha ⊢
    refine J.againI (j + 1, pa, ca) ⟨by show j + 1 ≤ _; omega, ha⟩ (by show yl.length - (j + 1) < yl.length - j; omega) ⟨rfl, rfl, rfl, rfl, rfl, trivial⟩
   replace hc36 := X.nm hc36
   refine J.cond_f rfl <| J.cskip <| J.then_n <| J.seq <| J.seq <| J.region <| J.p rfl (Q.fa (n := 2) Tryz.runUnderlying37 rfl rfl Tryz.sizeOf35 rfl) ?_
   refine J.p rfl (Q.ld Tryz.isAgg35 rfl (rdI (by exact rfl))) ?_
   refine J.p rfl (Q.lenSl Tryz.runUnderlying35 rfl) <| J.p rfl (Q.fa (n := 5) Tryz.runUnderlying27 rfl rfl Tryz.sizeOf3 rfl) ?_
   refine J.p rfl (Q.ld Tryz.isAgg3 rfl (rdI (by exact rfl))) ?_
   refine J.p rfl (Q.eql rfl rfl) <| J.nil <| J.then_n ?_
   refine J.cases 42 rfl (fun hc42 => ?_) (fun hc42 => ?_)
   ·
    replace hc42 := X.nm hc42
    refine J.cond_t rfl <| J.seq <| J.region <| J.p rfl (Q.fa (n := 3) Tryz.runUnderlying37 rfl rfl Tryz.sizeOf4 rfl) ?_
    refine J.stI rfl Tryz.sizeOf4 rfl rfl rfl (by exact rfl) (by exact rfl) (by exact rfl) ?_
    refine J.nil <| J.then_n <| J.seq <| J.region ?_
    refine J.p rfl (Q.ldN (vs := [_, _, _, _, _]) Tryz.isAgg37 Tryz.sizeOf37 rfl rnI) ?_
    refine J.stAI (vs := [_, _, _, _, _]) rfl Tryz.sizeOf37 rfl rfl (by exact rfl) (by exact rfl) (by exact rfl) ?_
    refine J.nil <| J.then_n <| J.cret <| J.then_r <| J.blk_r <| J.then_r <| J.lp_r <| J.blk_r <| J.then_r ?_
    have hsel : lsel x.o a.k = true := by unfold lsel; first | (have h1 := hb31; have h2 : ltB x.o.after a.k = true := (by simpa using hc36); revert h1 h2; cases beg a.k x.o.key <;> cases ltB x.o.after a.k <;> decide) | (have h1 := hb31; revert h1; cases beg a.k x.o.key <;> cases ltB x.o.after a.k <;> decide)
    obtain ⟨r, hr⟩ := filter_more hka hsel
    have hal : ((ks.take j).filter (lsel x.o)).length = x.o.n.toNat := by omega
    refine J.give (X := own 5 1 (.slice none 0 0) []) (own.nil _ _ _) ?_
    refine J.shutI [own 9 1 (.slice pa ((ks.take j).filter (lsel x.o)).length ca) (((ks.take j).filter (lsel x.o)).map Value.string), own 5 1 (.slice none 0 0) []] (RW.asn ⟨⟨200, 0, (ks.take j).filter (lsel x.o), true, []⟩, pa, ca, none, 0⟩) (fun _ h => h) ?_
    refine J.retCI (vs := [_, _, _, _, _]) [bksO (some ⟨b0, o0, none⟩) c0 bs, own 104 2 (.slice (some ⟨bb, off, none⟩) yl.length yc) (yl.flatMap ROb.cells), RW.asn ⟨⟨200, 0, (ks.take j).filter (lsel x.o), true, []⟩, pa, ca, none, 0⟩] rfl rfl Tryz.isAgg37 Tryz.sizeOf37 rnI
     ⟨⟨⟨200, 0, (ks.take j).filter (lsel x.o), true, []⟩, pa, ca, none, 0⟩, rfl, by
      show RM.mk _ _ _ _ _ = _
      rw [hlst, hr, ← hal, List.take_left, List.length_append, List.length_cons, decide_eq_true (by omega)], rfl⟩
   replace hc42 := X.nm hc42
   refine J.cond_f rfl <| J.cskip <| J.then_n <| J.region <| J.p rfl (Q.fa (n := 2) Tryz.runUnderlying37 rfl rfl Tryz.sizeOf35 rfl) ?_
   refine J.p rfl (Q.ld Tryz.isAgg35 rfl (rdI (by exact rfl))) ?_
   refine J.m rfl ?_
   refine J.c rfl rfl (C.bslG (l := [_]) Tryz.runUnderlying35 Tryz.sizeOf9 Tryz.zeroValue9 (by decide) rfl rfl rfl rfl rfl) ?_
   rintro _ _ ⟨b48, rfl, rfl⟩
   refine J.norm rfl ?_
   refine J.c rfl rfl (C.appI Tryz.runUnderlying35 Tryz.runUnderlying35 Tryz.typeInfo9 Tryz.sizeOf9 Tryz.zeroValue9 rfl rfl (SlR.ptI rfl) (by simp [oneC]) (by simp [Tryz.t9] <;> omega) (by decide)) ?_
   rintro _ _ ⟨p49, c49, rfl, rfl⟩
   refine J.norm rfl <| J.p rfl (Q.fa (n := 2) Tryz.runUnderlying37 rfl rfl Tryz.sizeOf35 rfl) ?_
   refine J.stI rfl Tryz.sizeOf35 rfl rfl rfl (by exact rfl) (by exact rfl) (by exact rfl) ?_
   refine J.nil <| J.blk_n <| J.then_n <| J.region <| J.m rfl <| J.p rfl (Q.add64 rfl rfl (by omega)) <| J.p rfl (Q.asg rfl) <| J.nil ?_
   have hsel : lsel x.o a.k = true := by unfold lsel; first | (have h1 := hb31; have h2 : ltB x.o.after a.k = true := (by simpa using hc36); revert h1 h2; cases beg a.k x.o.key <;> cases ltB x.o.after a.k <;> decide) | (have h1 := hb31; revert h1; cases beg a.k x.o.key <;> cases ltB x.o.after a.k <;> decide)
   have e1 : (ks.take (j + 1)).filter (lsel x.o) = (ks.take j).filter (lsel x.o) ++ [a.k] := by rw [hft, hsel]; rfl
   have e2 : ((ks.take j).filter (lsel x.o)).length + 1 = ((ks.take (j + 1)).filter (lsel x.o)).length := by rw [e1]; simp
   have e3 : ((ks.take j).filter (lsel x.o)).map Value.string ++ [Value.string a.k] = ((ks.take (j + 1)).filter (lsel x.o)).map Value.string := by rw [e1]; simp
   have hdf := decide_eq_false hc42
   rw [e2, e3]
   refine J.againI (j + 1, p49, c49) ⟨by show j + 1 ≤ _; omega, by rw [← e2]; omega⟩ (by show yl.length - (j + 1) < yl.length - j; omega) ⟨rfl, rfl, rfl, rfl, rfl, trivial⟩
  replace hc15 := X.nm hc15
  refine J.cond_f rfl <| J.exit <| J.then_x <| J.lp_x <| J.blk_x <| J.then_n <| J.seq <| J.region ?_
  refine J.p rfl (Q.ldN (vs := [_, _, _, _, _]) Tryz.isAgg37 Tryz.sizeOf37 rfl rnI) ?_
  refine J.stAI (vs := [_, _, _, _, _]) rfl Tryz.sizeOf37 rfl rfl (by exact rfl) (by exact rfl) (by exact rfl) ?_
  refine J.nil <| J.then_n <| J.cret ?_
  have hjn : ks.take j = ks := List.take_of_length_le (by omega)
  rw [hjn] at ha ⊢
  refine J.give (X := own 5 1 (.slice none 0 0) []) (own.nil _ _ _) ?_
  refine J.shutI [own 9 1 (.slice pa (ks.filter (lsel x.o)).length ca) ((ks.filter (lsel x.o)).map Value.string), own 5 1 (.slice none 0 0) []] (RW.asn ⟨⟨200, 0, ks.filter (lsel x.o), false, []⟩, pa, ca, none, 0⟩) (fun _ h => h) ?_
  refine J.retCI (vs := [_, _, _, _, _]) [bksO (some ⟨b0, o0, none⟩) c0 bs, own 104 2 (.slice yp yl.length yc) (yl.flatMap ROb.cells), RW.asn ⟨⟨200, 0, ks.filter (lsel x.o), false, []⟩, pa, ca, none, 0⟩] rfl rfl Tryz.isAgg37 Tryz.sizeOf37 rnI
   ⟨⟨⟨200, 0, ks.filter (lsel x.o), false, []⟩, pa, ca, none, 0⟩, rfl, by
    show RM.mk _ _ _ _ _ = _
    rw [hlst, List.take_of_length_le ha, decide_eq_false (by omega)], rfl⟩
end Go.Proofs.YtdancegklkifaaaGreat
namespace Go.Proofs.YtdancegklkifaaaGreat
set_option linter.unusedSectionVars false
set_option linter.unusedSimpArgs false
set_option linter.unusedVariables false
open Go.X
open Go.X.G (Ord3 ord3_nat ord3_int ord3_str ltB sget sput sdel Srtd)

theorem chk_key {o : OM} (h : o.chkB = true) (hk : o.kind ≤ 7) : o.key.size ≤ 1024 := by
  rw [chk_eq] at h
  unfold OM.chkR at h
  repeat' split at h
  all_goals first
    | (simp only [Bool.and_eq_true, decide_eq_true_eq, longB, emp] at h; have e : o.key.data.toList.length = o.key.size := by simp
       first | omega | (have e2 : o.key.data.toList = [] := by simp_all
                        rw [e2] at e; simp at e; omega))
    | (cases h; done)
    | omega

theorem sget_in {κ ν : Type} [DecidableEq κ] {lt : κ → κ → Bool} (o : Ord3 lt) {l : List (κ × ν)} (h : Srtd lt l) {p : κ × ν} (hp : p ∈ l) : sget p.1 l = some p.2 := X.G.sget_of_mem (h.nodup o) hp

theorem kok_new : BM.kok ⟨[], [], []⟩ := ⟨(fun _ _ h => by cases h), (fun _ _ h => by cases h)⟩
theorem kok_put {k : Nat} {M : BM} (h : M.kok) (b : ByteArray) {o : Objs} (ho : ∀ p, p ∈ o → p.1.size ≤ 1024) (us : List (Nat × UM)) (hu : ∀ n u, sget n us = some u → u.key.size ≤ 1024) (d) : BM.kok ⟨sput ltB b o M.buckets, us, d⟩ := by
  refine ⟨fun n q hq => ?_, hu⟩
  rw [X.G.sget_put ord3_str] at hq
  split at hq
  · cases hq; exact ho
  · exact h.ob n q hq
theorem keys_put {k : Nat} {o : Objs} (hs : Srtd ltB o) (h : ∀ p, p ∈ o → p.1.size ≤ 1024) {a : ByteArray} (ha : a.size ≤ 1024) (d : List UInt8) : ∀ p, p ∈ sput ltB a d o → p.1.size ≤ 1024 := by
  intro p hp
  have := (X.G.sput_perm ord3_str (hs.nodup ord3_str) a d).mem_iff.1 hp
  rcases List.mem_cons.1 this with rfl | h'
  · exact ha
  · exact h p ((List.mem_filter.1 h').1)

theorem act_kok {k : Nat} {M : BM} (hM : M.ok k) (h : M.kok) {o : OM} (hc : o.chkB = true) : (M.act o).2.kok := by
  have hkey := chk_key hc
  unfold BM.act
  split
  · unfold BM.make
    split
    · exact h
    · exact kok_put (k := 0) h _ (by simp) _ h.up _
  split
  · unfold BM.unmake
    split
    · exact h
    · split
      · exact h
      · refine ⟨fun n q hq => ?_, h.up⟩
        rw [X.G.sget_del] at hq
        split at hq
        · cases hq
        · exact h.ob n q hq
  split
  · unfold BM.put
    split
    · exact h
    · rename_i objs hb
      exact kok_put (k := 0) h _ (keys_put (k := 0) (hM.os _ _ hb).1 (h.ob _ _ hb) (hkey (by omega)) _) _ h.up _
  split
  · have : (M.get o).2 = M := by unfold BM.get; repeat' split
                                 all_goals rfl
    rw [this]; exact h
  split
  · unfold BM.delete
    split
    · exact h
    · rename_i objs hb
      split
      · exact h
      · exact kok_put (k := 0) h _ (fun p hp => h.ob _ _ hb p ((List.mem_filter.1 hp).1)) _ h.up _
  split
  · have : (M.list o).2 = M := by unfold BM.list; split <;> rfl
    rw [this]; exact h
  split
  · unfold BM.begin
    split
    · exact h
    · refine ⟨h.ob, fun n u hu => ?_⟩
      rw [X.G.sget_put ord3_nat] at hu
      split at hu
      · cases hu; exact hkey (by omega)
      · exact h.up n u hu
  split
  · unfold BM.part
    split
    · exact h
    · rename_i u0 hu0
      refine ⟨h.ob, fun n u hu => ?_⟩
      rw [X.G.sget_put ord3_nat] at hu
      split at hu
      · cases hu
        show u0.key.size ≤ 1024
        exact h.up _ _ hu0
      · exact h.up n u hu
  split
  · unfold BM.complete
    split
    · exact h
    · rename_i u0 hu0
      split
      · exact h
      · refine kok_put (k := 0) h _ ?_ _ (fun n u hu => ?_) _
        · obtain ⟨objs, hB⟩ := Option.isSome_iff_exists.1 (hM.ps _ _ hu0).2.1
          rw [hB]
          exact keys_put (k := 0) (hM.os _ _ hB).1 (h.ob _ _ hB) (h.up _ _ hu0) _
        · rw [X.G.sget_del] at hu
          split at hu
          · cases hu
          · exact h.up n u hu
  · unfold BM.abort
    split
    · exact h
    · refine ⟨h.ob, fun n u hu => ?_⟩
      rw [X.G.sget_del] at hu
      split at hu
      · cases hu
      · exact h.up n u hu

theorem run_kok {k : Nat} {M : BM} (hM : M.ok k) (h : M.kok) (o : OM) : (M.run o).2.kok := by
  unfold BM.run
  split
  · rename_i hc
    have ha := act_kok hM h hc
    split
    · exact ha
    · split
      · exact h
      · exact ⟨ha.ob, ha.up⟩
  · exact h

variable {k j : Nat} {name : ByteArray} {mine : Nat → Bool} {M N : BM} {o : OM}
def seenUp (seen : Nat → Bool) (a : Nat) : Nat → Bool := fun i => if i = a then true else seen i
end Go.Proofs.YtdancegklkifaaaGreat
namespace Go.Proofs.YtdancegklkifaaaGreat
set_option linter.unusedSectionVars false
set_option linter.unusedSimpArgs false
set_option linter.unusedVariables false
open Go.X
open Go.X.G (Ord3 ord3_nat ord3_int ord3_str ltB sget sput sdel Srtd sget_put sget_del)

def U64 : Nat := 18446744073709551615
structure BM.fit (k B : Nat) (M : BM) : Prop where
  ob : ∀ n q, sget n M.buckets = some q → n.size ≤ 64 ∧ ∀ p, p ∈ q → p.2.length ≤ k * B
  up : ∀ n u, sget n M.uploads = some u → n ≤ U64 ∧ u.parts.length ≤ k ∧ ∀ p, p ∈ u.parts → p.2.length ≤ B
  dn : ∀ n r, sget n M.done = some r → n ≤ U64 ∧ r.upload ≤ U64
theorem fit_new (B : Nat) : BM.fit 0 B ⟨[], [], []⟩ := ⟨(fun _ _ h => by cases h), (fun _ _ h => by cases h), (fun _ _ h => by cases h)⟩
theorem BM.fit.mono {k j B : Nat} {M : BM} (h : M.fit k B) (hk : k ≤ j) : M.fit j B :=
  ⟨fun n q hq => ⟨(h.ob n q hq).1, fun p hp => Nat.le_trans ((h.ob n q hq).2 p hp) (Nat.mul_le_mul_right B hk)⟩, fun n u hu => ⟨(h.up n u hu).1, Nat.le_trans (h.up n u hu).2.1 hk, (h.up n u hu).2.2⟩, h.dn⟩

theorem flat_bound {α : Type} {f : α → List UInt8} {C : Nat} : ∀ (l : List α), (∀ x, x ∈ l → (f x).length ≤ C) → (l.flatMap f).length ≤ l.length * C
  | [], _ => by simp
  | x :: l, h => by
    have h1 := h x List.mem_cons_self
    have h2 := flat_bound l fun y hy => h y (List.mem_cons_of_mem _ hy)
    simp only [List.flatMap_cons, List.length_append, List.length_cons, Nat.add_mul]; omega

theorem nodup_le {α : Type} [DecidableEq α] : ∀ (l m : List α), l.Nodup → (∀ x, x ∈ l → x ∈ m) → l.length ≤ m.length
  | [], m, _, _ => Nat.zero_le _
  | x :: l, m, hn, hs => by
    rw [List.nodup_cons] at hn
    have hx := hs x List.mem_cons_self
    have ih := nodup_le l (m.erase x) hn.2 fun y hy => by
      have hne : y ≠ x := by rintro rfl; exact hn.1 hy
      exact (List.mem_erase_of_ne hne).2 (hs y (List.mem_cons_of_mem _ hy))
    rw [List.length_erase_of_mem hx] at ih
    have := List.length_pos_of_mem hx
    simp only [List.length_cons]; omega

theorem chk_name {o : OM} (h : o.chkB = true) (hk : o.kind ≤ 7) : o.bucket.size ≤ 64 := by
  have e : o.bucket.data.toList.length = o.bucket.size := by simp
  rw [chk_eq] at h
  unfold OM.chkR at h
  repeat' split at h
  all_goals first
    | (simp only [Bool.and_eq_true, decide_eq_true_eq, nameOK] at h; omega)
    | (cases h; done)
    | omega
theorem chk_parts {o : OM} (h : o.chkB = true) (hk : o.kind = 9) : partsOK o.parts = true := by
  rw [chk_eq] at h
  unfold OM.chkR at h
  repeat' split at h
  all_goals first
    | (simp only [Bool.and_eq_true, decide_eq_true_eq] at h; simp [h]; done)
    | (exfalso; omega)
    | (cases h; done)
theorem rising_nodup {l : List Int} (h : partsOK l = true) : l.Nodup := by
  simp only [partsOK, Bool.and_eq_true] at h
  have hr := h.2
  unfold rises at hr
  rw [List.all_eq_true] at hr
  have step : ∀ i, i + 1 < l.length → l.getD i 0 < l.getD (i + 1) 0 := fun i hi => by
    have := hr (i + 1) (List.mem_range.2 hi)
    simp only [rise1, Bool.and_eq_true, Bool.or_eq_true, decide_eq_true_eq, Nat.add_sub_cancel] at this
    rcases this.2 with h | h
    · omega
    · exact h
  have lt : ∀ j i, i < j → j < l.length → l.getD i 0 < l.getD j 0 := by
    intro j
    induction j with
    | zero => intro i h; omega
    | succ j ih =>
      intro i hi hj
      have h1 := step j hj
      rcases Nat.lt_or_ge i j with q | q
      · have := ih i q (by omega); omega
      · have : i = j := by omega
        subst this; exact h1
  refine List.pairwise_iff_getElem.2 fun i j hi hj hij => ?_
  have := lt j i hij hj
  rw [List.getD_eq_getElem?_getD, List.getD_eq_getElem?_getD, List.getElem?_eq_getElem hi, List.getElem?_eq_getElem hj] at this
  simp only [Option.getD_some] at this
  omega
theorem collect_le {P : Parts} {l : List Int} {d : List UInt8} {B : Nat} (h : collect P l = some d) (hn : l.Nodup) (hP : ∀ p, p ∈ P → p.2.length ≤ B) : d.length ≤ P.length * B := by
  unfold collect at h
  split at h
  · rename_i ha
    cases h
    rw [List.all_eq_true] at ha
    have h1 : ∀ m : List Int, (m.flatMap (partOf P)).length ≤ m.length * B := by
      intro m
      induction m with
      | nil => simp
      | cons x m ih =>
        have : (partOf P x).length ≤ B := by
          unfold partOf
          cases hx : sget x P with
          | none => simp
          | some e => exact hP _ (X.G.sget_mem hx)
        simp only [List.flatMap_cons, List.length_append, List.length_cons, Nat.add_mul]; omega
    have h2 : l.length ≤ (P.map (·.1)).length := nodup_le l _ hn fun x hx => by
      obtain ⟨e, he⟩ := Option.isSome_iff_exists.1 (ha x hx)
      exact List.mem_map.2 ⟨_, X.G.sget_mem he, rfl⟩
    rw [List.length_map] at h2
    exact Nat.le_trans (h1 l) (Nat.mul_le_mul_right B h2)
  · cases h

theorem mem_put {κ ν : Type} [DecidableEq κ] {lt : κ → κ → Bool} (o : Ord3 lt) {l : List (κ × ν)} (h : Srtd lt l) {k : κ} {v : ν} {p : κ × ν} (hp : p ∈ sput lt k v l) : p = (k, v) ∨ p ∈ l := by
  have := (X.G.sput_perm o (h.nodup o) k v).mem_iff.1 hp
  rcases List.mem_cons.1 this with h | h
  · exact .inl h
  · exact .inr (List.mem_filter.1 h).1

theorem act_fit {k B : Nat} {M : BM} (hM : M.ok k) (h : M.fit k B) {o : OM} (hc : o.chkB = true) (hd : o.data.length ≤ B) (hi : o.id ≤ U64) : (M.act o).2.fit (k + 1) B ∧ (M.act o).1.upload ≤ U64 := by
  have h' := h.mono (Nat.le_succ k)
  have hst : ∀ n : Int, (st n).upload ≤ U64 := fun n => by show 0 ≤ _; exact Nat.zero_le _
  unfold BM.act
  split
  · unfold BM.make
    split
    · exact ⟨h', hst _⟩
    · refine ⟨⟨fun n q hq => ?_, h'.up, h'.dn⟩, hst _⟩
      rw [sget_put ord3_str] at hq
      split at hq
      · rename_i e; cases hq; subst e; exact ⟨chk_name hc (by omega), by simp⟩
      · exact h'.ob n q hq
  split
  · unfold BM.unmake
    split
    · exact ⟨h', hst _⟩
    · split
      · exact ⟨h', hst _⟩
      · refine ⟨⟨fun n q hq => ?_, h'.up, h'.dn⟩, hst _⟩
        rw [sget_del] at hq
        split at hq
        · cases hq
        · exact h'.ob n q hq
  split
  · unfold BM.put
    split
    · exact ⟨h', hst _⟩
    · rename_i objs hb
      refine ⟨⟨fun n q hq => ?_, h'.up, h'.dn⟩, hst _⟩
      rw [sget_put ord3_str] at hq
      split at hq
      · rename_i e; cases hq; subst e
        refine ⟨(h.ob _ _ hb).1, fun p hp => ?_⟩
        rcases mem_put ord3_str (hM.os _ _ hb).1 hp with rfl | hp
        · show o.data.length ≤ _; rw [Nat.add_mul]; omega
        · exact (h'.ob _ _ hb).2 p hp
      · exact h'.ob n q hq
  split
  · unfold BM.get
    split
    · exact ⟨h', hst _⟩
    · split
      · exact ⟨h', hst _⟩
      · exact ⟨h', Nat.zero_le _⟩
  split
  · unfold BM.delete
    split
    · exact ⟨h', hst _⟩
    · rename_i objs hb
      split
      · exact ⟨h', hst _⟩
      · refine ⟨⟨fun n q hq => ?_, h'.up, h'.dn⟩, hst _⟩
        rw [sget_put ord3_str] at hq
        split at hq
        · rename_i e; cases hq; subst e
          exact ⟨(h.ob _ _ hb).1, fun p hp => (h'.ob _ _ hb).2 p (List.mem_filter.1 hp).1⟩
        · exact h'.ob n q hq
  split
  · unfold BM.list
    split
    · exact ⟨h', hst _⟩
    · exact ⟨h', Nat.zero_le _⟩
  split
  · unfold BM.begin
    split
    · exact ⟨h', hst _⟩
    · refine ⟨⟨h'.ob, fun n u hu => ?_, h'.dn⟩, hi⟩
      rw [sget_put ord3_nat] at hu
      split at hu
      · rename_i e; cases hu; subst e; exact ⟨hi, Nat.zero_le _, by simp⟩
      · exact h'.up n u hu
  split
  · unfold BM.part
    split
    · exact ⟨h', hst _⟩
    · rename_i u0 hu0
      refine ⟨⟨h'.ob, fun n u hu => ?_, h'.dn⟩, hst _⟩
      rw [sget_put ord3_nat] at hu
      split at hu
      · rename_i e; cases hu; subst e
        have h0 := h.up _ _ hu0
        refine ⟨h0.1, ?_, fun p hp => ?_⟩
        · have := sput_len (lt := ltI) ord3_int (hM.ps _ _ hu0).1 o.n o.data
          show (sput ltI o.n o.data u0.parts).length ≤ _; omega
        · rcases mem_put ord3_int (hM.ps _ _ hu0).1 hp with rfl | hp
          · exact hd
          · exact h0.2.2 p hp
      · exact h'.up n u hu
  split
  · unfold BM.complete
    split
    · exact ⟨h', hst _⟩
    · rename_i u0 hu0
      split
      · exact ⟨h', hst _⟩
      · rename_i dd hdd
        have h0 := h.up _ _ hu0
        have hcl := collect_le hdd (rising_nodup (chk_parts hc (by omega))) h0.2.2
        obtain ⟨objs, hB⟩ := Option.isSome_iff_exists.1 (hM.ps _ _ hu0).2.1
        refine ⟨⟨fun n q hq => ?_, fun n u hu => ?_, h'.dn⟩, hst _⟩
        · rw [sget_put ord3_str] at hq
          split at hq
          · rename_i e; cases hq; subst e
            rw [hB]
            refine ⟨(h.ob _ _ hB).1, fun p hp => ?_⟩
            rcases mem_put ord3_str (hM.os _ _ hB).1 hp with rfl | hp
            · exact Nat.le_trans hcl (Nat.mul_le_mul_right B (by omega))
            · exact (h'.ob _ _ hB).2 p hp
          · exact h'.ob n q hq
        · rw [sget_del] at hu
          split at hu
          · cases hu
          · exact h'.up n u hu
  · unfold BM.abort
    split
    · exact ⟨h', hst _⟩
    · refine ⟨⟨h'.ob, fun n u hu => ?_, h'.dn⟩, hst _⟩
      rw [sget_del] at hu
      split at hu
      · cases hu
      · exact h'.up n u hu

theorem run_fit {k B : Nat} {M : BM} (hM : M.ok k) (h : M.fit k B) {o : OM} (hd : o.data.length ≤ B) (hi : o.id ≤ U64) : (M.run o).2.fit (k + 1) B := by
  unfold BM.run
  split
  · rename_i hc
    have ha := act_fit hM h hc hd hi
    split
    · exact ha.1
    · split
      · exact h.mono (Nat.le_succ k)
      · refine ⟨ha.1.ob, ha.1.up, fun n r hr => ?_⟩
        rw [sget_put ord3_nat] at hr
        split at hr
        · rename_i e; cases hr; subst e; exact ⟨hi, ha.2⟩
        · exact (h.mono (Nat.le_succ k)).dn n r hr
  · exact h.mono (Nat.le_succ k)
end Go.Proofs.YtdancegklkifaaaGreat
namespace Go.Proofs.YtdancegklkifaaaGreat
set_option linter.unusedSectionVars false
set_option linter.unusedSimpArgs false
set_option linter.unusedVariables false
open Go.X
open Go.X.G (Ord3 ord3_nat ord3_int ord3_str ltB sget sput sdel Srtd)

section
variable {k : Nat} (m : Nat) (M : BM) (hM : M.lite) (hok : M.ok k) (hk : k ≤ 32768) (x : OW) (G : Assn) (hx : x.ok G)
include hM hok hk hx
theorem rcomplete_spec (hp : partsOK x.o.parts = true) {u : UM} (hu : sget x.o.upload M.uploads = some u) {i : Nat} (hi : AtK ltN x.o.upload M.uploads i) : FSpec Tryz.prog 77 [.pointer (some ⟨m, 0, none⟩), .agg x.cells.toArray, .int .i64 i] [RefAt m M, G]
    (fun v B => v = bareV (M.complete x.o).1 ∧ B = [RefAt m (M.complete x.o).2, G]) := by
  refine FSpec.of Tryz.func77 rfl Tryz.ntmps77 rfl fun W0 F => ?_
  refine J.seq <| J.region ?_
  refine J.c rfl rfl (C.box (l := [_, _, _, _, _, _, _, _, _]) rfl rfl) ?_
  rintro _ _ ⟨b4, rfl, rfl⟩
  refine J.norm rfl ?_
  refine J.c rfl rfl (C.alloc (l := [_, _, _, _, _]) Tryz.zeroValue37 rfl) ?_
  rintro _ _ ⟨b6, rfl, rfl⟩
  refine J.norm rfl <| J.nil <| J.then_n <| J.seq ?_
  refine J.openRef (m := m) (M := M) fun p1 c1 bs p2 c2 us p3 c3 hyb hyu hyk => ?_
  refine J.norm rfl ?_
  have hbs : Srtd ltB (bs.map RBk.kv) := by rw [hyb]; exact hM.bs
  have hus : Srtd ltN (us.map RUp.kv) := by rw [hyu]; exact hM.us
  have hbl : bs.length = M.buckets.length := by rw [← hyb, List.length_map]
  have hul : us.length = M.uploads.length := by rw [← hyu, List.length_map]
  have hlen := hM.len
  refine J.slrI (E0 := 101) (sz := 2) (p := p1) (n := bs.length) (c := c1) (xs := bs.flatMap RBk.cells) fun hsb => ?_
  refine J.slrI (E0 := 107) (sz := 4) (p := p2) (n := us.length) (c := c2) (xs := us.flatMap RUp.cells) fun hsu => ?_
  obtain ⟨y, hyi, hyq⟩ := at_map (by rw [hyu]; exact hi.here ord3_nat hM.us hu)
  obtain ⟨yk, yb, yo, yp, yc, yl⟩ := y
  simp only [RUp.kv, Prod.mk.injEq] at hyq
  obtain ⟨hyk1, rfl⟩ := hyq
  have hil := (List.getElem?_eq_some_iff.1 hyi).1
  obtain ⟨bb, off, rfl, hrd⟩ := hsu.some_ (by omega)
  obtain ⟨hps, hex, hdl⟩ := hok.ps _ _ hu
  have hyl : yl.length ≤ 32768 := by have := hM.pl _ _ hu; rwa [List.length_map] at this
  dsimp only at hps hex hdl
  have hpl : x.o.parts.length ≤ 10000 := by
   simp only [partsOK, Bool.and_eq_true, decide_eq_true_eq] at hp; omega
  have hpo : ∀ n, (partOf (yl.map RPt.kv) n).length ≤ 16777216 := by
   intro n; unfold partOf
   cases h : sget n (yl.map RPt.kv) with
   | none => simp
   | some d => exact hdl _ _ h
  have hal : ∀ j, ((x.o.parts.take j).flatMap (partOf (yl.map RPt.kv))).length ≤ 10000 * 16777216 := fun j => Nat.le_trans (flat_bound (C := 16777216) _ fun n _ => hpo n) (Nat.mul_le_mul_right _ (by rw [List.length_take]; omega))
  refine J.focusI (f := RUp.asn) i hyi ?_
  refine J.openI (RUp.asn ⟨yk, yb, yo, yp, yc, yl⟩) (Bs := fun _ : Unit => [own 109 2 (.slice yp yl.length yc) (yl.flatMap RPt.cells), star (yl.map RPt.asn)]) (p := fun _ => True) (fun _ h => ⟨(), trivial, h⟩) fun _ _ => ?_
  refine J.norm rfl ?_
  refine J.slrI (E0 := 109) (sz := 2) (p := yp) (n := yl.length) (c := yc) (xs := yl.flatMap RPt.cells) fun hsp => ?_
  refine J.tells 0 rfl own.len fun hlp => ?_
  refine J.region <| J.m rfl <| J.p rfl (Q.nil_ rfl) <| J.p rfl (Q.fa (n := 1) Tryz.runUnderlying92 rfl rfl Tryz.sizeOf89 rfl) ?_
  refine J.p rfl (Q.ld Tryz.isAgg89 rfl (rdI (by exact rfl))) ?_
  refine J.m rfl <| J.p rfl (Q.ia Tryz.runUnderlying89 Tryz.sizeOf107 rfl rfl (by omega) (by omega)) <| J.p rfl (Q.asg rfl) <| J.nil <| J.then_n <| J.seq <| J.region <| J.p rfl (Q.asg rfl) <| J.nil <| J.then_n <| J.seq <| J.seq <| J.region <| J.p rfl (Q.asg rfl) <| J.nil <| J.then_n <| J.block ?_
  refine J.give (X := own 5 1 (.slice none 0 0) (bytesV [])) (own.nil _ _ _) ?_
  refine J.keepI [own 5 1 (.slice none 0 0) (bytesV []), refP m (.slice p1 bs.length c1) (.slice (some ⟨bb, off, none⟩) us.length c2) (.slice p3 M.done.length c3), bksO p1 c1 bs, upsO (some ⟨bb, off, none⟩) c2 us, kpsO p3 c3 M.done, star (bs.map RBk.asn), own 109 2 (.slice yp yl.length yc) (yl.flatMap RPt.cells), star (yl.map RPt.asn), star ((us.eraseIdx i).map RUp.asn),
   pt b6 (.cells [Value.int .i64 0, .int .u64 0, .slice none 0 0, .bool false, .slice none 0 0].toArray 37 (0, 0)), pt b4 (.cells x.cells.toArray 27 (0, 0)), G, F] ?_
  refine J.loop3 (fun (j : Nat) (_ : Option Addr) (_ : Nat) => j ≤ x.o.parts.length ∧ ∀ q, q ∈ x.o.parts.take j → (sget q (yl.map RPt.kv)).isSome = true) (fun j _ _ => x.o.parts.length - j)
   (fun j p c => [(0, .pointer (some ⟨m, 0, none⟩)), (2, .int .i64 i), (4, .pointer (some ⟨b4, 0, none⟩)), (6, .pointer (some ⟨b6, 0, none⟩)), (7, .pointer (some ⟨bb, off + i * 4, none⟩)), (8, .slice p ((x.o.parts.take j).flatMap (partOf (yl.map RPt.kv))).length c), (9, .int .i64 j)])
   (fun j p c => [own 5 1 (.slice p ((x.o.parts.take j).flatMap (partOf (yl.map RPt.kv))).length c) (bytesV ((x.o.parts.take j).flatMap (partOf (yl.map RPt.kv)))), refP m (.slice p1 bs.length c1) (.slice (some ⟨bb, off, none⟩) us.length c2) (.slice p3 M.done.length c3), bksO p1 c1 bs, upsO (some ⟨bb, off, none⟩) c2 us, kpsO p3 c3 M.done, star (bs.map RBk.asn), own 109 2 (.slice yp yl.length yc) (yl.flatMap RPt.cells), star (yl.map RPt.asn), star ((us.eraseIdx i).map RUp.asn),
   pt b6 (.cells [Value.int .i64 0, .int .u64 0, .slice none 0 0, .bool false, .slice none 0 0].toArray 37 (0, 0)), pt b4 (.cells x.cells.toArray 27 (0, 0)), G, F])
   0 none 0 ⟨Nat.zero_le _, (fun _ h => by cases h)⟩ ⟨rfl, rfl, rfl, rfl, rfl, rfl, rfl, trivial⟩ rfl fun j p c hw => ?_
  obtain ⟨hj, hall⟩ := hw
  have hacc := hal j
  refine J.seq <| J.seq <| J.region <| J.m rfl <| J.p rfl (Q.fa (n := 7) Tryz.runUnderlying27 rfl rfl Tryz.sizeOf24 rfl) ?_
  refine J.p rfl (Q.ld Tryz.isAgg24 rfl (rdI (by exact rfl))) ?_
  refine J.p rfl (Q.lenSl Tryz.runUnderlying24 rfl) <| J.p rfl (Q.lss rfl rfl) <| J.nil <| J.then_n ?_
  refine J.cases 24 rfl (fun hc24 => ?_) (fun hc24 => ?_)
  ·
   replace hc24 := X.nm hc24
   try (first | (cases hc24; done) | (exfalso; simp at hc24; done))
   all_goals
    refine J.cond_t rfl <| J.cskip <| J.then_n <| J.seq <| J.block <| J.seq ?_
    obtain ⟨bp, op, hpp, hrp⟩ := hx.parts.some_ (by omega)
    obtain ⟨n, hn⟩ : ∃ n, x.o.parts[j]? = some n := ⟨_, List.getElem?_eq_getElem (by omega)⟩
    refine J.region <| J.m rfl <| J.p rfl (Q.fa (n := 7) Tryz.runUnderlying27 rfl rfl Tryz.sizeOf24 rfl) ?_
    refine J.p rfl (Q.ld Tryz.isAgg24 rfl (rdI (by exact rfl))) ?_
    refine J.slot 30 (.slice (some ⟨bp, op, none⟩) x.o.parts.length x.pc) rfl (by rw [hpp]) ?_
    refine J.m rfl <| J.p rfl (Q.ia Tryz.runUnderlying24 Tryz.sizeOf3 rfl rfl (by omega) (by omega)) <| J.p rfl (Q.ld Tryz.isAgg3 rfl ((hrp j (.int .i64 n) (by simp [hn])).cast (by omega)).inI) ?_
    refine J.callI Tryz.call79 (rpart_spec bb off c2 us hyi n hps (by show yl.length ≤ _; omega)) rfl rfl rfl ?_
    rintro _ _ ⟨a, rfl, ha, rfl⟩
    refine J.norm rfl ?_
    replace ha : AtK ltI n (yl.map RPt.kv) a := ha
    refine J.m rfl <| J.p rfl (Q.ext rfl rfl) <| J.p rfl (Q.ext rfl rfl) <| J.p rfl (Q.asg rfl) <| J.p rfl (Q.asg rfl) <| J.nil <| J.then_n <| J.seq <| J.seq <| J.region <| J.m rfl <| J.p rfl (Q.not rfl) <| J.nil <| J.then_n ?_
    refine J.cases 38 rfl (fun hc38 => ?_) (fun hc38 => ?_)
    ·
     replace hc38 := X.nm hc38
     try (first | (cases hc38; done) | (exfalso; simp at hc38; done))
     all_goals
      refine J.cond_t rfl <| J.seq <| J.region ?_
      refine J.callI Tryz.call38 (ris_spec 400) rfl rfl rfl ?_
      rintro _ _ ⟨rfl, rfl⟩
      refine J.norm rfl ?_
      refine J.stAI (vs := [_, _, _, _, _]) rfl Tryz.sizeOf37 rfl rfl (by exact rfl) (by exact rfl) (by exact rfl) ?_
      refine J.nil <| J.then_n <| J.cret <| J.then_r <| J.blk_r <| J.then_r <| J.lp_r <| J.blk_r <| J.then_r ?_
      replace hc38 : (sget n (yl.map RPt.kv)).isSome = false := by simpa using hc38
      have e : M.complete x.o = (st 400, M) := by
       unfold BM.complete; rw [hu]; unfold collect; dsimp only
       rw [if_neg (by intro h; rw [List.all_eq_true] at h; have := h n (List.mem_of_getElem? hn); rw [hc38] at this; cases this)]
      refine J.shutI [own 109 2 (.slice yp yl.length yc) (yl.flatMap RPt.cells), star (yl.map RPt.asn)] (RUp.asn ⟨yk, yb, yo, yp, yc, yl⟩) (fun _ h => h) ?_
      refine J.unfocusI (f := RUp.asn) i ⟨yk, yb, yo, yp, yc, yl⟩ hil ?_
      rw [set_self hyi]
      refine J.shutI (refL m M p1 c1 bs (some ⟨bb, off, none⟩) c2 us p3 c3) (RefAt m M) (RefAt.of hyb hyu hyk) ?_
      rw [e]
      refine J.retCI (vs := [_, _, _, _, _]) [RefAt m M, G] rfl rfl Tryz.isAgg37 Tryz.sizeOf37 rnI ⟨rfl, rfl⟩
    replace hc38 := X.nm hc38
    try (first | (cases hc38; done) | (exfalso; simp at hc38; done))
    all_goals
     refine J.cond_f rfl <| J.cskip <| J.then_n ?_
     replace hc38 : (sget n (yl.map RPt.kv)).isSome = true := by simpa using hc38
     obtain ⟨d, hd⟩ := Option.isSome_iff_exists.1 hc38
     obtain ⟨q, hq, hqv⟩ := at_map (ha.here ord3_int hps hd)
     have hqa := (List.getElem?_eq_some_iff.1 hq).1
     have hqd : q.d = d := congrArg Prod.snd hqv
     have hqd2 := hdl _ _ hd
     obtain ⟨b2, o2, rfl, hrd2⟩ := hsp.some_ (by omega)
     refine J.slrStarI (f := RPt.asn) (E := 5) (sz := 1) (p := q.p) (n := q.d.length) (c := q.c) (xs := bytesV q.d) a hq rfl fun hsd => ?_
     have hql : q.d.length ≤ 16777216 := by rw [hqd]; exact hqd2
     obtain ⟨acc, hac⟩ : ∃ acc, acc = (x.o.parts.take j).flatMap (partOf (yl.map RPt.kv)) := ⟨_, rfl⟩
     rw [← hac] at hacc ⊢
     refine J.region <| J.m rfl <| J.m rfl <| J.p rfl (Q.nil_ rfl) <| J.p rfl (Q.fa (n := 3) Tryz.runUnderlying107 rfl rfl Tryz.sizeOf105 rfl) <| J.p rfl (Q.ld Tryz.isAgg105 rfl (rfO 3 RUp.len hyi (show _ = some (Value.slice (some ⟨b2, o2, none⟩) yl.length yc) from rfl) (by omega))) <| J.m rfl <| J.p rfl (Q.ia Tryz.runUnderlying105 Tryz.sizeOf109 rfl rfl (by omega) (by omega)) ?_
     refine J.p rfl (Q.fa (n := 1) Tryz.runUnderlying109 rfl rfl Tryz.sizeOf25 rfl) <| J.p rfl (Q.ld Tryz.isAgg25 rfl (rfO 1 RPt.len hq (show _ = some (Value.slice q.p q.d.length q.c) from rfl) (by omega))) ?_
     refine J.c rfl rfl (C.appI Tryz.runUnderlying25 Tryz.runUnderlying25 Tryz.typeInfo5 Tryz.sizeOf5 Tryz.zeroValue5 rfl rfl (hsd.inI) (bytesV_one _) (by simp [Tryz.t5] <;> omega) (by decide)) ?_
     rintro _ _ ⟨p49, c49, rfl, rfl⟩
     refine J.norm rfl <| J.p rfl (Q.asg rfl) <| J.nil <| J.blk_n <| J.then_n <| J.region <| J.m rfl <| J.p rfl (Q.add64 rfl rfl (by omega)) <| J.p rfl (Q.asg rfl) <| J.nil ?_
     have e1 : (x.o.parts.take (j + 1)).flatMap (partOf (yl.map RPt.kv)) = (x.o.parts.take j).flatMap (partOf (yl.map RPt.kv)) ++ q.d := by
      obtain ⟨h1, h2⟩ := List.getElem?_eq_some_iff.1 hn
      rw [List.take_succ_eq_append_getElem h1, h2, List.flatMap_append, List.flatMap_cons, List.flatMap_nil, List.append_nil]
      rw [show partOf (yl.map RPt.kv) n = q.d from by unfold partOf; rw [hd, hqd]; rfl]
     rw [← hac] at e1
     have e2 : acc.length + q.d.length = ((x.o.parts.take (j + 1)).flatMap (partOf (yl.map RPt.kv))).length := by rw [e1, List.length_append]
     have e3 : bytesV acc ++ bytesV q.d = bytesV ((x.o.parts.take (j + 1)).flatMap (partOf (yl.map RPt.kv))) := by rw [e1]; simp [bytesV]
     rw [e2, e3]
     refine J.againI (j + 1, p49, c49) ⟨by show j + 1 ≤ _; omega, by
      obtain ⟨h1, h2⟩ := List.getElem?_eq_some_iff.1 hn
      intro r hr
      rw [show (j + 1, p49, c49).1 = j + 1 from rfl, List.take_succ_eq_append_getElem h1, h2, List.mem_append] at hr
      rcases hr with hr | hr
      · exact hall r hr
      · rw [List.mem_singleton.1 hr]; exact hc38⟩ (by show x.o.parts.length - (j + 1) < x.o.parts.length - j; omega) ⟨rfl, rfl, rfl, rfl, rfl, rfl, rfl, trivial⟩
  replace hc24 := X.nm hc24
  try (first | (cases hc24; done) | (exfalso; simp at hc24; done))
  all_goals
   refine J.cond_f rfl <| J.exit <| J.then_x <| J.lp_x <| J.blk_x <| J.then_n <| J.seq ?_
   obtain ⟨acc, hac⟩ : ∃ acc, acc = (x.o.parts.take j).flatMap (partOf (yl.map RPt.kv)) := ⟨_, rfl⟩
   rw [← hac] at hacc ⊢
   have hcol : collect (yl.map RPt.kv) x.o.parts = some acc := by
    rw [List.take_of_length_le (by omega)] at hac hall
    unfold collect
    rw [if_pos (List.all_eq_true.2 hall), hac]
   obtain ⟨objs, hob⟩ := Option.isSome_iff_exists.1 hex
   obtain ⟨hso, hol, _⟩ := hok.os _ _ hob
   refine J.region <| J.m rfl <| J.m rfl <| J.p rfl (Q.nil_ rfl) <| J.p rfl (Q.fa (n := 1) Tryz.runUnderlying107 rfl rfl Tryz.sizeOf9 rfl) <| J.p rfl (Q.ld Tryz.isAgg9 rfl (rfO 1 RUp.len hyi (show _ = some (Value.string yb) from rfl) (by omega))) ?_
   refine J.callI Tryz.call75 (rbucket_spec m p1 c1 bs (.slice (some ⟨bb, off, none⟩) us.length c2) (.slice p3 M.done.length c3) yb hbs (by omega)) rfl rfl rfl ?_
   rintro _ _ ⟨a, rfl, ha, rfl⟩
   refine J.norm rfl ?_
   rw [hyb] at ha ⊢
   refine J.m rfl <| J.p rfl (Q.ext rfl rfl) <| J.p rfl (Q.ext rfl rfl) <| J.p rfl (Q.asg rfl) <| J.p rfl (Q.asg rfl) <| J.nil <| J.then_n <| J.seq ?_
   obtain ⟨z, hz, hzv⟩ := at_map (by rw [hyb]; exact ha.here ord3_str hM.bs hob)
   have hza := (List.getElem?_eq_some_iff.1 hz).1
   have hzk : z.k = yb := congrArg Prod.fst hzv
   have hzl : z.l.map ROb.kv = objs := congrArg Prod.snd hzv
   have hzn : z.l.length ≤ 32768 := by have := congrArg List.length hzl; rw [List.length_map] at this; omega
   obtain ⟨b1, o1, rfl, hrd1⟩ := hsb.some_ (by omega)
   refine J.slrI (E0 := 5) (sz := 1) (p := p) (n := acc.length) (c := c) (xs := bytesV acc) fun hsa => ?_
   refine J.focusI (f := RBk.asn) a hz ?_
   refine J.openI z.asn (Bs := fun _ : Unit => [z.own, star (z.l.map ROb.asn)]) (p := fun _ => True) (fun _ h => ⟨(), trivial, h⟩) fun _ _ => ?_
   refine J.norm rfl ?_
   refine J.draw [11] Tryz.mixed (by kernel_rfl) fun hR => ?_
   refine RG.p 0 hR rfl (Q.mv rfl) <| RG.p 1 hR rfl (Q.nil_ rfl) <| RG.p 2 hR rfl (Q.fa (n := 0) Tryz.runUnderlying92 rfl rfl Tryz.sizeOf88 rfl) ?_
   refine RG.p 3 hR rfl (Q.ld Tryz.isAgg88 rfl (rdI (by exact rfl))) ?_
   refine RG.p 4 hR rfl (Q.mv rfl) <| RG.p 5 hR rfl (Q.ia Tryz.runUnderlying88 Tryz.sizeOf101 rfl rfl (by omega) (by omega)) <| RG.p 6 hR rfl (Q.mv rfl) <| RG.p 7 hR rfl (Q.nil_ rfl) <| RG.p 8 hR rfl (Q.fa (n := 2) Tryz.runUnderlying107 rfl rfl Tryz.sizeOf9 rfl) <| RG.p 9 hR rfl (Q.ld Tryz.isAgg9 rfl (rfO 2 RUp.len hyi (show _ = some (Value.string yo) from rfl) (by omega))) ?_
   refine RG.p 10 hR rfl (Q.mv rfl) ?_
   refine RG.callI 11 hR rfl rfl rfl rfl rfl rfl Tryz.call81 (rput_spec (own 5 1 (.slice p acc.length c) (bytesV acc)) b1 o1 c1 bs hz yo p c acc hsa (by omega) (by rw [hzl]; exact hso) (by omega)) rfl ?_
   rintro _ _ ⟨z2, hz1, hz2, rfl, rfl⟩
   refine RG.norm rfl ?_
   refine RG.fin hR rfl ?_
   refine J.norm rfl <| J.then_n <| J.seq ?_
   refine J.shutI [z2.own, star (z2.l.map ROb.asn)] z2.asn (fun _ h => h) ?_
   refine J.unfocusI (f := RBk.asn) a z2 hza ?_
   refine J.shutI [own 109 2 (.slice yp yl.length yc) (yl.flatMap RPt.cells), star (yl.map RPt.asn)] (RUp.asn ⟨yk, yb, yo, yp, yc, yl⟩) (fun _ h => h) ?_
   refine J.unfocusI (f := RUp.asn) i ⟨yk, yb, yo, yp, yc, yl⟩ hil ?_
   rw [set_self hyi]
   obtain ⟨M1, hM1⟩ : ∃ M1 : BM, M1 = { M with buckets := sput ltB yb (sput ltB yo acc objs) M.buckets } := ⟨_, rfl⟩
   have hset : (bs.set a z2).map RBk.kv = M1.buckets := by
    rw [hM1, List.map_set, hyb, ha.put_yes ord3_str hM.bs hob]
    rw [show z2.kv = (yb, sput ltB yo acc objs) from by rw [← hzl, ← hz2, ← hzk, ← hz1]]
   have lM1 : M1.lite := ⟨by rw [hM1]; exact X.G.srtd_put ord3_str hM.bs _ _, by rw [hM1]; exact hM.us, by rw [hM1]; exact hM.ds, by rw [← hset, List.length_map, List.length_set, hM1]; exact ⟨by omega, hM.len.2⟩, by rw [hM1]; exact hM.pl⟩
   refine J.convI (refP m (.slice (some ⟨b1, o1, none⟩) bs.length c1) (.slice (some ⟨bb, off, none⟩) us.length c2) (.slice p3 M.done.length c3)) (refP m (.slice (some ⟨b1, o1, none⟩) (bs.set a z2).length c1) (.slice (some ⟨bb, off, none⟩) us.length c2) (.slice p3 M1.done.length c3)) (fun _ h => by rw [List.length_set, hM1]; exact h) ?_
   refine J.convI (kpsO p3 c3 M.done) (kpsO p3 c3 M1.done) (fun _ h => by rw [hM1]; exact h) ?_
   refine J.shutI (refL m M1 (some ⟨b1, o1, none⟩) c1 (bs.set a z2) (some ⟨bb, off, none⟩) c2 us p3 c3) (RefAt m M1) (RefAt.of (M := M1) hset (by rw [hM1]; exact hyu) (by rw [hM1]; exact hyk)) ?_
   refine J.region <| J.m rfl <| J.m rfl ?_
   refine J.callI Tryz.call78 (rgone_spec m M1 lM1 (n := x.o.upload) (u := ⟨yb, yo, yl.map RPt.kv⟩) (i := i) (by rw [hM1]; exact hi) (by rw [hM1]; exact hu)) rfl rfl rfl ?_
   rintro _ _ ⟨rfl, rfl⟩
   refine J.norm rfl <| J.nil <| J.then_n <| J.seq <| J.region ?_
   refine J.callI Tryz.call38 (ris_spec 200) rfl rfl rfl ?_
   rintro _ _ ⟨rfl, rfl⟩
   refine J.norm rfl ?_
   refine J.stAI (vs := [_, _, _, _, _]) rfl Tryz.sizeOf37 rfl rfl (by exact rfl) (by exact rfl) (by exact rfl) ?_
   refine J.nil <| J.then_n <| J.cret ?_
   have e : M.complete x.o = (st 200, { M1 with uploads := sdel x.o.upload M1.uploads }) := by
    unfold BM.complete; rw [hu]; dsimp only; rw [hcol, hob, hM1]; rfl
   rw [e]
   refine J.retCI (vs := [_, _, _, _, _]) [RefAt m { M1 with uploads := sdel x.o.upload M1.uploads }, G] rfl rfl Tryz.isAgg37 Tryz.sizeOf37 rnI ⟨rfl, rfl⟩
end
end Go.Proofs.YtdancegklkifaaaGreat
namespace Go.Proofs.YtdancegklkifaaaGreat
set_option linter.unusedSectionVars false
set_option linter.unusedSimpArgs false
set_option linter.unusedVariables false
open Go.X
open Go.X.G (Ord3 ord3_nat ord3_int ord3_str ltB sget sput sdel Srtd)

section
variable {k : Nat} (m : Nat) (M : BM) (hM : M.lite) (hok : M.ok k) (hk : k ≤ 32768) (x : OW) (G : Assn) (hx : x.ok G)
include hM hok hk hx
theorem rinUpload_spec (hkk : x.o.kind = 8 ∨ x.o.kind = 9 ∨ x.o.kind = 10) (hp : x.o.kind = 9 → partsOK x.o.parts = true) (hdl : x.o.data.length ≤ 16777216) : FSpec Tryz.prog 42 [.pointer (some ⟨m, 0, none⟩), .agg x.cells.toArray] [RefAt m M, G]
    (fun v B => v = bareV (M.act x.o).1 ∧ B = [RefAt m (M.act x.o).2, G]) := by
  refine FSpec.of Tryz.func42 rfl Tryz.ntmps42 rfl fun W0 F => ?_
  refine J.seq <| J.region ?_
  refine J.c rfl rfl (C.box (l := [_, _, _, _, _, _, _, _, _]) rfl rfl) ?_
  rintro _ _ ⟨b3, rfl, rfl⟩
  refine J.norm rfl ?_
  refine J.c rfl rfl (C.alloc (l := [_, _, _, _, _]) Tryz.zeroValue37 rfl) ?_
  rintro _ _ ⟨b4, rfl, rfl⟩
  refine J.norm rfl <| J.nil <| J.then_n <| J.seq ?_
  refine J.openRef (m := m) (M := M) fun p1 c1 bs p2 c2 us p3 c3 hyb hyu hyk => ?_
  refine J.norm rfl ?_
  have hbs : Srtd ltB (bs.map RBk.kv) := by rw [hyb]; exact hM.bs
  have hus : Srtd ltN (us.map RUp.kv) := by rw [hyu]; exact hM.us
  have hbl : bs.length = M.buckets.length := by rw [← hyb, List.length_map]
  have hul : us.length = M.uploads.length := by rw [← hyu, List.length_map]
  have hlen := hM.len
  refine J.slrI (E0 := 101) (sz := 2) (p := p1) (n := bs.length) (c := c1) (xs := bs.flatMap RBk.cells) fun hsb => ?_
  refine J.slrI (E0 := 107) (sz := 4) (p := p2) (n := us.length) (c := c2) (xs := us.flatMap RUp.cells) fun hsu => ?_
  refine J.region <| J.m rfl <| J.p rfl (Q.fa (n := 6) Tryz.runUnderlying27 rfl rfl Tryz.sizeOf23 rfl) ?_
  refine J.p rfl (Q.ld Tryz.isAgg23 rfl (rdI (by exact rfl))) ?_
  refine J.callI Tryz.call76 (rupload_spec m p2 c2 us (.slice p1 bs.length c1) (.slice p3 M.done.length c3) x.o.upload hus (by omega)) rfl rfl rfl ?_
  rintro _ _ ⟨i, rfl, hi, rfl⟩
  refine J.norm rfl ?_
  rw [hyu] at hi ⊢
  refine J.m rfl <| J.p rfl (Q.ext rfl rfl) <| J.p rfl (Q.ext rfl rfl) <| J.p rfl (Q.asg rfl) <| J.p rfl (Q.asg rfl) <| J.nil <| J.then_n <| J.seq <| J.seq <| J.region <| J.m rfl <| J.p rfl (Q.not rfl) <| J.nil <| J.then_n ?_
  refine J.cases 19 rfl (fun hc19 => ?_) (fun hc19 => ?_)
  ·
   replace hc19 := X.nm hc19
   try (first | (cases hc19; done) | (exfalso; simp at hc19; done))
   all_goals
    refine J.cond_t rfl <| J.seq <| J.region ?_
    refine J.callI Tryz.call38 (ris_spec 404) rfl rfl rfl ?_
    rintro _ _ ⟨rfl, rfl⟩
    refine J.norm rfl ?_
    refine J.stAI (vs := [_, _, _, _, _]) rfl Tryz.sizeOf37 rfl rfl (by exact rfl) (by exact rfl) (by exact rfl) ?_
    refine J.nil <| J.then_n <| J.cret <| J.then_r ?_
    replace hc19 : sget x.o.upload M.uploads = none := by simpa using hc19
    have e : M.act x.o = (st 404, M) := by
     unfold BM.act BM.part BM.complete BM.abort
     simp only [hc19]
     rcases hkk with h | h | h <;> simp [h]
    refine J.shutI (refL m M p1 c1 bs p2 c2 us p3 c3) (RefAt m M) (RefAt.of hyb hyu hyk) ?_
    rw [e]
    refine J.retCI (vs := [_, _, _, _, _]) [RefAt m M, G] rfl rfl Tryz.isAgg37 Tryz.sizeOf37 rnI ⟨rfl, rfl⟩
  replace hc19 := X.nm hc19
  try (first | (cases hc19; done) | (exfalso; simp at hc19; done))
  all_goals
   refine J.cond_f rfl <| J.cskip <| J.then_n <| J.seq <| J.seq ?_
   obtain ⟨u, hu⟩ : ∃ u, sget x.o.upload M.uploads = some u := Option.isSome_iff_exists.1 (by simpa using hc19)
   refine J.region <| J.p rfl (Q.fa (n := 1) Tryz.runUnderlying27 rfl rfl Tryz.sizeOf3 rfl) ?_
   refine J.p rfl (Q.ld Tryz.isAgg3 rfl (rdI (by exact rfl))) ?_
   refine J.nil <| J.then_n <| J.block <| J.seq <| J.region <| J.p rfl (Q.eql rfl rfl) <| J.p rfl (Q.asg rfl) <| J.nil <| J.then_n ?_
   refine J.cases 23 rfl (fun hc23 => ?_) (fun hc23 => ?_)
   ·
    replace hc23 := X.nm hc23
    try (first | (cases hc23; done) | (exfalso; simp at hc23; done))
    all_goals
     refine J.cond_t rfl <| J.seq ?_
     refine J.shutI (refL m M p1 c1 bs p2 c2 us p3 c3) (RefAt m M) (RefAt.of hyb hyu hyk) ?_
     refine J.region <| J.m rfl ?_
     refine J.p rfl (Q.ldN (vs := [_, _, _, _, _, _, _, _, _]) Tryz.isAgg27 Tryz.sizeOf27 rfl rnI) ?_
     refine J.m rfl ?_
     refine J.callI Tryz.call77 (rcomplete_spec m M hM hok hk x G hx (hp (by omega)) hu hi) rfl rfl rfl ?_
     rintro _ _ ⟨rfl, rfl⟩
     refine J.norm rfl ?_
     refine J.stAI (vs := [_, _, _, _, _]) rfl Tryz.sizeOf37 rfl rfl (by exact rfl) (by exact rfl) (by exact rfl) ?_
     refine J.nil <| J.then_n <| J.cret <| J.blk_r <| J.then_r ?_
     have e : M.act x.o = M.complete x.o := by unfold BM.act; simp [show x.o.kind = 9 by omega]
     rw [e]
     refine J.retCI (vs := [_, _, _, _, _]) [RefAt m (M.complete x.o).2, G] rfl rfl Tryz.isAgg37 Tryz.sizeOf37 rnI ⟨rfl, rfl⟩
   replace hc23 := X.nm hc23
   try (first | (cases hc23; done) | (exfalso; simp at hc23; done))
   all_goals
    refine J.cond_f rfl <| J.seq <| J.region <| J.p rfl (Q.eql rfl rfl) <| J.p rfl (Q.asg rfl) <| J.nil <| J.then_n ?_
    refine J.cases 29 rfl (fun hc29 => ?_) (fun hc29 => ?_)
    ·
     replace hc29 := X.nm hc29
     try (first | (cases hc29; done) | (exfalso; simp at hc29; done))
     all_goals
      refine J.cond_t rfl <| J.seq ?_
      refine J.shutI (refL m M p1 c1 bs p2 c2 us p3 c3) (RefAt m M) (RefAt.of hyb hyu hyk) ?_
      refine J.region <| J.m rfl <| J.m rfl ?_
      refine J.callI Tryz.call78 (rgone_spec m M hM hi hu) rfl rfl rfl ?_
      rintro _ _ ⟨rfl, rfl⟩
      refine J.norm rfl <| J.nil <| J.then_n <| J.seq <| J.region ?_
      refine J.callI Tryz.call38 (ris_spec 200) rfl rfl rfl ?_
      rintro _ _ ⟨rfl, rfl⟩
      refine J.norm rfl ?_
      refine J.stAI (vs := [_, _, _, _, _]) rfl Tryz.sizeOf37 rfl rfl (by exact rfl) (by exact rfl) (by exact rfl) ?_
      refine J.nil <| J.then_n <| J.cret <| J.blk_r <| J.then_r ?_
      have e : M.act x.o = (st 200, { M with uploads := sdel x.o.upload M.uploads }) := by unfold BM.act BM.abort; simp [show x.o.kind = 10 by omega, hu]
      rw [e]
      refine J.retCI (vs := [_, _, _, _, _]) [RefAt m { M with uploads := sdel x.o.upload M.uploads }, G] rfl rfl Tryz.isAgg37 Tryz.sizeOf37 rnI ⟨rfl, rfl⟩
    replace hc29 := X.nm hc29
    try (first | (cases hc29; done) | (exfalso; simp at hc29; done))
    all_goals
     refine J.cond_f rfl <| J.cskip <| J.blk_n <| J.then_n <| J.seq ?_
     have e : M.act x.o = (st 200, { M with uploads := sput ltN x.o.upload ⟨u.bucket, u.key, sput ltI x.o.n x.o.data u.parts⟩ M.uploads }) := by unfold BM.act BM.part; simp [show x.o.kind = 8 by omega, hu]
     rw [e]
     obtain ⟨y, hyi, hyq⟩ := at_map (by rw [hyu]; exact hi.here ord3_nat hM.us hu)
     obtain ⟨yk, yb, yo, yp, yc, yl⟩ := y
     simp only [RUp.kv, Prod.mk.injEq] at hyq
     obtain ⟨hyk1, rfl⟩ := hyq
     have hil := (List.getElem?_eq_some_iff.1 hyi).1
     obtain ⟨bb, off, rfl, hrd⟩ := hsu.some_ (by omega)
     obtain ⟨hps, hex, _⟩ := hok.ps _ _ hu
     dsimp only at hps hex
     have hyl : yl.length ≤ 32768 := by have := hM.pl _ _ hu; rwa [List.length_map] at this
     refine J.focusI (f := RUp.asn) i hyi ?_
     refine J.openI (RUp.asn ⟨yk, yb, yo, yp, yc, yl⟩) (Bs := fun _ : Unit => [own 109 2 (.slice yp yl.length yc) (yl.flatMap RPt.cells), star (yl.map RPt.asn)]) (p := fun _ => True) (fun _ h => ⟨(), trivial, h⟩) fun _ _ => ?_
     refine J.norm rfl ?_
     refine J.slrI (E0 := 109) (sz := 2) (p := yp) (n := yl.length) (c := yc) (xs := yl.flatMap RPt.cells) fun hsp => ?_
     refine J.tells 0 rfl own.len fun hlp => ?_
     have hlp' : yl.length ≤ yc := hlp.2
     refine J.region <| J.m rfl <| J.p rfl (Q.nil_ rfl) <| J.p rfl (Q.fa (n := 1) Tryz.runUnderlying92 rfl rfl Tryz.sizeOf89 rfl) ?_
     refine J.p rfl (Q.ld Tryz.isAgg89 rfl (rdI (by exact rfl))) ?_
     refine J.m rfl <| J.p rfl (Q.ia Tryz.runUnderlying89 Tryz.sizeOf107 rfl rfl (by omega) (by omega)) <| J.p rfl (Q.asg rfl) <| J.nil <| J.then_n <| J.seq <| J.region <| J.m rfl <| J.p rfl (Q.fa (n := 5) Tryz.runUnderlying27 rfl rfl Tryz.sizeOf3 rfl) ?_
     refine J.p rfl (Q.ld Tryz.isAgg3 rfl (rdI (by exact rfl))) ?_
     refine J.callI Tryz.call79 (rpart_spec bb off c2 us hyi x.o.n hps (by show yl.length ≤ _; omega)) rfl rfl rfl ?_
     rintro _ _ ⟨a, rfl, ha, rfl⟩
     refine J.norm rfl ?_
     replace ha : AtK ltI x.o.n (yl.map RPt.kv) a := ha
     have hal : a ≤ yl.length := by have := ha.le; rwa [List.length_map] at this
     refine J.m rfl <| J.p rfl (Q.ext rfl rfl) <| J.p rfl (Q.ext rfl rfl) <| J.p rfl (Q.asg rfl) <| J.p rfl (Q.asg rfl) <| J.nil <| J.then_n ?_
     refine J.cut (fun w : RPt × Nat => w.1.k = x.o.n ∧ w.1.d = x.o.data) (fun w => [(4, .pointer (some ⟨b4, 0, none⟩)), (6, .bool (sget x.o.n (yl.map RPt.kv)).isSome), (7, .pointer (some ⟨bb, off + i * 4, none⟩)), (8, .int .i64 a), (9, .pointer (some ⟨w.2, 0, none⟩))])
      (fun w => [refP m (.slice p1 bs.length c1) (.slice (some ⟨bb, off, none⟩) us.length c2) (.slice p3 M.done.length c3), bksO p1 c1 bs, upsO (some ⟨bb, off, none⟩) c2 us, kpsO p3 c3 M.done, star (bs.map RBk.asn), own 109 2 (.slice yp yl.length yc) (yl.flatMap RPt.cells), star (yl.map RPt.asn), star ((us.eraseIdx i).map RUp.asn),
      pt b4 (.cells [Value.int .i64 0, .int .u64 0, .slice none 0 0, .bool false, .slice none 0 0].toArray 37 (0, 0)), w.1.asn, pt w.2 (.cells w.1.cells.toArray 109 (0, 0)), G, F]) ?_ fun w hw => ?_
     ·
      refine J.draw [2, 5, 7, 8] Tryz.mixed (by kernel_rfl) fun hR => ?_
      refine RG.p 0 hR rfl (Q.fa (n := 5) Tryz.runUnderlying27 rfl rfl Tryz.sizeOf3 rfl) ?_
      refine RG.p 1 hR rfl (Q.ld Tryz.isAgg3 rfl (rdI (by exact rfl))) ?_
      refine RG.p 3 hR rfl (Q.fa (n := 8) Tryz.runUnderlying27 rfl rfl Tryz.sizeOf25 rfl) ?_
      refine RG.p 4 hR rfl (Q.ld Tryz.isAgg25 rfl (rdI (by exact rfl))) ?_
      refine RG.many hR 2 [7] rfl ⟨?_, ⟨?_, trivial⟩⟩
      ·
       refine RGi.made rfl rfl rfl rfl (C.bslG (l := []) Tryz.runUnderlying25 Tryz.sizeOf5 Tryz.zeroValue5 (by decide) rfl rfl rfl rfl rfl) ?_
       rintro b50
       refine RG.many hR 5 [7] rfl ⟨?_, ⟨?_, trivial⟩⟩
       ·
        refine RGi.appI rfl rfl rfl rfl Tryz.runUnderlying25 Tryz.runUnderlying25 Tryz.typeInfo5 Tryz.sizeOf5 Tryz.zeroValue5 rfl rfl (hx.data.inI) (bytesV_one _) (by simp [Tryz.t5] <;> omega) (by decide) ?_
        rintro p53 c53
        refine RG.normE rfl ?_
        refine RG.slot 53 (.slice p53 x.o.data.length c53) rfl (by rw [Nat.zero_add]) ?_
        obtain ⟨z, hz⟩ : ∃ z : RPt, z = ⟨x.o.n, p53, c53, x.o.data⟩ := ⟨_, rfl⟩
        refine RG.p 6 hR rfl (Q.bld (l := [_, _]) Tryz.runUnderlying109 Tryz.zeroValue109 Tryz.places109 rfl rfl) ?_
        refine RG.slot 54 (.agg z.cells.toArray) rfl (by rw [hz]; rfl) ?_
        refine RG.made 7 hR rfl rfl rfl rfl rfl (C.alloc (l := [_, _]) Tryz.zeroValue109 rfl) ?_
        rintro b9
        refine RG.stAI (vs := [_, _]) 8 hR rfl rfl rfl rfl rfl Tryz.sizeOf109 rfl rfl (by exact rfl) (by exact rfl) (by exact rfl) ?_
        refine RG.fin hR rfl ?_
        refine J.norm rfl ?_
        refine J.convI (own 5 1 (.slice p53 (0 + x.o.data.length) c53) ([] ++ bytesV x.o.data)) z.asn (fun _ h => by rw [Nat.zero_add] at h; rw [hz]; exact h) ?_
        exact J.meetI (z, b9) ⟨by rw [hz], by rw [hz]⟩ ⟨rfl, rfl, rfl, rfl, rfl, trivial⟩
       ·
        refine RGi.made rfl rfl rfl rfl (C.alloc (l := [_, _]) Tryz.zeroValue109 rfl) ?_
        rintro b9
        refine RG.many hR 5 [] rfl ⟨?_, trivial⟩
        ·
         refine RGi.appI rfl rfl rfl rfl Tryz.runUnderlying25 Tryz.runUnderlying25 Tryz.typeInfo5 Tryz.sizeOf5 Tryz.zeroValue5 rfl rfl (hx.data.inI) (bytesV_one _) (by simp [Tryz.t5] <;> omega) (by decide) ?_
         rintro p53 c53
         refine RG.normE rfl ?_
         refine RG.slot 53 (.slice p53 x.o.data.length c53) rfl (by rw [Nat.zero_add]) ?_
         obtain ⟨z, hz⟩ : ∃ z : RPt, z = ⟨x.o.n, p53, c53, x.o.data⟩ := ⟨_, rfl⟩
         refine RG.p 6 hR rfl (Q.bld (l := [_, _]) Tryz.runUnderlying109 Tryz.zeroValue109 Tryz.places109 rfl rfl) ?_
         refine RG.slot 54 (.agg z.cells.toArray) rfl (by rw [hz]; rfl) ?_
         refine RG.stAI (vs := [_, _]) 8 hR rfl rfl rfl rfl rfl Tryz.sizeOf109 rfl rfl (by exact rfl) (by exact rfl) (by exact rfl) ?_
         refine RG.fin hR rfl ?_
         refine J.norm rfl ?_
         refine J.convI (own 5 1 (.slice p53 (0 + x.o.data.length) c53) ([] ++ bytesV x.o.data)) z.asn (fun _ h => by rw [Nat.zero_add] at h; rw [hz]; exact h) ?_
         exact J.meetI (z, b9) ⟨by rw [hz], by rw [hz]⟩ ⟨rfl, rfl, rfl, rfl, rfl, trivial⟩
      ·
       refine RGi.made rfl rfl rfl rfl (C.alloc (l := [_, _]) Tryz.zeroValue109 rfl) ?_
       rintro b9
       refine RG.made 2 hR rfl rfl rfl rfl rfl (C.bslG (l := []) Tryz.runUnderlying25 Tryz.sizeOf5 Tryz.zeroValue5 (by decide) rfl rfl rfl rfl rfl) ?_
       rintro b50
       refine RG.many hR 5 [] rfl ⟨?_, trivial⟩
       ·
        refine RGi.appI rfl rfl rfl rfl Tryz.runUnderlying25 Tryz.runUnderlying25 Tryz.typeInfo5 Tryz.sizeOf5 Tryz.zeroValue5 rfl rfl (hx.data.inI) (bytesV_one _) (by simp [Tryz.t5] <;> omega) (by decide) ?_
        rintro p53 c53
        refine RG.normE rfl ?_
        refine RG.slot 53 (.slice p53 x.o.data.length c53) rfl (by rw [Nat.zero_add]) ?_
        obtain ⟨z, hz⟩ : ∃ z : RPt, z = ⟨x.o.n, p53, c53, x.o.data⟩ := ⟨_, rfl⟩
        refine RG.p 6 hR rfl (Q.bld (l := [_, _]) Tryz.runUnderlying109 Tryz.zeroValue109 Tryz.places109 rfl rfl) ?_
        refine RG.slot 54 (.agg z.cells.toArray) rfl (by rw [hz]; rfl) ?_
        refine RG.stAI (vs := [_, _]) 8 hR rfl rfl rfl rfl rfl Tryz.sizeOf109 rfl rfl (by exact rfl) (by exact rfl) (by exact rfl) ?_
        refine RG.fin hR rfl ?_
        refine J.norm rfl ?_
        refine J.convI (own 5 1 (.slice p53 (0 + x.o.data.length) c53) ([] ++ bytesV x.o.data)) z.asn (fun _ h => by rw [Nat.zero_add] at h; rw [hz]; exact h) ?_
        exact J.meetI (z, b9) ⟨by rw [hz], by rw [hz]⟩ ⟨rfl, rfl, rfl, rfl, rfl, trivial⟩
     obtain ⟨z, b9⟩ := w
     obtain ⟨hzk, hzd⟩ := hw
     dsimp only at hzk hzd
     refine J.norm rfl ?_
     have hzv : z.kv = (x.o.n, x.o.data) := by rw [← hzk, ← hzd]
     refine J.seq <| J.seq <| J.region <| J.m rfl <| J.nil <| J.then_n ?_
     refine J.cases 55 rfl (fun hc55 => ?_) (fun hc55 => ?_)
     ·
      replace hc55 := X.nm hc55
      try (first | (cases hc55; done) | (exfalso; simp at hc55; done))
      all_goals
       refine J.cond_t rfl ?_
       obtain ⟨v, hv⟩ := Option.isSome_iff_exists.1 hc55
       have hal2 := (List.getElem?_eq_some_iff.1 (ha.here ord3_int hps hv)).1
       rw [List.length_map] at hal2
       obtain ⟨b2, o2, rfl, hrd2⟩ := hsp.some_ (by omega)
       have e1 : (yl.set a z).map RPt.kv = sput ltI x.o.n x.o.data (yl.map RPt.kv) := by rw [ha.put_yes ord3_int hps hv, List.map_set, hzv]
       obtain ⟨y2, hy2⟩ : ∃ y2 : RUp, y2 = ⟨yk, yb, yo, some ⟨b2, o2, none⟩, yc, yl.set a z⟩ := ⟨_, rfl⟩
       refine J.draw [7] Tryz.mixed (by kernel_rfl) fun hR => ?_
       refine RG.p 0 hR rfl (Q.mv rfl) <| RG.p 1 hR rfl (Q.nil_ rfl) <| RG.p 2 hR rfl (Q.fa (n := 3) Tryz.runUnderlying107 rfl rfl Tryz.sizeOf105 rfl) <| RG.p 3 hR rfl (Q.ld Tryz.isAgg105 rfl (rfO 3 RUp.len hyi (show _ = some (Value.slice (some ⟨b2, o2, none⟩) yl.length yc) from rfl) (by omega))) <| RG.p 4 hR rfl (Q.mv rfl) ?_
       refine RG.p 5 hR rfl (Q.ldN (vs := [_, _]) Tryz.isAgg109 Tryz.sizeOf109 rfl rnI) ?_
       refine RG.p 6 hR rfl (Q.ia Tryz.runUnderlying105 Tryz.sizeOf109 rfl rfl (by omega) (by omega)) ?_
       refine RG.bar 7 hR rfl rfl rfl rfl rfl rfl (C.stNO (a * 2) (vs := z.cells) Tryz.sizeOf109 rfl rfl (by omega) (by rw [flat_length RPt.len]; show a * 2 + 2 ≤ _; omega) rfl) ?_
       rintro _ _ ⟨rfl, rfl⟩
       refine RG.norm rfl ?_
       refine RG.fin hR rfl ?_
       refine J.norm rfl <| J.then_n <| J.seq <| J.region ?_
       refine J.callI Tryz.call38 (ris_spec 200) rfl rfl rfl ?_
       rintro _ _ ⟨rfl, rfl⟩
       refine J.norm rfl ?_
       refine J.stAI (vs := [_, _, _, _, _]) rfl Tryz.sizeOf37 rfl rfl (by exact rfl) (by exact rfl) (by exact rfl) ?_
       refine J.nil <| J.then_n <| J.cret ?_
       rw [flat_set RPt.len yl a z hal2]
       refine J.shutI [z.asn, star (yl.map RPt.asn)] (star (y2.l.map RPt.asn)) (by rw [hy2]; exact star_set1 a z) ?_
       refine J.convI (own 109 2 (.slice (some ⟨b2, o2, none⟩) yl.length yc) ((yl.set a z).flatMap RPt.cells)) y2.own (fun _ h => by rw [hy2]; show own _ _ (.slice _ (yl.set a z).length _) _ _; rw [List.length_set]; exact h) ?_
       refine J.convI (upsO (some ⟨bb, off, none⟩) c2 us) (upsO (some ⟨bb, off, none⟩) c2 (us.set i y2)) (fun _ h => by show own _ _ (.slice _ (us.set i y2).length _) _ _; rw [List.length_set, flat_same hyi (by rw [hy2]; show [_, _, _, Value.slice _ _ _] = _; rw [List.length_set])]; exact h) ?_
       refine J.shutI [y2.own, star (y2.l.map RPt.asn)] y2.asn (fun _ h => h) ?_
       refine J.unfocusI (f := RUp.asn) i y2 hil ?_
       refine J.convI (refP m (.slice p1 bs.length c1) (.slice (some ⟨bb, off, none⟩) us.length c2) (.slice p3 M.done.length c3)) (refP m (.slice p1 bs.length c1) (.slice (some ⟨bb, off, none⟩) (us.set i y2).length c2) (.slice p3 M.done.length c3)) (fun _ h => by rw [List.length_set]; exact h) ?_
       refine J.shutI (refL m { M with uploads := sput ltN x.o.upload ⟨yb, yo, sput ltI x.o.n x.o.data (yl.map RPt.kv)⟩ M.uploads } p1 c1 bs (some ⟨bb, off, none⟩) c2 (us.set i y2) p3 c3) (RefAt m { M with uploads := sput ltN x.o.upload ⟨yb, yo, sput ltI x.o.n x.o.data (yl.map RPt.kv)⟩ M.uploads }) (RefAt.of (M := { M with uploads := sput ltN x.o.upload ⟨yb, yo, sput ltI x.o.n x.o.data (yl.map RPt.kv)⟩ M.uploads }) hyb (by
        rw [List.map_set, hyu, hi.put_yes ord3_nat hM.us hu, hy2, show RUp.kv _ = (yk, UM.mk yb yo _) from rfl, e1, hyk1]) hyk) ?_
       refine J.retCI (vs := [_, _, _, _, _]) [RefAt m { M with uploads := sput ltN x.o.upload ⟨yb, yo, sput ltI x.o.n x.o.data (yl.map RPt.kv)⟩ M.uploads }, G] rfl rfl Tryz.isAgg37 Tryz.sizeOf37 rnI ⟨rfl, rfl⟩
     replace hc55 := X.nm hc55
     try (first | (cases hc55; done) | (exfalso; simp at hc55; done))
     all_goals
      refine J.cond_f rfl ?_
      refine J.cut (fun _ : Option Addr × Nat => True) (fun w => [(4, .pointer (some ⟨b4, 0, none⟩)), (7, .pointer (some ⟨bb, off + i * 4, none⟩)), (8, .int .i64 a), (10, .slice w.1 (0 + a + 1) w.2)])
       (fun w => [refP m (.slice p1 bs.length c1) (.slice (some ⟨bb, off, none⟩) us.length c2) (.slice p3 M.done.length c3), bksO p1 c1 bs, upsO (some ⟨bb, off, none⟩) c2 us, kpsO p3 c3 M.done, star (bs.map RBk.asn), own 109 2 (.slice yp yl.length yc) (yl.flatMap RPt.cells), star (yl.map RPt.asn), star ((us.eraseIdx i).map RUp.asn),
       pt b4 (.cells [Value.int .i64 0, .int .u64 0, .slice none 0 0, .bool false, .slice none 0 0].toArray 37 (0, 0)), z.asn, G, own 109 2 (.slice w.1 (0 + a + 1) w.2) ([] ++ (yl.flatMap RPt.cells).take (a * 2) ++ z.cells), F]) ?_ fun w _ => ?_
      obtain ⟨hq69, hr69⟩ := slH_ (P := Tryz.prog) (T := 105) Tryz.runUnderlying105 Tryz.sizeOf109 hsp (hi := a) hal hlp'
      ·
       have hsn : sget x.o.n (yl.map RPt.kv) = none := Option.not_isSome_iff_eq_none.1 (by rw [hc55]; exact Bool.false_ne_true)
       have e1 : (yl.take a ++ z :: yl.drop a).map RPt.kv = sput ltI x.o.n x.o.data (yl.map RPt.kv) := by rw [ha.put_no ord3_int hps hsn, map_ins, hzv]
       refine J.draw [0, 7, 9, 10, 11] Tryz.mixed (by kernel_rfl) fun hR => ?_
       refine RG.p 1 hR rfl (Q.mv rfl) <| RG.p 2 hR rfl (Q.nil_ rfl) <| RG.p 3 hR rfl (Q.fa (n := 3) Tryz.runUnderlying107 rfl rfl Tryz.sizeOf105 rfl) <| RG.p 4 hR rfl (Q.ld Tryz.isAgg105 rfl (rfO 3 RUp.len hyi (show _ = some (Value.slice yp yl.length yc) from rfl) (by omega))) <| RG.p 5 hR rfl (Q.mv rfl) ?_
       refine RG.p 6 hR rfl (hq69 _ _ _ _ _ _ rfl rfl) ?_
       refine RG.p 8 hR rfl (Q.ldN (vs := [_, _]) Tryz.isAgg109 Tryz.sizeOf109 rfl rnI) ?_
       refine RG.many hR 0 [9] rfl ⟨?_, ⟨?_, trivial⟩⟩
       ·
        refine RGi.made rfl rfl rfl rfl (C.bslG (l := []) Tryz.runUnderlying105 Tryz.sizeOf109 Tryz.zeroValue109 (by decide) rfl rfl rfl rfl rfl) ?_
        rintro b63
        refine RG.many hR 7 [9] rfl ⟨?_, ⟨?_, trivial⟩⟩
        ·
         refine RGi.appI rfl rfl rfl rfl Tryz.runUnderlying105 Tryz.runUnderlying105 Tryz.typeInfo109 Tryz.sizeOf109 Tryz.zeroValue109 rfl rfl (hr69.inI) (take_one (flat_one RPt.one)) (by simp [Tryz.t109] <;> omega) (by decide) ?_
         rintro p70 c70
         refine RG.normE rfl ?_
         refine RG.made 9 hR rfl rfl rfl rfl rfl (C.bslG (l := [_, _]) Tryz.runUnderlying105 Tryz.sizeOf109 Tryz.zeroValue109 (by decide) rfl rfl rfl rfl rfl) ?_
         rintro b72
         refine RG.many hR 10 [] rfl ⟨?_, trivial⟩
         ·
          refine RGi.appI rfl rfl rfl rfl Tryz.runUnderlying105 Tryz.runUnderlying105 Tryz.typeInfo109 Tryz.sizeOf109 Tryz.zeroValue109 rfl rfl (SlR.ptI rfl) (RPt.one z) (by simp [Tryz.t109] <;> omega) (by decide) ?_
          rintro p73 c73
          refine RG.normE rfl ?_
          refine RG.bar 11 hR rfl rfl rfl rfl rfl rfl (Q.asg rfl).toC ?_
          rintro _ _ ⟨rfl, rfl⟩
          refine RG.norm rfl ?_
          refine RG.fin hR rfl ?_
          refine J.norm rfl ?_
          exact J.meetI (p73, c73) trivial ⟨rfl, rfl, rfl, rfl, trivial⟩
        ·
         refine RGi.made rfl rfl rfl rfl (C.bslG (l := [_, _]) Tryz.runUnderlying105 Tryz.sizeOf109 Tryz.zeroValue109 (by decide) rfl rfl rfl rfl rfl) ?_
         rintro b72
         refine RG.many hR 7 [] rfl ⟨?_, trivial⟩
         ·
          refine RGi.appI rfl rfl rfl rfl Tryz.runUnderlying105 Tryz.runUnderlying105 Tryz.typeInfo109 Tryz.sizeOf109 Tryz.zeroValue109 rfl rfl (hr69.inI) (take_one (flat_one RPt.one)) (by simp [Tryz.t109] <;> omega) (by decide) ?_
          rintro p70 c70
          refine RG.normE rfl ?_
          refine RG.many hR 10 [] rfl ⟨?_, trivial⟩
          ·
           refine RGi.appI rfl rfl rfl rfl Tryz.runUnderlying105 Tryz.runUnderlying105 Tryz.typeInfo109 Tryz.sizeOf109 Tryz.zeroValue109 rfl rfl (SlR.ptI rfl) (RPt.one z) (by simp [Tryz.t109] <;> omega) (by decide) ?_
           rintro p73 c73
           refine RG.normE rfl ?_
           refine RG.bar 11 hR rfl rfl rfl rfl rfl rfl (Q.asg rfl).toC ?_
           rintro _ _ ⟨rfl, rfl⟩
           refine RG.norm rfl ?_
           refine RG.fin hR rfl ?_
           refine J.norm rfl ?_
           exact J.meetI (p73, c73) trivial ⟨rfl, rfl, rfl, rfl, trivial⟩
       ·
        refine RGi.made rfl rfl rfl rfl (C.bslG (l := [_, _]) Tryz.runUnderlying105 Tryz.sizeOf109 Tryz.zeroValue109 (by decide) rfl rfl rfl rfl rfl) ?_
        rintro b72
        refine RG.made 0 hR rfl rfl rfl rfl rfl (C.bslG (l := []) Tryz.runUnderlying105 Tryz.sizeOf109 Tryz.zeroValue109 (by decide) rfl rfl rfl rfl rfl) ?_
        rintro b63
        refine RG.many hR 7 [] rfl ⟨?_, trivial⟩
        ·
         refine RGi.appI rfl rfl rfl rfl Tryz.runUnderlying105 Tryz.runUnderlying105 Tryz.typeInfo109 Tryz.sizeOf109 Tryz.zeroValue109 rfl rfl (hr69.inI) (take_one (flat_one RPt.one)) (by simp [Tryz.t109] <;> omega) (by decide) ?_
         rintro p70 c70
         refine RG.normE rfl ?_
         refine RG.many hR 10 [] rfl ⟨?_, trivial⟩
         ·
          refine RGi.appI rfl rfl rfl rfl Tryz.runUnderlying105 Tryz.runUnderlying105 Tryz.typeInfo109 Tryz.sizeOf109 Tryz.zeroValue109 rfl rfl (SlR.ptI rfl) (RPt.one z) (by simp [Tryz.t109] <;> omega) (by decide) ?_
          rintro p73 c73
          refine RG.normE rfl ?_
          refine RG.bar 11 hR rfl rfl rfl rfl rfl rfl (Q.asg rfl).toC ?_
          rintro _ _ ⟨rfl, rfl⟩
          refine RG.norm rfl ?_
          refine RG.fin hR rfl ?_
          refine J.norm rfl ?_
          exact J.meetI (p73, c73) trivial ⟨rfl, rfl, rfl, rfl, trivial⟩
      obtain ⟨p81, c81, hq81, hr81⟩ := slL_ (P := Tryz.prog) (T := 105) Tryz.runUnderlying105 Tryz.sizeOf109 hsp (lo := a) hal hlp'
      refine J.region <| J.m rfl <| J.m rfl <| J.m rfl <| J.p rfl (Q.nil_ rfl) <| J.p rfl (Q.fa (n := 3) Tryz.runUnderlying107 rfl rfl Tryz.sizeOf105 rfl) <| J.p rfl (Q.ld Tryz.isAgg105 rfl (rfO 3 RUp.len hyi (show _ = some (Value.slice yp yl.length yc) from rfl) (by omega))) <| J.m rfl ?_
      refine J.p rfl (hq81 _ _ _ _ _ _ rfl rfl) ?_
      refine J.c rfl rfl (C.appI Tryz.runUnderlying105 Tryz.runUnderlying105 Tryz.typeInfo109 Tryz.sizeOf109 Tryz.zeroValue109 rfl rfl (hr81.inI) (drop_one (flat_one RPt.one)) (by simp [Tryz.t109] <;> omega) (by decide)) ?_
      rintro _ _ ⟨p82, c82, rfl, rfl⟩
      refine J.norm rfl <| J.p rfl (Q.nil_ rfl) <| J.p rfl (Q.fa (n := 3) Tryz.runUnderlying107 rfl rfl Tryz.sizeOf105 rfl) ?_
      refine J.c0 rfl (C.st1O (i * 4 + 3) Tryz.sizeOf105 rfl rfl rfl (by omega) (by rw [flat_length RUp.len]; omega)) ?_
      rintro _ _ ⟨rfl, rfl⟩
      refine J.norm rfl ?_
      have hsn : sget x.o.n (yl.map RPt.kv) = none := Option.not_isSome_iff_eq_none.1 (by rw [hc55]; exact Bool.false_ne_true)
      have e1 : (yl.take a ++ z :: yl.drop a).map RPt.kv = sput ltI x.o.n x.o.data (yl.map RPt.kv) := by rw [ha.put_no ord3_int hps hsn, map_ins, hzv]
      obtain ⟨y2, hy2⟩ : ∃ y2 : RUp, y2 = ⟨yk, yb, yo, p82, c82, yl.take a ++ z :: yl.drop a⟩ := ⟨_, rfl⟩
      refine J.nil <| J.then_n <| J.seq <| J.region ?_
      refine J.callI Tryz.call38 (ris_spec 200) rfl rfl rfl ?_
      rintro _ _ ⟨rfl, rfl⟩
      refine J.norm rfl ?_
      refine J.stAI (vs := [_, _, _, _, _]) rfl Tryz.sizeOf37 rfl rfl (by exact rfl) (by exact rfl) (by exact rfl) ?_
      refine J.nil <| J.then_n <| J.cret ?_
      rw [ins_len (x := z) hal, ins_cells RPt.len]
      rw [flat_set1 (c := RUp.cells) RUp.len hyi (k := 3) (x' := y2) (by decide) (by rw [hy2]; rfl)]
      refine J.shutI [z.asn, star (yl.map RPt.asn)] (star (y2.l.map RPt.asn)) (by rw [hy2]; exact star_ins1 a z) ?_
      refine J.convI (own 109 2 (.slice p82 (yl.take a ++ z :: yl.drop a).length c82) ((yl.take a ++ z :: yl.drop a).flatMap RPt.cells)) y2.own (fun _ h => by rw [hy2]; exact h) ?_
      refine J.convI (own 107 4 (.slice (some ⟨bb, off, none⟩) us.length c2) ((us.set i y2).flatMap RUp.cells)) (upsO (some ⟨bb, off, none⟩) c2 (us.set i y2)) (fun _ h => by show own _ _ (.slice _ (us.set i y2).length _) _ _; rw [List.length_set]; exact h) ?_
      refine J.shutI [y2.own, star (y2.l.map RPt.asn)] y2.asn (fun _ h => h) ?_
      refine J.unfocusI (f := RUp.asn) i y2 hil ?_
      refine J.convI (refP m (.slice p1 bs.length c1) (.slice (some ⟨bb, off, none⟩) us.length c2) (.slice p3 M.done.length c3)) (refP m (.slice p1 bs.length c1) (.slice (some ⟨bb, off, none⟩) (us.set i y2).length c2) (.slice p3 M.done.length c3)) (fun _ h => by rw [List.length_set]; exact h) ?_
      refine J.shutI (refL m { M with uploads := sput ltN x.o.upload ⟨yb, yo, sput ltI x.o.n x.o.data (yl.map RPt.kv)⟩ M.uploads } p1 c1 bs (some ⟨bb, off, none⟩) c2 (us.set i y2) p3 c3) (RefAt m { M with uploads := sput ltN x.o.upload ⟨yb, yo, sput ltI x.o.n x.o.data (yl.map RPt.kv)⟩ M.uploads }) (RefAt.of (M := { M with uploads := sput ltN x.o.upload ⟨yb, yo, sput ltI x.o.n x.o.data (yl.map RPt.kv)⟩ M.uploads }) hyb (by
       rw [List.map_set, hyu, hi.put_yes ord3_nat hM.us hu, hy2, show RUp.kv _ = (yk, UM.mk yb yo _) from rfl, e1, hyk1]) hyk) ?_
      refine J.retCI (vs := [_, _, _, _, _]) [RefAt m { M with uploads := sput ltN x.o.upload ⟨yb, yo, sput ltI x.o.n x.o.data (yl.map RPt.kv)⟩ M.uploads }, G] rfl rfl Tryz.isAgg37 Tryz.sizeOf37 rnI ⟨rfl, rfl⟩
end
end Go.Proofs.YtdancegklkifaaaGreat
namespace Go.Proofs.YtdancegklkifaaaGreat
set_option linter.unusedSectionVars false
set_option linter.unusedSimpArgs false
set_option linter.unusedVariables false
open Go.X
open Go.X.G (Ord3 ord3_nat ord3_int ord3_str ltB sget sput sdel Srtd)

theorem unmake_st (M : BM) (o : OM) : ∃ n, (M.unmake o).1 = st n := by
  unfold BM.unmake
  split
  · exact ⟨_, rfl⟩
  · split <;> exact ⟨_, rfl⟩

section
variable {k : Nat} (m : Nat) (M : BM) (hM : M.lite) (hok : M.ok k) (hk : k ≤ 32768) (x : OW) (G : Assn) (hx : x.ok G)
include hM hok hk hx
theorem rinBucket_spec (hkk : 2 ≤ x.o.kind ∧ x.o.kind ≤ 7) (hn : x.o.kind = 6 → 1 ≤ x.o.n ∧ x.o.n ≤ 1000) (hid : x.o.kind = 7 → sget x.o.id M.uploads = none) (hdl : x.o.data.length ≤ 16777216) : FSpec Tryz.prog 43 [.pointer (some ⟨m, 0, none⟩), .agg x.cells.toArray] [RefAt m M, G]
    (fun v B => ∃ y : RW, v = .agg y.cells.toArray ∧ y.r = (M.act x.o).1 ∧ (readsK x.o.kind = false → y = ⟨y.r, none, 0, none, 0⟩) ∧ B = [RefAt m (M.act x.o).2, y.asn, G]) := by
  refine FSpec.of Tryz.func43 rfl Tryz.ntmps43 rfl fun W0 F => ?_
  refine J.seq <| J.region ?_
  refine J.c rfl rfl (C.box (l := [_, _, _, _, _, _, _, _, _]) rfl rfl) ?_
  rintro _ _ ⟨b3, rfl, rfl⟩
  refine J.norm rfl ?_
  refine J.c rfl rfl (C.alloc (l := [_, _, _, _, _]) Tryz.zeroValue37 rfl) ?_
  rintro _ _ ⟨b4, rfl, rfl⟩
  refine J.norm rfl <| J.nil <| J.then_n <| J.seq ?_
  refine J.openRef (m := m) (M := M) fun p1 c1 bs p2 c2 us p3 c3 hyb hyu hyk => ?_
  refine J.norm rfl ?_
  have hbs : Srtd ltB (bs.map RBk.kv) := by rw [hyb]; exact hM.bs
  have hus : Srtd ltN (us.map RUp.kv) := by rw [hyu]; exact hM.us
  have hbl : bs.length = M.buckets.length := by rw [← hyb, List.length_map]
  have hul : us.length = M.uploads.length := by rw [← hyu, List.length_map]
  have hlen := hM.len
  refine J.slrI (E0 := 101) (sz := 2) (p := p1) (n := bs.length) (c := c1) (xs := bs.flatMap RBk.cells) fun hsb => ?_
  refine J.slrI (E0 := 107) (sz := 4) (p := p2) (n := us.length) (c := c2) (xs := us.flatMap RUp.cells) fun hsu => ?_
  refine J.region <| J.m rfl <| J.p rfl (Q.fa (n := 2) Tryz.runUnderlying27 rfl rfl Tryz.sizeOf9 rfl) ?_
  refine J.p rfl (Q.ld Tryz.isAgg9 rfl (rdI (by exact rfl))) ?_
  refine J.callI Tryz.call75 (rbucket_spec m p1 c1 bs (.slice p2 us.length c2) (.slice p3 M.done.length c3) x.o.bucket hbs (by omega)) rfl rfl rfl ?_
  rintro _ _ ⟨i, rfl, hi, rfl⟩
  refine J.norm rfl ?_
  rw [hyb] at hi ⊢
  refine J.m rfl <| J.p rfl (Q.ext rfl rfl) <| J.p rfl (Q.ext rfl rfl) <| J.p rfl (Q.asg rfl) <| J.p rfl (Q.asg rfl) <| J.nil <| J.then_n <| J.seq <| J.seq <| J.region <| J.m rfl <| J.p rfl (Q.not rfl) <| J.nil <| J.then_n ?_
  refine J.cases 18 rfl (fun hc18 => ?_) (fun hc18 => ?_)
  ·
   replace hc18 := X.nm hc18
   try (first | (cases hc18; done) | (exfalso; simp at hc18; done))
   all_goals
    refine J.cond_t rfl <| J.seq <| J.region ?_
    refine J.callI Tryz.call38 (ris_spec 404) rfl rfl rfl ?_
    rintro _ _ ⟨rfl, rfl⟩
    refine J.norm rfl ?_
    refine J.stAI (vs := [_, _, _, _, _]) rfl Tryz.sizeOf37 rfl rfl (by exact rfl) (by exact rfl) (by exact rfl) ?_
    refine J.nil <| J.then_n <| J.cret <| J.then_r ?_
    replace hc18 : sget x.o.bucket M.buckets = none := by simpa using hc18
    have e : M.act x.o = (st 404, M) := by
     unfold BM.act BM.unmake BM.put BM.get BM.delete BM.list BM.begin
     simp only [hc18]
     rcases (show x.o.kind = 2 ∨ x.o.kind = 3 ∨ x.o.kind = 4 ∨ x.o.kind = 5 ∨ x.o.kind = 6 ∨ x.o.kind = 7 by omega) with h | h | h | h | h | h <;> simp [h]
    refine J.shutI (refL m M p1 c1 bs p2 c2 us p3 c3) (RefAt m M) (RefAt.of hyb hyu hyk) ?_
    rw [e]
    refine J.give (X := RW.asn ⟨st 404, none, 0, none, 0⟩) empty_asn ?_
    refine J.retCI (vs := [_, _, _, _, _]) [RefAt m M, RW.asn ⟨st 404, none, 0, none, 0⟩, G] rfl rfl Tryz.isAgg37 Tryz.sizeOf37 rnI ⟨⟨st 404, none, 0, none, 0⟩, rfl, rfl, fun _ => rfl, rfl⟩
  replace hc18 := X.nm hc18
  try (first | (cases hc18; done) | (exfalso; simp at hc18; done))
  all_goals
   refine J.cond_f rfl <| J.cskip <| J.then_n <| J.seq ?_
   obtain ⟨objs, hB⟩ : ∃ u, sget x.o.bucket M.buckets = some u := Option.isSome_iff_exists.1 (by simpa using hc18)
   obtain ⟨z, hz, hzv⟩ := at_map (by rw [hyb]; exact hi.here ord3_str hM.bs hB)
   have hzi := (List.getElem?_eq_some_iff.1 hz).1
   have hzk : z.k = x.o.bucket := congrArg Prod.fst hzv
   have hzl : z.l.map ROb.kv = objs := congrArg Prod.snd hzv
   obtain ⟨hso, hol, _⟩ := hok.os _ _ hB
   have hzn : z.l.length ≤ 32768 := by have := congrArg List.length hzl; rw [List.length_map] at this; omega
   have hzs : Srtd ltB (z.l.map ROb.kv) := by rw [hzl]; exact hso
   obtain ⟨b1, o1, rfl, hrd1⟩ := hsb.some_ (by omega)
   refine J.region <| J.m rfl <| J.p rfl (Q.nil_ rfl) <| J.p rfl (Q.fa (n := 0) Tryz.runUnderlying92 rfl rfl Tryz.sizeOf88 rfl) ?_
   refine J.p rfl (Q.ld Tryz.isAgg88 rfl (rdI (by exact rfl))) ?_
   refine J.m rfl <| J.p rfl (Q.ia Tryz.runUnderlying88 Tryz.sizeOf101 rfl rfl (by omega) (by omega)) <| J.p rfl (Q.asg rfl) <| J.nil <| J.then_n <| J.seq <| J.seq <| J.region <| J.p rfl (Q.fa (n := 1) Tryz.runUnderlying27 rfl rfl Tryz.sizeOf3 rfl) ?_
   refine J.p rfl (Q.ld Tryz.isAgg3 rfl (rdI (by exact rfl))) ?_
   refine J.nil <| J.then_n <| J.block <| J.seq <| J.region <| J.p rfl (Q.eql rfl rfl) <| J.p rfl (Q.asg rfl) <| J.nil <| J.then_n ?_
   refine J.cases 28 rfl (fun hc28 => ?_) (fun hc28 => ?_)
   ·
    replace hc28 := X.nm hc28
    try (first | (cases hc28; done) | (exfalso; simp at hc28; done))
    all_goals
     refine J.cond_t rfl <| J.seq ?_
     refine J.shutI (refL m M (some ⟨b1, o1, none⟩) c1 bs p2 c2 us p3 c3) (RefAt m M) (RefAt.of hyb hyu hyk) ?_
     refine J.region <| J.m rfl <| J.m rfl ?_
     refine J.callI Tryz.call80 (runmake_spec m M hM x hB hi) rfl rfl rfl ?_
     rintro _ _ ⟨rfl, rfl⟩
     refine J.norm rfl ?_
     obtain ⟨sn, hsn⟩ := unmake_st M x.o
     rw [hsn]
     refine J.stAI (vs := [_, _, _, _, _]) rfl Tryz.sizeOf37 rfl rfl (by exact rfl) (by exact rfl) (by exact rfl) ?_
     refine J.nil <| J.then_n <| J.cret <| J.blk_r <| J.then_r ?_
     have e : M.act x.o = M.unmake x.o := by unfold BM.act; simp [show x.o.kind = 2 by omega]
     rw [e]
     refine J.give (X := RW.asn ⟨st sn, none, 0, none, 0⟩) empty_asn ?_
     refine J.retCI (vs := [_, _, _, _, _]) [RefAt m (M.unmake x.o).2, RW.asn ⟨st sn, none, 0, none, 0⟩, G] rfl rfl Tryz.isAgg37 Tryz.sizeOf37 rnI ⟨⟨st sn, none, 0, none, 0⟩, rfl, hsn.symm, fun _ => rfl, rfl⟩
   replace hc28 := X.nm hc28
   try (first | (cases hc28; done) | (exfalso; simp at hc28; done))
   all_goals
    refine J.cond_f rfl <| J.seq <| J.region <| J.p rfl (Q.eql rfl rfl) <| J.p rfl (Q.asg rfl) <| J.nil <| J.then_n ?_
    refine J.cases 33 rfl (fun hc33 => ?_) (fun hc33 => ?_)
    ·
     replace hc33 := X.nm hc33
     try (first | (cases hc33; done) | (exfalso; simp at hc33; done))
     all_goals
      refine J.cond_t rfl <| J.seq ?_
      refine J.focusI (f := RBk.asn) i hz ?_
      refine J.openI z.asn (Bs := fun _ : Unit => [z.own, star (z.l.map ROb.asn)]) (p := fun _ => True) (fun _ h => ⟨(), trivial, h⟩) fun _ _ => ?_
      refine J.norm rfl <| J.region <| J.m rfl <| J.p rfl (Q.fa (n := 3) Tryz.runUnderlying27 rfl rfl Tryz.sizeOf9 rfl) ?_
      refine J.p rfl (Q.ld Tryz.isAgg9 rfl (rdI (by exact rfl))) ?_
      refine J.p rfl (Q.fa (n := 8) Tryz.runUnderlying27 rfl rfl Tryz.sizeOf25 rfl) ?_
      refine J.p rfl (Q.ld Tryz.isAgg25 rfl (rdI (by exact rfl))) ?_
      refine J.callI Tryz.call81 (rput_spec G b1 o1 c1 bs hz x.o.key x.dp x.dc x.o.data hx.data (by omega) hzs (by omega)) rfl rfl rfl ?_
      rintro _ _ ⟨z2, hz1, hz2, rfl, rfl⟩
      refine J.norm rfl <| J.nil <| J.then_n <| J.seq <| J.region ?_
      refine J.callI Tryz.call38 (ris_spec 200) rfl rfl rfl ?_
      rintro _ _ ⟨rfl, rfl⟩
      refine J.norm rfl ?_
      refine J.stAI (vs := [_, _, _, _, _]) rfl Tryz.sizeOf37 rfl rfl (by exact rfl) (by exact rfl) (by exact rfl) ?_
      refine J.nil <| J.then_n <| J.cret <| J.blk_r <| J.then_r ?_
      have e : M.act x.o = (st 200, { M with buckets := sput ltB x.o.bucket (sput ltB x.o.key x.o.data objs) M.buckets }) := by unfold BM.act BM.put; simp [show x.o.kind = 3 by omega, hB]
      rw [e]
      refine J.shutI [z2.own, star (z2.l.map ROb.asn)] z2.asn (fun _ h => h) ?_
      refine J.unfocusI (f := RBk.asn) i z2 hzi ?_
      refine J.convI (refP m (.slice (some ⟨b1, o1, none⟩) bs.length c1) (.slice p2 us.length c2) (.slice p3 M.done.length c3)) (refP m (.slice (some ⟨b1, o1, none⟩) (bs.set i z2).length c1) (.slice p2 us.length c2) (.slice p3 M.done.length c3)) (fun _ h => by rw [List.length_set]; exact h) ?_
      refine J.shutI (refL m { M with buckets := sput ltB x.o.bucket (sput ltB x.o.key x.o.data objs) M.buckets } (some ⟨b1, o1, none⟩) c1 (bs.set i z2) p2 c2 us p3 c3) (RefAt m { M with buckets := sput ltB x.o.bucket (sput ltB x.o.key x.o.data objs) M.buckets }) (RefAt.of (M := { M with buckets := sput ltB x.o.bucket (sput ltB x.o.key x.o.data objs) M.buckets }) (by
       rw [List.map_set, hyb, hi.put_yes ord3_str hM.bs hB, show z2.kv = (x.o.bucket, sput ltB x.o.key x.o.data objs) from by rw [← hzl, ← hz2, ← hzk, ← hz1]]) hyu hyk) ?_
      refine J.give (X := RW.asn ⟨st 200, none, 0, none, 0⟩) empty_asn ?_
      refine J.retCI (vs := [_, _, _, _, _]) [RefAt m { M with buckets := sput ltB x.o.bucket (sput ltB x.o.key x.o.data objs) M.buckets }, RW.asn ⟨st 200, none, 0, none, 0⟩, G] rfl rfl Tryz.isAgg37 Tryz.sizeOf37 rnI ⟨⟨st 200, none, 0, none, 0⟩, rfl, rfl, fun _ => rfl, rfl⟩
    replace hc33 := X.nm hc33
    try (first | (cases hc33; done) | (exfalso; simp at hc33; done))
    all_goals
     refine J.cond_f rfl <| J.seq <| J.region <| J.p rfl (Q.eql rfl rfl) <| J.p rfl (Q.asg rfl) <| J.nil <| J.then_n ?_
     refine J.cases 42 rfl (fun hc42 => ?_) (fun hc42 => ?_)
     ·
      replace hc42 := X.nm hc42
      try (first | (cases hc42; done) | (exfalso; simp at hc42; done))
      all_goals
       refine J.cond_t rfl <| J.seq ?_
       refine J.focusI (f := RBk.asn) i hz ?_
       refine J.openI z.asn (Bs := fun _ : Unit => [z.own, star (z.l.map ROb.asn)]) (p := fun _ => True) (fun _ h => ⟨(), trivial, h⟩) fun _ _ => ?_
       refine J.norm rfl <| J.region <| J.m rfl ?_
       refine J.p rfl (Q.ldN (vs := [_, _, _, _, _, _, _, _, _]) Tryz.isAgg27 Tryz.sizeOf27 rfl rnI) ?_
       refine J.callI Tryz.call82 (rlist_spec b1 o1 c1 bs hz x (hn (by omega)) hzn) rfl rfl rfl ?_
       rintro _ _ ⟨r, rfl, hr, rfl⟩
       refine J.norm rfl ?_
       refine J.stAI (vs := [_, _, _, _, _]) rfl Tryz.sizeOf37 rfl rfl (by exact rfl) (by exact rfl) (by exact rfl) ?_
       refine J.nil <| J.then_n <| J.cret <| J.blk_r <| J.then_r ?_
       have e : M.act x.o = (⟨200, 0, (listed x.o objs).take x.o.n.toNat, decide (x.o.n.toNat < (listed x.o objs).length), []⟩, M) := by unfold BM.act BM.list; simp [show x.o.kind = 6 by omega, hB]
       rw [e]
       refine J.shutI [z.own, star (z.l.map ROb.asn)] z.asn (fun _ h => h) ?_
       refine J.unfocusI (f := RBk.asn) i z hzi ?_
       rw [set_self hz]
       refine J.shutI (refL m M (some ⟨b1, o1, none⟩) c1 bs p2 c2 us p3 c3) (RefAt m M) (RefAt.of hyb hyu hyk) ?_
       refine J.retCI (vs := [_, _, _, _, _]) [RefAt m M, r.asn, G] rfl rfl Tryz.isAgg37 Tryz.sizeOf37 rnI ⟨r, rfl, by rw [hr, hzl], fun h => absurd h (by rw [show x.o.kind = 6 by omega]; decide), rfl⟩
     replace hc42 := X.nm hc42
     try (first | (cases hc42; done) | (exfalso; simp at hc42; done))
     all_goals
      refine J.cond_f rfl <| J.seq <| J.region <| J.p rfl (Q.eql rfl rfl) <| J.p rfl (Q.asg rfl) <| J.nil <| J.then_n ?_
      refine J.cases 47 rfl (fun hc47 => ?_) (fun hc47 => ?_)
      ·
       replace hc47 := X.nm hc47
       try (first | (cases hc47; done) | (exfalso; simp at hc47; done))
       all_goals
        refine J.cond_t rfl <| J.seq ?_
        refine J.shutI (refL m M (some ⟨b1, o1, none⟩) c1 bs p2 c2 us p3 c3) (RefAt m M) (RefAt.of hyb hyu hyk) ?_
        refine J.region <| J.m rfl ?_
        refine J.p rfl (Q.ldN (vs := [_, _, _, _, _, _, _, _, _]) Tryz.isAgg27 Tryz.sizeOf27 rfl rnI) ?_
        refine J.callI Tryz.call83 (rbegin_spec m M hM x (hid (by omega))) rfl rfl rfl ?_
        rintro _ _ ⟨rfl, rfl⟩
        refine J.norm rfl ?_
        refine J.stAI (vs := [_, _, _, _, _]) rfl Tryz.sizeOf37 rfl rfl (by exact rfl) (by exact rfl) (by exact rfl) ?_
        refine J.nil <| J.then_n <| J.cret <| J.blk_r <| J.then_r ?_
        have e : M.act x.o = (⟨200, x.o.id, [], false, []⟩, { M with uploads := sput ltN x.o.id ⟨x.o.bucket, x.o.key, []⟩ M.uploads }) := by unfold BM.act BM.begin; simp [show x.o.kind = 7 by omega, hB]
        rw [e]
        refine J.give (X := RW.asn ⟨⟨200, x.o.id, [], false, []⟩, none, 0, none, 0⟩) empty_asn ?_
        refine J.retCI (vs := [_, _, _, _, _]) [RefAt m { M with uploads := sput ltN x.o.id ⟨x.o.bucket, x.o.key, []⟩ M.uploads }, RW.asn ⟨⟨200, x.o.id, [], false, []⟩, none, 0, none, 0⟩, G] rfl rfl Tryz.isAgg37 Tryz.sizeOf37 rnI ⟨⟨⟨200, x.o.id, [], false, []⟩, none, 0, none, 0⟩, rfl, rfl, fun _ => rfl, rfl⟩
      replace hc47 := X.nm hc47
      try (first | (cases hc47; done) | (exfalso; simp at hc47; done))
      all_goals
       refine J.cond_f rfl <| J.cskip <| J.blk_n <| J.then_n <| J.seq ?_
       have h45 : x.o.kind = 4 ∨ x.o.kind = 5 := by omega
       refine J.focusI (f := RBk.asn) i hz ?_
       refine J.openI z.asn (Bs := fun _ : Unit => [z.own, star (z.l.map ROb.asn)]) (p := fun _ => True) (fun _ h => ⟨(), trivial, h⟩) fun _ _ => ?_
       refine J.norm rfl <| J.region <| J.m rfl <| J.p rfl (Q.fa (n := 3) Tryz.runUnderlying27 rfl rfl Tryz.sizeOf9 rfl) ?_
       refine J.p rfl (Q.ld Tryz.isAgg9 rfl (rdI (by exact rfl))) ?_
       refine J.callI Tryz.call84 (robject_spec b1 o1 c1 bs hz x.o.key hzs (by omega)) rfl rfl rfl ?_
       rintro _ _ ⟨a, rfl, ha, rfl⟩
       refine J.norm rfl ?_
       rw [hzl] at ha ⊢
       refine J.m rfl <| J.p rfl (Q.ext rfl rfl) <| J.p rfl (Q.ext rfl rfl) <| J.p rfl (Q.asg rfl) <| J.p rfl (Q.asg rfl) <| J.nil <| J.then_n <| J.seq <| J.seq <| J.region <| J.m rfl <| J.p rfl (Q.not rfl) <| J.nil <| J.then_n ?_
       refine J.cases 60 rfl (fun hc60 => ?_) (fun hc60 => ?_)
       ·
        replace hc60 := X.nm hc60
        try (first | (cases hc60; done) | (exfalso; simp at hc60; done))
        all_goals
         refine J.cond_t rfl <| J.seq <| J.region ?_
         refine J.callI Tryz.call38 (ris_spec 404) rfl rfl rfl ?_
         rintro _ _ ⟨rfl, rfl⟩
         refine J.norm rfl ?_
         refine J.stAI (vs := [_, _, _, _, _]) rfl Tryz.sizeOf37 rfl rfl (by exact rfl) (by exact rfl) (by exact rfl) ?_
         refine J.nil <| J.then_n <| J.cret <| J.then_r ?_
         replace hc60 : sget x.o.key objs = none := by simpa using hc60
         have e : M.act x.o = (st 404, M) := by
          unfold BM.act BM.get BM.delete
          simp only [hB, hc60]
          rcases h45 with h | h <;> simp [h]
         rw [e]
         refine J.shutI [z.own, star (z.l.map ROb.asn)] z.asn (fun _ h => h) ?_
         refine J.unfocusI (f := RBk.asn) i z hzi ?_
         rw [set_self hz]
         refine J.shutI (refL m M (some ⟨b1, o1, none⟩) c1 bs p2 c2 us p3 c3) (RefAt m M) (RefAt.of hyb hyu hyk) ?_
         refine J.give (X := RW.asn ⟨st 404, none, 0, none, 0⟩) empty_asn ?_
         refine J.retCI (vs := [_, _, _, _, _]) [RefAt m M, RW.asn ⟨st 404, none, 0, none, 0⟩, G] rfl rfl Tryz.isAgg37 Tryz.sizeOf37 rnI ⟨⟨st 404, none, 0, none, 0⟩, rfl, rfl, fun _ => rfl, rfl⟩
       replace hc60 := X.nm hc60
       try (first | (cases hc60; done) | (exfalso; simp at hc60; done))
       all_goals
        refine J.cond_f rfl <| J.cskip <| J.then_n <| J.seq ?_
        obtain ⟨d, hd⟩ : ∃ d, sget x.o.key objs = some d := Option.isSome_iff_exists.1 (by simpa using hc60)
        refine J.region ?_
        refine J.callI Tryz.call38 (ris_spec 200) rfl rfl rfl ?_
        rintro _ _ ⟨rfl, rfl⟩
        refine J.norm rfl ?_
        refine J.c rfl rfl (C.alloc (l := [_, _, _, _, _]) Tryz.zeroValue37 rfl) ?_
        rintro _ _ ⟨b9, rfl, rfl⟩
        refine J.norm rfl ?_
        refine J.stAI (vs := [_, _, _, _, _]) rfl Tryz.sizeOf37 rfl rfl (by exact rfl) (by exact rfl) (by exact rfl) ?_
        refine J.nil <| J.then_n <| J.seq <| J.seq <| J.region <| J.p rfl (Q.fa (n := 1) Tryz.runUnderlying27 rfl rfl Tryz.sizeOf3 rfl) ?_
        refine J.p rfl (Q.ld Tryz.isAgg3 rfl (rdI (by exact rfl))) ?_
        refine J.p rfl (Q.eql rfl rfl) <| J.nil <| J.then_n ?_
        refine J.cases 65 rfl (fun hc65 => ?_) (fun hc65 => ?_)
        ·
         replace hc65 := X.nm hc65
         try (first | (cases hc65; done) | (exfalso; simp at hc65; done))
         all_goals
          refine J.cond_t rfl ?_
          obtain ⟨q, hq, hqv⟩ := at_map (by rw [hzl]; exact ha.here ord3_str hso hd)
          have hqa := (List.getElem?_eq_some_iff.1 hq).1
          have hqd : q.d = d := congrArg Prod.snd hqv
          have hql : q.d.length ≤ 274877906944 := by rw [hqd]; exact (hok.os _ _ hB).2.2 _ _ hd
          obtain ⟨zk, zp, zc, zl⟩ := z
          replace hqa : a < zl.length := hqa
          refine J.slrI (E0 := 104) (sz := 2) (p := zp) (n := zl.length) (c := zc) (xs := zl.flatMap ROb.cells) fun hso2 => ?_
          obtain ⟨b2, o2, rfl, hrd2⟩ := hso2.some_ (by omega)
          refine J.slrStarI (f := ROb.asn) (E := 5) (sz := 1) (p := q.p) (n := q.d.length) (c := q.c) (xs := bytesV q.d) a hq rfl fun hsd => ?_
          refine J.region ?_
          refine J.c rfl rfl (C.bslG (l := []) Tryz.runUnderlying25 Tryz.sizeOf5 Tryz.zeroValue5 (by decide) rfl rfl rfl rfl rfl) ?_
          rintro _ _ ⟨b66, rfl, rfl⟩
          refine J.norm rfl <| J.m rfl <| J.p rfl (Q.nil_ rfl) <| J.p rfl (Q.fa (n := 1) Tryz.runUnderlying101 rfl rfl Tryz.sizeOf99 rfl) <| J.p rfl (Q.ld Tryz.isAgg99 rfl (rfO 1 RBk.len hz (show _ = some (Value.slice (some ⟨b2, o2, none⟩) zl.length zc) from rfl) (by omega))) <| J.m rfl <| J.p rfl (Q.ia Tryz.runUnderlying99 Tryz.sizeOf104 rfl rfl (by omega) (by omega)) ?_
          refine J.p rfl (Q.fa (n := 1) Tryz.runUnderlying104 rfl rfl Tryz.sizeOf25 rfl) <| J.p rfl (Q.ld Tryz.isAgg25 rfl (rfO 1 ROb.len hq (show _ = some (Value.slice q.p q.d.length q.c) from rfl) (by omega))) ?_
          refine J.c rfl rfl (C.appI Tryz.runUnderlying25 Tryz.runUnderlying25 Tryz.typeInfo5 Tryz.sizeOf5 Tryz.zeroValue5 rfl rfl (hsd.inI) (bytesV_one _) (by simp [Tryz.t5] <;> omega) (by decide)) ?_
          rintro _ _ ⟨p75, c75, rfl, rfl⟩
          refine J.norm rfl ?_
          rw [show 0 + q.d.length = q.d.length from by omega, List.nil_append]
          refine J.p rfl (Q.fa (n := 4) Tryz.runUnderlying37 rfl rfl Tryz.sizeOf25 rfl) ?_
          refine J.stI rfl Tryz.sizeOf25 rfl rfl rfl (by exact rfl) (by exact rfl) (by exact rfl) ?_
          refine J.nil <| J.then_n <| J.seq <| J.region ?_
          refine J.p rfl (Q.ldN (vs := [_, _, _, _, _]) Tryz.isAgg37 Tryz.sizeOf37 rfl rnI) ?_
          refine J.stAI (vs := [_, _, _, _, _]) rfl Tryz.sizeOf37 rfl rfl (by exact rfl) (by exact rfl) (by exact rfl) ?_
          refine J.nil <| J.then_n <| J.cret ?_
          have e : M.act x.o = (⟨200, 0, [], false, q.d⟩, M) := by unfold BM.act BM.get; simp [hc65, hB, hd, hqd]
          rw [e]
          refine J.shutI [own 104 2 (.slice (some ⟨b2, o2, none⟩) zl.length zc) (zl.flatMap ROb.cells), star (zl.map ROb.asn)] (RBk.asn ⟨zk, some ⟨b2, o2, none⟩, zc, zl⟩) (fun _ h => h) ?_
          refine J.unfocusI (f := RBk.asn) i ⟨zk, some ⟨b2, o2, none⟩, zc, zl⟩ hzi ?_
          rw [set_self hz]
          refine J.shutI (refL m M (some ⟨b1, o1, none⟩) c1 bs p2 c2 us p3 c3) (RefAt m M) (RefAt.of hyb hyu hyk) ?_
          refine J.give (X := own 9 1 (.slice none 0 0) []) (own.nil _ _ _) ?_
          refine J.shutI [own 9 1 (.slice none 0 0) [], own 5 1 (.slice p75 q.d.length c75) (bytesV q.d)] (RW.asn ⟨⟨200, 0, [], false, q.d⟩, none, 0, p75, c75⟩) (fun _ h => h) ?_
          refine J.retCI (vs := [_, _, _, _, _]) [RefAt m M, RW.asn ⟨⟨200, 0, [], false, q.d⟩, none, 0, p75, c75⟩, G] rfl rfl Tryz.isAgg37 Tryz.sizeOf37 rnI ⟨⟨⟨200, 0, [], false, q.d⟩, none, 0, p75, c75⟩, rfl, rfl, fun h => absurd h (by rw [hc65]; decide), rfl⟩
        replace hc65 := X.nm hc65
        try (first | (cases hc65; done) | (exfalso; simp at hc65; done))
        all_goals
         refine J.cond_f rfl <| J.region <| J.m rfl <| J.m rfl ?_
         refine J.callI Tryz.call85 (rdrop_spec b1 o1 c1 bs hz x.o.key (i := a) (v := d) (by rw [hzl]; exact ha) (by rw [hzl]; exact hd) hzs (by omega)) rfl rfl rfl ?_
         rintro _ _ ⟨z2, hz1, hz2, rfl, rfl⟩
         refine J.norm rfl <| J.nil <| J.then_n <| J.seq <| J.region ?_
         refine J.p rfl (Q.ldN (vs := [_, _, _, _, _]) Tryz.isAgg37 Tryz.sizeOf37 rfl rnI) ?_
         refine J.stAI (vs := [_, _, _, _, _]) rfl Tryz.sizeOf37 rfl rfl (by exact rfl) (by exact rfl) (by exact rfl) ?_
         refine J.nil <| J.then_n <| J.cret ?_
         have e : M.act x.o = (st 200, { M with buckets := sput ltB x.o.bucket (sdel x.o.key objs) M.buckets }) := by unfold BM.act BM.delete; simp [show x.o.kind = 5 by omega, hB, hd]
         rw [e]
         refine J.shutI [z2.own, star (z2.l.map ROb.asn)] z2.asn (fun _ h => h) ?_
         refine J.unfocusI (f := RBk.asn) i z2 hzi ?_
         refine J.convI (refP m (.slice (some ⟨b1, o1, none⟩) bs.length c1) (.slice p2 us.length c2) (.slice p3 M.done.length c3)) (refP m (.slice (some ⟨b1, o1, none⟩) (bs.set i z2).length c1) (.slice p2 us.length c2) (.slice p3 M.done.length c3)) (fun _ h => by rw [List.length_set]; exact h) ?_
         refine J.shutI (refL m { M with buckets := sput ltB x.o.bucket (sdel x.o.key objs) M.buckets } (some ⟨b1, o1, none⟩) c1 (bs.set i z2) p2 c2 us p3 c3) (RefAt m { M with buckets := sput ltB x.o.bucket (sdel x.o.key objs) M.buckets }) (RefAt.of (M := { M with buckets := sput ltB x.o.bucket (sdel x.o.key objs) M.buckets }) (by
          rw [List.map_set, hyb, hi.put_yes ord3_str hM.bs hB, show z2.kv = (x.o.bucket, sdel x.o.key objs) from by rw [← hzl, ← hz2, ← hzk, ← hz1]]) hyu hyk) ?_
         refine J.give (X := RW.asn ⟨st 200, none, 0, none, 0⟩) empty_asn ?_
         refine J.retCI (vs := [_, _, _, _, _]) [RefAt m { M with buckets := sput ltB x.o.bucket (sdel x.o.key objs) M.buckets }, RW.asn ⟨st 200, none, 0, none, 0⟩, G] rfl rfl Tryz.isAgg37 Tryz.sizeOf37 rnI ⟨⟨st 200, none, 0, none, 0⟩, rfl, rfl, fun _ => rfl, rfl⟩
end
end Go.Proofs.YtdancegklkifaaaGreat
namespace Go.Proofs.YtdancegklkifaaaGreat
set_option linter.unusedSectionVars false
set_option linter.unusedSimpArgs false
set_option linter.unusedVariables false
open Go.X
open Go.X.G (Ord3 ord3_nat ord3_int ord3_str ltB sget sput sdel Srtd)

def BM.kin (M : BM) : Prop := ∀ n u, sget n M.uploads = some u → (sget n M.done).isSome = true
theorem act_bare (M : BM) {o : OM} (h : readsK o.kind = false) : (M.act o).1.keys = [] ∧ (M.act o).1.more = false ∧ (M.act o).1.data = [] := by
  have h4 : o.kind ≠ 4 := by rintro e; rw [e] at h; cases h
  have h6 : o.kind ≠ 6 := by rintro e; rw [e] at h; cases h
  unfold BM.act
  rw [if_neg h4, if_neg h6]
  unfold BM.make BM.unmake BM.put BM.delete BM.begin BM.part BM.complete BM.abort
  repeat' split
  all_goals exact ⟨rfl, rfl, rfl⟩

section
variable {k : Nat} (m : Nat) (M : BM) (hM : M.lite) (hok : M.ok k) (hk : k ≤ 32768) (hkn : M.kin) (x : OW) (G : Assn) (hx : x.ok G)
include hM hok hk hx hkn
set_option maxHeartbeats 4000000 in
theorem rdo_spec : FSpec Tryz.prog 15 [.pointer (some ⟨m, 0, none⟩), .agg x.cells.toArray] [RefAt m M, G]
    (fun v B => ∃ y : RW, v = .agg y.cells.toArray ∧ y.r = (M.run x.o).1 ∧ B = [RefAt m (M.run x.o).2, y.asn, G]) := by
  refine FSpec.of Tryz.func15 rfl Tryz.ntmps15 rfl fun W0 F => ?_
  refine J.seq <| J.region ?_
  refine J.c rfl rfl (C.box (l := [_, _, _, _, _, _, _, _, _]) rfl rfl) ?_
  rintro _ _ ⟨b3, rfl, rfl⟩
  refine J.norm rfl ?_
  refine J.c rfl rfl (C.alloc (l := [_, _, _, _, _]) Tryz.zeroValue37 rfl) ?_
  rintro _ _ ⟨b4, rfl, rfl⟩
  refine J.norm rfl <| J.nil <| J.then_n <| J.seq <| J.seq <| J.region ?_
  refine J.p rfl (Q.ldN (vs := [_, _, _, _, _, _, _, _, _]) Tryz.isAgg27 Tryz.sizeOf27 rfl rnI) ?_
  refine J.callI Tryz.call37 (rcheck_spec G x hx) rfl rfl rfl ?_
  rintro _ _ ⟨rfl, rfl⟩
  refine J.norm rfl ?_
  rw [← chk_eq]
  refine J.p rfl (Q.neq rfl rfl) <| J.nil <| J.then_n ?_
  refine J.cases 12 rfl (fun hc12 => ?_) (fun hc12 => ?_)
  ·
   replace hc12 := X.nm hc12
   try (first | (cases hc12; done) | (exfalso; simp at hc12; done))
   all_goals
    refine J.cond_t rfl <| J.seq <| J.region ?_
    refine J.callI Tryz.call38 (ris_spec 400) rfl rfl rfl ?_
    rintro _ _ ⟨rfl, rfl⟩
    refine J.norm rfl ?_
    refine J.stAI (vs := [_, _, _, _, _]) rfl Tryz.sizeOf37 rfl rfl (by exact rfl) (by exact rfl) (by exact rfl) ?_
    refine J.nil <| J.then_n <| J.cret <| J.then_r ?_
    have hcf : x.o.chkB = false := by
     cases h : x.o.chkB with
     | false => rfl
     | true => rw [h] at hc12; exact absurd rfl hc12
    have e : M.run x.o = (st 400, M) := by unfold BM.run; rw [hcf]; rfl
    rw [e]
    refine J.give (X := RW.asn ⟨st 400, none, 0, none, 0⟩) empty_asn ?_
    refine J.retCI (vs := [_, _, _, _, _]) [RefAt m M, RW.asn ⟨st 400, none, 0, none, 0⟩, G] rfl rfl Tryz.isAgg37 Tryz.sizeOf37 rnI ⟨⟨st 400, none, 0, none, 0⟩, rfl, rfl, rfl⟩
  replace hc12 := X.nm hc12
  try (first | (cases hc12; done) | (exfalso; simp at hc12; done))
  all_goals
   refine J.cond_f rfl <| J.cskip <| J.then_n <| J.seq ?_
   have hc : x.o.chkB = true := by
    cases h : x.o.chkB with
    | true => rfl
    | false => rw [h] at hc12; exact absurd hc12 (by decide)
   have hck := chk_kind hc
   have hcl := chk_len hc
   refine J.openI (RefAt m M) (Bs := fun _ : Unit => [RefAt m M]) (p := fun _ => M.bare) (fun h hh => by
    obtain ⟨y, hy, s⟩ := hh
    exact ⟨(), hy.k, X.G.HSat.one ⟨y, hy, s⟩⟩) fun _ hbare => ?_
   refine J.norm rfl <| J.region <| J.m rfl <| J.p rfl (Q.fa (n := 0) Tryz.runUnderlying27 rfl rfl Tryz.sizeOf23 rfl) ?_
   refine J.p rfl (Q.ld Tryz.isAgg23 rfl (rdI (by exact rfl))) ?_
   refine J.callI Tryz.call39 (rdone_spec m M hM x.o.id) rfl rfl rfl ?_
   rintro _ _ ⟨rfl, rfl⟩
   refine J.norm rfl <| J.m rfl <| J.p rfl (Q.ext rfl rfl) <| J.p rfl (Q.ext rfl rfl) ?_
   refine J.c rfl rfl (C.alloc (l := [_, _, _, _, _]) Tryz.zeroValue37 rfl) ?_
   rintro _ _ ⟨b5, rfl, rfl⟩
   refine J.norm rfl ?_
   refine J.stAI (vs := [_, _, _, _, _]) rfl Tryz.sizeOf37 rfl rfl (by exact rfl) (by exact rfl) (by exact rfl) ?_
   refine J.p rfl (Q.asg rfl) <| J.nil <| J.then_n ?_
   refine J.cut (fun _ : Unit => readsK x.o.kind = false → sget x.o.id M.done = none) (fun _ => [(0, .pointer (some ⟨m, 0, none⟩)), (3, .pointer (some ⟨b3, 0, none⟩)), (4, .pointer (some ⟨b4, 0, none⟩))])
    (fun _ => [RefAt m M, G, pt b3 (.cells x.cells.toArray 27 (0, 0)), pt b4 (.cells [Value.int .i64 0, .int .u64 0, .slice none 0 0, .bool false, .slice none 0 0].toArray 37 (0, 0)), F]) ?_ fun _ hnd => ?_
   ·
    refine J.seq <| J.region <| J.m rfl <| J.m rfl ?_
    refine J.cases 22 rfl (fun hb22 => ?_) (fun hb22 => ?_)
    ·
     replace hb22 := X.nm hb22
     try (first | (cases hb22; done) | (exfalso; simp at hb22; done))
     all_goals
      refine J.p rfl (Q.fa (n := 1) Tryz.runUnderlying27 rfl rfl Tryz.sizeOf3 rfl) ?_
      refine J.p rfl (Q.ld Tryz.isAgg3 rfl (rdI (by exact rfl))) ?_
      refine J.callI Tryz.call40 (rreads_spec x.o.kind) rfl rfl rfl ?_
      rintro _ _ ⟨rfl, rfl⟩
      refine J.norm rfl <| J.p rfl (Q.not rfl) <| J.p rfl (Q.pick_t rfl rfl) <| J.nil <| J.then_n ?_
      refine J.cases 27 rfl (fun hc27 => ?_) (fun hc27 => ?_)
      ·
       replace hc27 := X.nm hc27
       try (first | (cases hc27; done) | (exfalso; simp at hc27; done))
       all_goals
        refine J.cond_t rfl <| J.seq <| J.region ?_
        refine J.p rfl (Q.ldN (vs := [_, _, _, _, _]) Tryz.isAgg37 Tryz.sizeOf37 rfl rnI) ?_
        refine J.stAI (vs := [_, _, _, _, _]) rfl Tryz.sizeOf37 rfl rfl (by exact rfl) (by exact rfl) (by exact rfl) ?_
        refine J.nil <| J.then_n <| J.cret <| J.cut_r ?_
        obtain ⟨r, hr⟩ := Option.isSome_iff_exists.1 hb22
        have hrd : readsK x.o.kind = false := by unfold readsK; simpa using hc27
        have e : M.run x.o = (r, M) := by unfold BM.run; rw [hc, hrd, hr]; rfl
        have hbr := hbare _ (X.G.sget_mem hr)
        rw [e, hr]
        obtain ⟨rs, ru, rk, rm, rd⟩ := r
        dsimp only at hbr
        obtain ⟨rfl, rfl, rfl⟩ := hbr
        refine J.give (X := RW.asn ⟨⟨rs, ru, [], false, []⟩, none, 0, none, 0⟩) empty_asn ?_
        refine J.retCI (vs := [_, _, _, _, _]) [RefAt m M, RW.asn ⟨⟨rs, ru, [], false, []⟩, none, 0, none, 0⟩, G] rfl rfl Tryz.isAgg37 Tryz.sizeOf37 rnI ⟨⟨⟨rs, ru, [], false, []⟩, none, 0, none, 0⟩, rfl, rfl, rfl⟩
      replace hc27 := X.nm hc27
      try (first | (cases hc27; done) | (exfalso; simp at hc27; done))
      all_goals
       refine J.cond_f rfl <| J.cskip ?_
       refine J.meetI () (by
        intro h
        have h' : (decide (x.o.kind = 4) || decide (x.o.kind = 6)) = false := h
        first
         | exact Option.not_isSome_iff_eq_none.1 (by rw [hb22]; exact Bool.false_ne_true)
         | (exfalso; rw [h'] at hc27; cases hc27)) ⟨rfl, rfl, rfl, trivial⟩
    replace hb22 := X.nm hb22
    try (first | (cases hb22; done) | (exfalso; simp at hb22; done))
    all_goals
     refine J.skip rfl rfl <| J.skip rfl rfl <| J.skip rfl rfl <| J.skip rfl rfl <| J.p rfl (Q.pick_f rfl rfl) <| J.nil <| J.then_n <| J.cond_f rfl <| J.cskip ?_
     refine J.meetI () (by
      intro h
      have h' : (decide (x.o.kind = 4) || decide (x.o.kind = 6)) = false := h
      first
       | exact Option.not_isSome_iff_eq_none.1 (by rw [hb22]; exact Bool.false_ne_true)
       | (exfalso; rw [h'] at hc27; cases hc27)) ⟨rfl, rfl, rfl, trivial⟩
   refine J.seq ?_
   have hid : x.o.kind = 7 → sget x.o.id M.uploads = none := by
    intro h
    have hn := hnd (by rw [h]; rfl)
    cases hq : sget x.o.id M.uploads with
    | none => rfl
    | some u => have := hkn _ _ hq; rw [hn] at this; cases this
   refine J.region <| J.p rfl (Q.bld (l := [_, _, _, _, _]) Tryz.runUnderlying37 Tryz.zeroValue37 Tryz.places37 rfl rfl) ?_
   refine J.c rfl rfl (C.alloc (l := [_, _, _, _, _]) Tryz.zeroValue37 rfl) ?_
   rintro _ _ ⟨b7, rfl, rfl⟩
   refine J.norm rfl ?_
   refine J.stAI (vs := [_, _, _, _, _]) rfl Tryz.sizeOf37 rfl rfl (by exact rfl) (by exact rfl) (by exact rfl) ?_
   refine J.nil <| J.then_n ?_
   refine J.cut (fun w : RW => w.r = (M.act x.o).1 ∧ (readsK x.o.kind = false → w = ⟨w.r, none, 0, none, 0⟩)) (fun w => [(0, .pointer (some ⟨m, 0, none⟩)), (3, .pointer (some ⟨b3, 0, none⟩)), (4, .pointer (some ⟨b4, 0, none⟩)), (7, .pointer (some ⟨b7, 0, none⟩))])
    (fun w => [RefAt m (M.act x.o).2, w.asn, G, pt b3 (.cells x.cells.toArray 27 (0, 0)), pt b4 (.cells [Value.int .i64 0, .int .u64 0, .slice none 0 0, .bool false, .slice none 0 0].toArray 37 (0, 0)), pt b7 (.cells w.cells.toArray 37 (0, 0)), F]) ?_ fun w hw => ?_
   ·
    refine J.seq <| J.region <| J.p rfl (Q.fa (n := 1) Tryz.runUnderlying27 rfl rfl Tryz.sizeOf3 rfl) ?_
    refine J.p rfl (Q.ld Tryz.isAgg3 rfl (rdI (by exact rfl))) ?_
    refine J.nil <| J.then_n <| J.block <| J.seq <| J.region <| J.p rfl (Q.eql rfl rfl) <| J.p rfl (Q.asg rfl) <| J.nil <| J.then_n ?_
    refine J.cases 35 rfl (fun hc35 => ?_) (fun hc35 => ?_)
    ·
     replace hc35 := X.nm hc35
     try (first | (cases hc35; done) | (exfalso; simp at hc35; done))
     all_goals
      refine J.cond_t rfl <| J.region <| J.m rfl ?_
      refine J.p rfl (Q.ldN (vs := [_, _, _, _, _, _, _, _, _]) Tryz.isAgg27 Tryz.sizeOf27 rfl rnI) ?_
      refine J.callI Tryz.call41 (rmake_spec m M hM x) rfl rfl rfl ?_
      rintro _ _ ⟨rfl, rfl⟩
      refine J.norm rfl ?_
      refine J.stAI (vs := [_, _, _, _, _]) rfl Tryz.sizeOf37 rfl rfl (by exact rfl) (by exact rfl) (by exact rfl) ?_
      refine J.nil <| J.blk_n ?_
      have e : M.act x.o = M.make x.o := by unfold BM.act; rw [if_pos (by omega)]
      have hb := act_bare M (o := x.o) (by unfold readsK; simp [show x.o.kind = 1 by omega])
      rw [e] at hb ⊢
      obtain ⟨r, hr⟩ : ∃ r, r = (M.make x.o).1 := ⟨_, rfl⟩
      rw [← hr] at hb ⊢
      obtain ⟨rs, ru, rk, rm, rd⟩ := r
      dsimp only at hb
      obtain ⟨rfl, rfl, rfl⟩ := hb
      refine J.give (X := RW.asn ⟨⟨rs, ru, [], false, []⟩, none, 0, none, 0⟩) empty_asn ?_
      refine J.meetI (RW.mk ⟨rs, ru, [], false, []⟩ none 0 none 0) ⟨rfl, fun _ => rfl⟩ ⟨rfl, rfl, rfl, rfl, trivial⟩
    replace hc35 := X.nm hc35
    try (first | (cases hc35; done) | (exfalso; simp at hc35; done))
    all_goals
     refine J.cond_f rfl <| J.seq <| J.seq <| J.region <| J.p rfl (Q.eql rfl rfl) <| J.p rfl (Q.asg rfl) <| J.nil <| J.then_n ?_
     refine J.cases 40 rfl (fun hc40 => ?_) (fun hc40 => ?_)
     ·
      replace hc40 := X.nm hc40
      try (first | (cases hc40; done) | (exfalso; simp at hc40; done))
      all_goals
       refine J.cond_t rfl <| J.cskip <| J.then_n <| J.cond_t rfl <| J.region <| J.m rfl ?_
       refine J.p rfl (Q.ldN (vs := [_, _, _, _, _, _, _, _, _]) Tryz.isAgg27 Tryz.sizeOf27 rfl rnI) ?_
       refine J.callI Tryz.call42 (rinUpload_spec m M hM hok hk x G hx (by omega) (fun h => chk_parts hc h) hcl) rfl rfl rfl ?_
       rintro _ _ ⟨rfl, rfl⟩
       refine J.norm rfl ?_
       refine J.stAI (vs := [_, _, _, _, _]) rfl Tryz.sizeOf37 rfl rfl (by exact rfl) (by exact rfl) (by exact rfl) ?_
       refine J.nil <| J.blk_n ?_
       first
        | exact J.meetI y ⟨hy, hyb⟩ ⟨rfl, rfl, rfl, rfl, trivial⟩
        | (have hb := act_bare M (o := x.o) (by unfold readsK; simp; omega)
           obtain ⟨r, hr⟩ : ∃ r, r = (M.act x.o).1 := ⟨_, rfl⟩
           rw [← hr] at hb ⊢
           obtain ⟨rs, ru, rk, rm, rd⟩ := r
           dsimp only at hb
           obtain ⟨rfl, rfl, rfl⟩ := hb
           refine J.give (X := RW.asn ⟨⟨rs, ru, [], false, []⟩, none, 0, none, 0⟩) empty_asn ?_
           exact J.meetI (RW.mk ⟨rs, ru, [], false, []⟩ none 0 none 0) ⟨rfl, fun _ => rfl⟩ ⟨rfl, rfl, rfl, rfl, trivial⟩)
     replace hc40 := X.nm hc40
     try (first | (cases hc40; done) | (exfalso; simp at hc40; done))
     all_goals
      refine J.cond_f rfl <| J.seq <| J.region <| J.p rfl (Q.eql rfl rfl) <| J.p rfl (Q.asg rfl) <| J.nil <| J.then_n ?_
      refine J.cases 40 rfl (fun hc40 => ?_) (fun hc40 => ?_)
      ·
       replace hc40 := X.nm hc40
       try (first | (cases hc40; done) | (exfalso; simp at hc40; done))
       all_goals
        refine J.cond_t rfl <| J.cskip <| J.then_n <| J.cond_t rfl <| J.region <| J.m rfl ?_
        refine J.p rfl (Q.ldN (vs := [_, _, _, _, _, _, _, _, _]) Tryz.isAgg27 Tryz.sizeOf27 rfl rnI) ?_
        refine J.callI Tryz.call42 (rinUpload_spec m M hM hok hk x G hx (by omega) (fun h => chk_parts hc h) hcl) rfl rfl rfl ?_
        rintro _ _ ⟨rfl, rfl⟩
        refine J.norm rfl ?_
        refine J.stAI (vs := [_, _, _, _, _]) rfl Tryz.sizeOf37 rfl rfl (by exact rfl) (by exact rfl) (by exact rfl) ?_
        refine J.nil <| J.blk_n ?_
        first
         | exact J.meetI y ⟨hy, hyb⟩ ⟨rfl, rfl, rfl, rfl, trivial⟩
         | (have hb := act_bare M (o := x.o) (by unfold readsK; simp; omega)
            obtain ⟨r, hr⟩ : ∃ r, r = (M.act x.o).1 := ⟨_, rfl⟩
            rw [← hr] at hb ⊢
            obtain ⟨rs, ru, rk, rm, rd⟩ := r
            dsimp only at hb
            obtain ⟨rfl, rfl, rfl⟩ := hb
            refine J.give (X := RW.asn ⟨⟨rs, ru, [], false, []⟩, none, 0, none, 0⟩) empty_asn ?_
            exact J.meetI (RW.mk ⟨rs, ru, [], false, []⟩ none 0 none 0) ⟨rfl, fun _ => rfl⟩ ⟨rfl, rfl, rfl, rfl, trivial⟩)
      replace hc40 := X.nm hc40
      try (first | (cases hc40; done) | (exfalso; simp at hc40; done))
      all_goals
       refine J.cond_f rfl <| J.region <| J.p rfl (Q.eql rfl rfl) <| J.p rfl (Q.asg rfl) <| J.nil <| J.then_n ?_
       refine J.cases 40 rfl (fun hc40 => ?_) (fun hc40 => ?_)
       ·
        replace hc40 := X.nm hc40
        try (first | (cases hc40; done) | (exfalso; simp at hc40; done))
        all_goals
         refine J.cond_t rfl <| J.region <| J.m rfl ?_
         refine J.p rfl (Q.ldN (vs := [_, _, _, _, _, _, _, _, _]) Tryz.isAgg27 Tryz.sizeOf27 rfl rnI) ?_
         refine J.callI Tryz.call42 (rinUpload_spec m M hM hok hk x G hx (by omega) (fun h => chk_parts hc h) hcl) rfl rfl rfl ?_
         rintro _ _ ⟨rfl, rfl⟩
         refine J.norm rfl ?_
         refine J.stAI (vs := [_, _, _, _, _]) rfl Tryz.sizeOf37 rfl rfl (by exact rfl) (by exact rfl) (by exact rfl) ?_
         refine J.nil <| J.blk_n ?_
         first
          | exact J.meetI y ⟨hy, hyb⟩ ⟨rfl, rfl, rfl, rfl, trivial⟩
          | (have hb := act_bare M (o := x.o) (by unfold readsK; simp; omega)
             obtain ⟨r, hr⟩ : ∃ r, r = (M.act x.o).1 := ⟨_, rfl⟩
             rw [← hr] at hb ⊢
             obtain ⟨rs, ru, rk, rm, rd⟩ := r
             dsimp only at hb
             obtain ⟨rfl, rfl, rfl⟩ := hb
             refine J.give (X := RW.asn ⟨⟨rs, ru, [], false, []⟩, none, 0, none, 0⟩) empty_asn ?_
             exact J.meetI (RW.mk ⟨rs, ru, [], false, []⟩ none 0 none 0) ⟨rfl, fun _ => rfl⟩ ⟨rfl, rfl, rfl, rfl, trivial⟩)
       replace hc40 := X.nm hc40
       try (first | (cases hc40; done) | (exfalso; simp at hc40; done))
       all_goals
        refine J.cond_f rfl <| J.region <| J.m rfl ?_
        refine J.p rfl (Q.ldN (vs := [_, _, _, _, _, _, _, _, _]) Tryz.isAgg27 Tryz.sizeOf27 rfl rnI) ?_
        refine J.callI Tryz.call43 (rinBucket_spec m M hM hok hk x G hx (by omega) (fun h => chk_6 hc h) hid hcl) rfl rfl rfl ?_
        rintro _ _ ⟨y, rfl, hy, hyb, rfl⟩
        refine J.norm rfl ?_
        refine J.stAI (vs := [_, _, _, _, _]) rfl Tryz.sizeOf37 rfl rfl (by exact rfl) (by exact rfl) (by exact rfl) ?_
        refine J.nil <| J.blk_n ?_
        first
         | exact J.meetI y ⟨hy, hyb⟩ ⟨rfl, rfl, rfl, rfl, trivial⟩
         | (have hb := act_bare M (o := x.o) (by unfold readsK; simp; omega)
            obtain ⟨r, hr⟩ : ∃ r, r = (M.act x.o).1 := ⟨_, rfl⟩
            rw [← hr] at hb ⊢
            obtain ⟨rs, ru, rk, rm, rd⟩ := r
            dsimp only at hb
            obtain ⟨rfl, rfl, rfl⟩ := hb
            refine J.give (X := RW.asn ⟨⟨rs, ru, [], false, []⟩, none, 0, none, 0⟩) empty_asn ?_
            exact J.meetI (RW.mk ⟨rs, ru, [], false, []⟩ none 0 none 0) ⟨rfl, fun _ => rfl⟩ ⟨rfl, rfl, rfl, rfl, trivial⟩)
   obtain ⟨hwr, hwb⟩ := hw
   refine J.seq <| J.seq <| J.region <| J.p rfl (Q.fa (n := 1) Tryz.runUnderlying27 rfl rfl Tryz.sizeOf3 rfl) ?_
   refine J.p rfl (Q.ld Tryz.isAgg3 rfl (rdI (by exact rfl))) ?_
   refine J.callI Tryz.call40 (rreads_spec x.o.kind) rfl rfl rfl ?_
   rintro _ _ ⟨rfl, rfl⟩
   refine J.norm rfl <| J.p rfl (Q.not rfl) <| J.nil <| J.then_n ?_
   refine J.cases 50 rfl (fun hc50 => ?_) (fun hc50 => ?_)
   ·
    replace hc50 := X.nm hc50
    try (first | (cases hc50; done) | (exfalso; simp at hc50; done))
    all_goals
     refine J.cond_t rfl <| J.seq ?_
     have hrd : readsK x.o.kind = false := by unfold readsK; simpa using hc50
     have hno := hnd hrd
     have hb := act_bare M hrd
     have hwb' := hwb hrd
     have hds := hM.ds
     rw [← act_done M x.o] at hno hds
     have hrun : M.run x.o = ((M.act x.o).1, { (M.act x.o).2 with done := sput ltN x.o.id (M.act x.o).1 (M.act x.o).2.done }) := by
      unfold BM.run; rw [if_pos hc, if_neg (by rw [hrd]; exact Bool.false_ne_true), ← act_done M x.o, hno]
     have hlk : (M.act x.o).2.done.length ≤ 32768 := by rw [act_done]; exact hM.len.2.2
     rw [hrun]
     rw [← hwr] at hb ⊢
     obtain ⟨M2, hM2⟩ : ∃ M2, M2 = (M.act x.o).2 := ⟨_, rfl⟩
     rw [← hM2] at hno hds hlk ⊢
     clear hrun
     obtain ⟨⟨rs, ru, rk, rm, rd⟩, kp, kc, dp, dc⟩ := w
     simp only [RW.mk.injEq, true_and] at hwb'
     obtain ⟨rfl, rfl, rfl, rfl⟩ := hwb'
     dsimp only at hb
     obtain ⟨rfl, rfl, rfl⟩ := hb
     refine J.openRef (m := m) (M := M2) fun p1 c1 bs p2 c2 us p3 c3 hyb hyu hyk => ?_
     refine J.norm rfl ?_
     refine J.tells 3 rfl own.len fun hck => ?_
     have hck' : M2.done.length ≤ c3 := hck.2
     refine J.slrI (E0 := 96) (sz := 6) (p := p3) (n := M2.done.length) (c := c3) (xs := M2.done.flatMap RKp.cells) fun hsk => ?_
     refine J.region <| J.p rfl (Q.asg rfl) <| J.nil <| J.then_n ?_
     refine J.cut (fun i : Nat => AtK ltN x.o.id M2.done i) (fun i => [(0, .pointer (some ⟨m, 0, none⟩)), (3, .pointer (some ⟨b3, 0, none⟩)), (4, .pointer (some ⟨b4, 0, none⟩)), (7, .pointer (some ⟨b7, 0, none⟩)), (8, .int .i64 i)])
      (fun _ => refL m M2 p1 c1 bs p2 c2 us p3 c3 ++ [RW.asn ⟨⟨rs, ru, [], false, []⟩, none, 0, none, 0⟩, G, pt b3 (.cells x.cells.toArray 27 (0, 0)), pt b4 (.cells [Value.int .i64 0, .int .u64 0, .slice none 0 0, .bool false, .slice none 0 0].toArray 37 (0, 0)), pt b7 (.cells [Value.int .i64 rs, .int .u64 ru, .slice none 0 0, .bool false, .slice none 0 0].toArray 37 (0, 0)), F]) ?_ fun i hi => ?_
     ·
      refine J.block ?_
      refine J.loop (fun j : Nat => j ≤ M2.done.length ∧ ∀ q, q ∈ M2.done.take j → ltN q.1 x.o.id = true) (fun j => M2.done.length - j) (fun j => [(0, .pointer (some ⟨m, 0, none⟩)), (3, .pointer (some ⟨b3, 0, none⟩)), (4, .pointer (some ⟨b4, 0, none⟩)), (7, .pointer (some ⟨b7, 0, none⟩)), (8, .int .i64 j)])
       (fun _ => refL m M2 p1 c1 bs p2 c2 us p3 c3 ++ [RW.asn ⟨⟨rs, ru, [], false, []⟩, none, 0, none, 0⟩, G, pt b3 (.cells x.cells.toArray 27 (0, 0)), pt b4 (.cells [Value.int .i64 0, .int .u64 0, .slice none 0 0, .bool false, .slice none 0 0].toArray 37 (0, 0)), pt b7 (.cells [Value.int .i64 rs, .int .u64 ru, .slice none 0 0, .bool false, .slice none 0 0].toArray 37 (0, 0)), F]) 0 ⟨Nat.zero_le _, (fun _ h => by cases h)⟩ ⟨rfl, rfl, rfl, rfl, rfl, trivial⟩ rfl fun j hj => ?_
      obtain ⟨hj, hlo⟩ := hj
      refine J.norm rfl <| J.seq <| J.seq ?_
      refine J.draw [] Tryz.mixed (by kernel_rfl) fun hR => ?_
      refine RG.p 0 hR rfl (Q.mv rfl) <| RG.p 1 hR rfl (Q.mv rfl) <| RG.p 2 hR rfl (Q.nil_ rfl) <| RG.p 3 hR rfl (Q.fa (n := 2) Tryz.runUnderlying92 rfl rfl Tryz.sizeOf90 rfl) ?_
      refine RG.p 4 hR rfl (Q.ld Tryz.isAgg90 rfl (rdI (by exact rfl))) ?_
      refine RG.p 5 hR rfl (Q.lenSl Tryz.runUnderlying90 rfl) <| RG.p 6 hR rfl (Q.lss rfl rfl) <| RG.p 7 hR rfl (Q.mv rfl) ?_
      refine RG.cases 58 rfl (fun hb58 => ?_) (fun hb58 => ?_)
      ·
       replace hb58 := X.nm hb58
       try (first | (cases hb58; done) | (exfalso; simp at hb58; done))
       all_goals
        refine RG.p 8 hR rfl (Q.mv rfl) <| RG.p 9 hR rfl (Q.nil_ rfl) <| RG.p 10 hR rfl (Q.fa (n := 2) Tryz.runUnderlying92 rfl rfl Tryz.sizeOf90 rfl) ?_
        refine RG.p 11 hR rfl (Q.ld Tryz.isAgg90 rfl (rdI (by exact rfl))) ?_
        obtain ⟨bb, off, hpp, hrd⟩ := hsk.some_ (by omega)
        obtain ⟨q, hq⟩ : ∃ q, M2.done[j]? = some q := ⟨_, List.getElem?_eq_getElem (by omega)⟩
        subst hpp
        refine RG.p 12 hR rfl (Q.mv rfl) <| RG.p 13 hR rfl (Q.ia Tryz.runUnderlying90 Tryz.sizeOf96 rfl rfl (by omega) (by omega)) <| RG.p 14 hR rfl (Q.fa (n := 0) Tryz.runUnderlying96 rfl rfl Tryz.sizeOf23 rfl) <| RG.p 15 hR rfl (Q.ld Tryz.isAgg23 rfl (rfO 0 RKp.len hq (show _ = some (Value.int .u64 q.1) from rfl) (by omega))) <| RG.p 16 hR rfl (Q.fa (n := 0) Tryz.runUnderlying27 rfl rfl Tryz.sizeOf23 rfl) ?_
        refine RG.p 17 hR rfl (Q.ld Tryz.isAgg23 rfl (rdI (by exact rfl))) ?_
        refine RG.p 18 hR rfl (Q.lss rfl rfl) <| RG.p 19 hR rfl (Q.pick_t rfl rfl) ?_
        refine RG.fin hR rfl ?_
        refine J.norm rfl <| J.then_n ?_
        refine J.cases 70 rfl (fun hc70 => ?_) (fun hc70 => ?_)
        ·
         replace hc70 := X.nm hc70
         try (first | (cases hc70; done) | (exfalso; simp at hc70; done))
         all_goals
          refine J.cond_t rfl <| J.cskip <| J.then_n <| J.block <| J.region <| J.m rfl <| J.p rfl (Q.add64 rfl rfl (by omega)) <| J.p rfl (Q.asg rfl) <| J.nil <| J.blk_n ?_
          refine J.againI (j + 1) ⟨by show j + 1 ≤ _; omega, AtK.next hlo hq (by simp only [decide_eq_true_eq]; omega)⟩ (by show M2.done.length - (j + 1) < M2.done.length - j; omega) ⟨rfl, rfl, rfl, rfl, rfl, trivial⟩
        replace hc70 := X.nm hc70
        try (first | (cases hc70; done) | (exfalso; simp at hc70; done))
        all_goals
         refine J.cond_f rfl <| J.exit <| J.then_x <| J.lp_x <| J.blk_x ?_
         exact J.meetI j ⟨by omega, hlo, fun p hp => by rw [hq] at hp; cases hp; simp only [decide_eq_false_iff_not]; omega⟩ ⟨rfl, rfl, rfl, rfl, rfl, trivial⟩
      replace hb58 := X.nm hb58
      try (first | (cases hb58; done) | (exfalso; simp at hb58; done))
      all_goals
       refine RG.skip 8 hR rfl rfl rfl rfl rfl rfl <| RG.skip 9 hR rfl rfl rfl rfl rfl rfl <| RG.skip 10 hR rfl rfl rfl rfl rfl rfl <| RG.skip 11 hR rfl rfl rfl rfl rfl rfl <| RG.skip 12 hR rfl rfl rfl rfl rfl rfl <| RG.skip 13 hR rfl rfl rfl rfl rfl rfl <| RG.skip 14 hR rfl rfl rfl rfl rfl rfl <| RG.skip 15 hR rfl rfl rfl rfl rfl rfl <| RG.skip 16 hR rfl rfl rfl rfl rfl rfl <| RG.skip 17 hR rfl rfl rfl rfl rfl rfl ?_
       refine RG.skip 18 hR rfl rfl rfl rfl rfl rfl <| RG.p 19 hR rfl (Q.pick_f rfl rfl) ?_
       refine RG.fin hR rfl ?_
       refine J.norm rfl <| J.then_n <| J.cond_f rfl <| J.exit <| J.then_x <| J.lp_x <| J.blk_x ?_
       exact J.meetI j ⟨by omega, hlo, fun p hp => by rw [List.getElem?_eq_none (by omega)] at hp; cases hp⟩ ⟨rfl, rfl, rfl, rfl, rfl, trivial⟩
     refine J.norm rfl ?_
     have hle := hi.le
     obtain ⟨z, hz⟩ : ∃ z : RKp, z = (x.o.id, ⟨rs, ru, [], false, []⟩) := ⟨_, rfl⟩
     refine J.cut (fun _ : Option Addr × Nat => True) (fun u => [(0, .pointer (some ⟨m, 0, none⟩)), (4, .pointer (some ⟨b4, 0, none⟩)), (7, .pointer (some ⟨b7, 0, none⟩)), (8, .int .i64 i), (9, .slice u.1 (0 + i + 1) u.2)])
      (fun u => refL m M2 p1 c1 bs p2 c2 us p3 c3 ++ [RW.asn ⟨⟨rs, ru, [], false, []⟩, none, 0, none, 0⟩, G, pt b4 (.cells [Value.int .i64 0, .int .u64 0, .slice none 0 0, .bool false, .slice none 0 0].toArray 37 (0, 0)), pt b7 (.cells [Value.int .i64 rs, .int .u64 ru, .slice none 0 0, .bool false, .slice none 0 0].toArray 37 (0, 0)), own 96 6 (.slice u.1 (0 + i + 1) u.2) ([] ++ (M2.done.flatMap RKp.cells).take (i * 6) ++ RKp.cells z), F]) ?_ fun u _ => ?_
     obtain ⟨hq79, hr79⟩ := slH_ (P := Tryz.prog) (T := 90) Tryz.runUnderlying90 Tryz.sizeOf96 hsk (hi := i) hle hck'
     ·
      refine J.draw [0, 7, 12, 13, 14] Tryz.mixed (by kernel_rfl) fun hR => ?_
      refine RG.p 1 hR rfl (Q.mv rfl) <| RG.p 2 hR rfl (Q.nil_ rfl) <| RG.p 3 hR rfl (Q.fa (n := 2) Tryz.runUnderlying92 rfl rfl Tryz.sizeOf90 rfl) ?_
      refine RG.p 4 hR rfl (Q.ld Tryz.isAgg90 rfl (rdI (by exact rfl))) ?_
      refine RG.p 5 hR rfl (Q.mv rfl) ?_
      refine RG.p 6 hR rfl (hq79 _ _ _ _ _ _ rfl rfl) ?_
      refine RG.p 8 hR rfl (Q.fa (n := 0) Tryz.runUnderlying27 rfl rfl Tryz.sizeOf23 rfl) ?_
      refine RG.p 9 hR rfl (Q.ld Tryz.isAgg23 rfl (rdI (by exact rfl))) ?_
      refine RG.p 10 hR rfl (Q.ldN (vs := [_, _, _, _, _]) Tryz.isAgg37 Tryz.sizeOf37 rfl rnI) ?_
      refine RG.p 11 hR rfl (Q.bld (l := [_, _, _, _, _, _]) Tryz.runUnderlying96 Tryz.zeroValue96 Tryz.places96 rfl rfl) ?_
      refine RG.slot 84 (.agg (RKp.cells z).toArray) rfl (by rw [hz]; rfl) ?_
      refine RG.many hR 0 [12] rfl ⟨?_, ⟨?_, trivial⟩⟩
      ·
       refine RGi.made rfl rfl rfl rfl (C.bslG (l := []) Tryz.runUnderlying90 Tryz.sizeOf96 Tryz.zeroValue96 (by decide) rfl rfl rfl rfl rfl) ?_
       rintro b73
       refine RG.many hR 7 [12] rfl ⟨?_, ⟨?_, trivial⟩⟩
       ·
        refine RGi.appI rfl rfl rfl rfl Tryz.runUnderlying90 Tryz.runUnderlying90 Tryz.typeInfo96 Tryz.sizeOf96 Tryz.zeroValue96 rfl rfl (hr79.inI) (take_one (flat_one RKp.one)) (by simp [Tryz.t96] <;> omega) (by decide) ?_
        rintro p80 c80
        refine RG.normE rfl ?_
        refine RG.made 12 hR rfl rfl rfl rfl rfl (C.bslG (l := [_, _, _, _, _, _]) Tryz.runUnderlying90 Tryz.sizeOf96 Tryz.zeroValue96 (by decide) rfl rfl rfl rfl rfl) ?_
        rintro b85
        refine RG.many hR 13 [] rfl ⟨?_, trivial⟩
        ·
         refine RGi.appI rfl rfl rfl rfl Tryz.runUnderlying90 Tryz.runUnderlying90 Tryz.typeInfo96 Tryz.sizeOf96 Tryz.zeroValue96 rfl rfl (SlR.ptI rfl) (RKp.one z) (by simp [Tryz.t96] <;> omega) (by decide) ?_
         rintro p86 c86
         refine RG.normE rfl ?_
         refine RG.bar 14 hR rfl rfl rfl rfl rfl rfl (Q.asg rfl).toC ?_
         rintro _ _ ⟨rfl, rfl⟩
         refine RG.norm rfl ?_
         refine RG.fin hR rfl ?_
         refine J.norm rfl ?_
         exact J.meetI (p86, c86) trivial ⟨rfl, rfl, rfl, rfl, rfl, trivial⟩
       ·
        refine RGi.made rfl rfl rfl rfl (C.bslG (l := [_, _, _, _, _, _]) Tryz.runUnderlying90 Tryz.sizeOf96 Tryz.zeroValue96 (by decide) rfl rfl rfl rfl rfl) ?_
        rintro b85
        refine RG.many hR 7 [] rfl ⟨?_, trivial⟩
        ·
         refine RGi.appI rfl rfl rfl rfl Tryz.runUnderlying90 Tryz.runUnderlying90 Tryz.typeInfo96 Tryz.sizeOf96 Tryz.zeroValue96 rfl rfl (hr79.inI) (take_one (flat_one RKp.one)) (by simp [Tryz.t96] <;> omega) (by decide) ?_
         rintro p80 c80
         refine RG.normE rfl ?_
         refine RG.many hR 13 [] rfl ⟨?_, trivial⟩
         ·
          refine RGi.appI rfl rfl rfl rfl Tryz.runUnderlying90 Tryz.runUnderlying90 Tryz.typeInfo96 Tryz.sizeOf96 Tryz.zeroValue96 rfl rfl (SlR.ptI rfl) (RKp.one z) (by simp [Tryz.t96] <;> omega) (by decide) ?_
          rintro p86 c86
          refine RG.normE rfl ?_
          refine RG.bar 14 hR rfl rfl rfl rfl rfl rfl (Q.asg rfl).toC ?_
          rintro _ _ ⟨rfl, rfl⟩
          refine RG.norm rfl ?_
          refine RG.fin hR rfl ?_
          refine J.norm rfl ?_
          exact J.meetI (p86, c86) trivial ⟨rfl, rfl, rfl, rfl, rfl, trivial⟩
      ·
       refine RGi.made rfl rfl rfl rfl (C.bslG (l := [_, _, _, _, _, _]) Tryz.runUnderlying90 Tryz.sizeOf96 Tryz.zeroValue96 (by decide) rfl rfl rfl rfl rfl) ?_
       rintro b85
       refine RG.made 0 hR rfl rfl rfl rfl rfl (C.bslG (l := []) Tryz.runUnderlying90 Tryz.sizeOf96 Tryz.zeroValue96 (by decide) rfl rfl rfl rfl rfl) ?_
       rintro b73
       refine RG.many hR 7 [] rfl ⟨?_, trivial⟩
       ·
        refine RGi.appI rfl rfl rfl rfl Tryz.runUnderlying90 Tryz.runUnderlying90 Tryz.typeInfo96 Tryz.sizeOf96 Tryz.zeroValue96 rfl rfl (hr79.inI) (take_one (flat_one RKp.one)) (by simp [Tryz.t96] <;> omega) (by decide) ?_
        rintro p80 c80
        refine RG.normE rfl ?_
        refine RG.many hR 13 [] rfl ⟨?_, trivial⟩
        ·
         refine RGi.appI rfl rfl rfl rfl Tryz.runUnderlying90 Tryz.runUnderlying90 Tryz.typeInfo96 Tryz.sizeOf96 Tryz.zeroValue96 rfl rfl (SlR.ptI rfl) (RKp.one z) (by simp [Tryz.t96] <;> omega) (by decide) ?_
         rintro p86 c86
         refine RG.normE rfl ?_
         refine RG.bar 14 hR rfl rfl rfl rfl rfl rfl (Q.asg rfl).toC ?_
         rintro _ _ ⟨rfl, rfl⟩
         refine RG.norm rfl ?_
         refine RG.fin hR rfl ?_
         refine J.norm rfl ?_
         exact J.meetI (p86, c86) trivial ⟨rfl, rfl, rfl, rfl, rfl, trivial⟩
     refine J.norm rfl ?_
     obtain ⟨p94, c94, hq94, hr94⟩ := slL_ (P := Tryz.prog) (T := 90) Tryz.runUnderlying90 Tryz.sizeOf96 hsk (lo := i) hle hck'
     refine J.region <| J.m rfl <| J.m rfl <| J.m rfl <| J.p rfl (Q.nil_ rfl) <| J.p rfl (Q.fa (n := 2) Tryz.runUnderlying92 rfl rfl Tryz.sizeOf90 rfl) ?_
     refine J.p rfl (Q.ld Tryz.isAgg90 rfl (rdI (by exact rfl))) ?_
     refine J.m rfl ?_
     refine J.p rfl (hq94 _ _ _ _ _ _ rfl rfl) ?_
     refine J.c rfl rfl (C.appI Tryz.runUnderlying90 Tryz.runUnderlying90 Tryz.typeInfo96 Tryz.sizeOf96 Tryz.zeroValue96 rfl rfl (hr94.inI) (drop_one (flat_one RKp.one)) (by simp [Tryz.t96] <;> omega) (by decide)) ?_
     rintro _ _ ⟨p95, c95, rfl, rfl⟩
     refine J.norm rfl <| J.p rfl (Q.nil_ rfl) <| J.p rfl (Q.fa (n := 2) Tryz.runUnderlying92 rfl rfl Tryz.sizeOf90 rfl) ?_
     refine J.stI rfl Tryz.sizeOf90 rfl rfl rfl (by exact rfl) (by exact rfl) (by exact rfl) ?_
     refine J.nil <| J.then_n <| J.seq <| J.region ?_
     refine J.p rfl (Q.ldN (vs := [_, _, _, _, _]) Tryz.isAgg37 Tryz.sizeOf37 rfl rnI) ?_
     refine J.stAI (vs := [_, _, _, _, _]) rfl Tryz.sizeOf37 rfl rfl (by exact rfl) (by exact rfl) (by exact rfl) ?_
     refine J.nil <| J.then_n <| J.cret ?_
     obtain ⟨ks, hks⟩ : ∃ ks, ks = M2.done.take i ++ z :: M2.done.drop i := ⟨_, rfl⟩
     have hput : sput ltN x.o.id ⟨rs, ru, [], false, []⟩ M2.done = ks := by rw [hks, hi.put_no ord3_nat hds hno, hz]
     rw [ins_len (x := z) hle, ins_cells RKp.len, ← hks]
     rw [hput]
     refine J.shutI (refL m { M2 with done := ks } p1 c1 bs p2 c2 us p95 c95) (RefAt m { M2 with done := ks }) (RefAt.of (M := { M2 with done := ks }) hyb hyu (by
      intro q hq
      have hq : q ∈ ks := hq
      rw [hks, List.mem_append, List.mem_cons] at hq
      rcases hq with hq | hq | hq
      · exact hyk q (List.mem_of_mem_take hq)
      · rw [hq, hz]; exact ⟨rfl, rfl, rfl⟩
      · exact hyk q (List.mem_of_mem_drop hq))) ?_
     refine J.retCI (vs := [_, _, _, _, _]) [RefAt m { M2 with done := ks }, RW.asn ⟨⟨rs, ru, [], false, []⟩, none, 0, none, 0⟩, G] rfl rfl Tryz.isAgg37 Tryz.sizeOf37 rnI ⟨⟨⟨rs, ru, [], false, []⟩, none, 0, none, 0⟩, rfl, rfl, rfl⟩
   replace hc50 := X.nm hc50
   try (first | (cases hc50; done) | (exfalso; simp at hc50; done))
   all_goals
    refine J.cond_f rfl <| J.cskip <| J.then_n <| J.seq <| J.region ?_
    refine J.p rfl (Q.ldN (vs := [_, _, _, _, _]) Tryz.isAgg37 Tryz.sizeOf37 rfl rnI) ?_
    refine J.stAI (vs := [_, _, _, _, _]) rfl Tryz.sizeOf37 rfl rfl (by exact rfl) (by exact rfl) (by exact rfl) ?_
    refine J.nil <| J.then_n <| J.cret ?_
    have hrd : readsK x.o.kind = true := by
     unfold readsK
     cases h1 : (decide (x.o.kind = 4) || decide (x.o.kind = 6)) with
     | true => rfl
     | false => rw [h1] at hc50; cases hc50
    have hrun : M.run x.o = M.act x.o := by unfold BM.run; rw [if_pos hc, if_pos hrd]
    rw [hrun]
    refine J.retCI (vs := [_, _, _, _, _]) [RefAt m (M.act x.o).2, w.asn, G] rfl rfl Tryz.isAgg37 Tryz.sizeOf37 rnI ⟨w, rfl, hwr, rfl⟩
end
end Go.Proofs.YtdancegklkifaaaGreat
namespace Go.Proofs.YtdancegklkifaaaGreat
set_option linter.unusedSectionVars false
set_option linter.unusedSimpArgs false
set_option linter.unusedVariables false
open Go.X

theorem clip_spec (p : Option Addr) (c : Nat) (bs : List UInt8) (hn : bs.length ≤ 9223372036854775807) : FSpec Tryz.prog 48 [.slice p bs.length c] [own 5 1 (.slice p bs.length c) (bytesV bs)] (fun v B => v = .slice p bs.length bs.length ∧ B = [own 5 1 (.slice p bs.length bs.length) (bytesV bs)]) := by
  refine FSpec.of Tryz.func48 rfl Tryz.ntmps48 rfl fun W0 F => ?_
  refine J.seq <| J.region <| J.p rfl (Q.asg rfl) <| J.nil <| J.then_n <| J.seq ?_
  refine J.tells 0 rfl own.len fun hln => ?_
  obtain ⟨_, hcap⟩ := hln
  refine J.region <| J.m rfl <| J.m rfl <| J.p rfl (Q.lenSl Tryz.runUnderlying25 rfl) <| J.m rfl <| J.p rfl (Q.lenSl Tryz.runUnderlying25 rfl) <| J.p rfl (Q.slHM Tryz.runUnderlying25 Tryz.sizeOf5 rfl rfl rfl (by omega) (by omega) (by omega)) <| J.p rfl (Q.asg rfl) <| J.nil <| J.then_n <| J.cret ?_
  refine J.conv (Y := own 5 1 (.slice p bs.length bs.length) (bytesV bs)) 0 rfl own.clip ?_
  refine J.ret1 (B := [own 5 1 (.slice p bs.length bs.length) (bytesV bs)]) rfl rfl ⟨rfl, rfl⟩ rfl

theorem number_spec (p : Option Addr) (c : Nat) (bs : List UInt8) (v : Nat) (hn : bs.length ≤ 70368744100000) (hv : v ≤ 18446744073709551615) : FSpec Tryz.prog 18 [.slice p bs.length c, .int .u64 v] [own 5 1 (.slice p bs.length c) (bytesV bs)]
    (fun u B => ∃ p' c', u = .slice p' (bs ++ numB v).length c' ∧ B = [own 5 1 (.slice p' (bs ++ numB v).length c') (bytesV (bs ++ numB v))]) := by
  refine FSpec.of Tryz.func18 rfl Tryz.ntmps18 rfl fun W0 F => ?_
  refine J.seq <| J.region <| J.p rfl (Q.asg rfl) <| J.nil <| J.then_n <| J.seq <| J.region <| J.m rfl ?_
  refine J.call Tryz.call48 (clip_spec p c bs (by omega)) [0] rfl rfl rfl rfl ?_
  rintro _ _ ⟨rfl, rfl⟩
  refine J.norm rfl <| J.p rfl (Q.asg rfl) <| J.nil <| J.then_n <| J.seq <| J.block ?_
  refine J.loop (fun z : List UInt8 × Nat × Option Addr × Nat => z.1 ++ numB z.2.1 = bs ++ numB v ∧ z.2.1 ≤ 18446744073709551615 ∧ z.1.length ≤ bs.length + (numB v).length) (fun z => z.2.1) (fun z => [(0, .slice z.2.2.1 z.1.length z.2.2.2), (1, .int .u64 z.2.1)]) (fun z => [own 5 1 (.slice z.2.2.1 z.1.length z.2.2.2) (bytesV z.1), F]) (bs, v, p, bs.length) ⟨rfl, hv, by show bs.length ≤ _; omega⟩ ⟨rfl, rfl, trivial⟩ rfl fun z hz => ?_
  obtain ⟨acc, w, q, d⟩ := z
  obtain ⟨hz1, hz2, hz3⟩ := hz
  dsimp only at hz1 hz2 hz3
  refine J.seq <| J.seq <| J.region <| J.m rfl <| J.p rfl (Q.geq rfl rfl) <| J.nil <| J.then_n ?_
  refine J.cases 8 rfl (fun hc8 => ?_) (fun hc8 => ?_)
  ·
   replace hc8 := X.nm hc8
   try (first | (cases hc8; done) | (exfalso; simp at hc8; done))
   all_goals
    refine J.cond_t rfl <| J.cskip <| J.then_n <| J.block <| J.seq ?_
    have hw : ¬ w < 128 := by have h := hc8; dsimp only at h; omega
    have hst := numB_step (v := w) hw
    refine J.region <| J.m rfl <| J.m rfl <| J.p rfl (Q.conv Tryz.runUnderlying23 Tryz.runUnderlying5 rfl) <| J.p rfl (Q.or rfl rfl) ?_
    refine J.slot 12 (byteV (UInt8.ofNat (w % 128 + 128))) rfl (by show Value.int .u8 _ = _; rw [or128 w]; rfl) ?_
    refine J.c rfl rfl (C.bslG (l := [_]) Tryz.runUnderlying25 Tryz.sizeOf5 Tryz.zeroValue5 (by decide) rfl rfl rfl rfl rfl) ?_
    rintro _ _ ⟨b13, rfl, rfl⟩
    refine J.norm rfl ?_
    refine J.conv (Y := own 5 1 (.slice (some ⟨b13, 0, none⟩) 1 1) (bytesV [UInt8.ofNat (w % 128 + 128)])) 0 rfl (own_of_block rfl) ?_
    refine J.slr1 0 rfl fun hs13 => ?_
    refine J.c rfl rfl (C.app (i := 1) Tryz.runUnderlying25 Tryz.runUnderlying25 Tryz.typeInfo5 Tryz.sizeOf5 Tryz.zeroValue5 rfl rfl rfl (hs13.within (i := 0) rfl) (bytesV_one _) (by rw [show Tryz.t5.bytes = 1 from rfl]; show (acc.length + 1) * 1 ≤ _; have := numB_len v hv; omega) (by decide)) ?_
    rintro _ _ ⟨p14, c14, rfl, rfl⟩
    refine J.norm rfl <| J.p rfl (Q.asg rfl) <| J.nil <| J.then_n <| J.region <| J.m rfl <| J.p rfl (Q.shr rfl rfl (by omega)) ?_
    refine J.slot 16 (.int .u64 ((w / 128 : Nat) : Int)) rfl (by show Value.int .u64 _ = _; congr 1; show (w : Int).fdiv (2 ^ 7) = _; rw [Int.fdiv_eq_ediv_of_nonneg _ (by decide)]; omega) ?_
    refine J.p rfl (Q.asg rfl) <| J.nil <| J.blk_n ?_
    refine J.keep [1, 2] rfl ?_
    have hbl : (acc ++ [UInt8.ofNat (w % 128 + 128)]).length = acc.length + 1 := by simp
    refine J.again (acc ++ [UInt8.ofNat (w % 128 + 128)], w / 128, p14, c14) ⟨?_, by show w / 128 ≤ _; omega, ?_⟩ (by show w / 128 < w; omega) ⟨(by show _ = some (Value.slice p14 _ c14); rw [hbl]; rfl), rfl, trivial⟩ ?_
    · show (acc ++ [UInt8.ofNat (w % 128 + 128)]) ++ numB (w / 128) = bs ++ numB v
      rw [← hz1, hst, List.append_assoc]; rfl
    · have h1 := congrArg List.length hz1
      rw [hst] at h1
      simp only [List.length_append, List.length_cons] at h1
      show (acc ++ [UInt8.ofNat (w % 128 + 128)]).length ≤ _
      rw [hbl]; omega
    · show _ = [own 5 1 (.slice p14 (acc ++ [UInt8.ofNat (w % 128 + 128)]).length c14) (bytesV (acc ++ [UInt8.ofNat (w % 128 + 128)])), _]
      rw [hbl, ← bytesV_append]
  replace hc8 := X.nm hc8
  try (first | (cases hc8; done) | (exfalso; simp at hc8; done))
  all_goals
   refine J.cond_f rfl <| J.exit <| J.then_x <| J.lp_x <| J.blk_x <| J.then_n <| J.seq ?_
   have hlt : w < 128 := by have h := hc8; dsimp only at h; omega
   rw [numB_small hlt] at hz1
   refine J.region <| J.m rfl <| J.m rfl <| J.p rfl (Q.conv Tryz.runUnderlying23 Tryz.runUnderlying5 rfl) ?_
   refine J.slot 19 (byteV (UInt8.ofNat w)) rfl (by show Value.int .u8 _ = _; rw [low8 hlt]; rfl) ?_
   refine J.c rfl rfl (C.bslG (l := [_]) Tryz.runUnderlying25 Tryz.sizeOf5 Tryz.zeroValue5 (by decide) rfl rfl rfl rfl rfl) ?_
   rintro _ _ ⟨b20, rfl, rfl⟩
   refine J.norm rfl ?_
   refine J.conv (Y := own 5 1 (.slice (some ⟨b20, 0, none⟩) 1 1) (bytesV [UInt8.ofNat w])) 0 rfl (own_of_block rfl) ?_
   refine J.slr1 0 rfl fun hs20 => ?_
   refine J.c rfl rfl (C.app (i := 1) Tryz.runUnderlying25 Tryz.runUnderlying25 Tryz.typeInfo5 Tryz.sizeOf5 Tryz.zeroValue5 rfl rfl rfl (hs20.within (i := 0) rfl) (bytesV_one _) (by rw [show Tryz.t5.bytes = 1 from rfl]; show (acc.length + 1) * 1 ≤ _; have := numB_len v hv; omega) (by decide)) ?_
   rintro _ _ ⟨p21, c21, rfl, rfl⟩
   refine J.norm rfl <| J.p rfl (Q.asg rfl) <| J.nil <| J.then_n <| J.cret ?_
   rw [← hz1]
   have hbl : (acc ++ [UInt8.ofNat w]).length = acc.length + 1 := by simp
   refine J.keep [1, 2] rfl ?_
   refine J.ret1 (B := [own 5 1 (.slice p21 (acc ++ [UInt8.ofNat w]).length c21) (bytesV (acc ++ [UInt8.ofNat w]))]) rfl rfl ⟨p21, c21, by rw [hbl], rfl⟩ ?_
   show _ = [own 5 1 (.slice p21 (acc ++ [UInt8.ofNat w]).length c21) (bytesV (acc ++ [UInt8.ofNat w])), F]
   rw [hbl, ← bytesV_append]

def encB (bs : List UInt8) : List UInt8 := numB bs.length ++ bs

section
variable (G : Assn) (q : Option Addr) (e : Nat) (bs : List UInt8) (hs : SlR [G] 1 (.slice q bs.length e) (bytesV bs)) (hn : bs.length ≤ 70368744100000) (b : Nat)
include hs hn
theorem size_spec : FSpec Tryz.prog 52 [.slice (some ⟨b, 0, none⟩) 1 1] [pt b (.cells [.slice q bs.length e].toArray 25 (0, 0)), G] (fun v B => v = .int .i64 bs.length ∧ B = [pt b (.cells [.slice q bs.length e].toArray 25 (0, 0)), G]) := by
  refine FSpec.of Tryz.func52 rfl Tryz.ntmps52 rfl fun W0 F => ?_
  refine J.seq <| J.region <| J.p rfl (Q.asg rfl) <| J.nil <| J.then_n <| J.seq <| J.region <| J.p rfl (Q.asg rfl) <| J.nil <| J.then_n <| J.seq <| J.seq <| J.region <| J.m rfl <| J.p rfl (Q.lenSl Tryz.runUnderlying112 rfl) <| J.m rfl <| J.nil <| J.then_n <| J.block ?_
  refine J.loop2 (fun (i : Nat) (z : Int) => i ≤ 1 ∧ z = (if i = 0 then 0 else bs.length : Nat)) (fun i _ => 1 - i) (fun i z => [(3, .int .i64 z), (6, .slice (some ⟨b, 0, none⟩) 1 1), (7, .int .i64 1), (8, .int .i64 i)]) (fun _ _ => [pt b (.cells [.slice q bs.length e].toArray 25 (0, 0)), G, F]) 0 0 ⟨Nat.zero_le _, rfl⟩ ⟨rfl, rfl, rfl, rfl, trivial⟩ rfl fun i z hz => ?_
  obtain ⟨hi, hz⟩ := hz
  refine J.seq <| J.region <| J.p rfl (Q.lss rfl rfl) <| J.nil <| J.then_n <| J.seq ?_
  refine J.cases 9 rfl (fun hc9 => ?_) (fun hc9 => ?_)
  ·
   replace hc9 := X.nm hc9
   try (first | (cases hc9; done) | (exfalso; simp at hc9; done))
   all_goals
    refine J.cond_t rfl <| J.cskip <| J.then_n <| J.seq <| J.block <| J.seq ?_
    obtain rfl : i = 0 := by omega
    rw [if_pos rfl] at hz
    refine J.region <| J.p rfl (Q.ia Tryz.runUnderlying112 Tryz.sizeOf25 rfl rfl (by omega) (by omega)) ?_
    refine J.p rfl (Q.ld Tryz.isAgg25 rfl (rdI (by exact rfl))) ?_
    refine J.p rfl (Q.asg rfl) <| J.nil <| J.then_n <| J.region <| J.m rfl <| J.m rfl <| J.p rfl (Q.lenSl Tryz.runUnderlying25 rfl) <| J.p rfl (Q.add64 rfl rfl (by omega)) <| J.p rfl (Q.asg rfl) <| J.nil <| J.blk_n <| J.then_n <| J.region <| J.p rfl (Q.add64 rfl rfl (by omega)) <| J.m rfl <| J.nil ?_
    refine J.again (1, _) ⟨Nat.le_refl _, by show _ = ((if (1 : Nat) = 0 then 0 else bs.length : Nat) : Int); rw [if_neg (by decide), hz]; simp⟩ (by show 1 - 1 < 1 - 0; omega) ⟨rfl, rfl, rfl, rfl, trivial⟩ rfl
  replace hc9 := X.nm hc9
  try (first | (cases hc9; done) | (exfalso; simp at hc9; done))
  all_goals
   refine J.cond_f rfl <| J.exit <| J.then_x <| J.lp_x <| J.blk_x <| J.then_n <| J.seq <| J.region <| J.m rfl <| J.p rfl (Q.asg rfl) <| J.nil <| J.then_n <| J.cret ?_
   obtain rfl : i = 1 := by omega
   rw [if_neg (by decide)] at hz
   subst hz
   refine J.ret1 (B := [_, _]) rfl rfl ⟨rfl, rfl⟩ rfl

theorem bytes_spec (p : Option Addr) (c : Nat) (acc : List UInt8) (ha : acc.length ≤ 70368744100000) : FSpec Tryz.prog 21 [.slice p acc.length c, .slice (some ⟨b, 0, none⟩) 1 1] [own 5 1 (.slice p acc.length c) (bytesV acc), pt b (.cells [.slice q bs.length e].toArray 25 (0, 0)), G]
    (fun u B => ∃ p' c', u = .slice p' (acc ++ encB bs).length c' ∧ B = [own 5 1 (.slice p' (acc ++ encB bs).length c') (bytesV (acc ++ encB bs)), G]) := by
  refine FSpec.of Tryz.func21 rfl Tryz.ntmps21 rfl fun W0 F => ?_
  refine J.seq <| J.region <| J.p rfl (Q.asg rfl) <| J.nil <| J.then_n <| J.seq <| J.region <| J.m rfl <| J.m rfl ?_
  refine J.call Tryz.call52 (size_spec G q e bs hs hn b) [1, 2] rfl rfl rfl rfl ?_
  rintro _ _ ⟨rfl, rfl⟩
  refine J.norm rfl <| J.p rfl (Q.conv Tryz.runUnderlying3 Tryz.runUnderlying23 rfl) ?_
  refine J.slot 10 (.int .u64 (bs.length : Int)) rfl (by congr 1; exact wrap64 (by omega)) ?_
  refine J.call Tryz.call18 (number_spec p c acc bs.length (by omega) (by omega)) [2] rfl rfl rfl rfl ?_
  rintro _ _ ⟨p1, c1, rfl, rfl⟩
  refine J.norm rfl ?_
  have hnl := numB_len bs.length (by omega)
  refine J.p rfl (Q.asg rfl) <| J.nil <| J.then_n <| J.seq <| J.seq <| J.region <| J.m rfl <| J.p rfl (Q.lenSl Tryz.runUnderlying112 rfl) <| J.m rfl <| J.nil <| J.then_n <| J.block ?_
  refine J.loop3 (fun (i : Nat) (p' : Option Addr) (c' : Nat) => i ≤ 1) (fun i _ _ => 1 - i) (fun i p' c' => [(0, .slice p' (acc ++ numB bs.length ++ (if i = 0 then [] else bs)).length c'), (12, .slice (some ⟨b, 0, none⟩) 1 1), (13, .int .i64 1), (14, .int .i64 i)]) (fun i p' c' => [own 5 1 (.slice p' (acc ++ numB bs.length ++ (if i = 0 then [] else bs)).length c') (bytesV (acc ++ numB bs.length ++ (if i = 0 then [] else bs))), pt b (.cells [.slice q bs.length e].toArray 25 (0, 0)), G, F]) 0 p1 c1 (Nat.zero_le _) ⟨by rw [if_pos rfl, List.append_nil]; rfl, rfl, rfl, rfl, trivial⟩ (by rw [if_pos rfl, List.append_nil]) fun i p' c' hi => ?_
  refine J.seq <| J.region <| J.p rfl (Q.lss rfl rfl) <| J.nil <| J.then_n <| J.seq ?_
  refine J.cases 15 rfl (fun hc15 => ?_) (fun hc15 => ?_)
  ·
   replace hc15 := X.nm hc15
   try (first | (cases hc15; done) | (exfalso; simp at hc15; done))
   all_goals
    refine J.cond_t rfl <| J.cskip <| J.then_n <| J.seq <| J.block <| J.seq ?_
    obtain rfl : i = 0 := by omega
    rw [if_pos rfl, List.append_nil]
    refine J.region <| J.p rfl (Q.ia Tryz.runUnderlying112 Tryz.sizeOf25 rfl rfl (by omega) (by omega)) ?_
    refine J.p rfl (Q.ld Tryz.isAgg25 rfl (rdI (by exact rfl))) ?_
    refine J.p rfl (Q.asg rfl) <| J.nil <| J.then_n <| J.region <| J.m rfl <| J.m rfl ?_
    refine J.c rfl rfl (C.app (i := 0) Tryz.runUnderlying25 Tryz.runUnderlying25 Tryz.typeInfo5 Tryz.sizeOf5 Tryz.zeroValue5 rfl rfl rfl (hs.within (i := 2) rfl) (bytesV_one _) (by rw [show Tryz.t5.bytes = 1 from rfl, List.length_append]; omega) (by decide)) ?_
    rintro _ _ ⟨p2, c2, rfl, rfl⟩
    refine J.norm rfl <| J.p rfl (Q.asg rfl) <| J.nil <| J.blk_n <| J.then_n <| J.region <| J.p rfl (Q.add64 rfl rfl (by omega)) <| J.m rfl <| J.nil ?_
    refine J.again (1, p2, c2) (Nat.le_refl _) (by show 1 - 1 < 1 - 0; omega) ⟨(by show _ = some (Value.slice p2 (acc ++ numB bs.length ++ (if (1 : Nat) = 0 then [] else bs)).length c2); rw [if_neg (by decide), X.len_app (acc ++ numB bs.length)]; rfl), rfl, rfl, rfl, trivial⟩ ?_
    show _ = [own 5 1 (.slice p2 (acc ++ numB bs.length ++ (if (1 : Nat) = 0 then [] else bs)).length c2) (bytesV (acc ++ numB bs.length ++ (if (1 : Nat) = 0 then [] else bs))), _, _, _]
    rw [if_neg (by decide), X.len_app (acc ++ numB bs.length), ← bytesV_append (acc ++ numB bs.length) bs]
  replace hc15 := X.nm hc15
  try (first | (cases hc15; done) | (exfalso; simp at hc15; done))
  all_goals
   refine J.cond_f rfl <| J.exit <| J.then_x <| J.lp_x <| J.blk_x <| J.then_n <| J.seq ?_
   obtain rfl : i = 1 := by omega
   rw [if_neg (by decide), List.append_assoc]
   refine J.region <| J.m rfl <| J.p rfl (Q.asg rfl) <| J.nil <| J.then_n <| J.cret ?_
   refine J.keep [0, 2, 3] rfl ?_
   refine J.ret1 (B := [own 5 1 (.slice p' (acc ++ encB bs).length c') (bytesV (acc ++ encB bs)), G]) rfl rfl ⟨p', c', rfl, rfl⟩ rfl
end
end Go.Proofs.YtdancegklkifaaaGreat
namespace Go.Proofs.YtdancegklkifaaaGreat
set_option linter.unusedSectionVars false
set_option linter.unusedSimpArgs false
set_option linter.unusedVariables false
open Go.X
open Go.X.G (Ord3 ord3_nat ord3_int ord3_str ltB sget sput sdel Srtd MapAt MapHole Ent Ents edone eleft)

theorem keysItBk (bm r : Nat) (S0 : List (ByteArray × Objs)) : ItSpec Tryz.prog 51 [.pointer (some ⟨bm, 0, none⟩)] (fun x : ByteArray => [Value.string x]) [star [pt bm (.cells [.map (some r)].toArray 47 (0, 0)), MapAt Value.string bRep r S0]]
    (fun xs => xs.Perm (S0.map (·.1))) (fun pre _ => pre.length < S0.length) := by
  intro l Inv hY
  refine FSpec.of Tryz.func51 rfl Tryz.ntmps51 rfl fun W0 F => ?_
  refine J.seq ?_
  refine J.unpack 1 rfl rfl ?_
  refine J.open_ 1 rfl rfl (fun _ h => h) fun q hq => ?_
  refine J.norm rfl <| J.region ?_
  refine J.p rfl (Q.ld Tryz.isAgg47 rfl (rdI (by exact rfl))) ?_
  refine J.c rfl rfl (X.G.C.range (i := 0) Tryz.runUnderlying47 rfl rfl) ?_
  rintro _ _ ⟨b5, rfl, rfl⟩
  refine J.norm rfl <| J.nil <| J.then_n <| J.block ?_
  refine J.pick [0, 1, 2, 3, 4, 5] rfl ?_
  refine J.loop (fun z : List Nat × List ByteArray => z.2.Perm ((edone q.1 z.1).map (·.key))) (fun z => (eleft q.1 z.1).length) (fun z => [(0, .func (.yield l) #[] #[]), (5, .pointer (some ⟨b5, 0, none⟩))])
    (fun z => [pt b5 (X.G.miter r q.2 z.1), pt r (X.G.mobj Value.string (q.1.map Ent.m) q.2), star (q.1.map (Ent.asn bRep)), pt bm (.cells [.map (some r)].toArray 47 (0, 0)), Inv z.2, F])
    ([], []) (by simp [X.G.edone_nil]) ⟨rfl, rfl, trivial⟩ rfl fun z hz => ?_
  obtain ⟨seen, pre⟩ := z
  dsimp only at hz
  refine J.seq <| J.region ?_
  refine J.c rfl rfl (X.G.C.nextE (i := 0) (j := 1) hq rfl rfl rfl) ?_
  rintro _ _ ⟨t, rest, seen', rfl, rfl, hst⟩
  refine J.norm rfl <| J.p rfl (Q.ext rfl rfl) <| J.nil <| J.then_n <| J.seq ?_
  refine J.cases 7 rfl (fun hc7 => ?_) (fun hc7 => ?_)
  ·
   replace hc7 := X.nm hc7
   obtain ⟨e, he, rfl⟩ : ∃ e, e ∈ eleft q.1 seen ∧ seen' = seen ++ [e.born] := by rcases hst with ⟨h, _⟩ | ⟨_, h⟩; exact absurd hc7 (by rw [h]; decide); exact h
   refine J.cond_t rfl <| J.cskip <| J.then_n <| J.block <| J.seq <| J.region ?_
   have hstep := X.G.estep hq.born he
   have hlt : pre.length < S0.length := by
     have h1 := hstep.1.length_eq
     have h2 : (edone q.1 (seen ++ [e.born])).length ≤ q.1.length := List.length_filter_le _ _
     have h3 := hz.length_eq
     have h4 := hq.len
     simp only [List.length_cons, List.length_map] at h1 h3
     omega
   have hnx : (pre ++ [e.key]).Perm ((edone q.1 (seen ++ [e.born])).map (·.key)) := by
     refine (List.perm_append_singleton _ _).trans ?_
     refine (hz.cons e.key).trans ?_
     exact (hstep.1.map (·.key)).symm
   refine J.p rfl (X.G.Q.entryE (i := 0) (j := 1) hq he rfl rfl rfl) ?_
   refine J.p rfl (Q.ext rfl rfl) <| J.p rfl (Q.asg rfl) <| J.nil <| J.then_n <| J.seq ?_
   refine J.regionY ?_
   refine JI.q rfl rfl (fun _ e => nomatch e) (Q.mv rfl) ?_
   refine JI.q rfl rfl (fun _ e => nomatch e) (Q.mv rfl) ?_
   refine JI.yield (hY pre e.key hlt) [4] rfl rfl rfl rfl rfl ?_
   rintro _ _ ⟨rfl, rfl⟩
   refine J.norm rfl ?_
   refine JI.q rfl rfl (fun _ e => nomatch e) (Q.not rfl) ?_
   refine JI.nil ?_
   refine JI.out ?_
   refine J.then_n ?_
   refine J.cases 13 rfl (fun hc13 => ?_) (fun hc13 => ?_)
   ·
    cases hc13
   replace hc13 := X.nm hc13
   refine J.cond_f rfl <| J.cskip <| J.blk_n ?_
   refine J.pick [1, 2, 3, 4, 0, 5] rfl ?_
   refine J.again (seen ++ [e.born], pre ++ [e.key]) hnx hstep.2 ⟨rfl, rfl, trivial⟩ rfl
  replace hc7 := X.nm hc7
  obtain ⟨hall, rfl⟩ : edone q.1 seen = q.1 ∧ seen' = seen := by rcases hst with ⟨_, h⟩ | ⟨h, _⟩; exact h; exact absurd hc7 (by rw [h]; decide)
  refine J.cond_f rfl <| J.exit <| J.then_x <| J.lp_x <| J.blk_x ?_
  rw [hall] at hz
  have hfin : pre.Perm (S0.map (·.1)) := by
    refine hz.trans ?_
    have := hq.perm.map (·.1)
    rw [List.map_map] at this
    exact this
  refine J.shut [1, 2] (MapAt Value.string bRep r S0) rfl (fun h s => ⟨q, hq, s⟩) ?_
  refine J.pick [2, 0, 1, 3, 4] rfl ?_
  refine J.pack [0, 1] rfl ?_
  refine J.keep [2, 0, 3] rfl ?_
  refine J.end0 (B := [Inv pre, _]) rfl ⟨pre, hfin, rfl⟩ rfl

theorem keysBk (r : Option Nat) : FSpec Tryz.prog 20 [.map r] [] (fun v B => ∃ bm, v = .func (.func 51) #[] #[.pointer (some ⟨bm, 0, none⟩)] ∧ B = [pt bm (.cells [.map r].toArray 47 (0, 0))]) := by
  refine FSpec.of Tryz.func20 rfl Tryz.ntmps20 rfl fun W0 F => ?_
  refine J.seq <| J.region ?_
  refine J.c rfl rfl (C.box (l := [_]) rfl rfl) ?_
  rintro _ _ ⟨b1, rfl, rfl⟩
  refine J.norm rfl <| J.p rfl (Q.asg rfl) <| J.nil <| J.then_n <| J.seq <| J.region <| J.p rfl (Q.func rfl rfl) <| J.p rfl (Q.asg rfl) <| J.nil <| J.then_n <| J.cret ?_
  refine J.keep [0, 1] rfl ?_
  refine J.ret1 (B := [_]) rfl rfl ⟨_, rfl, rfl⟩ rfl

theorem sortedBk (bm r : Nat) (S0 : List (ByteArray × Objs)) (hS : Srtd ltB S0) (hl : S0.length ≤ 32768) : FSpec Tryz.prog 19 [.func (.func 51) #[] #[.pointer (some ⟨bm, 0, none⟩)]] [pt bm (.cells [.map (some r)].toArray 47 (0, 0)), MapAt Value.string bRep r S0]
    (fun v B => ∃ (p : Option Addr) (c : Nat), v = .slice p S0.length c ∧ B = [own 9 1 (.slice p S0.length c) ((S0.map (·.1)).map Value.string), pt bm (.cells [.map (some r)].toArray 47 (0, 0)), MapAt Value.string bRep r S0]) := by
  have h := sortedS 51 [.pointer (some ⟨bm, 0, none⟩)] _ (S0.map (·.1)) _ Tryz.call51 (keysItBk bm r S0) (fun pre _ h => by omega) (by rw [List.length_map]; omega)
  refine h.conv (fun k s => HSat.pack (Bs := []) (by simpa using s)) ?_
  rintro v B' ⟨p, c, rfl, rfl⟩
  rw [List.length_map, srtS hS]
  refine ⟨_, ⟨p, c, rfl, rfl⟩, fun k s => ?_⟩
  exact HSat.under s fun _ s => HSat.unpack (Bs := []) s
end Go.Proofs.YtdancegklkifaaaGreat
namespace Go.Proofs.YtdancegklkifaaaGreat
set_option linter.unusedSectionVars false
set_option linter.unusedSimpArgs false
set_option linter.unusedVariables false
open Go.X
open Go.X.G (Ord3 ord3_nat ord3_int ord3_str ltB sget sput sdel Srtd MapAt MapHole Ent Ents edone eleft)

theorem keysItUp (bm r : Nat) (S0 : List (Nat × UM)) : ItSpec Tryz.prog 56 [.pointer (some ⟨bm, 0, none⟩)] (fun x : Nat => [encU x]) [star [pt bm (.cells [.map (some r)].toArray 48 (0, 0)), MapAt encU uRep r S0]]
    (fun xs => xs.Perm (S0.map (·.1))) (fun pre _ => pre.length < S0.length) := by
  intro l Inv hY
  refine FSpec.of Tryz.func56 rfl Tryz.ntmps56 rfl fun W0 F => ?_
  refine J.seq ?_
  refine J.unpack 1 rfl rfl ?_
  refine J.open_ 1 rfl rfl (fun _ h => h) fun q hq => ?_
  refine J.norm rfl <| J.region ?_
  refine J.p rfl (Q.ld Tryz.isAgg48 rfl (rdI (by exact rfl))) ?_
  refine J.c rfl rfl (X.G.C.range (i := 0) Tryz.runUnderlying48 rfl rfl) ?_
  rintro _ _ ⟨b5, rfl, rfl⟩
  refine J.norm rfl <| J.nil <| J.then_n <| J.block ?_
  refine J.pick [0, 1, 2, 3, 4, 5] rfl ?_
  refine J.loop (fun z : List Nat × List Nat => z.2.Perm ((edone q.1 z.1).map (·.key))) (fun z => (eleft q.1 z.1).length) (fun z => [(0, .func (.yield l) #[] #[]), (5, .pointer (some ⟨b5, 0, none⟩))])
    (fun z => [pt b5 (X.G.miter r q.2 z.1), pt r (X.G.mobj encU (q.1.map Ent.m) q.2), star (q.1.map (Ent.asn uRep)), pt bm (.cells [.map (some r)].toArray 48 (0, 0)), Inv z.2, F])
    ([], []) (by simp [X.G.edone_nil]) ⟨rfl, rfl, trivial⟩ rfl fun z hz => ?_
  obtain ⟨seen, pre⟩ := z
  dsimp only at hz
  refine J.seq <| J.region ?_
  refine J.c rfl rfl (X.G.C.nextE (i := 0) (j := 1) hq rfl rfl rfl) ?_
  rintro _ _ ⟨t, rest, seen', rfl, rfl, hst⟩
  refine J.norm rfl <| J.p rfl (Q.ext rfl rfl) <| J.nil <| J.then_n <| J.seq ?_
  refine J.cases 7 rfl (fun hc7 => ?_) (fun hc7 => ?_)
  ·
   replace hc7 := X.nm hc7
   obtain ⟨e, he, rfl⟩ : ∃ e, e ∈ eleft q.1 seen ∧ seen' = seen ++ [e.born] := by rcases hst with ⟨h, _⟩ | ⟨_, h⟩; exact absurd hc7 (by rw [h]; decide); exact h
   refine J.cond_t rfl <| J.cskip <| J.then_n <| J.block <| J.seq <| J.region ?_
   have hstep := X.G.estep hq.born he
   have hlt : pre.length < S0.length := by
     have h1 := hstep.1.length_eq
     have h2 : (edone q.1 (seen ++ [e.born])).length ≤ q.1.length := List.length_filter_le _ _
     have h3 := hz.length_eq
     have h4 := hq.len
     simp only [List.length_cons, List.length_map] at h1 h3
     omega
   have hnx : (pre ++ [e.key]).Perm ((edone q.1 (seen ++ [e.born])).map (·.key)) := by
     refine (List.perm_append_singleton _ _).trans ?_
     refine (hz.cons e.key).trans ?_
     exact (hstep.1.map (·.key)).symm
   refine J.p rfl (X.G.Q.entryE (i := 0) (j := 1) hq he rfl rfl rfl) ?_
   refine J.p rfl (Q.ext rfl rfl) <| J.p rfl (Q.asg rfl) <| J.nil <| J.then_n <| J.seq ?_
   refine J.regionY ?_
   refine JI.q rfl rfl (fun _ e => nomatch e) (Q.mv rfl) ?_
   refine JI.q rfl rfl (fun _ e => nomatch e) (Q.mv rfl) ?_
   refine JI.yield (hY pre e.key hlt) [4] rfl rfl rfl rfl rfl ?_
   rintro _ _ ⟨rfl, rfl⟩
   refine J.norm rfl ?_
   refine JI.q rfl rfl (fun _ e => nomatch e) (Q.not rfl) ?_
   refine JI.nil ?_
   refine JI.out ?_
   refine J.then_n ?_
   refine J.cases 13 rfl (fun hc13 => ?_) (fun hc13 => ?_)
   ·
    cases hc13
   replace hc13 := X.nm hc13
   refine J.cond_f rfl <| J.cskip <| J.blk_n ?_
   refine J.pick [1, 2, 3, 4, 0, 5] rfl ?_
   refine J.again (seen ++ [e.born], pre ++ [e.key]) hnx hstep.2 ⟨rfl, rfl, trivial⟩ rfl
  replace hc7 := X.nm hc7
  obtain ⟨hall, rfl⟩ : edone q.1 seen = q.1 ∧ seen' = seen := by rcases hst with ⟨_, h⟩ | ⟨h, _⟩; exact h; exact absurd hc7 (by rw [h]; decide)
  refine J.cond_f rfl <| J.exit <| J.then_x <| J.lp_x <| J.blk_x ?_
  rw [hall] at hz
  have hfin : pre.Perm (S0.map (·.1)) := by
    refine hz.trans ?_
    have := hq.perm.map (·.1)
    rw [List.map_map] at this
    exact this
  refine J.shut [1, 2] (MapAt encU uRep r S0) rfl (fun h s => ⟨q, hq, s⟩) ?_
  refine J.pick [2, 0, 1, 3, 4] rfl ?_
  refine J.pack [0, 1] rfl ?_
  refine J.keep [2, 0, 3] rfl ?_
  refine J.end0 (B := [Inv pre, _]) rfl ⟨pre, hfin, rfl⟩ rfl

theorem keysUp (r : Option Nat) : FSpec Tryz.prog 24 [.map r] [] (fun v B => ∃ bm, v = .func (.func 56) #[] #[.pointer (some ⟨bm, 0, none⟩)] ∧ B = [pt bm (.cells [.map r].toArray 48 (0, 0))]) := by
  refine FSpec.of Tryz.func24 rfl Tryz.ntmps24 rfl fun W0 F => ?_
  refine J.seq <| J.region ?_
  refine J.c rfl rfl (C.box (l := [_]) rfl rfl) ?_
  rintro _ _ ⟨b1, rfl, rfl⟩
  refine J.norm rfl <| J.p rfl (Q.asg rfl) <| J.nil <| J.then_n <| J.seq <| J.region <| J.p rfl (Q.func rfl rfl) <| J.p rfl (Q.asg rfl) <| J.nil <| J.then_n <| J.cret ?_
  refine J.keep [0, 1] rfl ?_
  refine J.ret1 (B := [_]) rfl rfl ⟨_, rfl, rfl⟩ rfl

theorem sortedUp (bm r : Nat) (S0 : List (Nat × UM)) (hS : Srtd ltN S0) (hl : S0.length ≤ 32768) : FSpec Tryz.prog 23 [.func (.func 56) #[] #[.pointer (some ⟨bm, 0, none⟩)]] [pt bm (.cells [.map (some r)].toArray 48 (0, 0)), MapAt encU uRep r S0]
    (fun v B => ∃ (p : Option Addr) (c : Nat), v = .slice p S0.length c ∧ B = [own 23 1 (.slice p S0.length c) ((S0.map (·.1)).map encU), pt bm (.cells [.map (some r)].toArray 48 (0, 0)), MapAt encU uRep r S0]) := by
  have h := sortedU 56 [.pointer (some ⟨bm, 0, none⟩)] _ (S0.map (·.1)) _ Tryz.call56 (keysItUp bm r S0) (fun pre _ h => by omega) (by rw [List.length_map]; omega)
  refine h.conv (fun k s => HSat.pack (Bs := []) (by simpa using s)) ?_
  rintro v B' ⟨p, c, rfl, rfl⟩
  rw [List.length_map, srtU hS]
  refine ⟨_, ⟨p, c, rfl, rfl⟩, fun k s => ?_⟩
  exact HSat.under s fun _ s => HSat.unpack (Bs := []) s
end Go.Proofs.YtdancegklkifaaaGreat
namespace Go.Proofs.YtdancegklkifaaaGreat
set_option linter.unusedSectionVars false
set_option linter.unusedSimpArgs false
set_option linter.unusedVariables false
open Go.X
open Go.X.G (Ord3 ord3_nat ord3_int ord3_str ltB sget sput sdel Srtd MapAt MapHole Ent Ents edone eleft)

theorem keysItDn (bm r : Nat) (S0 : List (Nat × RM)) : ItSpec Tryz.prog 60 [.pointer (some ⟨bm, 0, none⟩)] (fun x : Nat => [encU x]) [star [pt bm (.cells [.map (some r)].toArray 49 (0, 0)), MapAt encU dRep r S0]]
    (fun xs => xs.Perm (S0.map (·.1))) (fun pre _ => pre.length < S0.length) := by
  intro l Inv hY
  refine FSpec.of Tryz.func60 rfl Tryz.ntmps60 rfl fun W0 F => ?_
  refine J.seq ?_
  refine J.unpack 1 rfl rfl ?_
  refine J.open_ 1 rfl rfl (fun _ h => h) fun q hq => ?_
  refine J.norm rfl <| J.region ?_
  refine J.p rfl (Q.ld Tryz.isAgg49 rfl (rdI (by exact rfl))) ?_
  refine J.c rfl rfl (X.G.C.range (i := 0) Tryz.runUnderlying49 rfl rfl) ?_
  rintro _ _ ⟨b5, rfl, rfl⟩
  refine J.norm rfl <| J.nil <| J.then_n <| J.block ?_
  refine J.pick [0, 1, 2, 3, 4, 5] rfl ?_
  refine J.loop (fun z : List Nat × List Nat => z.2.Perm ((edone q.1 z.1).map (·.key))) (fun z => (eleft q.1 z.1).length) (fun z => [(0, .func (.yield l) #[] #[]), (5, .pointer (some ⟨b5, 0, none⟩))])
    (fun z => [pt b5 (X.G.miter r q.2 z.1), pt r (X.G.mobj encU (q.1.map Ent.m) q.2), star (q.1.map (Ent.asn dRep)), pt bm (.cells [.map (some r)].toArray 49 (0, 0)), Inv z.2, F])
    ([], []) (by simp [X.G.edone_nil]) ⟨rfl, rfl, trivial⟩ rfl fun z hz => ?_
  obtain ⟨seen, pre⟩ := z
  dsimp only at hz
  refine J.seq <| J.region ?_
  refine J.c rfl rfl (X.G.C.nextE (i := 0) (j := 1) hq rfl rfl rfl) ?_
  rintro _ _ ⟨t, rest, seen', rfl, rfl, hst⟩
  refine J.norm rfl <| J.p rfl (Q.ext rfl rfl) <| J.nil <| J.then_n <| J.seq ?_
  refine J.cases 7 rfl (fun hc7 => ?_) (fun hc7 => ?_)
  ·
   replace hc7 := X.nm hc7
   obtain ⟨e, he, rfl⟩ : ∃ e, e ∈ eleft q.1 seen ∧ seen' = seen ++ [e.born] := by rcases hst with ⟨h, _⟩ | ⟨_, h⟩; exact absurd hc7 (by rw [h]; decide); exact h
   refine J.cond_t rfl <| J.cskip <| J.then_n <| J.block <| J.seq <| J.region ?_
   have hstep := X.G.estep hq.born he
   have hlt : pre.length < S0.length := by
     have h1 := hstep.1.length_eq
     have h2 : (edone q.1 (seen ++ [e.born])).length ≤ q.1.length := List.length_filter_le _ _
     have h3 := hz.length_eq
     have h4 := hq.len
     simp only [List.length_cons, List.length_map] at h1 h3
     omega
   have hnx : (pre ++ [e.key]).Perm ((edone q.1 (seen ++ [e.born])).map (·.key)) := by
     refine (List.perm_append_singleton _ _).trans ?_
     refine (hz.cons e.key).trans ?_
     exact (hstep.1.map (·.key)).symm
   refine J.p rfl (X.G.Q.entryE (i := 0) (j := 1) hq he rfl rfl rfl) ?_
   refine J.p rfl (Q.ext rfl rfl) <| J.p rfl (Q.asg rfl) <| J.nil <| J.then_n <| J.seq ?_
   refine J.regionY ?_
   refine JI.q rfl rfl (fun _ e => nomatch e) (Q.mv rfl) ?_
   refine JI.q rfl rfl (fun _ e => nomatch e) (Q.mv rfl) ?_
   refine JI.yield (hY pre e.key hlt) [4] rfl rfl rfl rfl rfl ?_
   rintro _ _ ⟨rfl, rfl⟩
   refine J.norm rfl ?_
   refine JI.q rfl rfl (fun _ e => nomatch e) (Q.not rfl) ?_
   refine JI.nil ?_
   refine JI.out ?_
   refine J.then_n ?_
   refine J.cases 13 rfl (fun hc13 => ?_) (fun hc13 => ?_)
   ·
    cases hc13
   replace hc13 := X.nm hc13
   refine J.cond_f rfl <| J.cskip <| J.blk_n ?_
   refine J.pick [1, 2, 3, 4, 0, 5] rfl ?_
   refine J.again (seen ++ [e.born], pre ++ [e.key]) hnx hstep.2 ⟨rfl, rfl, trivial⟩ rfl
  replace hc7 := X.nm hc7
  obtain ⟨hall, rfl⟩ : edone q.1 seen = q.1 ∧ seen' = seen := by rcases hst with ⟨_, h⟩ | ⟨h, _⟩; exact h; exact absurd hc7 (by rw [h]; decide)
  refine J.cond_f rfl <| J.exit <| J.then_x <| J.lp_x <| J.blk_x ?_
  rw [hall] at hz
  have hfin : pre.Perm (S0.map (·.1)) := by
    refine hz.trans ?_
    have := hq.perm.map (·.1)
    rw [List.map_map] at this
    exact this
  refine J.shut [1, 2] (MapAt encU dRep r S0) rfl (fun h s => ⟨q, hq, s⟩) ?_
  refine J.pick [2, 0, 1, 3, 4] rfl ?_
  refine J.pack [0, 1] rfl ?_
  refine J.keep [2, 0, 3] rfl ?_
  refine J.end0 (B := [Inv pre, _]) rfl ⟨pre, hfin, rfl⟩ rfl

theorem keysDn (r : Option Nat) : FSpec Tryz.prog 27 [.map r] [] (fun v B => ∃ bm, v = .func (.func 60) #[] #[.pointer (some ⟨bm, 0, none⟩)] ∧ B = [pt bm (.cells [.map r].toArray 49 (0, 0))]) := by
  refine FSpec.of Tryz.func27 rfl Tryz.ntmps27 rfl fun W0 F => ?_
  refine J.seq <| J.region ?_
  refine J.c rfl rfl (C.box (l := [_]) rfl rfl) ?_
  rintro _ _ ⟨b1, rfl, rfl⟩
  refine J.norm rfl <| J.p rfl (Q.asg rfl) <| J.nil <| J.then_n <| J.seq <| J.region <| J.p rfl (Q.func rfl rfl) <| J.p rfl (Q.asg rfl) <| J.nil <| J.then_n <| J.cret ?_
  refine J.keep [0, 1] rfl ?_
  refine J.ret1 (B := [_]) rfl rfl ⟨_, rfl, rfl⟩ rfl

theorem sortedDn (bm r : Nat) (S0 : List (Nat × RM)) (hS : Srtd ltN S0) (hl : S0.length ≤ 32768) : FSpec Tryz.prog 23 [.func (.func 60) #[] #[.pointer (some ⟨bm, 0, none⟩)]] [pt bm (.cells [.map (some r)].toArray 49 (0, 0)), MapAt encU dRep r S0]
    (fun v B => ∃ (p : Option Addr) (c : Nat), v = .slice p S0.length c ∧ B = [own 23 1 (.slice p S0.length c) ((S0.map (·.1)).map encU), pt bm (.cells [.map (some r)].toArray 49 (0, 0)), MapAt encU dRep r S0]) := by
  have h := sortedU 60 [.pointer (some ⟨bm, 0, none⟩)] _ (S0.map (·.1)) _ Tryz.call60 (keysItDn bm r S0) (fun pre _ h => by omega) (by rw [List.length_map]; omega)
  refine h.conv (fun k s => HSat.pack (Bs := []) (by simpa using s)) ?_
  rintro v B' ⟨p, c, rfl, rfl⟩
  rw [List.length_map, srtU hS]
  refine ⟨_, ⟨p, c, rfl, rfl⟩, fun k s => ?_⟩
  exact HSat.under s fun _ s => HSat.unpack (Bs := []) s
end Go.Proofs.YtdancegklkifaaaGreat
namespace Go.Proofs.YtdancegklkifaaaGreat
set_option linter.unusedSectionVars false
set_option linter.unusedSimpArgs false
set_option linter.unusedVariables false
open Go.X
open Go.X.G (Ord3 ord3_nat ord3_int ord3_str ltB sget sput sdel Srtd MapAt MapHole Ent Ents edone eleft)

theorem keysItPt (bm r : Nat) (S0 : List (Int × (List UInt8))) : ItSpec Tryz.prog 59 [.pointer (some ⟨bm, 0, none⟩)] (fun x : Int => [(Value.int .i64) x]) [star [pt bm (.cells [.map (some r)].toArray 66 (0, 0)), MapAt (Value.int .i64) datRep r S0]]
    (fun xs => xs.Perm (S0.map (·.1))) (fun pre _ => pre.length < S0.length) := by
  intro l Inv hY
  refine FSpec.of Tryz.func59 rfl Tryz.ntmps59 rfl fun W0 F => ?_
  refine J.seq ?_
  refine J.unpack 1 rfl rfl ?_
  refine J.open_ 1 rfl rfl (fun _ h => h) fun q hq => ?_
  refine J.norm rfl <| J.region ?_
  refine J.p rfl (Q.ld Tryz.isAgg66 rfl (rdI (by exact rfl))) ?_
  refine J.c rfl rfl (X.G.C.range (i := 0) Tryz.runUnderlying66 rfl rfl) ?_
  rintro _ _ ⟨b5, rfl, rfl⟩
  refine J.norm rfl <| J.nil <| J.then_n <| J.block ?_
  refine J.pick [0, 1, 2, 3, 4, 5] rfl ?_
  refine J.loop (fun z : List Nat × List Int => z.2.Perm ((edone q.1 z.1).map (·.key))) (fun z => (eleft q.1 z.1).length) (fun z => [(0, .func (.yield l) #[] #[]), (5, .pointer (some ⟨b5, 0, none⟩))])
    (fun z => [pt b5 (X.G.miter r q.2 z.1), pt r (X.G.mobj (Value.int .i64) (q.1.map Ent.m) q.2), star (q.1.map (Ent.asn datRep)), pt bm (.cells [.map (some r)].toArray 66 (0, 0)), Inv z.2, F])
    ([], []) (by simp [X.G.edone_nil]) ⟨rfl, rfl, trivial⟩ rfl fun z hz => ?_
  obtain ⟨seen, pre⟩ := z
  dsimp only at hz
  refine J.seq <| J.region ?_
  refine J.c rfl rfl (X.G.C.nextE (i := 0) (j := 1) hq rfl rfl rfl) ?_
  rintro _ _ ⟨t, rest, seen', rfl, rfl, hst⟩
  refine J.norm rfl <| J.p rfl (Q.ext rfl rfl) <| J.nil <| J.then_n <| J.seq ?_
  refine J.cases 7 rfl (fun hc7 => ?_) (fun hc7 => ?_)
  ·
   replace hc7 := X.nm hc7
   obtain ⟨e, he, rfl⟩ : ∃ e, e ∈ eleft q.1 seen ∧ seen' = seen ++ [e.born] := by rcases hst with ⟨h, _⟩ | ⟨_, h⟩; exact absurd hc7 (by rw [h]; decide); exact h
   refine J.cond_t rfl <| J.cskip <| J.then_n <| J.block <| J.seq <| J.region ?_
   have hstep := X.G.estep hq.born he
   have hlt : pre.length < S0.length := by
     have h1 := hstep.1.length_eq
     have h2 : (edone q.1 (seen ++ [e.born])).length ≤ q.1.length := List.length_filter_le _ _
     have h3 := hz.length_eq
     have h4 := hq.len
     simp only [List.length_cons, List.length_map] at h1 h3
     omega
   have hnx : (pre ++ [e.key]).Perm ((edone q.1 (seen ++ [e.born])).map (·.key)) := by
     refine (List.perm_append_singleton _ _).trans ?_
     refine (hz.cons e.key).trans ?_
     exact (hstep.1.map (·.key)).symm
   refine J.p rfl (X.G.Q.entryE (i := 0) (j := 1) hq he rfl rfl rfl) ?_
   refine J.p rfl (Q.ext rfl rfl) <| J.p rfl (Q.asg rfl) <| J.nil <| J.then_n <| J.seq ?_
   refine J.regionY ?_
   refine JI.q rfl rfl (fun _ e => nomatch e) (Q.mv rfl) ?_
   refine JI.q rfl rfl (fun _ e => nomatch e) (Q.mv rfl) ?_
   refine JI.yield (hY pre e.key hlt) [4] rfl rfl rfl rfl rfl ?_
   rintro _ _ ⟨rfl, rfl⟩
   refine J.norm rfl ?_
   refine JI.q rfl rfl (fun _ e => nomatch e) (Q.not rfl) ?_
   refine JI.nil ?_
   refine JI.out ?_
   refine J.then_n ?_
   refine J.cases 13 rfl (fun hc13 => ?_) (fun hc13 => ?_)
   ·
    cases hc13
   replace hc13 := X.nm hc13
   refine J.cond_f rfl <| J.cskip <| J.blk_n ?_
   refine J.pick [1, 2, 3, 4, 0, 5] rfl ?_
   refine J.again (seen ++ [e.born], pre ++ [e.key]) hnx hstep.2 ⟨rfl, rfl, trivial⟩ rfl
  replace hc7 := X.nm hc7
  obtain ⟨hall, rfl⟩ : edone q.1 seen = q.1 ∧ seen' = seen := by rcases hst with ⟨_, h⟩ | ⟨h, _⟩; exact h; exact absurd hc7 (by rw [h]; decide)
  refine J.cond_f rfl <| J.exit <| J.then_x <| J.lp_x <| J.blk_x ?_
  rw [hall] at hz
  have hfin : pre.Perm (S0.map (·.1)) := by
    refine hz.trans ?_
    have := hq.perm.map (·.1)
    rw [List.map_map] at this
    exact this
  refine J.shut [1, 2] (MapAt (Value.int .i64) datRep r S0) rfl (fun h s => ⟨q, hq, s⟩) ?_
  refine J.pick [2, 0, 1, 3, 4] rfl ?_
  refine J.pack [0, 1] rfl ?_
  refine J.keep [2, 0, 3] rfl ?_
  refine J.end0 (B := [Inv pre, _]) rfl ⟨pre, hfin, rfl⟩ rfl

theorem keysPt (r : Option Nat) : FSpec Tryz.prog 26 [.map r] [] (fun v B => ∃ bm, v = .func (.func 59) #[] #[.pointer (some ⟨bm, 0, none⟩)] ∧ B = [pt bm (.cells [.map r].toArray 66 (0, 0))]) := by
  refine FSpec.of Tryz.func26 rfl Tryz.ntmps26 rfl fun W0 F => ?_
  refine J.seq <| J.region ?_
  refine J.c rfl rfl (C.box (l := [_]) rfl rfl) ?_
  rintro _ _ ⟨b1, rfl, rfl⟩
  refine J.norm rfl <| J.p rfl (Q.asg rfl) <| J.nil <| J.then_n <| J.seq <| J.region <| J.p rfl (Q.func rfl rfl) <| J.p rfl (Q.asg rfl) <| J.nil <| J.then_n <| J.cret ?_
  refine J.keep [0, 1] rfl ?_
  refine J.ret1 (B := [_]) rfl rfl ⟨_, rfl, rfl⟩ rfl

theorem sortedPt (bm r : Nat) (S0 : List (Int × (List UInt8))) (hS : Srtd ltI S0) (hl : S0.length ≤ 32768) : FSpec Tryz.prog 25 [.func (.func 59) #[] #[.pointer (some ⟨bm, 0, none⟩)]] [pt bm (.cells [.map (some r)].toArray 66 (0, 0)), MapAt (Value.int .i64) datRep r S0]
    (fun v B => ∃ (p : Option Addr) (c : Nat), v = .slice p S0.length c ∧ B = [own 3 1 (.slice p S0.length c) ((S0.map (·.1)).map (Value.int .i64)), pt bm (.cells [.map (some r)].toArray 66 (0, 0)), MapAt (Value.int .i64) datRep r S0]) := by
  have h := sortedI 59 [.pointer (some ⟨bm, 0, none⟩)] _ (S0.map (·.1)) _ Tryz.call59 (keysItPt bm r S0) (fun pre _ h => by omega) (by rw [List.length_map]; omega)
  refine h.conv (fun k s => HSat.pack (Bs := []) (by simpa using s)) ?_
  rintro v B' ⟨p, c, rfl, rfl⟩
  rw [List.length_map, srtI hS]
  refine ⟨_, ⟨p, c, rfl, rfl⟩, fun k s => ?_⟩
  exact HSat.under s fun _ s => HSat.unpack (Bs := []) s
end Go.Proofs.YtdancegklkifaaaGreat

