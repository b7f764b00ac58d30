/-
  JudgeDoubles: an op that is committed twice, and answered by its second commit as by its first, has no fault. For arguments of bulk at most 1048576.
-/
import Derived.JoinedCond
import Derived.Test.YtidbcaimgahllaaGreatNb5
namespace Go.Proofs.YtidbcaimgahllaaGreat
set_option linter.unusedSectionVars false
set_option linter.unusedSimpArgs false
set_option linter.unusedVariables false
open Go.X
open Go.X.G (Ord3 ord3_nat ord3_int ord3_str ltB sget sput sdel Srtd MapAt MapHole valRep)

def dOp (o : OM) : DM := ⟨o, false, false⟩
theorem play_inv : ∀ (l : List SM) {k : Nat} {z : PS}, z.M.inv k → (∀ s, s ∈ l → s.o.data.length ≤ 131072 ∧ s.o.id ≤ U64) → (l.foldl PS.step z).M.inv (k + l.length)
  | [], _, _, h, _ => h
  | s :: l, k, z, h, hs => by
    have h1 := hs s List.mem_cons_self
    have hstep : (z.step s).M.inv (k + 1) := by
      unfold PS.step
      split
      · exact ⟨h.ok.mono (Nat.le_succ k), h.kok, h.fit.mono (Nat.le_succ k), h.kin⟩
      · exact h.run h1.1 h1.2
    have := play_inv l hstep fun t ht => hs t (List.mem_cons_of_mem _ ht)
    rw [List.foldl_cons, List.length_cons, show k + (l.length + 1) = k + 1 + l.length by omega]; exact this
theorem playP_inv {l : List SM} (hs : ∀ s, s ∈ l → s.o.data.length ≤ 131072 ∧ s.o.id ≤ U64) : (playP l).M.inv l.length := by
  have := play_inv l (k := 0) (z := ⟨⟨[], [], []⟩, [], []⟩) inv_new hs
  rwa [Nat.zero_add] at this

end Go.Proofs.YtidbcaimgahllaaGreat
namespace Go.Proofs.YtidbcaimgahllaaGreat
set_option linter.unusedSectionVars false
set_option linter.unusedSimpArgs false
set_option linter.unusedVariables false
open Go.X
open Go.X.G (Ord3 ord3_nat ord3_int ord3_str ltB sget sput sdel Srtd MapAt MapHole valRep sget_put)

abbrev comB (p : Option Addr) (c : Nat) (l ows : List CW) : Assn := star [own 56 2 (.slice p l.length c) (l.flatMap CW.cells), star (ows.map CW.asn)]
theorem comsB {p : Option Addr} {c : Nat} {l ows : List CW} {ds : List DM} (hs : l.length ≤ 32768) (hd : ∀ (i : Nat) (x : CW), l[i]? = some x → ∃ d, ds[i]? = some d ∧ DecIs x.bs d) (hdl : ds.length = l.length) (hb : ∀ x, x ∈ l → x.bs.length ≤ 1099511627776)
    (ho : ∀ x, x ∈ l → ∃ w, w ∈ ows ∧ x.p = w.p ∧ x.c = w.c ∧ x.bs = w.bs) : ∀ h, comB p c l ows h → Coms (comB p c l ows) p c l ds := by
  intro h hh
  have hh' : HSat h [own 56 2 (.slice p l.length c) (l.flatMap CW.cells), star (ows.map CW.asn)] := hh
  obtain ⟨h1, h2, a, ⟨k1, k2, b, _, _, _, _⟩, _, _, _⟩ := hh'
  refine ⟨(own.slr (i := 0) rfl ⟨h1, X.G.HSat.one a⟩ : SlR [own 56 2 _ _] 2 _ _).into 0 rfl, fun x hx => ?_, hs, hd, hdl⟩
  obtain ⟨w, hw, e1, e2, e3⟩ := ho x hx
  obtain ⟨i, hi⟩ := List.getElem?_of_mem hw
  have s1 : HSat k1 (w.asn :: (ows.eraseIdx i).map CW.asn) := HSat.perm (perm_focus CW.asn hi) b
  obtain ⟨j1, j2, q, _⟩ := s1
  have hsl : SlR [w.asn] 1 (.slice w.p w.bs.length w.c) (bytesV w.bs) := own.slr (i := 0) rfl ⟨j1, X.G.HSat.one q⟩
  have := hb x hx
  rw [e1, e2]
  rw [e3] at this ⊢
  exact ⟨(hsl.into i (by rw [List.getElem?_map, hi]; rfl)).into 1 rfl, this, (own.len _ q).2⟩

theorem cmts_snoc (S : List SG) (s : SG) : cmts (S ++ [s]) = cmts S ++ s.com := by simp [cmts]
theorem cmts_le (S : List SG) : (cmts S).length ≤ 2 * S.length := by
  induction S with
  | nil => simp [cmts]
  | cons s S ih =>
    have h : cmts (s :: S) = s.com ++ cmts S := rfl
    have : s.com.length ≤ 2 := by unfold SG.com; split <;> simp
    rw [h, List.length_append, List.length_cons]; omega
theorem tells_snoc (S : List SG) (s : SG) : tells (S ++ [s]) = tells S ++ [lastR (cmts (S ++ [s]))] := by
  unfold tells
  rw [List.length_append, List.length_singleton, List.range_succ, List.map_append, List.map_singleton]
  congr 1
  · refine List.map_congr_left fun i hi => ?_
    have := List.mem_range.1 hi
    rw [List.take_append_of_le_length (by omega)]
  · rw [List.take_of_length_le (by simp)]
theorem evsM_snoc (S : List SG) (s : SG) : evsM (S ++ [s]) (tells (S ++ [s])) (S.length + 1) = evsM S (tells S) S.length ++ [askE s, ⟨true, s.o.id, (cmts (S ++ [s])).length, lastR (cmts (S ++ [s]))⟩] := by
  have hl : (tells S).length = S.length := by simp [tells]
  rw [evsM_succ (s := s) (w := lastR (cmts (S ++ [s]))) (by rw [List.getElem?_append_right (Nat.le_refl _), Nat.sub_self]; rfl) (by rw [tells_snoc, List.getElem?_append_right (by omega), hl, Nat.sub_self]; rfl)]
  congr 1
  · unfold evsM
    rw [List.flatMap_def, List.flatMap_def]
    congr 1
    refine List.map_congr_left fun i hi => ?_
    have hi := List.mem_range.1 hi
    rw [List.getElem?_append_left hi, tells_snoc, List.getElem?_append_left (by omega)]
    have : ansE (S ++ [s]) i = ansE S i := by
      funext t w
      unfold ansE
      rw [List.take_append_of_le_length (by omega)]
    rw [this]
  · unfold ansE
    rw [List.take_of_length_le (by simp)]

structure DZ where
  i : Nat
  S : List SG
  cs : List CW
  ows : List CW
  p6 : Option Addr
  c6 : Nat
  es : List EW
  p7 : Option Addr
  c7 : Nat
  rws : List RW
  Sn : List (Nat × Bool)
structure DZ.ok (n : Nat) (z : DZ) : Prop where
  i : z.i ≤ n
  sl : z.S.length ≤ z.i
  good : ∀ s, s ∈ z.S → s.o.chkB = true ∧ s.o.id ≤ 18446744073709551615 ∧ s.o.upload ≤ 18446744073709551615 ∧ s.o.data.length ≤ 1000
  dis : DisI z.S
  cl : z.cs.length = (cmts z.S).length
  cs : ∀ (j : Nat) (c : CW), z.cs[j]? = some c → c.index = j + 1 ∧ ∃ t, (cmts z.S)[j]? = some t ∧ c.bs = opB t.o
  co : ∀ c, c ∈ z.cs → ∃ w, w ∈ z.ows ∧ c.p = w.p ∧ c.c = w.c ∧ c.bs = w.bs
  es : z.es.map EW.m = evsM z.S (tells z.S) z.S.length
  ew : ∀ e, e ∈ z.es → e.index ≤ 18446744073709551615 ∧ (e.w = stW 0 ∨ e.w ∈ z.rws)
  rk : ∀ r, r ∈ z.rws → r.r.keys.length ≤ 1000 ∧ r.r.data.length ≤ 274877906944
  srt : Srtd ltN z.Sn
  seen : ∀ a, (sget a z.Sn).getD false = false → ∀ s, s ∈ z.S → s.o.id ≠ a
theorem DZ.ok.evl {n : Nat} {z : DZ} (h : z.ok n) : z.es.length = 2 * z.S.length := by
  have := congrArg List.length h.es
  rwa [List.length_map, evsM_len _ _ (by simp [tells]) _ (Nat.le_refl _)] at this
theorem cmts_mem {S : List SG} {t : SM} (h : t ∈ cmts S) : ∃ s, s ∈ S ∧ t = ⟨s.o, false⟩ := by
  obtain ⟨s, hs, ht⟩ := List.mem_flatMap.1 h
  refine ⟨s, hs, ?_⟩
  unfold SG.com at ht
  split at ht <;> simp at ht <;> exact ht
theorem DZ.ok.coms {n : Nat} {z : DZ} (h : z.ok n) (hn : n ≤ 40) {p : Option Addr} {c : Nat} : ∀ q, comB p c z.cs z.ows q → Coms (comB p c z.cs z.ows) p c z.cs ((cmts z.S).map fun t => dOp t.o) := by
  have hf : ∀ (j : Nat) (t : SM), (cmts z.S)[j]? = some t → t.o.fine ∧ t.o.chkB = true := fun j t ht => by
    obtain ⟨s, hs, rfl⟩ := cmts_mem (List.mem_of_getElem? ht)
    obtain ⟨h1, h2, h3, _⟩ := h.good s hs
    exact ⟨chk_fine h1 h2 h3, h1⟩
  have hle := cmts_le z.S
  have hi := h.i
  have hsl := h.sl
  refine comsB (by rw [h.cl]; omega) (fun j c hc => ?_) (by rw [List.length_map, h.cl]) (fun c hc => ?_) h.co
  · obtain ⟨_, t, ht, hb⟩ := h.cs j c hc
    obtain ⟨f1, f2⟩ := hf j t ht
    exact ⟨dOp t.o, by rw [List.getElem?_map, ht]; rfl, by rw [hb]; exact decode_op f1 f2⟩
  · obtain ⟨j, hj⟩ := List.getElem?_of_mem hc
    obtain ⟨_, t, ht, hb⟩ := h.cs j c hj
    rw [hb]
    have := opB_len (hf j t ht).1; omega
theorem dsB_good (S : List SG) : ∀ d, d ∈ ((cmts S).map fun t => dOp t.o) → d.bad = false := fun d hd => by
  obtain ⟨x, _, rfl⟩ := List.mem_map.1 hd; rfl
theorem dsB_cmts (S : List SG) : ((cmts S).map fun t => dOp t.o).map DM.m = cmts S := by
  rw [List.map_map]
  conv => rhs; rw [← List.map_id (cmts S)]
  refine List.map_congr_left fun t ht => ?_
  obtain ⟨s, _, rfl⟩ := cmts_mem ht
  rfl
theorem DZ.ok.inv {n : Nat} {z : DZ} (h : z.ok n) : (playP (cmts z.S)).M.inv (cmts z.S).length := playP_inv fun t ht => by
  obtain ⟨s, hs, rfl⟩ := cmts_mem ht
  obtain ⟨_, h2, _, h4⟩ := h.good s hs
  exact ⟨by show s.o.data.length ≤ _; omega, h2⟩

structure UZ where
  d : Bool
  cs : List CW
  p : Option Addr
  c : Nat
  r : RW
structure UZ.ok (S : List SG) (cs : List CW) (o : OM) (q : Option Addr) (d : Nat) (u : UZ) : Prop where
  cs : u.cs = cs ++ (if u.d then [⟨cs.length + 1, opB o, q, d⟩, ⟨cs.length + 2, opB o, q, d⟩] else [⟨cs.length + 1, opB o, q, d⟩])
  r : u.r.r = lastR (cmts (S ++ [⟨o, u.d⟩]))
  rk : u.r.r.keys.length ≤ 1000 ∧ u.r.r.data.length ≤ 274877906944

theorem doubles_spec (G : Assn) (lp : Option Addr) (ln lc : Nat) (l : List OW) (hl : Ops G lp ln lc l) (hid : ∀ x, x ∈ l → x.o.id ≤ 18446744073709551615 ∧ x.o.upload ≤ 18446744073709551615) (bp : Option Addr) (bc : Nat) (bs : List Bool) (hbs : SlR [G] 1 (.slice bp bs.length bc) (bs.map Value.bool)) (hbl : bs.length ≤ 1048576) :
    FSpec Tryz.prog 5 [.slice lp ln lc, .slice bp bs.length bc] [G] (fun v B => v = .bool true ∧ B = [G]) := by
  have hlen := hl.len
  have hlsm := hl.small
  refine FSpec.of Tryz.func5 rfl Tryz.ntmps5 rfl fun W1 F => ?_
  refine J.seq <| J.region <| J.p rfl (Q.asg rfl) <| J.nil <| J.then_n <| J.seq <| J.seq <| J.region ?_
  refine J.callI Tryz.call6 (known_spec) rfl rfl rfl ?_
  rintro _ _ ⟨rfl, rfl⟩
  refine J.norm rfl <| J.p rfl (Q.not rfl) <| J.nil <| J.then_n <| J.cond_f rfl <| J.cskip <| J.then_n <| J.seq <| J.seq <| J.region <| J.m rfl <| J.p rfl (Q.lenSl Tryz.runUnderlying39 rfl) <| J.p rfl (Q.gtr rfl rfl) <| J.m rfl ?_
  refine J.cases 17 rfl (fun hb17 => ?_) (fun hb17 => ?_)
  ·
   replace hb17 := X.nm hb17
   try (first | (cases hb17; done) | (exfalso; simp at hb17; done))
   all_goals
    refine J.skip rfl rfl <| J.skip rfl rfl <| J.skip rfl rfl <| J.p rfl (Q.pick_t rfl rfl) <| J.nil <| J.then_n <| J.cond_t rfl <| J.seq <| J.region <| J.p rfl (Q.asg rfl) <| J.nil <| J.then_n <| J.cret <| J.then_r ?_
    refine J.ret1I [G] rfl rfl ⟨rfl, rfl⟩
  replace hb17 := X.nm hb17
  try (first | (cases hb17; done) | (exfalso; simp at hb17; done))
  all_goals
   refine J.m rfl <| J.p rfl (Q.lenSl Tryz.runUnderlying39 rfl) <| J.p rfl (Q.eql rfl rfl) <| J.p rfl (Q.pick_f rfl rfl) <| J.nil <| J.then_n ?_
   refine J.cases 21 rfl (fun hc21 => ?_) (fun hc21 => ?_)
   ·
    replace hc21 := X.nm hc21
    try (first | (cases hc21; done) | (exfalso; simp at hc21; done))
    all_goals
     refine J.cond_t rfl <| J.seq <| J.region <| J.p rfl (Q.asg rfl) <| J.nil <| J.then_n <| J.cret <| J.then_r ?_
     refine J.ret1I [G] rfl rfl ⟨rfl, rfl⟩
   replace hc21 := X.nm hc21
   try (first | (cases hc21; done) | (exfalso; simp at hc21; done))
   all_goals
    refine J.cond_f rfl <| J.cskip <| J.then_n <| J.seq <| J.region ?_
    refine J.callI Tryz.call11 (rnew_spec) rfl rfl rfl ?_
    rintro _ _ ⟨m, rfl, rfl⟩
    refine J.norm rfl <| J.p rfl (Q.asg rfl) <| J.nil <| J.then_n <| J.seq <| J.region <| J.p rfl (Q.asg rfl) <| J.nil <| J.then_n <| J.seq <| J.region <| J.p rfl (Q.asg rfl) <| J.nil <| J.then_n <| J.seq <| J.region ?_
    refine J.c rfl rfl C.mkMap ?_
    rintro _ _ ⟨b23, rfl, rfl⟩
    refine J.norm rfl ?_
    refine J.convI (pt b23 (.map #[] 0)) (MapAt encU (valRep Value.bool) b23 ([] : List (Nat × Bool))) X.G.MapAt.new ?_
    refine J.p rfl (Q.asg rfl) <| J.nil <| J.then_n <| J.seq <| J.seq <| J.region <| J.p rfl (Q.asg rfl) <| J.nil <| J.then_n <| J.block ?_
    have hn40 : ln ≤ 40 := by omega
    refine J.give (own.nil 56 2 _) ?_
    refine J.give (X := star (([] : List CW).map CW.asn)) trivial ?_
    refine J.give (own.nil 58 17 _) ?_
    refine J.give (X := star (([] : List RW).map RW.asn)) trivial ?_
    refine J.keepI [own 56 2 (.slice none 0 0) [], star (([] : List CW).map CW.asn), own 58 17 (.slice none 0 0) [], star (([] : List RW).map RW.asn), RefAt m ⟨[], [], []⟩, MapAt encU (valRep Value.bool) b23 ([] : List (Nat × Bool)), G, F] ?_
    refine J.loop (fun z : DZ => z.ok ln) (fun z => ln - z.i) (fun z => [(0, .slice lp ln lc), (1, .slice bp bs.length bc), (5, .pointer (some ⟨m, 0, none⟩)), (6, .slice z.p6 z.cs.length z.c6), (7, .slice z.p7 z.es.length z.c7), (8, .map (some b23)), (9, .int .i64 z.i)])
     (fun z => [own 56 2 (.slice z.p6 z.cs.length z.c6) (z.cs.flatMap CW.cells), star (z.ows.map CW.asn), own 58 17 (.slice z.p7 z.es.length z.c7) (z.es.flatMap EW.cells), star (z.rws.map RW.asn), RefAt m (playP (cmts z.S)).M, MapAt encU (valRep Value.bool) b23 z.Sn, G, F]) ⟨0, [], [], [], none, 0, [], none, 0, [], []⟩ ⟨Nat.zero_le _, Nat.le_refl _, (fun _ h => by cases h), ⟨fun _ _ _ _ h => by cases h⟩, rfl, (fun _ _ h => by cases h), (fun _ h => by cases h), rfl, (fun _ h => by cases h), (fun _ h => by cases h), List.Pairwise.nil, (fun _ _ _ h => by cases h)⟩ ⟨rfl, rfl, rfl, rfl, rfl, rfl, rfl, trivial⟩ rfl fun z hz => ?_
    obtain ⟨i, S, cs, ows, p6, c6, es, p7, c7, rws, Sn⟩ := z
    have hzi := hz.i
    have hzs := hz.sl
    have hzc := hz.cl
    have hze := hz.evl
    have hcle := cmts_le S
    have hinv := hz.inv
    have hsrt := hz.srt
    dsimp only at hzi hzs hzc hze hcle hinv hsrt ⊢
    obtain ⟨Mi, hMi⟩ : ∃ Mi, Mi = (playP (cmts S)).M := ⟨_, rfl⟩
    rw [← hMi] at hinv ⊢
    refine J.seq <| J.seq <| J.region <| J.m rfl <| J.m rfl <| J.p rfl (Q.lenSl Tryz.runUnderlying39 rfl) <| J.p rfl (Q.lss rfl rfl) <| J.nil <| J.then_n ?_
    refine J.cases 27 rfl (fun hc27 => ?_) (fun hc27 => ?_)
    ·
     replace hc27 := X.nm hc27
     try (first | (cases hc27; done) | (exfalso; simp at hc27; done))
     all_goals
      refine J.cond_t rfl <| J.cskip <| J.then_n <| J.seq <| J.block <| J.seq <| J.seq ?_
      have hil : i < ln := by omega
      obtain ⟨b, off, hlp, hrd⟩ := hl.rd.some_ (by omega)
      obtain ⟨x, hx⟩ : ∃ x, l[i]? = some x := ⟨_, List.getElem?_eq_getElem (by omega)⟩
      have hxm := List.mem_of_getElem? hx
      have hxo := hl.ok x hxm
      have hxi := hid x hxm
      have hxs := hxo.small
      refine J.slot 0 (.slice (some ⟨b, off, none⟩) ln lc) rfl (by rw [hlp]) ?_
      refine J.region <| J.m rfl <| J.m rfl <| J.p rfl (Q.ia Tryz.runUnderlying39 Tryz.sizeOf52 rfl rfl (by omega) (by omega)) <| J.p rfl (Q.ldN (vs := [_, _, _, _, _, _, _, _, _]) Tryz.isAgg52 Tryz.sizeOf52 rfl (ReadsN.inI (rd_elem OW.cells_length hrd hx (by simp)))) ?_
      refine J.callI Tryz.call12 (rcheck_spec G x hxo) rfl rfl rfl ?_
      rintro _ _ ⟨rfl, rfl⟩
      refine J.norm rfl <| J.p rfl (Q.neq rfl rfl) <| J.m rfl ?_
      refine J.cases 36 rfl (fun hb36 => ?_) (fun hb36 => ?_)
      ·
       replace hb36 := X.nm hb36
       try (first | (cases hb36; done) | (exfalso; simp at hb36; done))
       all_goals
        refine J.skip rfl rfl <| J.skip rfl rfl <| J.skip rfl rfl <| J.skip rfl rfl <| J.skip rfl rfl <| J.skip rfl rfl <| J.skip rfl rfl <| J.p rfl (Q.pick_t rfl rfl) <| J.m rfl <| J.skip rfl rfl <| J.skip rfl rfl <| J.skip rfl rfl <| J.skip rfl rfl <| J.skip rfl rfl <| J.skip rfl rfl <| J.skip rfl rfl <| J.p rfl (Q.pick_t rfl rfl) <| J.nil <| J.then_n <| J.cond_t rfl <| J.exit <| J.then_x ?_
        refine J.blk_x <| J.then_n <| J.region <| J.m rfl <| J.p rfl (Q.add64 rfl rfl (by omega)) <| J.p rfl (Q.asg rfl) <| J.nil ?_
        rw [hMi]
        refine J.againI ⟨i + 1, S, cs, ows, p6, c6, es, p7, c7, rws, Sn⟩ ⟨by show i + 1 ≤ ln; omega, by show S.length ≤ i + 1; omega, hz.good, hz.dis, hz.cl, hz.cs, hz.co, hz.es, hz.ew, hz.rk, hz.srt, hz.seen⟩ (by show ln - (i + 1) < ln - i; omega) ⟨(by show _ = some (Value.slice lp ln lc); rw [hlp]; rfl), rfl, rfl, rfl, rfl, rfl, rfl, trivial⟩
      replace hb36 := X.nm hb36
      try (first | (cases hb36; done) | (exfalso; simp at hb36; done))
      all_goals
       refine J.m rfl <| J.m rfl <| J.m rfl <| J.p rfl (Q.ia Tryz.runUnderlying39 Tryz.sizeOf52 rfl rfl (by omega) (by omega)) <| J.p rfl (Q.fa (n := 0) Tryz.runUnderlying52 rfl rfl Tryz.sizeOf40 rfl) <| J.p rfl (Q.ld Tryz.isAgg40 rfl ((((rd_elem OW.cells_length hrd hx rfl) 0 (.int .u64 x.o.id) rfl).cast (by simp)).inI)) ?_
       refine J.p rfl (X.G.Q.lkV (f := Value.bool) Sn ord3_nat hsrt Tryz.runUnderlying63 keyU Tryz.zeroValue4 rfl rfl) ?_
       refine J.slot 43 (.bool ((sget x.o.id Sn).getD false)) rfl (getD_bool _) ?_
       refine J.p rfl (Q.pick_f rfl rfl) <| J.m rfl ?_
       refine J.cases 45 rfl (fun hb45 => ?_) (fun hb45 => ?_)
       ·
        replace hb45 := X.nm hb45
        try (first | (cases hb45; done) | (exfalso; simp at hb45; done))
        all_goals
         refine J.skip rfl rfl <| J.skip rfl rfl <| J.skip rfl rfl <| J.skip rfl rfl <| J.skip rfl rfl <| J.skip rfl rfl <| J.skip rfl rfl <| J.p rfl (Q.pick_t rfl rfl) <| J.nil <| J.then_n <| J.cond_t rfl <| J.exit <| J.then_x <| J.blk_x <| J.then_n <| J.region <| J.m rfl <| J.p rfl (Q.add64 rfl rfl (by omega)) <| J.p rfl (Q.asg rfl) <| J.nil ?_
         rw [hMi]
         refine J.againI ⟨i + 1, S, cs, ows, p6, c6, es, p7, c7, rws, Sn⟩ ⟨by show i + 1 ≤ ln; omega, by show S.length ≤ i + 1; omega, hz.good, hz.dis, hz.cl, hz.cs, hz.co, hz.es, hz.ew, hz.rk, hz.srt, hz.seen⟩ (by show ln - (i + 1) < ln - i; omega) ⟨(by show _ = some (Value.slice lp ln lc); rw [hlp]; rfl), rfl, rfl, rfl, rfl, rfl, rfl, trivial⟩
       replace hb45 := X.nm hb45
       try (first | (cases hb45; done) | (exfalso; simp at hb45; done))
       all_goals
        refine J.m rfl <| J.m rfl <| J.p rfl (Q.ia Tryz.runUnderlying39 Tryz.sizeOf52 rfl rfl (by omega) (by omega)) <| J.p rfl (Q.fa (n := 8) Tryz.runUnderlying52 rfl rfl Tryz.sizeOf42 rfl) <| J.p rfl (Q.ld Tryz.isAgg42 rfl ((((rd_elem OW.cells_length hrd hx rfl) 8 (.slice x.dp x.o.data.length x.dc) rfl).cast (by simp)).inI)) <| J.p rfl (Q.lenSl Tryz.runUnderlying42 rfl) ?_
        refine J.p rfl (Q.gtr rfl rfl) <| J.p rfl (Q.pick_f rfl rfl) <| J.nil <| J.then_n ?_
        refine J.cases 53 rfl (fun hc53 => ?_) (fun hc53 => ?_)
        ·
         replace hc53 := X.nm hc53
         try (first | (cases hc53; done) | (exfalso; simp at hc53; done))
         all_goals
          refine J.cond_t rfl <| J.exit <| J.then_x <| J.blk_x <| J.then_n <| J.region <| J.m rfl <| J.p rfl (Q.add64 rfl rfl (by omega)) <| J.p rfl (Q.asg rfl) <| J.nil ?_
          rw [hMi]
          refine J.againI ⟨i + 1, S, cs, ows, p6, c6, es, p7, c7, rws, Sn⟩ ⟨by show i + 1 ≤ ln; omega, by show S.length ≤ i + 1; omega, hz.good, hz.dis, hz.cl, hz.cs, hz.co, hz.es, hz.ew, hz.rk, hz.srt, hz.seen⟩ (by show ln - (i + 1) < ln - i; omega) ⟨(by show _ = some (Value.slice lp ln lc); rw [hlp]; rfl), rfl, rfl, rfl, rfl, rfl, rfl, trivial⟩
        replace hc53 := X.nm hc53
        try (first | (cases hc53; done) | (exfalso; simp at hc53; done))
        all_goals
         refine J.cond_f rfl <| J.cskip <| J.then_n <| J.seq ?_
         have hchk : x.o.chkB = true := by
          rw [chk_eq]
          cases h : x.o.chkR with
          | true => rfl
          | false => rw [h] at hb36; simp at hb36
         have hfine := chk_fine hchk hxi.1 hxi.2
         have hnew : ∀ s, s ∈ S → s.o.id ≠ x.o.id := hz.seen x.o.id (by simpa using hb45)
         have hdl : x.o.data.length ≤ 1000 := by omega
         refine J.region <| J.m rfl <| J.m rfl <| J.m rfl <| J.p rfl (Q.ia Tryz.runUnderlying39 Tryz.sizeOf52 rfl rfl (by omega) (by omega)) <| J.p rfl (Q.fa (n := 0) Tryz.runUnderlying52 rfl rfl Tryz.sizeOf40 rfl) <| J.p rfl (Q.ld Tryz.isAgg40 rfl ((((rd_elem OW.cells_length hrd hx rfl) 0 (.int .u64 x.o.id) rfl).cast (by simp)).inI)) ?_
         refine J.c0 rfl (X.G.C.putV Value.bool Sn true ord3_nat hsrt Tryz.runUnderlying63 keyU rfl rfl rfl) ?_
         rintro _ _ ⟨rfl, rfl⟩
         refine J.norm rfl <| J.nil <| J.then_n <| J.seq <| J.region <| J.m rfl <| J.m rfl <| J.p rfl (Q.ia Tryz.runUnderlying39 Tryz.sizeOf52 rfl rfl (by omega) (by omega)) <| J.p rfl (Q.ldN (vs := [_, _, _, _, _, _, _, _, _]) Tryz.isAgg52 Tryz.sizeOf52 rfl (ReadsN.inI (rd_elem OW.cells_length hrd hx (by simp)))) ?_
         refine J.callI Tryz.call14 (opCommand_spec G x hxo hfine) rfl rfl rfl ?_
         rintro _ _ ⟨q64, d64, rfl, rfl⟩
         refine J.norm rfl <| J.p rfl (Q.asg rfl) <| J.nil <| J.then_n <| J.seq ?_
         obtain ⟨eA, heA⟩ : ∃ e : EW, e = ⟨false, x.o.id, x, 0, stW 0⟩ := ⟨_, rfl⟩
         refine J.pickI [G] ?_
         refine J.norm rfl ?_
         refine J.drawE [11, 12, 13] 1 Tryz.mixed (by kernel_rfl) rfl rfl fun hR => ?_
         refine RG.p 0 hR rfl (Q.mv rfl) <| RG.p 1 hR rfl (Q.mv rfl) <| RG.p 2 hR rfl (Q.mv rfl) <| RG.p 3 hR rfl (Q.ia Tryz.runUnderlying39 Tryz.sizeOf52 rfl rfl (by omega) (by omega)) <| RG.p 4 hR rfl (Q.fa (n := 0) Tryz.runUnderlying52 rfl rfl Tryz.sizeOf40 rfl) <| RG.p 5 hR rfl (Q.ld Tryz.isAgg40 rfl ((((rd_elem OW.cells_length hrd hx rfl) 0 (.int .u64 x.o.id) rfl).cast (by simp)).inI)) ?_
         refine RG.p 6 hR rfl (Q.mv rfl) <| RG.p 7 hR rfl (Q.mv rfl) <| RG.p 8 hR rfl (Q.ia Tryz.runUnderlying39 Tryz.sizeOf52 rfl rfl (by omega) (by omega)) <| RG.p 9 hR rfl (Q.ldN (vs := [_, _, _, _, _, _, _, _, _]) Tryz.isAgg52 Tryz.sizeOf52 rfl (ReadsN.inI (rd_elem OW.cells_length hrd hx (by simp)))) <| RG.p 10 hR rfl (Q.bld (l := EW.cells ⟨false, x.o.id, x, 0, stW 0⟩) Tryz.runUnderlying58 Tryz.zeroValue58 Tryz.places58 rfl (by kernel_rfl)) ?_
         refine RG.slot 75 (.agg eA.cells.toArray) rfl (by rw [heA]) ?_
         refine RG.made 11 hR rfl rfl rfl rfl rfl (C.bslG (sz := 17) (len := 1) (l := [eA].flatMap EW.cells) Tryz.runUnderlying23 Tryz.sizeOf58 Tryz.zeroValue58 (by decide) rfl rfl rfl (by kernel_rfl) (by kernel_rfl)) ?_
         rintro b76
         refine RG.many hR 12 [] rfl ⟨?_, trivial⟩
         ·
          refine RGi.appI rfl rfl rfl rfl Tryz.runUnderlying23 Tryz.runUnderlying23 Tryz.typeInfo58 Tryz.sizeOf58 Tryz.zeroValue58 rfl rfl (SlR.ptI rfl) (flat_one EW.one) (by simp [Tryz.t58] <;> omega) (by decide) ?_
          rintro p77 c77
          refine RG.normE rfl ?_
          refine RG.bar 13 hR rfl rfl rfl rfl rfl rfl (Q.asg rfl).toC ?_
          rintro _ _ ⟨rfl, rfl⟩
          refine RG.norm rfl ?_
          refine RG.fin hR rfl ?_
          refine J.norm rfl <| J.then_n <| J.seq <| J.region <| J.m rfl <| J.m rfl <| J.p rfl (Q.lenSl Tryz.runUnderlying25 rfl) <| J.p rfl (Q.add64 rfl rfl (by omega)) <| J.p rfl (Q.conv Tryz.runUnderlying3 Tryz.runUnderlying40 rfl) ?_
          refine J.slot 82 (.int .u64 ((cs.length + 1 : Nat) : Int)) rfl (by rw [show ((cs.length : Int) + 1) = ((cs.length + 1 : Nat) : Int) by omega, wrap64 (by omega)]) ?_
          refine J.m rfl <| J.p rfl (Q.bld (l := CW.cells ⟨cs.length + 1, opB x.o, q64, d64⟩) Tryz.runUnderlying56 Tryz.zeroValue56 Tryz.places56 rfl (by kernel_rfl)) ?_
          refine J.c rfl rfl (C.bslG (l := [_, _]) Tryz.runUnderlying25 Tryz.sizeOf56 Tryz.zeroValue56 (by decide) rfl rfl rfl rfl rfl) ?_
          rintro _ _ ⟨b85, rfl, rfl⟩
          refine J.norm rfl ?_
          refine J.c rfl rfl (C.appI Tryz.runUnderlying25 Tryz.runUnderlying25 Tryz.typeInfo56 Tryz.sizeOf56 Tryz.zeroValue56 rfl rfl (SlR.ptI rfl) (CW.one ⟨cs.length + 1, opB x.o, q64, d64⟩) (by simp [Tryz.t56] <;> omega) (by decide)) ?_
          rintro _ _ ⟨p86, c86, rfl, rfl⟩
          refine J.norm rfl <| J.p rfl (Q.asg rfl) <| J.nil <| J.then_n <| J.seq <| J.region <| J.m rfl <| J.m rfl <| J.m rfl <| J.p rfl (Q.ia Tryz.runUnderlying39 Tryz.sizeOf52 rfl rfl (by omega) (by omega)) <| J.p rfl (Q.ldN (vs := [_, _, _, _, _, _, _, _, _]) Tryz.isAgg52 Tryz.sizeOf52 rfl (ReadsN.inI (rd_elem OW.cells_length hrd hx (by simp)))) ?_
          refine J.callI Tryz.call13 (rdo_spec m Mi (hinv.lite (by omega)) hinv.ok (by omega) hinv.kin x G hxo) rfl rfl rfl ?_
          rintro _ _ ⟨r1, rfl, hr1, rfl⟩
          refine J.norm rfl ?_
          refine J.c rfl rfl (C.alloc (l := [_, _, _, _, _]) Tryz.zeroValue44 rfl) ?_
          rintro _ _ ⟨b11, rfl, rfl⟩
          refine J.norm rfl ?_
          refine J.stAI (vs := [_, _, _, _, _]) rfl Tryz.sizeOf44 rfl rfl (by exact rfl) (by exact rfl) (by exact rfl) ?_
          refine J.nil <| J.then_n ?_
          have hinv1 := hinv.run (o := x.o) (by omega) hxi.1
          have hk1 := run_small hinv.ok x.o
          have hk2 := run_small hinv1.ok x.o
          have hc1 : ∀ d, cmts (S ++ [⟨x.o, d⟩]) = cmts S ++ (SG.mk x.o d).com := fun d => cmts_snoc S _
          have hM1 : (playP (cmts (S ++ [⟨x.o, false⟩]))).M = (Mi.run x.o).2 := by rw [hc1, show (SG.mk x.o false).com = [⟨x.o, false⟩] from rfl, playP_snoc, hMi]; simp [PS.step]
          have hc2 : cmts (S ++ [⟨x.o, true⟩]) = cmts (S ++ [⟨x.o, false⟩]) ++ [⟨x.o, false⟩] := by rw [hc1, hc1]; simp [SG.com]
          have hM2 : (playP (cmts (S ++ [⟨x.o, true⟩]))).M = ((Mi.run x.o).2.run x.o).2 := by rw [hc2, playP_snoc, ← hM1]; simp [PS.step]
          have hR1 : lastR (cmts (S ++ [⟨x.o, false⟩])) = (Mi.run x.o).1 := by rw [hc1, show (SG.mk x.o false).com = [⟨x.o, false⟩] from rfl, last_snoc, hMi]
          have hR2 : lastR (cmts (S ++ [⟨x.o, true⟩])) = ((Mi.run x.o).2.run x.o).1 := by rw [hc2, last_snoc, hM1]
          obtain ⟨cs1, hcs1⟩ : ∃ cs1, cs1 = cs ++ [(⟨cs.length + 1, opB x.o, q64, d64⟩ : CW)] := ⟨_, rfl⟩
          have e1 : cs.length + 1 = cs1.length := by rw [hcs1]; simp
          have e2 : cs.flatMap CW.cells ++ CW.cells ⟨cs.length + 1, opB x.o, q64, d64⟩ = cs1.flatMap CW.cells := by rw [hcs1]; simp
          refine J.convI (own 56 2 (.slice p86 (cs.length + 1) c86) (cs.flatMap CW.cells ++ CW.cells ⟨cs.length + 1, opB x.o, q64, d64⟩)) (own 56 2 (.slice p86 cs1.length c86) (cs1.flatMap CW.cells)) (fun _ h => by rw [← e1, ← e2]; exact h) ?_
          refine J.slot 6 (.slice p86 cs1.length c86) rfl (by rw [← e1]) ?_
          refine J.shutI [wrO q64 d64 (opB x.o), star (ows.map CW.asn)] (star ((ows ++ [(⟨0, opB x.o, q64, d64⟩ : CW)]).map CW.asn)) (star_snoc (f := CW.asn) (l := ows) ⟨0, opB x.o, q64, d64⟩) ?_
          have e3 : es.length + 1 = (es ++ [eA]).length := by simp
          have e4 : es.flatMap EW.cells ++ [eA].flatMap EW.cells = (es ++ [eA]).flatMap EW.cells := by rw [List.flatMap_append]
          rw [e4]
          obtain ⟨ea, hea⟩ : ∃ ea, ea = es ++ [eA] := ⟨_, rfl⟩
          rw [e3, ← hea]
          obtain ⟨ow1, how1⟩ : ∃ ow1, ow1 = ows ++ [(⟨0, opB x.o, q64, d64⟩ : CW)] := ⟨_, rfl⟩
          rw [← how1]
          refine J.cut (fun u : UZ => u.ok S cs x.o q64 d64) (fun u => [(0, .slice (some ⟨b, off, none⟩) ln lc), (1, .slice bp bs.length bc), (5, .pointer (some ⟨m, 0, none⟩)), (6, .slice u.p u.cs.length u.c), (7, .slice p77 ea.length c77), (8, .map (some b23)), (9, .int .i64 i), (11, .pointer (some ⟨b11, 0, none⟩))])
           (fun u => [G, pt b11 (.cells u.r.cells.toArray 44 (0, 0)), own 56 2 (.slice u.p u.cs.length u.c) (u.cs.flatMap CW.cells), star (ow1.map CW.asn), own 58 17 (.slice p77 ea.length c77) (ea.flatMap EW.cells), star (rws.map RW.asn), RefAt m (playP (cmts (S ++ [⟨x.o, u.d⟩]))).M, MapAt encU (valRep Value.bool) b23 (sput ltN x.o.id true Sn), u.r.asn, F]) ?_ fun u hu => ?_
          ·
           refine J.seq <| J.region <| J.m rfl <| J.m rfl <| J.p rfl (Q.lenSl Tryz.runUnderlying62 rfl) <| J.p rfl (Q.lss rfl rfl) <| J.m rfl ?_
           refine J.cases 97 rfl (fun hb97 => ?_) (fun hb97 => ?_)
           ·
            replace hb97 := X.nm hb97
            try (first | (cases hb97; done) | (exfalso; simp at hb97; done))
            all_goals
             have hib : i < bs.length := by omega
             obtain ⟨b2, o2, hbp, hrb⟩ := hbs.some_ (by omega)
             obtain ⟨bv, hbv⟩ : ∃ v, bs[i]? = some v := ⟨_, List.getElem?_eq_getElem (by omega)⟩
             refine J.m rfl ?_
             refine J.slot 98 (.slice (some ⟨b2, o2, none⟩) bs.length bc) rfl (by rw [hbp]) ?_
             refine J.m rfl <| J.p rfl (Q.ia Tryz.runUnderlying62 Tryz.sizeOf4 rfl rfl (by omega) (by omega)) <| J.p rfl (Q.ld Tryz.isAgg4 rfl (((hrb i (Value.bool bv) (by simp [hbv])).cast (by simp)).inI)) <| J.p rfl (Q.pick_t rfl rfl) <| J.nil <| J.then_n ?_
             refine J.cases 102 rfl (fun hc102 => ?_) (fun hc102 => ?_)
             ·
              replace hc102 := X.nm hc102
              try (first | (cases hc102; done) | (exfalso; simp at hc102; done))
              all_goals
               refine J.cond_t rfl <| J.seq <| J.region <| J.m rfl <| J.m rfl <| J.p rfl (Q.lenSl Tryz.runUnderlying25 rfl) <| J.p rfl (Q.add64 rfl rfl (by omega)) <| J.p rfl (Q.conv Tryz.runUnderlying3 Tryz.runUnderlying40 rfl) ?_
               refine J.slot 107 (.int .u64 ((cs.length + 2 : Nat) : Int)) rfl (by rw [show ((cs1.length : Int) + 1) = ((cs.length + 2 : Nat) : Int) by omega, wrap64 (by omega)]) ?_
               refine J.m rfl <| J.p rfl (Q.bld (l := CW.cells ⟨cs.length + 2, opB x.o, q64, d64⟩) Tryz.runUnderlying56 Tryz.zeroValue56 Tryz.places56 rfl (by kernel_rfl)) ?_
               refine J.c rfl rfl (C.bslG (l := [_, _]) Tryz.runUnderlying25 Tryz.sizeOf56 Tryz.zeroValue56 (by decide) rfl rfl rfl rfl rfl) ?_
               rintro _ _ ⟨b110, rfl, rfl⟩
               refine J.norm rfl ?_
               refine J.c rfl rfl (C.appI Tryz.runUnderlying25 Tryz.runUnderlying25 Tryz.typeInfo56 Tryz.sizeOf56 Tryz.zeroValue56 rfl rfl (SlR.ptI rfl) (CW.one ⟨cs.length + 2, opB x.o, q64, d64⟩) (by simp [Tryz.t56] <;> omega) (by decide)) ?_
               rintro _ _ ⟨p111, c111, rfl, rfl⟩
               refine J.norm rfl <| J.p rfl (Q.asg rfl) <| J.nil <| J.then_n <| J.region <| J.m rfl <| J.m rfl <| J.m rfl <| J.p rfl (Q.ia Tryz.runUnderlying39 Tryz.sizeOf52 rfl rfl (by omega) (by omega)) <| J.p rfl (Q.ldN (vs := [_, _, _, _, _, _, _, _, _]) Tryz.isAgg52 Tryz.sizeOf52 rfl (ReadsN.inI (rd_elem OW.cells_length hrd hx (by simp)))) ?_
               refine J.callI Tryz.call13 (rdo_spec m (Mi.run x.o).2 (hinv1.lite (by omega)) hinv1.ok (by omega) hinv1.kin x G hxo) rfl rfl rfl ?_
               rintro _ _ ⟨r2, rfl, hr2, rfl⟩
               refine J.norm rfl ?_
               refine J.stAI (vs := [_, _, _, _, _]) rfl Tryz.sizeOf44 rfl rfl (by exact rfl) (by exact rfl) (by exact rfl) ?_
               refine J.nil ?_
               first
                | (rw [← hM2]
                   have e5 : cs1.length + 1 = (cs1 ++ [(⟨cs.length + 2, opB x.o, q64, d64⟩ : CW)]).length := by simp
                   have e6 : cs1.flatMap CW.cells ++ CW.cells ⟨cs.length + 2, opB x.o, q64, d64⟩ = (cs1 ++ [(⟨cs.length + 2, opB x.o, q64, d64⟩ : CW)]).flatMap CW.cells := by simp
                   rw [e5, e6]
                   exact J.meetI ⟨true, cs1 ++ [(⟨cs.length + 2, opB x.o, q64, d64⟩ : CW)], p111, c111, r2⟩ ⟨by show cs1 ++ _ = _; rw [hcs1, List.append_assoc]; rfl, by show r2.r = _; rw [hr2, hR2], by show r2.r.keys.length ≤ _ ∧ _; rw [hr2]; exact hk2⟩ ⟨rfl, rfl, rfl, rfl, rfl, rfl, rfl, rfl, trivial⟩)
                | (rw [← hM1]
                   exact J.meetI ⟨false, cs1, p86, c86, r1⟩ ⟨by show cs1 = _; rw [hcs1]; rfl, by show r1.r = _; rw [hr1, hR1], by show r1.r.keys.length ≤ _ ∧ _; rw [hr1]; exact hk1⟩ ⟨rfl, rfl, rfl, rfl, rfl, rfl, rfl, rfl, trivial⟩)
             replace hc102 := X.nm hc102
             try (first | (cases hc102; done) | (exfalso; simp at hc102; done))
             all_goals
              refine J.cond_f rfl <| J.cskip ?_
              first
               | (rw [← hM2]
                  have e5 : cs1.length + 1 = (cs1 ++ [(⟨cs.length + 2, opB x.o, q64, d64⟩ : CW)]).length := by simp
                  have e6 : cs1.flatMap CW.cells ++ CW.cells ⟨cs.length + 2, opB x.o, q64, d64⟩ = (cs1 ++ [(⟨cs.length + 2, opB x.o, q64, d64⟩ : CW)]).flatMap CW.cells := by simp
                  rw [e5, e6]
                  exact J.meetI ⟨true, cs1 ++ [(⟨cs.length + 2, opB x.o, q64, d64⟩ : CW)], p111, c111, r2⟩ ⟨by show cs1 ++ _ = _; rw [hcs1, List.append_assoc]; rfl, by show r2.r = _; rw [hr2, hR2], by show r2.r.keys.length ≤ _ ∧ _; rw [hr2]; exact hk2⟩ ⟨rfl, rfl, rfl, rfl, rfl, rfl, rfl, rfl, trivial⟩)
               | (rw [← hM1]
                  exact J.meetI ⟨false, cs1, p86, c86, r1⟩ ⟨by show cs1 = _; rw [hcs1]; rfl, by show r1.r = _; rw [hr1, hR1], by show r1.r.keys.length ≤ _ ∧ _; rw [hr1]; exact hk1⟩ ⟨rfl, rfl, rfl, rfl, rfl, rfl, rfl, rfl, trivial⟩)
           replace hb97 := X.nm hb97
           try (first | (cases hb97; done) | (exfalso; simp at hb97; done))
           all_goals
            refine J.skip rfl rfl <| J.skip rfl rfl <| J.skip rfl rfl <| J.skip rfl rfl <| J.p rfl (Q.pick_f rfl rfl) <| J.nil <| J.then_n <| J.cond_f rfl <| J.cskip ?_
            first
             | (rw [← hM2]
                have e5 : cs1.length + 1 = (cs1 ++ [(⟨cs.length + 2, opB x.o, q64, d64⟩ : CW)]).length := by simp
                have e6 : cs1.flatMap CW.cells ++ CW.cells ⟨cs.length + 2, opB x.o, q64, d64⟩ = (cs1 ++ [(⟨cs.length + 2, opB x.o, q64, d64⟩ : CW)]).flatMap CW.cells := by simp
                rw [e5, e6]
                exact J.meetI ⟨true, cs1 ++ [(⟨cs.length + 2, opB x.o, q64, d64⟩ : CW)], p111, c111, r2⟩ ⟨by show cs1 ++ _ = _; rw [hcs1, List.append_assoc]; rfl, by show r2.r = _; rw [hr2, hR2], by show r2.r.keys.length ≤ _ ∧ _; rw [hr2]; exact hk2⟩ ⟨rfl, rfl, rfl, rfl, rfl, rfl, rfl, rfl, trivial⟩)
             | (rw [← hM1]
                exact J.meetI ⟨false, cs1, p86, c86, r1⟩ ⟨by show cs1 = _; rw [hcs1]; rfl, by show r1.r = _; rw [hr1, hR1], by show r1.r.keys.length ≤ _ ∧ _; rw [hr1]; exact hk1⟩ ⟨rfl, rfl, rfl, rfl, rfl, rfl, rfl, rfl, trivial⟩)
          refine J.norm rfl ?_
          obtain ⟨dd, cs2, p2, c2, r⟩ := u
          obtain ⟨hu1, hu2, hu3⟩ := hu
          dsimp only at hu1 hu2 hu3 ⊢
          have hl2 : cs2.length = (cmts (S ++ [⟨x.o, dd⟩])).length := by
           rw [hu1, hc1, List.length_append, List.length_append, hzc]
           unfold SG.com
           cases dd <;> rfl
          have hl3 : cs2.length ≤ 100 := by
           rw [hu1, List.length_append]
           cases dd <;> simp <;> omega
          obtain ⟨eB, heB⟩ : ∃ e : EW, e = ⟨true, x.o.id, bareW O0, cs2.length, r⟩ := ⟨_, rfl⟩
          have hea2 : ea.length ≤ 100 := by rw [hea, List.length_append, List.length_singleton]; omega
          refine J.drawE [11, 12, 13] 2 Tryz.mixed (by kernel_rfl) rfl rfl fun hR => ?_
          refine RG.p 0 hR rfl (Q.mv rfl) <| RG.p 1 hR rfl (Q.mv rfl) <| RG.p 2 hR rfl (Q.mv rfl) <| RG.p 3 hR rfl (Q.ia Tryz.runUnderlying39 Tryz.sizeOf52 rfl rfl (by omega) (by omega)) <| RG.p 4 hR rfl (Q.fa (n := 0) Tryz.runUnderlying52 rfl rfl Tryz.sizeOf40 rfl) <| RG.p 5 hR rfl (Q.ld Tryz.isAgg40 rfl ((((rd_elem OW.cells_length hrd hx rfl) 0 (.int .u64 x.o.id) rfl).cast (by simp)).inI)) ?_
          refine RG.p 6 hR rfl (Q.mv rfl) <| RG.p 7 hR rfl (Q.lenSl Tryz.runUnderlying25 rfl) <| RG.p 8 hR rfl (Q.conv Tryz.runUnderlying3 Tryz.runUnderlying40 rfl) ?_
          refine RG.slot 126 (.int .u64 ((cs2.length : Nat) : Int)) rfl (by rw [wrap64 (by omega)]) ?_
          refine RG.p 9 hR rfl (Q.ldN (vs := [_, _, _, _, _]) Tryz.isAgg44 Tryz.sizeOf44 rfl rnI) ?_
          refine RG.p 10 hR rfl (Q.bld (l := EW.cells ⟨true, x.o.id, bareW O0, cs2.length, r⟩) Tryz.runUnderlying58 Tryz.zeroValue58 Tryz.places58 rfl (by kernel_rfl)) ?_
          refine RG.slot 128 (.agg eB.cells.toArray) rfl (by rw [heB]) ?_
          refine RG.made 11 hR rfl rfl rfl rfl rfl (C.bslG (sz := 17) (len := 1) (l := [eB].flatMap EW.cells) Tryz.runUnderlying23 Tryz.sizeOf58 Tryz.zeroValue58 (by decide) rfl rfl rfl (by kernel_rfl) (by kernel_rfl)) ?_
          rintro b129
          refine RG.many hR 12 [] rfl ⟨?_, trivial⟩
          ·
           refine RGi.appI rfl rfl rfl rfl Tryz.runUnderlying23 Tryz.runUnderlying23 Tryz.typeInfo58 Tryz.sizeOf58 Tryz.zeroValue58 rfl rfl (SlR.ptI rfl) (flat_one EW.one) (by simp [Tryz.t58] <;> omega) (by decide) ?_
           rintro p130 c130
           refine RG.normE rfl ?_
           refine RG.bar 13 hR rfl rfl rfl rfl rfl rfl (Q.asg rfl).toC ?_
           rintro _ _ ⟨rfl, rfl⟩
           refine RG.norm rfl ?_
           refine RG.fin hR rfl ?_
           refine J.norm rfl <| J.blk_n <| J.then_n <| J.region <| J.m rfl <| J.p rfl (Q.add64 rfl rfl (by omega)) <| J.p rfl (Q.asg rfl) <| J.nil ?_
           refine J.shutI [RW.asn r, star (rws.map RW.asn)] (star ((rws ++ [r]).map RW.asn)) (star_snoc _) ?_
           have e5 : ea.length + 1 = (ea ++ [eB]).length := by simp
           have e6 : ea.flatMap EW.cells ++ [eB].flatMap EW.cells = (ea ++ [eB]).flatMap EW.cells := by rw [List.flatMap_append]
           rw [e5, e6]
           have hgood : ∀ s, s ∈ S ++ [(⟨x.o, dd⟩ : SG)] → s.o.chkB = true ∧ s.o.id ≤ 18446744073709551615 ∧ s.o.upload ≤ 18446744073709551615 ∧ s.o.data.length ≤ 1000 := by
            intro s hs
            rcases List.mem_append.1 hs with q | q
            · exact hz.good s q
            · rw [List.mem_singleton.1 q]; exact ⟨hchk, hxi.1, hxi.2, hdl⟩
           refine J.againI ⟨i + 1, S ++ [(⟨x.o, dd⟩ : SG)], cs2, ow1, p2, c2, ea ++ [eB], p130, c130, rws ++ [r], sput ltN x.o.id true Sn⟩ ?_ (by show ln - (i + 1) < ln - i; omega) ⟨(by show _ = some (Value.slice lp ln lc); rw [hlp]; rfl), rfl, rfl, rfl, rfl, rfl, rfl, trivial⟩
           refine ⟨by show i + 1 ≤ ln; omega, by show (S ++ [_]).length ≤ i + 1; rw [List.length_append, List.length_singleton]; omega, hgood, ⟨?_⟩, hl2, ?_, ?_, ?_, ?_, ?_, X.G.srtd_put ord3_nat hsrt _ _, ?_⟩
           · intro a a2 s t ha ha2 he
             have ha : (S ++ [(⟨x.o, dd⟩ : SG)])[a]? = some s := ha
             have ha2 : (S ++ [(⟨x.o, dd⟩ : SG)])[a2]? = some t := ha2
             have key : ∀ (a : Nat) (s : SG), (S ++ [(⟨x.o, dd⟩ : SG)])[a]? = some s → (a < S.length ∧ S[a]? = some s) ∨ (a = S.length ∧ s = ⟨x.o, dd⟩) := by
              intro a s h
              rcases Nat.lt_or_ge a S.length with q | q
              · rw [List.getElem?_append_left q] at h; exact .inl ⟨q, h⟩
              · have hk := (List.getElem?_eq_some_iff.1 h).1
                rw [List.length_append, List.length_singleton] at hk
                obtain rfl : a = S.length := by omega
                rw [List.getElem?_append_right (Nat.le_refl _), Nat.sub_self] at h
                cases h; exact .inr ⟨rfl, rfl⟩
             rcases key a s ha with ⟨q1, q2⟩ | ⟨q1, q2⟩ <;> rcases key a2 t ha2 with ⟨w1, w2⟩ | ⟨w1, w2⟩
             · exact hz.dis.d a a2 s t q2 w2 he
             · rw [w2] at he; exact absurd he (hnew s (List.mem_of_getElem? q2))
             · rw [q2] at he; exact absurd he.symm (hnew t (List.mem_of_getElem? w2))
             · omega
           · intro k c hc
             have hc : cs2[k]? = some c := hc
             show c.index = k + 1 ∧ ∃ t, (cmts (S ++ [(⟨x.o, dd⟩ : SG)]))[k]? = some t ∧ c.bs = opB t.o
             rw [hc1]
             rw [hu1] at hc
             rcases Nat.lt_or_ge k cs.length with q | q
             · rw [List.getElem?_append_left q] at hc
               obtain ⟨g1, t, g2, g3⟩ := hz.cs k c hc
               exact ⟨g1, t, by rw [List.getElem?_append_left (by omega)]; exact g2, g3⟩
             · rw [List.getElem?_append_right q] at hc
               rw [List.getElem?_append_right (by omega), ← hzc]
               obtain ⟨n, hn⟩ : ∃ n, k = cs.length + n := ⟨k - cs.length, by omega⟩
               subst hn
               rw [Nat.add_sub_cancel_left] at hc ⊢
               cases dd with
               | false =>
                match n, hc with
                | 0, hc => cases hc; exact ⟨rfl, _, rfl, rfl⟩
                | n + 1, hc => cases hc
               | true =>
                match n, hc with
                | 0, hc => cases hc; exact ⟨rfl, _, rfl, rfl⟩
                | 1, hc => cases hc; exact ⟨rfl, _, rfl, rfl⟩
                | n + 2, hc => cases hc
           · intro c hc
             have hc : c ∈ cs2 := hc
             show ∃ w, w ∈ ow1 ∧ _
             rw [hu1] at hc
             rw [how1]
             rcases List.mem_append.1 hc with q | q
             · obtain ⟨w, g1, g2⟩ := hz.co c q
               exact ⟨w, List.mem_append_left _ g1, g2⟩
             · refine ⟨⟨0, opB x.o, q64, d64⟩, List.mem_append_right _ List.mem_cons_self, ?_⟩
               cases dd with
               | false => rw [List.mem_singleton.1 q]; exact ⟨rfl, rfl, rfl⟩
               | true =>
                simp only [if_true, List.mem_cons, List.not_mem_nil, or_false] at q
                rcases q with rfl | rfl <;> exact ⟨rfl, rfl, rfl⟩
           · show (ea ++ [eB]).map EW.m = evsM (S ++ [(⟨x.o, dd⟩ : SG)]) (tells (S ++ [(⟨x.o, dd⟩ : SG)])) (S ++ [(⟨x.o, dd⟩ : SG)]).length
             rw [List.length_append, List.length_singleton, evsM_snoc, ← show es.map EW.m = evsM S (tells S) S.length from hz.es, hea, List.append_assoc, List.map_append]
             congr 1
             rw [heA, heB, ← hu2, ← hl2]; rfl
           · intro e he
             have he : e ∈ ea ++ [eB] := he
             rw [hea] at he
             rcases List.mem_append.1 he with q | q
             · rcases List.mem_append.1 q with q | q
               · obtain ⟨k1, k2⟩ := hz.ew e q
                 exact ⟨k1, k2.imp id fun k2 => List.mem_append_left _ k2⟩
               · rw [List.mem_singleton.1 q, heA]; exact ⟨Nat.zero_le _, .inl rfl⟩
             · rw [List.mem_singleton.1 q, heB]; exact ⟨by show cs2.length ≤ _; omega, .inr (List.mem_append_right _ List.mem_cons_self)⟩
           · intro r' hr
             have hr : r' ∈ rws ++ [r] := hr
             rcases List.mem_append.1 hr with q | q
             · exact hz.rk r' q
             · rw [List.mem_singleton.1 q]; exact hu3
           · intro a ha s hs
             have ha : (sget a (sput ltN x.o.id true Sn)).getD false = false := ha
             rw [sget_put ord3_nat] at ha
             by_cases e : a = x.o.id
             · rw [if_pos e] at ha; cases ha
             · rw [if_neg e] at ha
               rcases List.mem_append.1 hs with q | q
               · exact hz.seen a ha s q
               · rw [List.mem_singleton.1 q]; exact fun h => e h.symm
    replace hc27 := X.nm hc27
    try (first | (cases hc27; done) | (exfalso; simp at hc27; done))
    all_goals
     refine J.cond_f rfl <| J.exit <| J.then_x <| J.lp_x <| J.blk_x <| J.then_n <| J.seq ?_
     have hro := hz.rk
     refine J.shutI [own 56 2 (.slice p6 cs.length c6) (cs.flatMap CW.cells), star (ows.map CW.asn)] (comB p6 c6 cs ows) (fun _ s => s) ?_
     refine J.tellsI (comB p6 c6 cs ows) (hz.coms hn40) fun hcs => ?_
     refine J.tellsI (star (rws.map RW.asn)) (rws_ok (fun r hr => by have h1 := hz.rk r hr; omega)) fun hro => ?_
     refine J.slrI (E0 := 58) (sz := 17) (p := p7) (n := es.length) (c := c7) (xs := es.flatMap EW.cells) fun hse => ?_
     refine J.shutI [own 58 17 (.slice p7 es.length c7) (es.flatMap EW.cells), star (rws.map RW.asn)] (star [own 58 17 (.slice p7 es.length c7) (es.flatMap EW.cells), star (rws.map RW.asn)]) (fun _ s => s) ?_
     have hev : Evs (star [own 58 17 (.slice p7 es.length c7) (es.flatMap EW.cells), star (rws.map RW.asn)]) p7 c7 es := by
      refine ⟨hse.into 0 rfl, fun e he => ?_, by omega⟩
      obtain ⟨k1, k2⟩ := hz.ew e he
      refine ⟨?_, k1⟩
      rcases k2 with k2 | k2
      · rw [k2]; exact stW_ok _ _
      · obtain ⟨t, ht⟩ := List.getElem?_of_mem k2
        exact ((hro t _ ht).into t (by rw [List.getElem?_map, ht]; rfl)).into 1 rfl
     refine J.region <| J.m rfl <| J.m rfl ?_
     refine J.callI Tryz.call8 (check_ok (comB p6 c6 cs ows) (star [own 58 17 (.slice p7 es.length c7) (es.flatMap EW.cells), star (rws.map RW.asn)]) p6 c6 cs ((cmts S).map fun t => dOp t.o) hcs (fun j y hy => (hz.cs j y hy).1) (dsB_good S) p7 c7 es hev) rfl rfl rfl ?_
     rintro _ _ ⟨p133, c133, rfl, rfl⟩
     refine J.norm rfl ?_
     rw [dsB_cmts, show es.map EW.m = evsM S (tells S) S.length from hz.es, takes_law hz.dis]
     refine J.p rfl (Q.lenSl Tryz.runUnderlying29 rfl) <| J.p rfl (Q.eql rfl rfl) <| J.p rfl (Q.asg rfl) <| J.nil <| J.then_n <| J.cret ?_
     refine J.ret1I [G] rfl rfl ⟨rfl, rfl⟩
end Go.Proofs.YtidbcaimgahllaaGreat
namespace Go.Proofs.YtidbcaimgahllaaGreat
set_option linter.unusedSectionVars false
set_option linter.unusedSimpArgs false
set_option linter.unusedVariables false
open Go.RowKit
open Go.X

section
variable {H : Type} {enc : TypeId × Value → H} {W : World} {base : Nat} {spare : Nat → Bool} {held : Bool} {v : Value}
theorem ops_all : ∀ (es : List (DataW H × List MemPlace)) (css : List (List Value)), css.length = es.length → (∀ (i : Nat) cs, css[i]? = some cs → ∃ n, DataW.trod enc Tryz.prog W base spare held n 52 cs = es[i]?) →
    ∃ l : List OW, css = l.map OW.cells ∧ (∀ x, x ∈ l → x.ok (old W) ∧ (x.o.id ≤ 18446744073709551615 ∧ x.o.upload ≤ 18446744073709551615)) ∧ bulks l ≤ Rows.uptoBulkAll (es.map (·.1))
  | [], css, h, _ => by
    obtain rfl : css = [] := List.eq_nil_of_length_eq_zero h
    exact ⟨[], rfl, by simp, by simp [bulks]⟩
  | e :: es, [], h, _ => by simp at h
  | e :: es, cs :: css, h, hg => by
    obtain ⟨n, h0⟩ := hg 0 cs rfl
    obtain ⟨y, rfl, hy, hb, hid⟩ := op_in (x := e) h0
    obtain ⟨l, rfl, hl, hbl⟩ := ops_all es css (by simpa using h) fun i c hc => hg (i + 1) c hc
    refine ⟨y :: l, rfl, fun x hx => ?_, ?_⟩
    · cases List.mem_cons.1 hx with
      | inl e => rw [e]; exact ⟨hy, hid⟩
      | inr e => exact hl x e
    · simp only [bulks, List.map_cons, List.sum_cons, Rows.uptoBulkAll] at hbl ⊢
      omega

theorem ops_in {d : DataW H} {ps : List MemPlace} {a0 : Option Addr} {ln lc : Nat} (h : DataW.Trod enc Tryz.prog W base spare held 39 (.slice a0 ln lc) d ps) (hb : Rows.uptoBulk d ≤ 1048576) : ∃ l, Ops (old W) a0 ln lc l ∧ bulks l ≤ Rows.uptoBulk d ∧ ∀ x, x ∈ l → (x.o.id ≤ 18446744073709551615 ∧ x.o.upload ≤ 18446744073709551615) := by
  obtain ⟨fuel, hf⟩ := h
  rcases elems_in (x := (d, ps)) Tryz.underlying39 cellsOp hf with ⟨e, _⟩ | ⟨a, len, cap, n, es, rs, css, e, hl, hx, hle, hcl, hcs⟩
  · cases e
    exact ⟨[], ⟨.inl ⟨none, 0, rfl, rfl⟩, by simp, by simp⟩, by simp [bulks], by simp⟩
  · cases e
    dsimp only at hx
    rw [hx] at hb
    simp only [Rows.uptoBulk] at hb
    have hbl := bulk_len (es.map (·.1))
    rw [List.length_map, hle] at hbl
    obtain ⟨l, rfl, hok, hbk⟩ := ops_all (enc := enc) (W := W) (base := base) (spare := spare) (held := held) es css (by omega) fun i cs hc => ⟨n, (hcs i cs hc).2.2⟩
    have hll : l.length = ln := by rw [← hcl, List.length_map]
    refine ⟨l, ⟨slr_old (by rw [flat_length OW.cells_length, hll]) ?_ (by omega), fun x hx => (hok x hx).1, by omega⟩, by rw [hx]; simp only [Rows.uptoBulk]; omega, fun x hx => (hok x hx).2⟩
    intro k u hu
    have hk : k < l.length * 9 := by
      have := (List.getElem?_eq_some_iff.1 hu).1
      rwa [flat_length OW.cells_length] at this
    obtain ⟨y, hy⟩ : ∃ y, l[k / 9]? = some y := ⟨_, List.getElem?_eq_getElem (by omega)⟩
    obtain ⟨u', hu'⟩ : ∃ u', y.cells[k % 9]? = some u' := ⟨_, List.getElem?_eq_getElem (by rw [OW.cells_length]; omega)⟩
    have hfl := flat_get OW.cells_length hy hu'
    rw [show k / 9 * 9 + k % 9 = k from by omega, hu] at hfl
    cases hfl
    obtain ⟨_, h2, _⟩ := hcs (k / 9) y.cells (by rw [List.getElem?_map, hy]; rfl)
    have := h2 _ u hu'
    rwa [show k / 9 * 9 + k % 9 = k from by omega] at this
end
end Go.Proofs.YtidbcaimgahllaaGreat
namespace Go.Proofs.YtidbcaimgahllaaGreat
set_option linter.unusedSectionVars false
set_option linter.unusedSimpArgs false
set_option linter.unusedVariables false
open Go.RowKit
open Go.X

theorem choose_all {α : Type} {f : α → Value} {Q : α → Prop} : ∀ (css : List (List Value)), (∀ cs, cs ∈ css → ∃ d : α, cs = [f d] ∧ Q d) → ∃ ds : List α, css = ds.map (fun d => [f d]) ∧ ∀ d, d ∈ ds → Q d
  | [], _ => ⟨[], rfl, by simp⟩
  | cs :: r, h => by
    obtain ⟨d, h1, h2⟩ := h cs (by simp)
    obtain ⟨ds, h3, h4⟩ := choose_all r fun c hc => h c (List.mem_cons_of_mem _ hc)
    refine ⟨d :: ds, by rw [h1, h3]; rfl, fun x hx => ?_⟩
    cases List.mem_cons.1 hx with
    | inl e => rw [e]; exact h2
    | inr e => exact h4 x e

section
variable {H : Type} {enc : TypeId × Value → H} {W : World} {base : Nat} {spare : Nat → Bool} {held : Bool} {fuel : Nat} {v : Value} {x : DataW H × List MemPlace} {cs : List Value}
theorem cellsBool : Tryz.prog.cellsOf 4 = 1 := by kernel_rfl
end
end Go.Proofs.YtidbcaimgahllaaGreat
namespace Go.Proofs.YtidbcaimgahllaaGreat
set_option linter.unusedSectionVars false
set_option linter.unusedSimpArgs false
set_option linter.unusedVariables false
open Go.RowKit
open Go.X
section
variable {H : Type} {enc : TypeId × Value → H} {W : World} {base : Nat} {spare : Nat → Bool} {held : Bool} {fuel : Nat} {v : Value} {x : DataW H × List MemPlace}
theorem bools_in (h : DataW.trod enc Tryz.prog W base spare held fuel 62 [v] = some x) : ∃ (p : Option Addr) (cap : Nat) (ss : List Bool), v = .slice p ss.length cap ∧ SlR [old W] 1 (.slice p ss.length cap) (ss.map Value.bool) ∧ ss.length ≤ Rows.uptoBulk x.1 := by
  rcases elems_in Tryz.underlying62 cellsBool h with ⟨rfl, _⟩ | ⟨a, len, cap, n, es, rs, css, rfl, hc, hx, hel, hcl, hcss⟩
  · exact ⟨none, 0, [], rfl, .inl ⟨none, 0, rfl, rfl⟩, by simp⟩
  · obtain ⟨ss, hds, _⟩ := choose_all (f := Value.bool) (Q := fun _ => True) css (by
      intro cs hm
      obtain ⟨i, hi, he⟩ := List.mem_iff_getElem.1 hm
      have hi' : css[i]? = some cs := by rw [List.getElem?_eq_getElem hi, he]
      obtain ⟨_, _, h3⟩ := hcss i cs hi'
      obtain ⟨y, hy⟩ : ∃ y, es[i]? = some y := ⟨_, List.getElem?_eq_getElem (by omega)⟩
      rw [hy] at h3
      obtain ⟨s, k1, _⟩ := DataW.trod_bool Tryz.underlying4 h3
      exact ⟨s, k1, trivial⟩)
    have hl : len = ss.length := by rw [← hcl, hds, List.length_map]
    subst hl
    refine ⟨some a, cap, ss, rfl, slr_old (by simp) ?_ (by omega), by rw [hx, ← hel]; have := len_le (es := es.map (·.1)) (rs := rs); rwa [List.length_map] at this⟩
    intro i u hu
    rw [List.getElem?_map, Option.map_eq_some_iff] at hu
    obtain ⟨d, hd, rfl⟩ := hu
    have := (hcss i [.bool d] (by rw [hds, List.getElem?_map, hd]; rfl)).2.1 0 (.bool d) rfl
    simpa using this
end
end Go.Proofs.YtidbcaimgahllaaGreat
namespace Go.Proofs.YtidbcaimgahllaaGreat
set_option linter.unusedSectionVars false
set_option linter.unusedSimpArgs false
set_option linter.unusedVariables false
open Go.ChangeShapes Go.WideShapes Go.ChangeAt Go.RowKit
open Go.X

namespace judgeDoubles
set_option linter.unusedVariables false
theorem own : ownKnob Tryz.prog.godebug = none := by kernel_rfl
theorem laidOut : laidOutB Tryz.prog = true := by kernel_rfl

theorem walk (a0 : Option Addr) (ln lc : Nat) (l : List OW) (bp : Option Addr) (bc : Nat) (bs : List Bool) (W : World) (w0 : Ops (old W) a0 ln lc l) (hid : ∀ x, x ∈ l → x.o.id ≤ 18446744073709551615 ∧ x.o.upload ≤ 18446744073709551615) (hbs : SlR [old W] 1 (.slice bp bs.length bc) (bs.map Value.bool)) (hbl : bs.length ≤ 1048576) :
    Calls Tryz.prog 5 #[.slice a0 ln lc, .slice bp bs.length bc] W fun e w' => e = .returned (.bool true) ∧ Below W.heap.size W w' := (doubles_spec (old W) a0 ln lc l w0 hid bp bc bs hbs hbl).lift

set_option maxRecDepth 100000 in
theorem lifted (os : Os) (started : os.Started) (H : Type) (enc : TypeId × Value → H) (F : Stop.Interp) :
    ReturnsInHanded {} Tryz.checked os 5 .any ((Rows.OpenSpec.upto Rows.judgeDoublesSpec).pre6 enc Tryz.prog Tryz.f5 Rows.judgeDoublesUptoRow.domain false) (((Rows.OpenSpec.upto Rows.judgeDoublesSpec).at F).post enc Tryz.prog Tryz.f5 false true false false) := by
  refine returnsInHanded_of_cond (C := Tryz.checked) (s := Rows.OpenSpec.upto Rows.judgeDoublesSpec) (k := Rows.uptoSmall) rfl own started (by kernel_rfl) Tryz.func5
    (OpenSpec.witness (enc := enc) (C := Tryz.checked) (s := Rows.OpenSpec.upto Rows.judgeDoublesSpec) (k := Rows.uptoSmall) rfl false ⟨#[], #[.slice none 0 0, .slice none 0 0], []⟩ 8 (by kernel_rfl) (by kernel_rfl) (by kernel_rfl)
      (x := ([.nil, .nil], [], [])) (by kernel_rfl) rfl (by kernel_rfl)) ?_
  intro W base args ds gs before hval0 hW hcnd hk _
  have hval : ∀ (j : Nat) t v, Tryz.f5.params[j]? = some t → args[j]? = some v → Value.okWide Tryz.prog W .any base t v := hval0
  have hW' := hW
  obtain ⟨p, q, hA0, hV, rfl, hfz, hnd⟩ := hW
  have hA : DataW.TrodAll enc Tryz.prog W 0 (fun _ => true) true Tryz.f5.params.toList args.toList ds p := hA0
  rw [Tryz.params5] at hA hval
  obtain ⟨v0, vs0, d0, ds0, p0, q0, hargs, rfl, rfl, h0, r0⟩ := trodAll_cons hA
  obtain ⟨v1, vs1, d1, ds1, p1, q1, rfl, rfl, rfl, h1, r1⟩ := trodAll_cons r0
  obtain ⟨rfl, rfl, rfl⟩ := trodAll_nil r1
  obtain rfl : args = #[v0, v1] := by cases args; simp_all
  obtain ⟨rfl, rfl⟩ := trodVars_none hV
  have hbk := of_decide_eq_true hk
  simp only [List.append_nil, Rows.uptoBulkAll] at hbk
  have lt0 : ∀ x ∈ p0, x.block < W.heap.size := by obtain ⟨m, hm⟩ := h0; exact DataW.trod_lt m _ _ _ hm
  have lt1 : ∀ x ∈ p1, x.block < W.heap.size := by obtain ⟨m, hm⟩ := h1; exact DataW.trod_lt m _ _ _ hm
  obtain ⟨a0, ln, lc, rfl⟩ := okWide_slice Tryz.underlying39 (hval 0 39 v0 rfl rfl)
  obtain ⟨xa1, xl1, xc1, rfl⟩ := okWide_slice Tryz.underlying62 (hval 1 62 v1 rfl rfl)
  obtain ⟨l, w0, wb, wid⟩ := ops_in h0 (by omega)
  obtain ⟨bp, bc, bs, ev, hbs, hbl⟩ : ∃ (p : Option Addr) (cap : Nat) (ss : List Bool), Value.slice xa1 xl1 xc1 = .slice p ss.length cap ∧ SlR [old W] 1 (.slice p ss.length cap) (ss.map Value.bool) ∧ ss.length ≤ Rows.uptoBulk d1 := by
    obtain ⟨m, hm⟩ := h1
    exact bools_in hm
  cases ev
  clear hA0 hval0
  refine (walk a0 ln lc l _ _ bs W w0 wid hbs (by omega)).mono fun e W' ⟨he, bel⟩ => ?_
  subst he
  exact ⟨_, rfl, _, _, _, [], _, [], hW', trodAll_mk1 (shut_bool Tryz.underlying4 _), (trodAll_cons_mk (Below.trod laidOut (by kernel_rfl) (of_decide_eq_true (by kernel_rfl)) h0 bel lt0) (trodAll_cons_mk (Below.trod laidOut (by kernel_rfl) (of_decide_eq_true (by kernel_rfl)) h1 bel lt1) trodAll_mk0)), rfl, bel.frame _, fun h => by cases h⟩

theorem over : Rows.judgeDoublesUptoRow.holds Tryz.pinned (Rows.OpenSpec.upto Rows.judgeDoublesSpec) :=
  OpenClaim.holds_of_cond 5 Tryz.f5 rfl rfl rfl rfl rfl rfl rfl ⟨rfl, rfl, rfl, rfl, rfl⟩ rfl rfl rfl rfl rfl (by kernel_rfl) Tryz.func5 (by kernel_rfl)
    (of_decide_eq_true (by kernel_rfl)) (by unfold Func.isWrapper; first | (rw [if_pos (by decide +kernel)]; kernel_rfl) | (rw [if_neg (by decide +kernel)]; exact ⟨rfl, rfl⟩))
    (fun os started H enc _ F => lifted os started H enc F)
end judgeDoubles

theorem judgeDoubles_holds : Rows.JudgeDoublesUptoSaid := judgeDoubles.over
end Go.Proofs.YtidbcaimgahllaaGreat

