/-
  JudgeTakes: a history that was done in order has no fault, and one false answer is the fault. For arguments of bulk at most 1048576.
-/
import Derived.JoinedCond
import Derived.Test.YtidbcaimgahllaaGreatKb5
namespace Go.Proofs.YtidbcaimgahllaaGreat
set_option linter.unusedSectionVars false
set_option linter.unusedSimpArgs false
set_option linter.unusedVariables false
open Go.X
open Go.X.G (Ord3 ord3_nat ord3_int ord3_str ltB sget sput sdel Srtd MapAt MapHole valRep)

theorem flat_sub {α : Type} {c : α → List Value} {sz : Nat} (hc : ∀ x, (c x).length = sz) {l : List α} {i k : Nat} {x x' : α} {vs : List Value} (hx : l[i]? = some x) (hk : k + vs.length ≤ sz) (h : c x' = splice (c x) k vs) : splice (l.flatMap c) (i * sz + k) vs = (l.set i x').flatMap c := by
  have hi := (List.getElem?_eq_some_iff.1 hx).1
  have hfl := flat_length (l := l) hc
  have hm : i * sz + sz ≤ l.length * sz := by rw [← Nat.succ_mul]; exact Nat.mul_le_mul_right _ hi
  rw [← flat_set hc l i x' hi]
  refine List.ext_getElem? fun t => ?_
  rw [splice_get (by omega), splice_get (by rw [hc]; omega), hc]
  by_cases h1 : i * sz ≤ t ∧ t < i * sz + sz
  · rw [if_pos h1, h, splice_get (by rw [hc]; omega)]
    have hf : (l.flatMap c)[t]? = (c x)[t - i * sz]? := by
      obtain ⟨u, hu⟩ : ∃ u, (c x)[t - i * sz]? = some u := ⟨_, List.getElem?_eq_getElem (by rw [hc]; omega)⟩
      have := flat_get hc hx hu
      rw [show i * sz + (t - i * sz) = t by omega] at this
      rw [this, hu]
    by_cases h2 : i * sz + k ≤ t ∧ t < i * sz + k + vs.length
    · rw [if_pos h2, if_pos (by omega), show t - (i * sz + k) = t - i * sz - k by omega]
    · rw [if_neg h2, if_neg (by omega), hf]
  · rw [if_neg h1, if_neg (by omega)]

def dOp (o : OM) : DM := ⟨o, false, false⟩
def segs (l : List OW) : List SG := l.map fun x => ⟨x.o, false⟩
theorem segs_take (l : List OW) (k : Nat) : (segs l).take k = segs (l.take k) := by simp [segs, List.map_take]
theorem cmts_segs (l : List OW) : cmts (segs l) = l.map fun x => ⟨x.o, false⟩ := by
  induction l with
  | nil => rfl
  | cons x l ih => 
    have : cmts (segs (x :: l)) = ⟨x.o, false⟩ :: cmts (segs l) := rfl
    rw [this, ih]; rfl
theorem cmts_len (l : List OW) {k : Nat} (hk : k ≤ l.length) : (cmts ((segs l).take k)).length = k := by
  rw [segs_take, cmts_segs, List.length_map, List.length_take]; omega
theorem play_inv : ∀ (l : List SM) {k : Nat} {z : PS}, z.M.inv k → (∀ s, s ∈ l → s.o.data.length ≤ 131072 ∧ s.o.id ≤ U64) → (l.foldl PS.step z).M.inv (k + l.length)
  | [], _, _, h, _ => h
  | s :: l, k, z, h, hs => by
    have h1 := hs s List.mem_cons_self
    have hstep : (z.step s).M.inv (k + 1) := by
      unfold PS.step
      split
      · exact ⟨h.ok.mono (Nat.le_succ k), h.kok, h.fit.mono (Nat.le_succ k), h.kin⟩
      · exact h.run h1.1 h1.2
    have := play_inv l hstep fun t ht => hs t (List.mem_cons_of_mem _ ht)
    rw [List.foldl_cons, List.length_cons, show k + (l.length + 1) = k + 1 + l.length by omega]; exact this
theorem playP_inv {l : List SM} (hs : ∀ s, s ∈ l → s.o.data.length ≤ 131072 ∧ s.o.id ≤ U64) : (playP l).M.inv l.length := by
  have := play_inv l (k := 0) (z := ⟨⟨[], [], []⟩, [], []⟩) inv_new hs
  rwa [Nat.zero_add] at this

structure TZ where
  i : Nat
  cs : List CW
  p8 : Option Addr
  c8 : Nat
  es : List EW
  p9 : Option Addr
  c9 : Nat
  rws : List RW
  p10 : Option Addr
  c10 : Nat
structure TZ.ok (l : List OW) (z : TZ) : Prop where
  i : z.i ≤ l.length
  chk : ∀ (j : Nat) (x : OW), j < z.i → l[j]? = some x → x.o.chkB = true
  dis : ∀ (j k : Nat) (x y : OW), j < z.i → k < z.i → l[j]? = some x → l[k]? = some y → x.o.id = y.o.id → j = k
  cl : z.cs.length = z.i
  cs : ∀ (j : Nat) (c : CW), z.cs[j]? = some c → c.index = j + 1 ∧ ∃ x, l[j]? = some x ∧ c.bs = opB x.o
  es : z.es.map EW.m = evsM (segs l) (tells (segs l)) z.i
  el : z.es.length = 2 * z.i
  ew : ∀ e, e ∈ z.es → e.index ≤ 18446744073709551615 ∧ (e.w = stW 0 ∨ e.w ∈ z.rws)
  rl : z.rws.length = z.i
  rs : z.rws.map (·.r) = (tells (segs l)).take z.i
  rk : ∀ r, r ∈ z.rws → r.r.keys.length ≤ 1000 ∧ r.r.data.length ≤ 274877906944
theorem TZ.ok.dist {l : List OW} {z : TZ} (h : z.ok l) (hi : z.i = l.length) : DisI (segs l) := ⟨fun j k s t hs ht e => by
  unfold segs at hs ht
  rw [List.getElem?_map, Option.map_eq_some_iff] at hs ht
  obtain ⟨x, hx, rfl⟩ := hs
  obtain ⟨y, hy, rfl⟩ := ht
  exact h.dis j k x y (by rw [hi]; exact (List.getElem?_eq_some_iff.1 hx).1) (by rw [hi]; exact (List.getElem?_eq_some_iff.1 hy).1) hx hy e⟩
theorem TZ.ok.rws {l : List OW} {z : TZ} (h : z.ok l) : ∀ r, r ∈ z.rws → r.r.keys.length ≤ 1099511627776 ∧ r.r.data.length ≤ 1099511627776 := fun r hr => by
  have := h.rk r hr; omega
theorem TZ.ok.coms {l : List OW} {z : TZ} (h : z.ok l) (hi : z.i = l.length) (hn : l.length ≤ 60) (hid : ∀ x, x ∈ l → x.o.id ≤ 18446744073709551615 ∧ x.o.upload ≤ 18446744073709551615) {p : Option Addr} {c : Nat} :
    ∀ q, comA p c z.cs q → Coms (comA p c z.cs) p c z.cs (l.map fun x => dOp x.o) := by
  have hf : ∀ (j : Nat) (x : OW), l[j]? = some x → x.o.fine ∧ x.o.chkB = true := fun j x hx => by
    have h1 := h.chk j x (by rw [hi]; exact (List.getElem?_eq_some_iff.1 hx).1) hx
    have h2 := hid x (List.mem_of_getElem? hx)
    exact ⟨chk_fine h1 h2.1 h2.2, h1⟩
  refine coms_tells (by rw [h.cl]; have := h.i; omega) (fun j c hc => ?_) (by rw [List.length_map, h.cl, hi]) fun c hc => ?_
  · obtain ⟨_, x, hx, hb⟩ := h.cs j c hc
    obtain ⟨f1, f2⟩ := hf j x hx
    exact ⟨dOp x.o, by rw [List.getElem?_map, hx]; rfl, by rw [hb]; exact decode_op f1 f2⟩
  · obtain ⟨j, hj⟩ := List.getElem?_of_mem hc
    obtain ⟨_, x, hx, hb⟩ := h.cs j c hj
    rw [hb]
    have := opB_len (hf j x hx).1; omega
theorem TZ.ok.index {l : List OW} {z : TZ} (h : z.ok l) : ∀ (j : Nat) (y : CW), z.cs[j]? = some y → y.index = j + 1 := fun j y hy => (h.cs j y hy).1
theorem ds_good (l : List OW) : ∀ d, d ∈ (l.map fun x => dOp x.o) → d.bad = false := fun d hd => by
  obtain ⟨x, _, rfl⟩ := List.mem_map.1 hd; rfl
theorem ds_cmts (l : List OW) : (l.map fun x => dOp x.o).map DM.m = cmts (segs l) := by
  rw [cmts_segs, List.map_map]; rfl

theorem takes_spec (G : Assn) (lp : Option Addr) (ln lc : Nat) (l : List OW) (hl : Ops G lp ln lc l) (hb : bulks l ≤ 1048576) (hid : ∀ x, x ∈ l → x.o.id ≤ 18446744073709551615 ∧ x.o.upload ≤ 18446744073709551615) (at_ : Int) (xw : RW) (hxw : xw.ok G) :
    FSpec Tryz.prog 4 [.slice lp ln lc, .int .i64 at_, .agg xw.cells.toArray] [G] (fun v B => v = .bool true ∧ B = [G]) := by
  have hlen := hl.len
  have hlsm := hl.small
  refine FSpec.of Tryz.func4 rfl Tryz.ntmps4 rfl fun W1 F => ?_
  refine J.seq <| J.region ?_
  refine J.c rfl rfl (C.box (l := [_, _, _, _, _]) rfl rfl) ?_
  rintro _ _ ⟨b5, rfl, rfl⟩
  refine J.norm rfl <| J.p rfl (Q.asg rfl) <| J.nil <| J.then_n <| J.seq <| J.seq <| J.region ?_
  refine J.callI Tryz.call6 (known_spec) rfl rfl rfl ?_
  rintro _ _ ⟨rfl, rfl⟩
  refine J.norm rfl <| J.p rfl (Q.not rfl) <| J.nil <| J.then_n <| J.cond_f rfl <| J.cskip <| J.then_n <| J.seq <| J.seq <| J.region <| J.m rfl ?_
  refine J.callI Tryz.call10 (few_spec G lp ln lc l hl hb) rfl rfl rfl ?_
  rintro _ _ ⟨f1, hf1, rfl, rfl⟩
  refine J.norm rfl <| J.p rfl (Q.not rfl) <| J.m rfl ?_
  refine J.cases 20 rfl (fun hb20 => ?_) (fun hb20 => ?_)
  ·
   replace hb20 := X.nm hb20
   try (first | (cases hb20; done) | (exfalso; simp at hb20; done))
   all_goals
    refine J.skip rfl rfl <| J.skip rfl rfl <| J.skip rfl rfl <| J.p rfl (Q.pick_t rfl rfl) <| J.m rfl <| J.skip rfl rfl <| J.skip rfl rfl <| J.skip rfl rfl <| J.p rfl (Q.pick_t rfl rfl) <| J.nil <| J.then_n <| J.cond_t rfl <| J.seq <| J.region <| J.p rfl (Q.asg rfl) <| J.nil <| J.then_n <| J.cret <| J.then_r ?_
    refine J.ret1I [G] rfl rfl ⟨rfl, rfl⟩
  replace hb20 := X.nm hb20
  try (first | (cases hb20; done) | (exfalso; simp at hb20; done))
  all_goals
   refine J.m rfl <| J.p rfl (Q.lenSl Tryz.runUnderlying39 rfl) <| J.p rfl (Q.eql rfl rfl) <| J.p rfl (Q.pick_f rfl rfl) <| J.m rfl ?_
   refine J.cases 25 rfl (fun hb25 => ?_) (fun hb25 => ?_)
   ·
    replace hb25 := X.nm hb25
    try (first | (cases hb25; done) | (exfalso; simp at hb25; done))
    all_goals
     refine J.skip rfl rfl <| J.skip rfl rfl <| J.skip rfl rfl <| J.p rfl (Q.pick_t rfl rfl) <| J.nil <| J.then_n <| J.cond_t rfl <| J.seq <| J.region <| J.p rfl (Q.asg rfl) <| J.nil <| J.then_n <| J.cret <| J.then_r ?_
     refine J.ret1I [G] rfl rfl ⟨rfl, rfl⟩
   replace hb25 := X.nm hb25
   try (first | (cases hb25; done) | (exfalso; simp at hb25; done))
   all_goals
    refine J.m rfl <| J.p rfl (Q.lenSl Tryz.runUnderlying39 rfl) <| J.p rfl (Q.gtr rfl rfl) <| J.p rfl (Q.pick_f rfl rfl) <| J.nil <| J.then_n ?_
    refine J.cases 29 rfl (fun hc29 => ?_) (fun hc29 => ?_)
    ·
     replace hc29 := X.nm hc29
     try (first | (cases hc29; done) | (exfalso; simp at hc29; done))
     all_goals
      refine J.cond_t rfl <| J.seq <| J.region <| J.p rfl (Q.asg rfl) <| J.nil <| J.then_n <| J.cret <| J.then_r ?_
      refine J.ret1I [G] rfl rfl ⟨rfl, rfl⟩
    replace hc29 := X.nm hc29
    try (first | (cases hc29; done) | (exfalso; simp at hc29; done))
    all_goals
     refine J.cond_f rfl <| J.cskip <| J.then_n <| J.seq ?_
     have hft : f1 = true := by simpa using hb20
     have hf2 := hf1 hft
     have hn60 : ln ≤ 60 := by omega
     have hn0 : 0 < ln := by omega
     have hdat : ∀ x, x ∈ l → x.o.data.length ≤ 131072 := fun x hx => (fits hf2.2 (fun x hx => (hid x hx).1) x.o (List.mem_map.2 ⟨x, hx, rfl⟩)).1
     have iM : ∀ k, k ≤ ln → (playP (cmts ((segs l).take k))).M.inv k := fun k hk => by
      have := playP_inv (l := cmts ((segs l).take k)) (fun s hs => by
       rw [segs_take, cmts_segs] at hs
       obtain ⟨x, hx, rfl⟩ := List.mem_map.1 hs
       have hx2 := List.mem_of_mem_take hx
       exact ⟨hdat x hx2, (hid x hx2).1⟩)
      rwa [cmts_len l (by omega)] at this
     refine J.region ?_
     refine J.callI Tryz.call11 (rnew_spec) rfl rfl rfl ?_
     rintro _ _ ⟨m, rfl, rfl⟩
     refine J.norm rfl <| J.p rfl (Q.asg rfl) <| J.nil <| J.then_n <| J.seq <| J.region <| J.p rfl (Q.asg rfl) <| J.nil <| J.then_n <| J.seq <| J.region <| J.p rfl (Q.asg rfl) <| J.nil <| J.then_n <| J.seq <| J.region <| J.p rfl (Q.asg rfl) <| J.nil <| J.then_n <| J.seq <| J.seq <| J.region <| J.p rfl (Q.asg rfl) <| J.nil <| J.then_n <| J.block ?_
     refine J.give (own.nil 56 2 _) ?_
     refine J.give (X := star (([] : List CW).map CW.asn)) trivial ?_
     refine J.give (own.nil 58 17 _) ?_
     refine J.give (own.nil 44 5 _) ?_
     refine J.give (X := star (([] : List RW).map RW.asn)) trivial ?_
     refine J.keepI [own 56 2 (.slice none 0 0) [], star (([] : List CW).map CW.asn), own 58 17 (.slice none 0 0) [], own 44 5 (.slice none 0 0) [], star (([] : List RW).map RW.asn), RefAt m ⟨[], [], []⟩, G, pt b5 (.cells xw.cells.toArray 44 (0, 0)), F] ?_
     refine J.loop (fun z : TZ => z.ok l) (fun z => ln - z.i) (fun z => [(0, .slice lp ln lc), (1, .int .i64 at_), (5, .pointer (some ⟨b5, 0, none⟩)), (7, .pointer (some ⟨m, 0, none⟩)), (8, .slice z.p8 z.cs.length z.c8), (9, .slice z.p9 z.es.length z.c9), (10, .slice z.p10 z.rws.length z.c10), (11, .int .i64 z.i)])
      (fun z => [own 56 2 (.slice z.p8 z.cs.length z.c8) (z.cs.flatMap CW.cells), star (z.cs.map CW.asn), own 58 17 (.slice z.p9 z.es.length z.c9) (z.es.flatMap EW.cells), own 44 5 (.slice z.p10 z.rws.length z.c10) (z.rws.flatMap RW.cells), star (z.rws.map RW.asn), RefAt m (playP (cmts ((segs l).take z.i))).M, G, pt b5 (.cells xw.cells.toArray 44 (0, 0)), F]) ⟨0, [], none, 0, [], none, 0, [], none, 0⟩ ⟨Nat.zero_le _, (fun _ _ h => absurd h (Nat.not_lt_zero _)), (fun _ _ _ _ h => absurd h (Nat.not_lt_zero _)), rfl, (fun _ _ h => by cases h), rfl, rfl, (fun _ h => by cases h), rfl, rfl, (fun _ h => by cases h)⟩ ⟨rfl, rfl, rfl, rfl, rfl, rfl, rfl, rfl, trivial⟩ rfl fun z hz => ?_
     obtain ⟨i, cs, p8, c8, es, p9, c9, rws, p10, c10⟩ := z
     have hzi := hz.i
     have hzc := hz.cl
     have hze := hz.el
     have hzr := hz.rl
     dsimp only at hzi hzc hze hzr ⊢
     obtain ⟨Mi, hMi⟩ : ∃ Mi, Mi = (playP (cmts ((segs l).take i))).M := ⟨_, rfl⟩
     rw [← hMi]
     refine J.seq <| J.seq <| J.region <| J.m rfl <| J.m rfl <| J.p rfl (Q.lenSl Tryz.runUnderlying39 rfl) <| J.p rfl (Q.lss rfl rfl) <| J.nil <| J.then_n ?_
     refine J.cases 34 rfl (fun hc34 => ?_) (fun hc34 => ?_)
     ·
      replace hc34 := X.nm hc34
      try (first | (cases hc34; done) | (exfalso; simp at hc34; done))
      all_goals
       refine J.cond_t rfl <| J.cskip <| J.then_n <| J.seq <| J.block <| J.seq <| J.seq ?_
       have hil : i < ln := by omega
       obtain ⟨b, off, hlp, hrd⟩ := hl.rd.some_ (by omega)
       obtain ⟨x, hx⟩ : ∃ x, l[i]? = some x := ⟨_, List.getElem?_eq_getElem (by omega)⟩
       have hxm := List.mem_of_getElem? hx
       have hxo := hl.ok x hxm
       have hxi := hid x hxm
       have iMi : Mi.inv i := by rw [hMi]; exact iM i (by omega)
       refine J.slot 0 (.slice (some ⟨b, off, none⟩) ln lc) rfl (by rw [hlp]) ?_
       refine J.region <| J.m rfl <| J.m rfl <| J.p rfl (Q.ia Tryz.runUnderlying39 Tryz.sizeOf52 rfl rfl (by omega) (by omega)) <| J.p rfl (Q.ldN (vs := [_, _, _, _, _, _, _, _, _]) Tryz.isAgg52 Tryz.sizeOf52 rfl (ReadsN.inI (rd_elem OW.cells_length hrd hx (by simp)))) ?_
       refine J.callI Tryz.call12 (rcheck_spec G x hxo) rfl rfl rfl ?_
       rintro _ _ ⟨rfl, rfl⟩
       refine J.norm rfl <| J.p rfl (Q.neq rfl rfl) <| J.nil <| J.then_n ?_
       refine J.cases 42 rfl (fun hc42 => ?_) (fun hc42 => ?_)
       ·
        replace hc42 := X.nm hc42
        try (first | (cases hc42; done) | (exfalso; simp at hc42; done))
        all_goals
         refine J.cond_t rfl <| J.seq <| J.region <| J.p rfl (Q.asg rfl) <| J.nil <| J.then_n <| J.cret <| J.then_r <| J.blk_r <| J.then_r <| J.lp_r <| J.blk_r <| J.then_r ?_
         refine J.ret1I [G] rfl rfl ⟨rfl, rfl⟩
       replace hc42 := X.nm hc42
       try (first | (cases hc42; done) | (exfalso; simp at hc42; done))
       all_goals
        refine J.cond_f rfl <| J.cskip <| J.then_n <| J.seq <| J.seq ?_
        have hchk : x.o.chkB = true := by
         rw [chk_eq]
         cases h : x.o.chkR with
         | true => rfl
         | false => rw [h] at hc42; simp at hc42
        have hfine := chk_fine hchk hxi.1 hxi.2
        refine J.region <| J.p rfl (Q.asg rfl) <| J.nil <| J.then_n <| J.block ?_
        refine J.keepI [own 56 2 (.slice p8 cs.length c8) (cs.flatMap CW.cells), star (cs.map CW.asn), own 58 17 (.slice p9 es.length c9) (es.flatMap EW.cells), own 44 5 (.slice p10 rws.length c10) (rws.flatMap RW.cells), star (rws.map RW.asn), RefAt m Mi, G, pt b5 (.cells xw.cells.toArray 44 (0, 0)), F] ?_
        refine J.loop (fun j : Nat => j ≤ i ∧ ∀ (k : Nat) (y : OW), k < j → l[k]? = some y → y.o.id ≠ x.o.id) (fun j => i - j) (fun j => [(0, .slice (some ⟨b, off, none⟩) ln lc), (1, .int .i64 at_), (5, .pointer (some ⟨b5, 0, none⟩)), (7, .pointer (some ⟨m, 0, none⟩)), (8, .slice p8 cs.length c8), (9, .slice p9 es.length c9), (10, .slice p10 rws.length c10), (11, .int .i64 i), (12, .int .i64 j)])
         (fun _ => [own 56 2 (.slice p8 cs.length c8) (cs.flatMap CW.cells), star (cs.map CW.asn), own 58 17 (.slice p9 es.length c9) (es.flatMap EW.cells), own 44 5 (.slice p10 rws.length c10) (rws.flatMap RW.cells), star (rws.map RW.asn), RefAt m Mi, G, pt b5 (.cells xw.cells.toArray 44 (0, 0)), F]) 0 ⟨Nat.zero_le _, (fun _ _ h => absurd h (Nat.not_lt_zero _))⟩ ⟨rfl, rfl, rfl, rfl, rfl, rfl, rfl, rfl, rfl, trivial⟩ rfl fun j hjj => ?_
        obtain ⟨hji, hjd⟩ := hjj
        refine J.seq <| J.seq <| J.region <| J.m rfl <| J.m rfl <| J.p rfl (Q.lss rfl rfl) <| J.nil <| J.then_n ?_
        refine J.cases 45 rfl (fun hc45 => ?_) (fun hc45 => ?_)
        ·
         replace hc45 := X.nm hc45
         try (first | (cases hc45; done) | (exfalso; simp at hc45; done))
         all_goals
          refine J.cond_t rfl <| J.cskip <| J.then_n <| J.seq <| J.block <| J.seq ?_
          have hjl : j < i := by omega
          obtain ⟨y, hy⟩ : ∃ y, l[j]? = some y := ⟨_, List.getElem?_eq_getElem (by omega)⟩
          refine J.draw [] Tryz.mixed (by kernel_rfl) fun hR => ?_
          refine RG.p 0 hR rfl (Q.mv rfl) <| RG.p 1 hR rfl (Q.mv rfl) <| RG.p 2 hR rfl (Q.ia Tryz.runUnderlying39 Tryz.sizeOf52 rfl rfl (by omega) (by omega)) <| RG.p 3 hR rfl (Q.fa (n := 0) Tryz.runUnderlying52 rfl rfl Tryz.sizeOf40 rfl) <| RG.p 4 hR rfl (Q.ld Tryz.isAgg40 rfl ((((rd_elem OW.cells_length hrd hy rfl) 0 (.int .u64 y.o.id) rfl).cast (by simp)).inI)) ?_
          refine RG.p 5 hR rfl (Q.mv rfl) <| RG.p 6 hR rfl (Q.mv rfl) <| RG.p 7 hR rfl (Q.ia Tryz.runUnderlying39 Tryz.sizeOf52 rfl rfl (by omega) (by omega)) <| RG.p 8 hR rfl (Q.fa (n := 0) Tryz.runUnderlying52 rfl rfl Tryz.sizeOf40 rfl) <| RG.p 9 hR rfl (Q.ld Tryz.isAgg40 rfl ((((rd_elem OW.cells_length hrd hx rfl) 0 (.int .u64 x.o.id) rfl).cast (by simp)).inI)) ?_
          refine RG.p 10 hR rfl (Q.eql rfl rfl) ?_
          refine RG.fin hR rfl ?_
          refine J.norm rfl <| J.then_n ?_
          refine J.cases 58 rfl (fun hc58 => ?_) (fun hc58 => ?_)
          ·
           replace hc58 := X.nm hc58
           try (first | (cases hc58; done) | (exfalso; simp at hc58; done))
           all_goals
            refine J.cond_t rfl <| J.seq <| J.region <| J.p rfl (Q.asg rfl) <| J.nil <| J.then_n <| J.cret <| J.blk_r <| J.then_r <| J.lp_r <| J.blk_r <| J.then_r <| J.blk_r <| J.then_r <| J.lp_r <| J.blk_r <| J.then_r ?_
            refine J.ret1I [G] rfl rfl ⟨rfl, rfl⟩
          replace hc58 := X.nm hc58
          try (first | (cases hc58; done) | (exfalso; simp at hc58; done))
          all_goals
           refine J.cond_f rfl <| J.cskip <| J.blk_n <| J.then_n <| J.region <| J.m rfl <| J.p rfl (Q.add64 rfl rfl (by omega)) <| J.p rfl (Q.asg rfl) <| J.nil ?_
           refine J.againI (j + 1) ⟨by show j + 1 ≤ i; omega, ?_⟩ (by show i - (j + 1) < i - j; omega) ⟨rfl, rfl, rfl, rfl, rfl, rfl, rfl, rfl, rfl, trivial⟩
           intro k w hk hw
           rcases Nat.lt_or_ge k j with q | q
           · exact hjd k w q hw
           · obtain rfl : k = j := by omega
             rw [hy] at hw; cases hw
             intro e; exact absurd (by rw [e] : (y.o.id : Int) = (x.o.id : Int)) hc58
        replace hc45 := X.nm hc45
        try (first | (cases hc45; done) | (exfalso; simp at hc45; done))
        all_goals
         refine J.cond_f rfl <| J.exit <| J.then_x <| J.lp_x <| J.blk_x <| J.then_n <| J.seq ?_
         obtain rfl : j = i := by omega
         refine J.region <| J.m rfl <| J.m rfl <| J.m rfl <| J.p rfl (Q.ia Tryz.runUnderlying39 Tryz.sizeOf52 rfl rfl (by omega) (by omega)) <| J.p rfl (Q.ldN (vs := [_, _, _, _, _, _, _, _, _]) Tryz.isAgg52 Tryz.sizeOf52 rfl (ReadsN.inI (rd_elem OW.cells_length hrd hx (by simp)))) ?_
         refine J.callI Tryz.call13 (rdo_spec m Mi (iMi.lite (by omega)) iMi.ok (by omega) iMi.kin x G hxo) rfl rfl rfl ?_
         rintro _ _ ⟨y, rfl, hy, rfl⟩
         refine J.norm rfl ?_
         refine J.c rfl rfl (C.alloc (l := [_, _, _, _, _]) Tryz.zeroValue44 rfl) ?_
         rintro _ _ ⟨b13, rfl, rfl⟩
         refine J.norm rfl ?_
         refine J.stAI (vs := [_, _, _, _, _]) rfl Tryz.sizeOf44 rfl rfl (by exact rfl) (by exact rfl) (by exact rfl) ?_
         refine J.nil <| J.then_n <| J.seq <| J.region <| J.m rfl ?_
         refine J.p rfl (Q.ldN (vs := [_, _, _, _, _]) Tryz.isAgg44 Tryz.sizeOf44 rfl rnI) ?_
         refine J.c rfl rfl (C.bslG (l := [_, _, _, _, _]) Tryz.runUnderlying48 Tryz.sizeOf44 Tryz.zeroValue44 (by decide) rfl rfl rfl rfl rfl) ?_
         rintro _ _ ⟨b67, rfl, rfl⟩
         refine J.norm rfl ?_
         refine J.c rfl rfl (C.appI Tryz.runUnderlying48 Tryz.runUnderlying48 Tryz.typeInfo44 Tryz.sizeOf44 Tryz.zeroValue44 rfl rfl (SlR.ptI rfl) (rw_one y) (by simp [Tryz.t44] <;> omega) (by decide)) ?_
         rintro _ _ ⟨p68, c68, rfl, rfl⟩
         refine J.norm rfl <| J.p rfl (Q.asg rfl) <| J.nil <| J.then_n <| J.seq <| J.region <| J.m rfl <| J.m rfl <| J.p rfl (Q.add64 rfl rfl (by omega)) <| J.p rfl (Q.conv Tryz.runUnderlying3 Tryz.runUnderlying40 rfl) ?_
         refine J.slot 72 (.int .u64 ((j + 1 : Nat) : Int)) rfl (by rw [show ((j : Int) + 1) = ((j + 1 : Nat) : Int) by omega, wrap64 (by omega)]) ?_
         refine J.m rfl <| J.m rfl <| J.p rfl (Q.ia Tryz.runUnderlying39 Tryz.sizeOf52 rfl rfl (by omega) (by omega)) <| J.p rfl (Q.ldN (vs := [_, _, _, _, _, _, _, _, _]) Tryz.isAgg52 Tryz.sizeOf52 rfl (ReadsN.inI (rd_elem OW.cells_length hrd hx (by simp)))) ?_
         refine J.callI Tryz.call14 (opCommand_spec G x hxo hfine) rfl rfl rfl ?_
         rintro _ _ ⟨q77, d77, rfl, rfl⟩
         refine J.norm rfl <| J.p rfl (Q.bld (l := CW.cells ⟨j + 1, opB x.o, q77, d77⟩) Tryz.runUnderlying56 Tryz.zeroValue56 Tryz.places56 rfl (by kernel_rfl)) ?_
         refine J.c rfl rfl (C.bslG (l := [_, _]) Tryz.runUnderlying25 Tryz.sizeOf56 Tryz.zeroValue56 (by decide) rfl rfl rfl rfl rfl) ?_
         rintro _ _ ⟨b79, rfl, rfl⟩
         refine J.norm rfl ?_
         refine J.c rfl rfl (C.appI Tryz.runUnderlying25 Tryz.runUnderlying25 Tryz.typeInfo56 Tryz.sizeOf56 Tryz.zeroValue56 rfl rfl (SlR.ptI rfl) (CW.one ⟨j + 1, opB x.o, q77, d77⟩) (by simp [Tryz.t56] <;> omega) (by decide)) ?_
         rintro _ _ ⟨p80, c80, rfl, rfl⟩
         refine J.norm rfl <| J.p rfl (Q.asg rfl) <| J.nil <| J.then_n ?_
         obtain ⟨eA, heA⟩ : ∃ e : EW, e = ⟨false, x.o.id, x, 0, stW 0⟩ := ⟨_, rfl⟩
         obtain ⟨eB, heB⟩ : ∃ e : EW, e = ⟨true, x.o.id, bareW O0, j + 1, y⟩ := ⟨_, rfl⟩
         refine J.pickI [G, pt b13 (.cells y.cells.toArray 44 (0, 0))] ?_
         refine J.norm rfl ?_
         refine J.drawE [21, 22, 23] 2 Tryz.mixed (by kernel_rfl) rfl rfl fun hR => ?_
         refine RG.p 0 hR rfl (Q.mv rfl) <| RG.p 1 hR rfl (Q.mv rfl) <| RG.p 2 hR rfl (Q.mv rfl) <| RG.p 3 hR rfl (Q.ia Tryz.runUnderlying39 Tryz.sizeOf52 rfl rfl (by omega) (by omega)) <| RG.p 4 hR rfl (Q.fa (n := 0) Tryz.runUnderlying52 rfl rfl Tryz.sizeOf40 rfl) <| RG.p 5 hR rfl (Q.ld Tryz.isAgg40 rfl ((((rd_elem OW.cells_length hrd hx rfl) 0 (.int .u64 x.o.id) rfl).cast (by simp)).inI)) ?_
         refine RG.p 6 hR rfl (Q.mv rfl) <| RG.p 7 hR rfl (Q.mv rfl) <| RG.p 8 hR rfl (Q.ia Tryz.runUnderlying39 Tryz.sizeOf52 rfl rfl (by omega) (by omega)) <| RG.p 9 hR rfl (Q.ldN (vs := [_, _, _, _, _, _, _, _, _]) Tryz.isAgg52 Tryz.sizeOf52 rfl (ReadsN.inI (rd_elem OW.cells_length hrd hx (by simp)))) <| RG.p 10 hR rfl (Q.bld (l := EW.cells ⟨false, x.o.id, x, 0, stW 0⟩) Tryz.runUnderlying58 Tryz.zeroValue58 Tryz.places58 rfl (by kernel_rfl)) ?_
         refine RG.slot 91 (.agg eA.cells.toArray) rfl (by rw [heA]) ?_
         refine RG.p 11 hR rfl (Q.mv rfl) <| RG.p 12 hR rfl (Q.mv rfl) <| RG.p 13 hR rfl (Q.ia Tryz.runUnderlying39 Tryz.sizeOf52 rfl rfl (by omega) (by omega)) <| RG.p 14 hR rfl (Q.fa (n := 0) Tryz.runUnderlying52 rfl rfl Tryz.sizeOf40 rfl) <| RG.p 15 hR rfl (Q.ld Tryz.isAgg40 rfl ((((rd_elem OW.cells_length hrd hx rfl) 0 (.int .u64 x.o.id) rfl).cast (by simp)).inI)) ?_
         refine RG.p 16 hR rfl (Q.mv rfl) <| RG.p 17 hR rfl (Q.add64 rfl rfl (by omega)) <| RG.p 18 hR rfl (Q.conv Tryz.runUnderlying3 Tryz.runUnderlying40 rfl) ?_
         refine RG.slot 99 (.int .u64 ((j + 1 : Nat) : Int)) rfl (by rw [show ((j : Int) + 1) = ((j + 1 : Nat) : Int) by omega, wrap64 (by omega)]) ?_
         refine RG.p 19 hR rfl (Q.ldN (vs := [_, _, _, _, _]) Tryz.isAgg44 Tryz.sizeOf44 rfl rnI) ?_
         refine RG.p 20 hR rfl (Q.bld (l := EW.cells ⟨true, x.o.id, bareW O0, j + 1, y⟩) Tryz.runUnderlying58 Tryz.zeroValue58 Tryz.places58 rfl (by kernel_rfl)) ?_
         refine RG.slot 101 (.agg eB.cells.toArray) rfl (by rw [heB]) ?_
         refine RG.made 21 hR rfl rfl rfl rfl rfl (C.bslG (sz := 17) (len := 2) (l := [eA, eB].flatMap EW.cells) Tryz.runUnderlying23 Tryz.sizeOf58 Tryz.zeroValue58 (by decide) rfl rfl rfl (by kernel_rfl) (by kernel_rfl)) ?_
         rintro b102
         refine RG.many hR 22 [] rfl ⟨?_, trivial⟩
         ·
          refine RGi.appI rfl rfl rfl rfl Tryz.runUnderlying23 Tryz.runUnderlying23 Tryz.typeInfo58 Tryz.sizeOf58 Tryz.zeroValue58 rfl rfl (SlR.ptI rfl) (flat_one EW.one) (by simp [Tryz.t58] <;> omega) (by decide) ?_
          rintro p103 c103
          refine RG.normE rfl ?_
          refine RG.bar 23 hR rfl rfl rfl rfl rfl rfl (Q.asg rfl).toC ?_
          rintro _ _ ⟨rfl, rfl⟩
          refine RG.norm rfl ?_
          refine RG.fin hR rfl ?_
          refine J.norm rfl <| J.blk_n <| J.then_n <| J.region <| J.m rfl <| J.p rfl (Q.add64 rfl rfl (by omega)) <| J.p rfl (Q.asg rfl) <| J.nil ?_
          refine J.shutI [wrO q77 d77 (opB x.o), star (cs.map CW.asn)] (star ((cs ++ [(⟨j + 1, opB x.o, q77, d77⟩ : CW)]).map CW.asn)) (star_snoc (f := CW.asn) (l := cs) ⟨j + 1, opB x.o, q77, d77⟩) ?_
          refine J.shutI [RW.asn y, star (rws.map RW.asn)] (star ((rws ++ [y]).map RW.asn)) (star_snoc _) ?_
          have hcm : cmts ((segs l).take (j + 1)) = cmts ((segs l).take j) ++ [⟨x.o, false⟩] := by
           rw [cmts_take (s := ⟨x.o, false⟩) (by unfold segs; rw [List.getElem?_map, hx]; rfl)]; rfl
          have hM1 : (playP (cmts ((segs l).take (j + 1)))).M = (Mi.run x.o).2 := by rw [hcm, playP_snoc, hMi]; simp [PS.step]
          have hr1 : lastR (cmts ((segs l).take (j + 1))) = y.r := by rw [hcm, last_snoc, hy, hMi]
          have hsl : (segs l).length = l.length := by simp [segs]
          have hta : (tells (segs l))[j]? = some y.r := by rw [tells_at (by omega), hr1]
          have e1 : cs.length + 1 = (cs ++ [(⟨j + 1, opB x.o, q77, d77⟩ : CW)]).length := by simp
          have e2 : cs.flatMap CW.cells ++ CW.cells ⟨j + 1, opB x.o, q77, d77⟩ = (cs ++ [(⟨j + 1, opB x.o, q77, d77⟩ : CW)]).flatMap CW.cells := by simp
          have e3 : es.length + 2 = (es ++ [eA, eB]).length := by simp
          have e4 : es.flatMap EW.cells ++ [eA, eB].flatMap EW.cells = (es ++ [eA, eB]).flatMap EW.cells := by rw [List.flatMap_append]
          have e5 : rws.length + 1 = (rws ++ [y]).length := by simp
          have e6 : rws.flatMap RW.cells ++ y.cells = (rws ++ [y]).flatMap RW.cells := by simp
          rw [e1, e2, e3, e4, e5, e6, ← hM1]
          have hyk := run_small iMi.ok x.o
          rw [← hy] at hyk
          refine J.againI ⟨j + 1, cs ++ [(⟨j + 1, opB x.o, q77, d77⟩ : CW)], p80, c80, es ++ [eA, eB], p103, c103, rws ++ [y], p68, c68⟩ ?_ (by show ln - (j + 1) < ln - j; omega) ⟨(by show _ = some (Value.slice lp ln lc); rw [hlp]; rfl), rfl, rfl, rfl, rfl, rfl, rfl, rfl, trivial⟩
          refine ⟨by show j + 1 ≤ l.length; omega, ?_, ?_, by show (cs ++ [_]).length = j + 1; rw [← e1, hzc], ?_, ?_, by show (es ++ [eA, eB]).length = 2 * (j + 1); rw [← e3, hze]; omega, ?_, by show (rws ++ [y]).length = j + 1; rw [← e5, hzr], ?_, ?_⟩
          · intro k w hk hw
            rcases Nat.lt_or_ge k j with q | q
            · exact hz.chk k w q hw
            · obtain rfl : k = j := by have : k < j + 1 := hk
                                       omega
              rw [hx] at hw; cases hw; exact hchk
          · intro k k2 w w2 hk hk2 hw hw2 he
            have hk : k < j + 1 := hk
            have hk2 : k2 < j + 1 := hk2
            rcases Nat.lt_or_ge k j with q | q
            · rcases Nat.lt_or_ge k2 j with q2 | q2
              · exact hz.dis k k2 w w2 q q2 hw hw2 he
              · obtain rfl : k2 = j := by omega
                rw [hx] at hw2; cases hw2
                exact absurd he (hjd k w q hw)
            · obtain rfl : k = j := by omega
              rcases Nat.lt_or_ge k2 k with q2 | q2
              · rw [hx] at hw; cases hw
                exact absurd he.symm (hjd k2 w2 q2 hw2)
              · omega
          · intro k c hc
            have hc : (cs ++ [(⟨j + 1, opB x.o, q77, d77⟩ : CW)])[k]? = some c := hc
            rcases Nat.lt_or_ge k cs.length with q | q
            · rw [List.getElem?_append_left q] at hc; exact hz.cs k c hc
            · have hk := (List.getElem?_eq_some_iff.1 hc).1
              rw [← e1] at hk
              obtain rfl : k = j := by omega
              rw [List.getElem?_append_right q, hzc, Nat.sub_self] at hc
              cases hc
              exact ⟨rfl, x, hx, rfl⟩
          · show (es ++ [eA, eB]).map EW.m = evsM (segs l) (tells (segs l)) (j + 1)
            rw [evsM_succ (s := ⟨x.o, false⟩) (w := y.r) (by unfold segs; rw [List.getElem?_map, hx]; rfl) hta, List.map_append, show es.map EW.m = evsM (segs l) (tells (segs l)) j from hz.es]
            congr 1
            unfold ansE
            rw [cmts_len l (by omega), heA, heB]; rfl
          · intro e he
            have he : e ∈ es ++ [eA, eB] := he
            rcases List.mem_append.1 he with q | q
            · obtain ⟨k1, k2⟩ := hz.ew e q
              refine ⟨k1, k2.imp id fun k2 => ?_⟩
              exact List.mem_append_left _ k2
            · simp only [List.mem_cons, List.not_mem_nil, or_false] at q
              rcases q with rfl | rfl
              · rw [heA]; exact ⟨Nat.zero_le _, .inl rfl⟩
              · rw [heB]; exact ⟨by show j + 1 ≤ _; omega, .inr (List.mem_append_right _ List.mem_cons_self)⟩
          · show (rws ++ [y]).map (·.r) = (tells (segs l)).take (j + 1)
            obtain ⟨q1, q2⟩ := List.getElem?_eq_some_iff.1 hta
            rw [List.take_succ_eq_append_getElem q1, q2, List.map_append, show rws.map (·.r) = (tells (segs l)).take j from hz.rs]; rfl
          · intro r hr
            have hr : r ∈ rws ++ [y] := hr
            rcases List.mem_append.1 hr with q | q
            · exact hz.rk r q
            · rw [List.mem_singleton.1 q]; exact hyk
     replace hc34 := X.nm hc34
     try (first | (cases hc34; done) | (exfalso; simp at hc34; done))
     all_goals
      refine J.cond_f rfl <| J.exit <| J.then_x <| J.lp_x <| J.blk_x <| J.then_n <| J.seq <| J.seq ?_
      have hin : i = l.length := by omega
      have hdis := hz.dist hin
      have hsl : (segs l).length = l.length := by simp [segs]
      refine J.shutI [own 56 2 (.slice p8 cs.length c8) (cs.flatMap CW.cells), star (cs.map CW.asn)] (comA p8 c8 cs) (fun _ s => s) ?_
      refine J.tellsI (comA p8 c8 cs) (hz.coms hin (by omega) hid) fun hcs => ?_
      refine J.tellsI (star (rws.map RW.asn)) (rws_ok hz.rws) fun hro => ?_
      refine J.slrI (E0 := 58) (sz := 17) (p := p9) (n := es.length) (c := c9) (xs := es.flatMap EW.cells) fun hse => ?_
      refine J.slrI (E0 := 44) (sz := 5) (p := p10) (n := rws.length) (c := c10) (xs := rws.flatMap RW.cells) fun hsr => ?_
      refine J.shutI [own 58 17 (.slice p9 es.length c9) (es.flatMap EW.cells), star (rws.map RW.asn)] (star [own 58 17 (.slice p9 es.length c9) (es.flatMap EW.cells), star (rws.map RW.asn)]) (fun _ s => s) ?_
      have hev : Evs (star [own 58 17 (.slice p9 es.length c9) (es.flatMap EW.cells), star (rws.map RW.asn)]) p9 c9 es := by
       refine ⟨hse.into 0 rfl, fun e he => ?_, by omega⟩
       obtain ⟨k1, k2⟩ := hz.ew e he
       refine ⟨?_, k1⟩
       rcases k2 with k2 | k2
       · rw [k2]; exact stW_ok _ _
       · obtain ⟨t, ht⟩ := List.getElem?_of_mem k2
         exact ((hro t _ ht).into t (by rw [List.getElem?_map, ht]; rfl)).into 1 rfl
      refine J.region <| J.m rfl <| J.m rfl ?_
      refine J.callI Tryz.call8 (check_ok (comA p8 c8 cs) (star [own 58 17 (.slice p9 es.length c9) (es.flatMap EW.cells), star (rws.map RW.asn)]) p8 c8 cs (l.map fun x => dOp x.o) hcs hz.index (ds_good l) p9 c9 es hev) rfl rfl rfl ?_
      rintro _ _ ⟨p106, c106, rfl, rfl⟩
      refine J.norm rfl ?_
      rw [ds_cmts, show es.map EW.m = evsM (segs l) (tells (segs l)) i from hz.es, hin, ← hsl, takes_law hdis]
      refine J.unpackI [own 58 17 (.slice p9 es.length c9) (es.flatMap EW.cells), star (rws.map RW.asn)] ?_
      refine J.norm rfl <| J.p rfl (Q.lenSl Tryz.runUnderlying29 rfl) <| J.p rfl (Q.neq rfl rfl) <| J.nil <| J.then_n <| J.cond_f rfl <| J.cskip <| J.then_n <| J.seq ?_
      have hlnz : (ln : Int) ≠ 0 := by omega
      have hlt1 := Int.tmod_lt_of_pos at_ (show (0 : Int) < (ln : Int) by omega)
      have hlt2 : -(ln : Int) < at_.tmod ln := by
       have h1 := Int.lt_tmod_of_pos at_ (show (0 : Int) < (ln : Int) by omega)
       omega
      refine J.region <| J.m rfl <| J.m rfl <| J.p rfl (Q.lenSl Tryz.runUnderlying39 rfl) <| J.p rfl (Q.rem rfl rfl (by omega)) <| J.p rfl (Q.asg rfl) <| J.nil <| J.then_n ?_
      refine J.cut (fun a : Nat => a < ln) (fun a => [(1, .int .i64 a), (5, .pointer (some ⟨b5, 0, none⟩)), (8, .slice p8 cs.length c8), (9, .slice p9 es.length c9), (10, .slice p10 rws.length c10)]) (fun a => [comA p8 c8 cs, own 58 17 (.slice p9 es.length c9) (es.flatMap EW.cells), own 44 5 (.slice p10 rws.length c10) (rws.flatMap RW.cells), star (rws.map RW.asn), G, pt b5 (.cells xw.cells.toArray 44 (0, 0)), F]) ?_ fun a ha => ?_
      ·
       refine J.seq <| J.region <| J.m rfl <| J.p rfl (Q.lss rfl rfl) <| J.nil <| J.then_n ?_
       refine J.cases 114 rfl (fun hc114 => ?_) (fun hc114 => ?_)
       ·
        replace hc114 := X.nm hc114
        try (first | (cases hc114; done) | (exfalso; simp at hc114; done))
        all_goals
         refine J.cond_t rfl <| J.region <| J.m rfl <| J.m rfl <| J.p rfl (Q.lenSl Tryz.runUnderlying39 rfl) <| J.p rfl (Q.add64 rfl rfl (by omega)) <| J.p rfl (Q.asg rfl) <| J.nil ?_
         first
          | (refine J.slot 1 (.int .i64 (((at_.tmod ln + ln).toNat : Nat) : Int)) rfl (by congr 1; omega) ?_
             exact J.meetI (at_.tmod ln + ln).toNat (by omega) ⟨rfl, rfl, rfl, rfl, rfl, trivial⟩)
          | (refine J.slot 1 (.int .i64 (((at_.tmod ln).toNat : Nat) : Int)) rfl (by congr 1; omega) ?_
             exact J.meetI (at_.tmod ln).toNat (by omega) ⟨rfl, rfl, rfl, rfl, rfl, trivial⟩)
       replace hc114 := X.nm hc114
       try (first | (cases hc114; done) | (exfalso; simp at hc114; done))
       all_goals
        refine J.cond_f rfl <| J.cskip ?_
        first
         | (refine J.slot 1 (.int .i64 (((at_.tmod ln + ln).toNat : Nat) : Int)) rfl (by congr 1; omega) ?_
            exact J.meetI (at_.tmod ln + ln).toNat (by omega) ⟨rfl, rfl, rfl, rfl, rfl, trivial⟩)
         | (refine J.slot 1 (.int .i64 (((at_.tmod ln).toNat : Nat) : Int)) rfl (by congr 1; omega) ?_
            exact J.meetI (at_.tmod ln).toNat (by omega) ⟨rfl, rfl, rfl, rfl, rfl, trivial⟩)
      refine J.norm rfl ?_
      have ha2 : a < l.length := by omega
      obtain ⟨e0, he0⟩ : ∃ e, es[2 * a + 1]? = some e := ⟨_, List.getElem?_eq_getElem (by omega)⟩
      obtain ⟨r0, hr0⟩ : ∃ r, rws[a]? = some r := ⟨_, List.getElem?_eq_getElem (by omega)⟩
      have hr0r : r0.r = lastR (cmts ((segs l).take (a + 1))) := by
       have h1 : (rws.map (·.r))[a]? = some r0.r := by rw [List.getElem?_map, hr0]; rfl
       rw [show rws.map (·.r) = (tells (segs l)).take i from hz.rs, List.getElem?_take_of_lt (by omega), tells_at (by omega)] at h1
       exact (Option.some.inj h1).symm
      obtain ⟨e1, he1⟩ : ∃ e : EW, e = { e0 with w := xw } := ⟨_, rfl⟩
      obtain ⟨b9, o9, hp9, hr9⟩ := hse.some_ (by omega)
      subst hp9
      obtain ⟨b10, o10, hp10, hr10⟩ := hsr.some_ (by omega)
      refine J.seq <| J.region <| J.m rfl <| J.m rfl <| J.p rfl (Q.mul64 rfl rfl (by omega)) <| J.p rfl (Q.add64 rfl rfl (by omega)) ?_
      refine J.slot 122 (.int .i64 ((2 * a + 1 : Nat) : Int)) rfl (by congr 1) ?_
      refine J.p rfl (Q.ldN (vs := [_, _, _, _, _]) Tryz.isAgg44 Tryz.sizeOf44 rfl rnI) ?_
      refine J.p rfl (Q.ia Tryz.runUnderlying23 Tryz.sizeOf58 rfl rfl (by omega) (by omega)) <| J.p rfl (Q.fa (n := 12) Tryz.runUnderlying58 rfl rfl Tryz.sizeOf44 rfl) ?_
      refine J.c0 rfl (C.stNO (E := 58) (sz := 17) (b := b9) (off := o9) (n := es.length) (c := c9) (xs := es.flatMap EW.cells) (vs := xw.cells) ((2 * a + 1) * 17 + 12) Tryz.sizeOf44 rfl rfl (by simp <;> omega) (by rw [flat_length EW.len]; show _ + 5 ≤ _; omega) rfl) ?_
      rintro _ _ ⟨rfl, rfl⟩
      refine J.norm rfl ?_
      have hsp : splice (es.flatMap EW.cells) ((2 * a + 1) * 17 + 12) xw.cells = (es.set (2 * a + 1) e1).flatMap EW.cells := flat_sub EW.len he0 (by show 12 + 5 ≤ 17; omega) (by rw [he1]; rfl)
      rw [hsp, show es.length = (es.set (2 * a + 1) e1).length by rw [List.length_set]]
      refine J.nil <| J.then_n <| J.seq ?_
      obtain ⟨es2, hes2⟩ : ∃ es2, es2 = es.set (2 * a + 1) e1 := ⟨_, rfl⟩
      have hl2 : es2.length = es.length := by rw [hes2, List.length_set]
      rw [← hes2]
      refine J.slrI (E0 := 58) (sz := 17) (p := some ⟨b9, o9, none⟩) (n := es2.length) (c := c9) (xs := es2.flatMap EW.cells) fun hse2 => ?_
      refine J.shutI [own 58 17 (.slice (some ⟨b9, o9, none⟩) es2.length c9) (es2.flatMap EW.cells), star (rws.map RW.asn), G] (star [own 58 17 (.slice (some ⟨b9, o9, none⟩) es2.length c9) (es2.flatMap EW.cells), star (rws.map RW.asn), G]) (fun _ s => s) ?_
      have hxk : xw.ok (star [own 58 17 (.slice (some ⟨b9, o9, none⟩) es2.length c9) (es2.flatMap EW.cells), star (rws.map RW.asn), G]) := hxw.into 2 rfl
      have hev2 : Evs (star [own 58 17 (.slice (some ⟨b9, o9, none⟩) es2.length c9) (es2.flatMap EW.cells), star (rws.map RW.asn), G]) (some ⟨b9, o9, none⟩) c9 es2 := by
       refine ⟨hse2.into 0 rfl, fun e he => ?_, by omega⟩
       rw [hes2] at he
       rcases List.mem_or_eq_of_mem_set he with he | he
       · obtain ⟨k1, k2⟩ := hz.ew e he
         refine ⟨?_, k1⟩
         rcases k2 with k2 | k2
         · rw [k2]; exact stW_ok _ _
         · obtain ⟨t, ht⟩ := List.getElem?_of_mem k2
           exact ((hro t _ ht).into t (by rw [List.getElem?_map, ht]; rfl)).into 1 rfl
       · rw [he, he1]; exact ⟨hxk, (hz.ew e0 (List.mem_of_getElem? he0)).1⟩
      have hem : es2.map EW.m = evsM (segs l) ((tells (segs l)).set a xw.r) (segs l).length := by
       rw [hes2, List.map_set, show es.map EW.m = evsM (segs l) (tells (segs l)) i from hz.es, hin, ← hsl]
       have hm1 : e1.m = { e0.m with res := xw.r } := by rw [he1]; rfl
       rw [hm1]
       refine (evsM_set (segs l) (tells (segs l)) (by simp [tells]) (by omega) xw.r e0.m ?_).symm
       rw [hsl, ← hin, ← show es.map EW.m = evsM (segs l) (tells (segs l)) i from hz.es, List.getElem?_map, he0]; rfl
      refine J.region <| J.m rfl <| J.m rfl ?_
      refine J.callI Tryz.call8 (check_ok (comA p8 c8 cs) (star [own 58 17 (.slice (some ⟨b9, o9, none⟩) es2.length c9) (es2.flatMap EW.cells), star (rws.map RW.asn), G]) p8 c8 cs (l.map fun x => dOp x.o) hcs hz.index (ds_good l) (some ⟨b9, o9, none⟩) c9 es2 hev2) rfl rfl rfl ?_
      rintro _ _ ⟨p128, c128, rfl, rfl⟩
      refine J.norm rfl ?_
      obtain ⟨fs, hfs⟩ : ∃ fs, fs = faults (begM ((l.map fun x => dOp x.o).map DM.m)) (es2.map EW.m) := ⟨_, rfl⟩
      rw [← hfs]
      rw [ds_cmts, hem, wrong_law hdis (by omega), ← hr0r] at hfs
      refine J.p rfl (Q.asg rfl) <| J.nil <| J.then_n <| J.seq <| J.seq ?_
      refine J.pickI [pt b5 (.cells xw.cells.toArray 44 (0, 0)), own 44 5 (.slice p10 rws.length c10) (rws.flatMap RW.cells)] ?_
      refine J.norm rfl ?_
      refine J.drawE [2, 10] 2 Tryz.mixed (by kernel_rfl) rfl rfl fun hR => ?_
      refine RG.p 0 hR rfl (Q.fa (n := 0) Tryz.runUnderlying44 rfl rfl Tryz.sizeOf3 rfl) ?_
      refine RG.p 1 hR rfl (Q.ld Tryz.isAgg3 rfl (rdI (by exact rfl))) ?_
      refine RG.callI 2 hR rfl rfl rfl rfl rfl rfl Tryz.call15 (rdefinite_spec xw.r.status) rfl ?_
      rintro _ _ ⟨rfl, rfl⟩
      refine RG.norm rfl <| RG.p 3 hR rfl (Q.not rfl) <| RG.p 4 hR rfl (Q.mv rfl) ?_
      refine RG.cases 133 rfl (fun hb133 => ?_) (fun hb133 => ?_)
      ·
       replace hb133 := X.nm hb133
       try (first | (cases hb133; done) | (exfalso; simp at hb133; done))
       all_goals
        refine RG.skip 5 hR rfl rfl rfl rfl rfl rfl <| RG.skip 6 hR rfl rfl rfl rfl rfl rfl <| RG.skip 7 hR rfl rfl rfl rfl rfl rfl <| RG.skip 8 hR rfl rfl rfl rfl rfl rfl <| RG.skip 9 hR rfl rfl rfl rfl rfl rfl ?_
        refine RG.pass 10 hR rfl rfl rfl rfl rfl ?_
        refine RG.p 11 hR rfl (Q.pick_t rfl rfl) ?_
        refine RG.fin hR rfl ?_
        refine J.norm rfl <| J.then_n <| J.cond_t rfl <| J.seq ?_
        have hfn : fs = [] := by
         rw [hfs]
         refine if_neg ?_
         first
          | (rw [show defB xw.r.status = false by simpa using hb133]; simp)
          | (rw [show sameM xw.r r0.r = true from hc140]; simp)
        refine J.unpackI [own 58 17 (.slice (some ⟨b9, o9, none⟩) es2.length c9) (es2.flatMap EW.cells), star (rws.map RW.asn), G] ?_
        refine J.norm rfl ?_
        subst hfn
        refine J.region <| J.m rfl <| J.p rfl (Q.lenSl Tryz.runUnderlying29 rfl) <| J.p rfl (Q.eql rfl rfl) <| J.p rfl (Q.asg rfl) <| J.nil <| J.then_n <| J.cret <| J.then_r ?_
        refine J.ret1I [G] rfl rfl ⟨rfl, rfl⟩
      replace hb133 := X.nm hb133
      try (first | (cases hb133; done) | (exfalso; simp at hb133; done))
      all_goals
       refine RG.p 5 hR rfl (Q.ldN (vs := [_, _, _, _, _]) Tryz.isAgg44 Tryz.sizeOf44 rfl rnI) ?_
       refine RG.p 6 hR rfl (Q.mv rfl) ?_
       refine RG.slot 135 (.slice (some ⟨b10, o10, none⟩) rws.length c10) rfl (by rw [hp10]) ?_
       refine RG.p 7 hR rfl (Q.mv rfl) <| RG.p 8 hR rfl (Q.ia Tryz.runUnderlying48 Tryz.sizeOf44 rfl rfl (by omega) (by omega)) <| RG.p 9 hR rfl (Q.ldN (vs := [_, _, _, _, _]) Tryz.isAgg44 Tryz.sizeOf44 rfl ((rd_elem RW.cells_length hr10 hr0 (by simp)).inI)) ?_
       refine RG.callI 10 hR rfl rfl rfl rfl rfl rfl Tryz.call16 (rsame_spec (star [own 58 17 (.slice (some ⟨b9, o9, none⟩) es2.length c9) (es2.flatMap EW.cells), star (rws.map RW.asn), G]) xw r0 hxk (((hro a r0 hr0).into a (by rw [List.getElem?_map, hr0]; rfl)).into 1 rfl)) rfl ?_
       rintro _ _ ⟨rfl, rfl⟩
       refine RG.norm rfl <| RG.p 11 hR rfl (Q.pick_f rfl rfl) ?_
       refine RG.fin hR rfl ?_
       refine J.norm rfl <| J.then_n ?_
       refine J.cases 140 rfl (fun hc140 => ?_) (fun hc140 => ?_)
       ·
        replace hc140 := X.nm hc140
        try (first | (cases hc140; done) | (exfalso; simp at hc140; done))
        all_goals
         refine J.cond_t rfl <| J.seq ?_
         have hfn : fs = [] := by
          rw [hfs]
          refine if_neg ?_
          first
           | (rw [show defB xw.r.status = false by simpa using hb133]; simp)
           | (rw [show sameM xw.r r0.r = true from hc140]; simp)
         refine J.unpackI [own 58 17 (.slice (some ⟨b9, o9, none⟩) es2.length c9) (es2.flatMap EW.cells), star (rws.map RW.asn), G] ?_
         refine J.norm rfl ?_
         subst hfn
         refine J.region <| J.m rfl <| J.p rfl (Q.lenSl Tryz.runUnderlying29 rfl) <| J.p rfl (Q.eql rfl rfl) <| J.p rfl (Q.asg rfl) <| J.nil <| J.then_n <| J.cret <| J.then_r ?_
         refine J.ret1I [G] rfl rfl ⟨rfl, rfl⟩
       replace hc140 := X.nm hc140
       try (first | (cases hc140; done) | (exfalso; simp at hc140; done))
       all_goals
        refine J.cond_f rfl <| J.cskip <| J.then_n <| J.seq ?_
        have hfn : fs = [⟨6, 2 * a + 1⟩] := by
         rw [hfs]
         refine if_pos ?_
         rw [show defB xw.r.status = true by simpa using hb133, show sameM xw.r r0.r = false from hc140]; rfl
        clear hfs
        subst hfn
        refine J.unpackI [own 58 17 (.slice (some ⟨b9, o9, none⟩) es2.length c9) (es2.flatMap EW.cells), star (rws.map RW.asn), G] ?_
        refine J.norm rfl ?_
        refine J.slrI (E0 := 35) (sz := 2) (p := p128) (n := [FM.mk 6 (2 * a + 1)].length) (c := c128) (xs := [FM.mk 6 (2 * a + 1)].flatMap FM.cells) fun hsf => ?_
        obtain ⟨bf, of_, rfl, hrf⟩ := hsf.some_ (by simp)
        refine J.region <| J.m rfl <| J.p rfl (Q.lenSl Tryz.runUnderlying29 rfl) <| J.p rfl (Q.eql rfl rfl) <| J.m rfl ?_
        refine J.cases 147 rfl (fun hb147 => ?_) (fun hb147 => ?_)
        ·
         replace hb147 := X.nm hb147
         try (first | (cases hb147; done) | (exfalso; simp at hb147; done))
         all_goals
          refine J.m rfl <| J.p rfl (Q.ia Tryz.runUnderlying29 Tryz.sizeOf35 rfl rfl (by omega) (by omega)) ?_
          refine J.p rfl (Q.ldN (vs := [_, _]) Tryz.isAgg35 Tryz.sizeOf35 rfl ((rd_elem FM.len hrf (i := 0) (x := FM.mk 6 (2 * a + 1)) rfl (by simp)).inI)) ?_
          refine J.m rfl <| J.p rfl (Q.mul64 rfl rfl (by omega)) <| J.p rfl (Q.add64 rfl rfl (by omega)) <| J.p rfl (Q.bld (l := FM.cells ⟨6, 2 * a + 1⟩) Tryz.runUnderlying35 Tryz.zeroValue35 Tryz.places35 rfl (by kernel_rfl)) <| J.p rfl (Q.eql2 Tryz.underlying35 Tryz.stoodInHeld35 Tryz.eqGuardType35 Tryz.underlying33 Tryz.underlying3 Tryz.isAgg33 Tryz.isAgg3 (by decide) (by decide) rfl rfl rfl rfl) ?_
          refine J.slot 155 (.bool true) rfl (by simp) ?_
          refine J.p rfl (Q.pick_t rfl rfl) <| J.p rfl (Q.asg rfl) <| J.nil <| J.then_n <| J.cret ?_
          refine J.ret1I [G] rfl rfl ⟨rfl, rfl⟩
        replace hb147 := X.nm hb147
        try (first | (cases hb147; done) | (exfalso; simp at hb147; done))
        all_goals
         refine J.skip rfl rfl <| J.skip rfl rfl <| J.skip rfl rfl <| J.skip rfl rfl <| J.skip rfl rfl <| J.skip rfl rfl <| J.skip rfl rfl <| J.skip rfl rfl <| J.p rfl (Q.pick_f rfl rfl) <| J.p rfl (Q.asg rfl) <| J.nil <| J.then_n <| J.cret ?_
         refine J.ret1I [G] rfl rfl ⟨rfl, rfl⟩
end Go.Proofs.YtidbcaimgahllaaGreat
namespace Go.Proofs.YtidbcaimgahllaaGreat
set_option linter.unusedSectionVars false
set_option linter.unusedSimpArgs false
set_option linter.unusedVariables false
open Go.RowKit
open Go.X

section
variable {H : Type} {enc : TypeId × Value → H} {W : World} {base : Nat} {spare : Nat → Bool} {held : Bool} {v : Value}
theorem ops_all : ∀ (es : List (DataW H × List MemPlace)) (css : List (List Value)), css.length = es.length → (∀ (i : Nat) cs, css[i]? = some cs → ∃ n, DataW.trod enc Tryz.prog W base spare held n 52 cs = es[i]?) →
    ∃ l : List OW, css = l.map OW.cells ∧ (∀ x, x ∈ l → x.ok (old W) ∧ (x.o.id ≤ 18446744073709551615 ∧ x.o.upload ≤ 18446744073709551615)) ∧ bulks l ≤ Rows.uptoBulkAll (es.map (·.1))
  | [], css, h, _ => by
    obtain rfl : css = [] := List.eq_nil_of_length_eq_zero h
    exact ⟨[], rfl, by simp, by simp [bulks]⟩
  | e :: es, [], h, _ => by simp at h
  | e :: es, cs :: css, h, hg => by
    obtain ⟨n, h0⟩ := hg 0 cs rfl
    obtain ⟨y, rfl, hy, hb, hid⟩ := op_in (x := e) h0
    obtain ⟨l, rfl, hl, hbl⟩ := ops_all es css (by simpa using h) fun i c hc => hg (i + 1) c hc
    refine ⟨y :: l, rfl, fun x hx => ?_, ?_⟩
    · cases List.mem_cons.1 hx with
      | inl e => rw [e]; exact ⟨hy, hid⟩
      | inr e => exact hl x e
    · simp only [bulks, List.map_cons, List.sum_cons, Rows.uptoBulkAll] at hbl ⊢
      omega

theorem ops_in {d : DataW H} {ps : List MemPlace} {a0 : Option Addr} {ln lc : Nat} (h : DataW.Trod enc Tryz.prog W base spare held 39 (.slice a0 ln lc) d ps) (hb : Rows.uptoBulk d ≤ 1048576) : ∃ l, Ops (old W) a0 ln lc l ∧ bulks l ≤ Rows.uptoBulk d ∧ ∀ x, x ∈ l → (x.o.id ≤ 18446744073709551615 ∧ x.o.upload ≤ 18446744073709551615) := by
  obtain ⟨fuel, hf⟩ := h
  rcases elems_in (x := (d, ps)) Tryz.underlying39 cellsOp hf with ⟨e, _⟩ | ⟨a, len, cap, n, es, rs, css, e, hl, hx, hle, hcl, hcs⟩
  · cases e
    exact ⟨[], ⟨.inl ⟨none, 0, rfl, rfl⟩, by simp, by simp⟩, by simp [bulks], by simp⟩
  · cases e
    dsimp only at hx
    rw [hx] at hb
    simp only [Rows.uptoBulk] at hb
    have hbl := bulk_len (es.map (·.1))
    rw [List.length_map, hle] at hbl
    obtain ⟨l, rfl, hok, hbk⟩ := ops_all (enc := enc) (W := W) (base := base) (spare := spare) (held := held) es css (by omega) fun i cs hc => ⟨n, (hcs i cs hc).2.2⟩
    have hll : l.length = ln := by rw [← hcl, List.length_map]
    refine ⟨l, ⟨slr_old (by rw [flat_length OW.cells_length, hll]) ?_ (by omega), fun x hx => (hok x hx).1, by omega⟩, by rw [hx]; simp only [Rows.uptoBulk]; omega, fun x hx => (hok x hx).2⟩
    intro k u hu
    have hk : k < l.length * 9 := by
      have := (List.getElem?_eq_some_iff.1 hu).1
      rwa [flat_length OW.cells_length] at this
    obtain ⟨y, hy⟩ : ∃ y, l[k / 9]? = some y := ⟨_, List.getElem?_eq_getElem (by omega)⟩
    obtain ⟨u', hu'⟩ : ∃ u', y.cells[k % 9]? = some u' := ⟨_, List.getElem?_eq_getElem (by rw [OW.cells_length]; omega)⟩
    have hfl := flat_get OW.cells_length hy hu'
    rw [show k / 9 * 9 + k % 9 = k from by omega, hu] at hfl
    cases hfl
    obtain ⟨_, h2, _⟩ := hcs (k / 9) y.cells (by rw [List.getElem?_map, hy]; rfl)
    have := h2 _ u hu'
    rwa [show k / 9 * 9 + k % 9 = k from by omega] at this
end
end Go.Proofs.YtidbcaimgahllaaGreat
namespace Go.Proofs.YtidbcaimgahllaaGreat
set_option linter.unusedSectionVars false
set_option linter.unusedSimpArgs false
set_option linter.unusedVariables false
open Go.RowKit
open Go.X

theorem choose_all {α : Type} {f : α → Value} {Q : α → Prop} : ∀ (css : List (List Value)), (∀ cs, cs ∈ css → ∃ d : α, cs = [f d] ∧ Q d) → ∃ ds : List α, css = ds.map (fun d => [f d]) ∧ ∀ d, d ∈ ds → Q d
  | [], _ => ⟨[], rfl, by simp⟩
  | cs :: r, h => by
    obtain ⟨d, h1, h2⟩ := h cs (by simp)
    obtain ⟨ds, h3, h4⟩ := choose_all r fun c hc => h c (List.mem_cons_of_mem _ hc)
    refine ⟨d :: ds, by rw [h1, h3]; rfl, fun x hx => ?_⟩
    cases List.mem_cons.1 hx with
    | inl e => rw [e]; exact h2
    | inr e => exact h4 x e

section
variable {H : Type} {enc : TypeId × Value → H} {W : World} {base : Nat} {spare : Nat → Bool} {held : Bool} {fuel : Nat} {v : Value} {x : DataW H × List MemPlace} {cs : List Value}
theorem cellsBool : Tryz.prog.cellsOf 4 = 1 := by kernel_rfl
theorem cellsStrs : Tryz.prog.cellsOf 41 = 1 := by kernel_rfl
theorem cellsRes : Tryz.prog.cellsOf 44 = 5 := by kernel_rfl
theorem strs_in (h : DataW.trod enc Tryz.prog W base spare held fuel 41 [v] = some x) : ∃ (p : Option Addr) (cap : Nat) (ss : List ByteArray), v = .slice p ss.length cap ∧ SlR [old W] 1 (.slice p ss.length cap) (ss.map Value.string) ∧ ss.length ≤ Rows.uptoBulk x.1 := by
  rcases elems_in Tryz.underlying41 cellsStr h with ⟨rfl, _⟩ | ⟨a, len, cap, n, es, rs, css, rfl, hc, hx, hel, hcl, hcss⟩
  · exact ⟨none, 0, [], rfl, .inl ⟨none, 0, rfl, rfl⟩, by simp⟩
  · obtain ⟨ss, hds, _⟩ := choose_all (f := Value.string) (Q := fun _ => True) css (by
      intro cs hm
      obtain ⟨i, hi, he⟩ := List.mem_iff_getElem.1 hm
      have hi' : css[i]? = some cs := by rw [List.getElem?_eq_getElem hi, he]
      obtain ⟨_, _, h3⟩ := hcss i cs hi'
      obtain ⟨y, hy⟩ : ∃ y, es[i]? = some y := ⟨_, List.getElem?_eq_getElem (by omega)⟩
      rw [hy] at h3
      obtain ⟨s, k1, _⟩ := DataW.trod_string Tryz.underlying9 h3
      exact ⟨s, k1, trivial⟩)
    have hl : len = ss.length := by rw [← hcl, hds, List.length_map]
    subst hl
    refine ⟨some a, cap, ss, rfl, slr_old (by simp) ?_ (by omega), by rw [hx, ← hel]; have := len_le (es := es.map (·.1)) (rs := rs); rwa [List.length_map] at this⟩
    intro i u hu
    rw [List.getElem?_map, Option.map_eq_some_iff] at hu
    obtain ⟨d, hd, rfl⟩ := hu
    have := (hcss i [.string d] (by rw [hds, List.getElem?_map, hd]; rfl)).2.1 0 (.string d) rfl
    simpa using this

theorem five {α : Type} {l : List α} (h : l.length = 5) : ∃ c0 c1 c2 c3 c4, l = [c0, c1, c2, c3, c4] := by
  match l with
  | [a, b, c, d, e] => exact ⟨a, b, c, d, e, rfl⟩
set_option maxRecDepth 100000 in
theorem res_in (h : DataW.trod enc Tryz.prog W base spare held fuel 44 cs = some x) (hb : Rows.uptoBulk x.1 ≤ 1048576) : ∃ y : RW, cs = y.cells ∧ y.ok (old W) := by
  obtain ⟨xs, m, rfl, rfl, hl, hxl, hf⟩ := DataW.trod_struct Tryz.underlying44 h
  rw [cellsRes] at hl
  obtain ⟨c0, c1, c2, c3, c4, rfl⟩ : ∃ c0 c1 c2 c3 c4, cs = [c0, c1, c2, c3, c4] := five hl
  obtain ⟨x0, x1, x2, x3, x4, rfl⟩ : ∃ x0 x1 x2 x3 x4, xs = [x0, x1, x2, x3, x4] := five hxl
  have f0 : DataW.trod enc Tryz.prog W base spare held m 3 (([c0, c1, c2, c3, c4].drop 0).take (Tryz.prog.cellsOf 3)) = [x0, x1, x2, x3, x4][0]? := hf 0 _ rfl
  have f1 : DataW.trod enc Tryz.prog W base spare held m 40 (([c0, c1, c2, c3, c4].drop 1).take (Tryz.prog.cellsOf 40)) = [x0, x1, x2, x3, x4][1]? := hf 1 _ rfl
  have f2 : DataW.trod enc Tryz.prog W base spare held m 41 (([c0, c1, c2, c3, c4].drop 2).take (Tryz.prog.cellsOf 41)) = [x0, x1, x2, x3, x4][2]? := hf 2 _ rfl
  have f3 : DataW.trod enc Tryz.prog W base spare held m 4 (([c0, c1, c2, c3, c4].drop 3).take (Tryz.prog.cellsOf 4)) = [x0, x1, x2, x3, x4][3]? := hf 3 _ rfl
  have f4 : DataW.trod enc Tryz.prog W base spare held m 42 (([c0, c1, c2, c3, c4].drop 4).take (Tryz.prog.cellsOf 42)) = [x0, x1, x2, x3, x4][4]? := hf 4 _ rfl
  simp only [cellsInt, cellsU64, cellsStrs, cellsBool, cellsBytes, List.drop_zero, List.drop_succ_cons, List.take_succ_cons, List.take_zero, List.getElem?_cons_zero, List.getElem?_cons_succ] at f0 f1 f2 f3 f4
  obtain ⟨n0, e0, rfl, w0⟩ := DataW.trod_int Tryz.underlying3 f0
  obtain ⟨n1, e1, rfl, w1⟩ := DataW.trod_int Tryz.underlying40 f1
  obtain ⟨b3, e3, rfl⟩ := DataW.trod_bool Tryz.underlying4 f3
  simp at e0 e1 e3
  subst e0 e1 e3
  have u1 := (wf_has w1).1
  obtain ⟨m1, rfl⟩ : ∃ k : Nat, n1 = k := ⟨n1.toNat, by have : (0 : Int) ≤ n1 := u1; omega⟩
  obtain ⟨p2, cap2, ss, rfl, hr2, hs2⟩ := strs_in f2
  obtain ⟨p4, len4, cap4, zs4, rfl, hc4, hz4, hr4, hw4, hx4⟩ := ints_in Tryz.underlying42 Tryz.underlying5 cellsU8 f4
  obtain ⟨bs, hb1, hb2⟩ := ints_bytes zs4 hw4
  have h4 : len4 = bs.length := by omega
  subst h4
  simp only [Rows.uptoBulk, List.map_cons, List.map_nil, Rows.uptoBulkAll] at hb
  have b4 : bs.length ≤ Rows.uptoBulk x4.1 := by
    rcases hx4 with ⟨_, h0⟩ | ⟨es, rs, hx, hl⟩
    · omega
    · rw [hx]; have := len_le (es := es) (rs := rs); omega
  exact ⟨⟨⟨n0, m1, ss, b3, bs⟩, p2, cap2, p4, cap4⟩, rfl, hr2, by rw [← hb2]; exact hr4, by show ss.length ≤ _ ∧ bs.length ≤ _; omega⟩
end
end Go.Proofs.YtidbcaimgahllaaGreat
namespace Go.Proofs.YtidbcaimgahllaaGreat
set_option linter.unusedSectionVars false
set_option linter.unusedSimpArgs false
set_option linter.unusedVariables false
open Go.ChangeShapes Go.WideShapes Go.ChangeAt Go.RowKit
open Go.X

namespace judgeTakes
set_option linter.unusedVariables false
theorem own : ownKnob Tryz.prog.godebug = none := by kernel_rfl
theorem laidOut : laidOutB Tryz.prog = true := by kernel_rfl

theorem walk (a0 : Option Addr) (ln lc : Nat) (l : List OW) (at_ : Int) (xw : RW) (W : World) (w0 : Ops (old W) a0 ln lc l) (hb : bulks l ≤ 1048576) (hid : ∀ x, x ∈ l → x.o.id ≤ 18446744073709551615 ∧ x.o.upload ≤ 18446744073709551615) (hxw : xw.ok (old W)) :
    Calls Tryz.prog 4 #[.slice a0 ln lc, .int .i64 at_, .agg xw.cells.toArray] W fun e w' => e = .returned (.bool true) ∧ Below W.heap.size W w' := (takes_spec (old W) a0 ln lc l w0 hb hid at_ xw hxw).lift

set_option maxRecDepth 100000 in
theorem lifted (os : Os) (started : os.Started) (H : Type) (enc : TypeId × Value → H) (F : Stop.Interp) :
    ReturnsInHanded {} Tryz.checked os 4 .any ((Rows.OpenSpec.upto Rows.judgeTakesSpec).pre6 enc Tryz.prog Tryz.f4 Rows.judgeTakesUptoRow.domain false) (((Rows.OpenSpec.upto Rows.judgeTakesSpec).at F).post enc Tryz.prog Tryz.f4 false true false false) := by
  refine returnsInHanded_of_cond (C := Tryz.checked) (s := Rows.OpenSpec.upto Rows.judgeTakesSpec) (k := Rows.uptoSmall) rfl own started (by kernel_rfl) Tryz.func4
    (OpenSpec.witness (enc := enc) (C := Tryz.checked) (s := Rows.OpenSpec.upto Rows.judgeTakesSpec) (k := Rows.uptoSmall) rfl false ⟨#[], #[.slice none 0 0, .int .i64 0, .agg #[.int .i64 0, .int .u64 0, .slice none 0 0, .bool false, .slice none 0 0]], []⟩ 8 (by kernel_rfl) (by kernel_rfl) (by kernel_rfl)
      (x := ([.nil, .lit (.int .i64 0), .agg [.lit (.int .i64 0), .lit (.int .u64 0), .nil, .lit (.bool false), .nil]], [], [])) (by kernel_rfl) rfl (by kernel_rfl)) ?_
  intro W base args ds gs before hval0 hW hcnd hk _
  have hval : ∀ (j : Nat) t v, Tryz.f4.params[j]? = some t → args[j]? = some v → Value.okWide Tryz.prog W .any base t v := hval0
  have hW' := hW
  obtain ⟨p, q, hA0, hV, rfl, hfz, hnd⟩ := hW
  have hA : DataW.TrodAll enc Tryz.prog W 0 (fun _ => true) true Tryz.f4.params.toList args.toList ds p := hA0
  rw [Tryz.params4] at hA hval
  obtain ⟨v0, vs0, d0, ds0, p0, q0, hargs, rfl, rfl, h0, r0⟩ := trodAll_cons hA
  obtain ⟨v1, vs1, d1, ds1, p1, q1, rfl, rfl, rfl, h1, r1⟩ := trodAll_cons r0
  obtain ⟨v2, vs2, d2, ds2, p2, q2, rfl, rfl, rfl, h2, r2⟩ := trodAll_cons r1
  obtain ⟨rfl, rfl, rfl⟩ := trodAll_nil r2
  obtain rfl : args = #[v0, v1, v2] := by cases args; simp_all
  obtain ⟨rfl, rfl⟩ := trodVars_none hV
  have hbk := of_decide_eq_true hk
  simp only [List.append_nil, Rows.uptoBulkAll] at hbk
  have lt0 : ∀ x ∈ p0, x.block < W.heap.size := by obtain ⟨m, hm⟩ := h0; exact DataW.trod_lt m _ _ _ hm
  have lt1 : ∀ x ∈ p1, x.block < W.heap.size := by obtain ⟨m, hm⟩ := h1; exact DataW.trod_lt m _ _ _ hm
  have lt2 : ∀ x ∈ p2, x.block < W.heap.size := by obtain ⟨m, hm⟩ := h2; exact DataW.trod_lt m _ _ _ hm
  obtain ⟨a0, ln, lc, rfl⟩ := okWide_slice Tryz.underlying39 (hval 0 39 v0 rfl rfl)
  obtain ⟨at_, rfl⟩ := okWide_int Tryz.underlying3 (hval 1 3 v1 rfl rfl)
  obtain ⟨cs2, rfl, hc2⟩ := okWide_struct Tryz.underlying44 (hval 2 44 v2 rfl rfl)
  obtain ⟨l, w0, wb, wid⟩ := ops_in h0 (by omega)
  obtain ⟨xw, hxc, hxw⟩ : ∃ y : RW, cs2.toList = y.cells ∧ y.ok (old W) := by
    obtain ⟨m, hm⟩ := h2
    exact res_in hm (by show Rows.uptoBulk d2 ≤ _; omega)
  obtain rfl : cs2 = xw.cells.toArray := by rw [← hxc]
  clear hA0 hval0
  refine (walk a0 ln lc l at_ xw W w0 (by omega) wid hxw).mono fun e W' ⟨he, bel⟩ => ?_
  subst he
  exact ⟨_, rfl, _, _, _, [], _, [], hW', trodAll_mk1 (shut_bool Tryz.underlying4 _), (trodAll_cons_mk (Below.trod laidOut (by kernel_rfl) (of_decide_eq_true (by kernel_rfl)) h0 bel lt0) (trodAll_cons_mk (Below.trod laidOut (by kernel_rfl) (of_decide_eq_true (by kernel_rfl)) h1 bel lt1) (trodAll_cons_mk (Below.trod laidOut (by kernel_rfl) (of_decide_eq_true (by kernel_rfl)) h2 bel lt2) trodAll_mk0))), rfl, bel.frame _, fun h => by cases h⟩

theorem over : Rows.judgeTakesUptoRow.holds Tryz.pinned (Rows.OpenSpec.upto Rows.judgeTakesSpec) :=
  OpenClaim.holds_of_cond 4 Tryz.f4 rfl rfl rfl rfl rfl rfl rfl ⟨rfl, rfl, rfl, rfl, rfl⟩ rfl rfl rfl rfl rfl (by kernel_rfl) Tryz.func4 (by kernel_rfl)
    (of_decide_eq_true (by kernel_rfl)) (by unfold Func.isWrapper; first | (rw [if_pos (by decide +kernel)]; kernel_rfl) | (rw [if_neg (by decide +kernel)]; exact ⟨rfl, rfl⟩))
    (fun os started H enc _ F => lifted os started H enc F)
end judgeTakes

theorem judgeTakes_holds : Rows.JudgeTakesUptoSaid := judgeTakes.over
end Go.Proofs.YtidbcaimgahllaaGreat

