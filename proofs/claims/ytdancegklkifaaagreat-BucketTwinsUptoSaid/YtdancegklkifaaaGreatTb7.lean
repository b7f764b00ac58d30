/-
  BucketTwins: a twin and a store do not see one another.
-/
import Derived.JoinedCond
import Derived.Test.YtdancegklkifaaaGreatTb6
namespace Go.Proofs.YtdancegklkifaaaGreat
set_option linter.unusedSectionVars false
set_option linter.unusedSimpArgs false
set_option linter.unusedVariables false
open Go.X

theorem bytes_ints (bs : List UInt8) : bytesV bs = (bs.map fun b => (b.toNat : Int)).map (Value.int .u8) := by simp [bytesV, byteV]

theorem twins_spec (G : Assn) (lp : Option Addr) (ln lc : Nat) (l : List OW) (ep : Option Addr) (en ec : Nat) (le : List OW) (gp : Option Addr) (gn gc : Nat) (ri : List OW) (hl : Ops G lp ln lc l) (hle : Ops G ep en ec le) (hri : Ops G gp gn gc ri)
    (hb : bulks l ≤ 1048576) (hbe : bulks le ≤ 1048576) (hbr : bulks ri ≤ 1048576) (hid : ∀ x, x ∈ l → x.o.id ≤ 18446744073709551615) (hide : ∀ x, x ∈ le → x.o.id ≤ 18446744073709551615) (hidr : ∀ x, x ∈ ri → x.o.id ≤ 18446744073709551615) :
    FSpec Tryz.prog 4 [.slice lp ln lc, .slice ep en ec, .slice gp gn gc] [G] (fun v B => v = .bool true ∧ B = [G]) := by
  have hlen := hl.len
  have hlene := hle.len
  have hlenr := hri.len
  refine FSpec.of Tryz.func4 rfl Tryz.ntmps4 rfl fun W0 F => ?_
  refine J.seq <| J.region <| J.p rfl (Q.asg rfl) <| J.nil <| J.then_n <| J.seq <| J.seq <| J.region ?_
  refine J.callI Tryz.call5 (known_spec) rfl rfl rfl ?_
  rintro _ _ ⟨rfl, rfl⟩
  refine J.norm rfl <| J.p rfl (Q.not rfl) <| J.nil <| J.then_n ?_
  refine J.cases 21 rfl (fun hc21 => ?_) (fun hc21 => ?_)
  ·
   cases hc21
  replace hc21 := X.nm hc21
  refine J.cond_f rfl <| J.cskip <| J.then_n <| J.seq <| J.seq <| J.region <| J.m rfl ?_
  refine J.callI Tryz.call6 (few_spec G lp ln lc l hl hb) rfl rfl rfl ?_
  rintro _ _ ⟨f1, hf1, rfl, rfl⟩
  refine J.norm rfl <| J.p rfl (Q.not rfl) <| J.m rfl ?_
  refine J.cases 25 rfl (fun hb25 => ?_) (fun hb25 => ?_)
  ·
   replace hb25 := X.nm hb25
   refine J.skip rfl rfl <| J.skip rfl rfl <| J.skip rfl rfl <| J.p rfl (Q.pick_t rfl rfl) <| J.m rfl <| J.skip rfl rfl <| J.skip rfl rfl <| J.skip rfl rfl <| J.p rfl (Q.pick_t rfl rfl) <| J.nil <| J.then_n <| J.cond_t rfl <| J.seq <| J.region <| J.p rfl (Q.asg rfl) <| J.nil <| J.then_n <| J.cret <| J.then_r ?_
   first
    | refine J.ret1I [G] rfl rfl ⟨rfl, rfl⟩
    | (refine J.slot 6 (.bool true) rfl (congrArg Value.bool (by simp)) ?_
       refine J.ret1I [G] rfl rfl ⟨rfl, rfl⟩)
  replace hb25 := X.nm hb25
  refine J.m rfl ?_
  refine J.callI Tryz.call6 (few_spec G ep en ec le hle hbe) rfl rfl rfl ?_
  rintro _ _ ⟨f2, hf2, rfl, rfl⟩
  refine J.norm rfl <| J.p rfl (Q.not rfl) <| J.p rfl (Q.pick_f rfl rfl) <| J.m rfl ?_
  refine J.cases 30 rfl (fun hb30 => ?_) (fun hb30 => ?_)
  ·
   replace hb30 := X.nm hb30
   refine J.skip rfl rfl <| J.skip rfl rfl <| J.skip rfl rfl <| J.p rfl (Q.pick_t rfl rfl) <| J.nil <| J.then_n <| J.cond_t rfl <| J.seq <| J.region <| J.p rfl (Q.asg rfl) <| J.nil <| J.then_n <| J.cret <| J.then_r ?_
   first
    | refine J.ret1I [G] rfl rfl ⟨rfl, rfl⟩
    | (refine J.slot 6 (.bool true) rfl (congrArg Value.bool (by simp)) ?_
       refine J.ret1I [G] rfl rfl ⟨rfl, rfl⟩)
  replace hb30 := X.nm hb30
  refine J.m rfl ?_
  refine J.callI Tryz.call6 (few_spec G gp gn gc ri hri hbr) rfl rfl rfl ?_
  rintro _ _ ⟨f3, hf3, rfl, rfl⟩
  refine J.norm rfl <| J.p rfl (Q.not rfl) <| J.p rfl (Q.pick_f rfl rfl) <| J.nil <| J.then_n ?_
  refine J.cases 34 rfl (fun hc34 => ?_) (fun hc34 => ?_)
  ·
   replace hc34 := X.nm hc34
   refine J.cond_t rfl <| J.seq <| J.region <| J.p rfl (Q.asg rfl) <| J.nil <| J.then_n <| J.cret <| J.then_r ?_
   first
    | refine J.ret1I [G] rfl rfl ⟨rfl, rfl⟩
    | (refine J.slot 6 (.bool true) rfl (congrArg Value.bool (by simp)) ?_
       refine J.ret1I [G] rfl rfl ⟨rfl, rfl⟩)
  replace hc34 := X.nm hc34
  refine J.cond_f rfl <| J.cskip <| J.then_n <| J.seq ?_
  have hf1 := hf1 (by simpa using hb25)
  have hf2 := hf2 (by simpa using hb30)
  have hf3 := hf3 (by simpa using hc34)
  have hfl := fits hf1.2 hid
  have hfe := fits hf2.2 hide
  have hfr := fits hf3.2 hidr
  obtain ⟨Z, hZ⟩ : ∃ Z : BM, Z = ⟨[], [], []⟩ := ⟨_, rfl⟩
  have iZ : Z.inv 0 := by rw [hZ]; exact inv_new
  have iM : ∀ i, i ≤ ln → (Z.runs ((l.map (·.o)).take i)).2.inv i := fun i hi => by
   have := iZ.runs ((l.map (·.o)).take i) fun o ho => hfl o (List.mem_of_mem_take ho)
   rwa [Nat.zero_add, List.length_take, List.length_map, Nat.min_eq_left (by omega)] at this
  refine J.region ?_
  refine J.callI Tryz.call7 (new_spec) rfl rfl rfl ?_
  rintro _ _ ⟨m, rfl, rfl⟩
  refine J.norm rfl <| J.p rfl (Q.asg rfl) <| J.nil <| J.then_n <| J.seq <| J.region ?_
  refine J.callI Tryz.call14 (rnew_spec) rfl rfl rfl ?_
  rintro _ _ ⟨r, rfl, rfl⟩
  refine J.norm rfl <| J.p rfl (Q.asg rfl) <| J.nil <| J.then_n <| J.seq <| J.seq <| J.region <| J.m rfl <| J.p rfl (Q.eqlp Tryz.runUnderlying30 rfl rfl) <| J.nil <| J.then_n ?_
  refine J.cases 38 rfl (fun hc38 => ?_) (fun hc38 => ?_)
  ·
   cases hc38
  replace hc38 := X.nm hc38
  refine J.cond_f rfl <| J.cskip <| J.then_n <| J.seq <| J.seq <| J.region <| J.p rfl (Q.asg rfl) <| J.nil <| J.then_n <| J.block ?_
  refine J.keepI [BktAt m ⟨[], [], []⟩, RefAt r ⟨[], [], []⟩, G, F] ?_
  rw [← hZ]
  refine J.loop (fun i : Nat => i ≤ ln) (fun i => ln - i) (fun i => [(0, .slice lp ln lc), (1, .slice ep en ec), (2, .slice gp gn gc), (7, .pointer (some ⟨m, 0, none⟩)), (8, .pointer (some ⟨r, 0, none⟩)), (9, .int .i64 i)]) (fun i => [BktAt m (Z.runs ((l.map (·.o)).take i)).2, RefAt r (Z.runs ((l.map (·.o)).take i)).2, G, F]) 0 (Nat.zero_le _) ⟨rfl, rfl, rfl, rfl, rfl, rfl, trivial⟩ rfl fun i hi => ?_
  refine J.seq <| J.seq <| J.region <| J.m rfl <| J.m rfl <| J.p rfl (Q.lenSl Tryz.runUnderlying22 rfl) <| J.p rfl (Q.lss rfl rfl) <| J.nil <| J.then_n ?_
  refine J.cases 42 rfl (fun hc42 => ?_) (fun hc42 => ?_)
  ·
   replace hc42 := X.nm hc42
   refine J.cond_t rfl <| J.cskip <| J.then_n <| J.seq <| J.block <| J.seq ?_
   obtain ⟨b, off, hlp, hrd⟩ := hl.rd.some_ (by omega)
   obtain ⟨x, hx⟩ : ∃ x, l[i]? = some x := ⟨_, List.getElem?_eq_getElem (by omega)⟩
   have hxm := List.mem_of_getElem? hx
   have hxo := hl.ok x hxm
   have hxd := hfl x.o (List.mem_map.2 ⟨x, hxm, rfl⟩)
   have hxt := runs_take Z (l := l.map (·.o)) (k := i) (o := x.o) (by rw [List.getElem?_map, hx]; rfl)
   have iMi := iM i hi
   obtain ⟨Mi, hMi⟩ : ∃ Mi, Mi = (Z.runs ((l.map (·.o)).take i)).2 := ⟨_, rfl⟩
   rw [← hMi] at hxt iMi ⊢
   have hx2 := congrArg Prod.snd hxt
   dsimp only at hx2
   subst hlp
   refine J.region <| J.m rfl <| J.m rfl <| J.p rfl (Q.ia Tryz.runUnderlying22 Tryz.sizeOf27 rfl rfl (by omega) (by omega)) ?_
   refine J.p rfl (Q.ldN (vs := [_, _, _, _, _, _, _, _, _]) Tryz.isAgg27 Tryz.sizeOf27 rfl (ReadsN.inI (rd_elem OW.cells_length hrd hx (by first | rfl | omega)))) ?_
   refine J.c rfl rfl (C.alloc (l := [_, _, _, _, _, _, _, _, _]) Tryz.zeroValue27 rfl) ?_
   rintro _ _ ⟨b10, rfl, rfl⟩
   refine J.norm rfl ?_
   refine J.stAI (vs := [_, _, _, _, _, _, _, _, _]) rfl Tryz.sizeOf27 rfl rfl (by exact rfl) (by exact rfl) (by exact rfl) ?_
   refine J.nil <| J.then_n <| J.seq <| J.region ?_
   refine J.c rfl rfl (C.bslG (l := []) Tryz.runUnderlying25 Tryz.sizeOf5 Tryz.zeroValue5 (by decide) rfl rfl rfl rfl rfl) ?_
   rintro _ _ ⟨b49, rfl, rfl⟩
   refine J.norm rfl <| J.p rfl (Q.fa (n := 8) Tryz.runUnderlying27 rfl rfl Tryz.sizeOf25 rfl) ?_
   refine J.p rfl (Q.ld Tryz.isAgg25 rfl (rdI (by exact rfl))) ?_
   refine J.c rfl rfl (C.appI Tryz.runUnderlying25 Tryz.runUnderlying25 Tryz.typeInfo5 Tryz.sizeOf5 Tryz.zeroValue5 rfl rfl (hxo.data.inI) (bytesV_one _) (by simp [Tryz.t5] <;> omega) (by decide)) ?_
   rintro _ _ ⟨p52, c52, rfl, rfl⟩
   refine J.norm rfl ?_
   rw [show 0 + x.o.data.length = x.o.data.length from by omega, List.nil_append]
   refine J.slrI (E0 := 5) (sz := 1) (p := p52) (n := x.o.data.length) (c := c52) (xs := bytesV x.o.data) fun hs52 => ?_
   refine J.p rfl (Q.fa (n := 8) Tryz.runUnderlying27 rfl rfl Tryz.sizeOf25 rfl) ?_
   refine J.stI rfl Tryz.sizeOf25 rfl rfl rfl (by exact rfl) (by exact rfl) (by exact rfl) ?_
   refine J.nil <| J.then_n <| J.seq ?_
   obtain ⟨x2, hx2e⟩ : ∃ x2 : OW, x2 = ⟨x.o, x.pp, x.pc, p52, c52⟩ := ⟨_, rfl⟩
   have hx2o : x2.o = x.o := by rw [hx2e]
   refine J.shutI [own 5 1 (.slice p52 x.o.data.length c52) (bytesV x.o.data), G] (star [own 5 1 (.slice p52 x.o.data.length c52) (bytesV x.o.data), G]) (fun _ h => h) ?_
   have hx2k : x2.ok (star [own 5 1 (.slice p52 x.o.data.length c52) (bytesV x.o.data), G]) := by
    rw [hx2e]; exact ⟨hxo.parts.into 1 rfl, hs52.into 0 rfl, hxo.small⟩
   refine J.convI (pt b10 (.cells ([.int .u64 x.o.id, .int .i64 x.o.kind, .string x.o.bucket, .string x.o.key, .string x.o.after, .int .i64 x.o.n, .int .u64 x.o.upload, .slice x.pp x.o.parts.length x.pc, .slice p52 x.o.data.length c52] : List Value).toArray 27 (0, 0))) (pt b10 (.cells x2.cells.toArray 27 (0, 0))) (fun _ h => by rw [hx2e]; exact h) ?_
   refine J.region <| J.m rfl ?_
   refine J.p rfl (Q.ldN (vs := [_, _, _, _, _, _, _, _, _]) Tryz.isAgg27 Tryz.sizeOf27 rfl rnI) ?_
   refine J.callI Tryz.call10 (do_all m Mi iMi.ok iMi.kok (by omega) x2 (star [own 5 1 (.slice p52 x.o.data.length c52) (bytesV x.o.data), G]) hx2k) rfl rfl rfl ?_
   rintro _ _ ⟨y, rfl, hy, rfl⟩
   refine J.norm rfl ?_
   rw [hx2o, ← hx2]
   refine J.c rfl rfl (C.alloc (l := [_, _, _, _, _]) Tryz.zeroValue37 rfl) ?_
   rintro _ _ ⟨b11, rfl, rfl⟩
   refine J.norm rfl ?_
   refine J.stAI (vs := [_, _, _, _, _]) rfl Tryz.sizeOf37 rfl rfl (by exact rfl) (by exact rfl) (by exact rfl) ?_
   refine J.nil <| J.then_n <| J.seq ?_
   refine J.unpackI [own 5 1 (.slice p52 x.o.data.length c52) (bytesV x.o.data), G] ?_
   refine J.norm rfl <| J.region <| J.m rfl <| J.m rfl <| J.m rfl <| J.p rfl (Q.ia Tryz.runUnderlying22 Tryz.sizeOf27 rfl rfl (by omega) (by omega)) ?_
   refine J.p rfl (Q.ldN (vs := [_, _, _, _, _, _, _, _, _]) Tryz.isAgg27 Tryz.sizeOf27 rfl (ReadsN.inI (rd_elem OW.cells_length hrd hx (by first | rfl | omega)))) ?_
   refine J.callI Tryz.call15 (rdo_spec r Mi (iMi.lite (by omega)) iMi.ok (by omega) iMi.kin x G hxo) rfl rfl rfl ?_
   rintro _ _ ⟨y3, rfl, hy3, rfl⟩
   refine J.norm rfl ?_
   rw [← hx2]
   refine J.nil <| J.then_n <| J.seq <| J.seq <| J.region <| J.p rfl (Q.asg rfl) <| J.nil <| J.then_n <| J.block ?_
   refine J.convI (pt b10 (.cells x2.cells.toArray 27 (0, 0))) (pt b10 (.cells ([.int .u64 x.o.id, .int .i64 x.o.kind, .string x.o.bucket, .string x.o.key, .string x.o.after, .int .i64 x.o.n, .int .u64 x.o.upload, .slice x.pp x.o.parts.length x.pc, .slice p52 x.o.data.length c52] : List Value).toArray 27 (0, 0))) (fun _ h => by rw [hx2e] at h; exact h) ?_
   rw [bytes_ints]
   obtain ⟨zs, hzs⟩ : ∃ zs, zs = x.o.data.map fun b => (b.toNat : Int) := ⟨_, rfl⟩
   have hzl : zs.length = x.o.data.length := by rw [hzs, List.length_map]
   rw [← hzs]
   refine J.keepI [own 5 1 (.slice p52 x.o.data.length c52) (zs.map (Value.int .u8)), BktAt m (Z.runs ((l.map (·.o)).take (i + 1))).2, RefAt r (Z.runs ((l.map (·.o)).take (i + 1))).2, y.asn, pt b10 (.cells ([.int .u64 x.o.id, .int .i64 x.o.kind, .string x.o.bucket, .string x.o.key, .string x.o.after, .int .i64 x.o.n, .int .u64 x.o.upload, .slice x.pp x.o.parts.length x.pc, .slice p52 x.o.data.length c52] : List Value).toArray 27 (0, 0)), pt b11 (.cells y.cells.toArray 37 (0, 0)), G, F] ?_
   refine J.loop2 (fun (j : Nat) (zs : List Int) => j ≤ x.o.data.length ∧ zs.length = x.o.data.length) (fun j _ => x.o.data.length - j) (fun j _ => [(0, .slice (some ⟨b, off, none⟩) ln lc), (1, .slice ep en ec), (2, .slice gp gn gc), (7, .pointer (some ⟨m, 0, none⟩)), (8, .pointer (some ⟨r, 0, none⟩)), (9, .int .i64 i), (10, .pointer (some ⟨b10, 0, none⟩)), (11, .pointer (some ⟨b11, 0, none⟩)), (12, .int .i64 j)])
    (fun j zs => [own 5 1 (.slice p52 x.o.data.length c52) (zs.map (Value.int .u8)), BktAt m (Z.runs ((l.map (·.o)).take (i + 1))).2, RefAt r (Z.runs ((l.map (·.o)).take (i + 1))).2, y.asn, pt b10 (.cells ([.int .u64 x.o.id, .int .i64 x.o.kind, .string x.o.bucket, .string x.o.key, .string x.o.after, .int .i64 x.o.n, .int .u64 x.o.upload, .slice x.pp x.o.parts.length x.pc, .slice p52 x.o.data.length c52] : List Value).toArray 27 (0, 0)), pt b11 (.cells y.cells.toArray 37 (0, 0)), G, F]) 0 zs ⟨Nat.zero_le _, hzl⟩ ⟨rfl, rfl, rfl, rfl, rfl, rfl, rfl, rfl, rfl, trivial⟩ rfl fun j zs hz => ?_
   obtain ⟨hj, hzl⟩ := hz
   refine J.seq <| J.seq <| J.region <| J.m rfl <| J.p rfl (Q.fa (n := 8) Tryz.runUnderlying27 rfl rfl Tryz.sizeOf25 rfl) ?_
   refine J.p rfl (Q.ld Tryz.isAgg25 rfl (rdI (by exact rfl))) ?_
   refine J.p rfl (Q.lenSl Tryz.runUnderlying25 rfl) <| J.p rfl (Q.lss rfl rfl) <| J.nil <| J.then_n ?_
   refine J.cases 67 rfl (fun hc67 => ?_) (fun hc67 => ?_)
   ·
    replace hc67 := X.nm hc67
    refine J.cond_t rfl <| J.cskip <| J.then_n <| J.seq <| J.block ?_
    obtain ⟨b52, o52, rfl, _⟩ := hs52.some_ (by omega)
    obtain ⟨z, hz⟩ : ∃ z, zs[j]? = some z := ⟨_, List.getElem?_eq_getElem (by omega)⟩
    refine J.draw [10] Tryz.mixed (by kernel_rfl) fun hR => ?_
    refine RG.p 0 hR rfl (Q.fa (n := 8) Tryz.runUnderlying27 rfl rfl Tryz.sizeOf25 rfl) ?_
    refine RG.p 1 hR rfl (Q.ld Tryz.isAgg25 rfl (rdI (by exact rfl))) ?_
    refine RG.p 2 hR rfl (Q.mv rfl) <| RG.p 3 hR rfl (Q.fa (n := 8) Tryz.runUnderlying27 rfl rfl Tryz.sizeOf25 rfl) ?_
    refine RG.p 4 hR rfl (Q.ld Tryz.isAgg25 rfl (rdI (by exact rfl))) ?_
    refine RG.p 5 hR rfl (Q.mv rfl) <| RG.p 6 hR rfl (Q.ia Tryz.runUnderlying25 Tryz.sizeOf5 rfl rfl (by omega) (by omega)) <| RG.p 7 hR rfl (Q.ld Tryz.isAgg5 rfl (rdO (j := j) (v := .int .u8 z) (by rw [List.getElem?_map, hz]; rfl) (by omega))) <| RG.p 8 hR rfl (Q.add rfl rfl) <| RG.p 9 hR rfl (Q.ia Tryz.runUnderlying25 Tryz.sizeOf5 rfl rfl (by omega) (by omega)) ?_
    refine RG.bar 10 hR rfl rfl rfl rfl rfl rfl (C.st1O j Tryz.sizeOf5 rfl rfl rfl (by omega) (by rw [List.length_map]; omega)) ?_
    rintro _ _ ⟨rfl, rfl⟩
    refine RG.norm rfl ?_
    refine RG.fin hR rfl ?_
    refine J.norm rfl <| J.blk_n <| J.then_n <| J.region <| J.m rfl <| J.p rfl (Q.add64 rfl rfl (by omega)) <| J.p rfl (Q.asg rfl) <| J.nil ?_
    rw [← List.map_set (f := Value.int .u8)]
    refine J.againI (j + 1, zs.set j (IntKind.u8.wrap (z + 1))) ⟨by show j + 1 ≤ _; omega, by show (zs.set j _).length = _; rw [List.length_set]; exact hzl⟩ (by show x.o.data.length - (j + 1) < x.o.data.length - j; omega) ⟨rfl, rfl, rfl, rfl, rfl, rfl, rfl, rfl, rfl, trivial⟩
   replace hc67 := X.nm hc67
   refine J.cond_f rfl <| J.exit <| J.then_x <| J.lp_x <| J.blk_x <| J.then_n <| J.seq <| J.region <| J.p rfl (Q.asg rfl) <| J.nil <| J.then_n <| J.block ?_
   obtain ⟨yr, ykp, ykc, ydp, ydc⟩ := y
   refine J.openI (RW.asn ⟨yr, ykp, ykc, ydp, ydc⟩) (Bs := fun _ : Unit => [own 9 1 (.slice ykp yr.keys.length ykc) (yr.keys.map Value.string), own 5 1 (.slice ydp yr.data.length ydc) (bytesV yr.data)]) (p := fun _ => True) (fun _ h => ⟨(), trivial, h⟩) fun _ _ => ?_
   refine J.norm rfl ?_
   refine J.slrI (E0 := 5) (sz := 1) (p := ydp) (n := yr.data.length) (c := ydc) (xs := bytesV yr.data) fun hsy => ?_
   rw [bytes_ints]
   obtain ⟨ws, hws⟩ : ∃ ws, ws = yr.data.map fun b => (b.toNat : Int) := ⟨_, rfl⟩
   have hwl : ws.length = yr.data.length := by rw [hws, List.length_map]
   rw [← hws]
   refine J.keepI [own 5 1 (.slice ydp yr.data.length ydc) (ws.map (Value.int .u8)), BktAt m (Z.runs ((l.map (·.o)).take (i + 1))).2, RefAt r (Z.runs ((l.map (·.o)).take (i + 1))).2, pt b11 (.cells ([.int .i64 yr.status, .int .u64 yr.upload, .slice ykp yr.keys.length ykc, .bool yr.more, .slice ydp yr.data.length ydc] : List Value).toArray 37 (0, 0)), G, F] ?_
   refine J.loop2 (fun (j : Nat) (ws : List Int) => j ≤ yr.data.length ∧ ws.length = yr.data.length) (fun j _ => yr.data.length - j) (fun j _ => [(0, .slice (some ⟨b, off, none⟩) ln lc), (1, .slice ep en ec), (2, .slice gp gn gc), (7, .pointer (some ⟨m, 0, none⟩)), (8, .pointer (some ⟨r, 0, none⟩)), (9, .int .i64 i), (11, .pointer (some ⟨b11, 0, none⟩)), (13, .int .i64 j)])
    (fun j ws => [own 5 1 (.slice ydp yr.data.length ydc) (ws.map (Value.int .u8)), BktAt m (Z.runs ((l.map (·.o)).take (i + 1))).2, RefAt r (Z.runs ((l.map (·.o)).take (i + 1))).2, pt b11 (.cells ([.int .i64 yr.status, .int .u64 yr.upload, .slice ykp yr.keys.length ykc, .bool yr.more, .slice ydp yr.data.length ydc] : List Value).toArray 37 (0, 0)), G, F]) 0 ws ⟨Nat.zero_le _, hwl⟩ ⟨rfl, rfl, rfl, rfl, rfl, rfl, rfl, rfl, trivial⟩ rfl fun j2 ws hz2 => ?_
   obtain ⟨hj2, hwl⟩ := hz2
   have hyl : yr.data.length ≤ 274877906944 := by
    have := (run_small iMi.ok x.o).2
    rw [← hx2o, ← hy] at this; exact this
   refine J.seq <| J.seq <| J.region <| J.m rfl <| J.p rfl (Q.fa (n := 4) Tryz.runUnderlying37 rfl rfl Tryz.sizeOf25 rfl) ?_
   refine J.p rfl (Q.ld Tryz.isAgg25 rfl (rdI (by exact rfl))) ?_
   refine J.p rfl (Q.lenSl Tryz.runUnderlying25 rfl) <| J.p rfl (Q.lss rfl rfl) <| J.nil <| J.then_n ?_
   refine J.cases 84 rfl (fun hc84 => ?_) (fun hc84 => ?_)
   ·
    replace hc84 := X.nm hc84
    refine J.cond_t rfl <| J.cskip <| J.then_n <| J.seq <| J.block ?_
    obtain ⟨by_, oy, rfl, _⟩ := hsy.some_ (by omega)
    obtain ⟨z2, hz2⟩ : ∃ z, ws[j2]? = some z := ⟨_, List.getElem?_eq_getElem (by omega)⟩
    refine J.draw [10] Tryz.mixed (by kernel_rfl) fun hR => ?_
    refine RG.p 0 hR rfl (Q.fa (n := 4) Tryz.runUnderlying37 rfl rfl Tryz.sizeOf25 rfl) ?_
    refine RG.p 1 hR rfl (Q.ld Tryz.isAgg25 rfl (rdI (by exact rfl))) ?_
    refine RG.p 2 hR rfl (Q.mv rfl) <| RG.p 3 hR rfl (Q.fa (n := 4) Tryz.runUnderlying37 rfl rfl Tryz.sizeOf25 rfl) ?_
    refine RG.p 4 hR rfl (Q.ld Tryz.isAgg25 rfl (rdI (by exact rfl))) ?_
    refine RG.p 5 hR rfl (Q.mv rfl) <| RG.p 6 hR rfl (Q.ia Tryz.runUnderlying25 Tryz.sizeOf5 rfl rfl (by omega) (by omega)) <| RG.p 7 hR rfl (Q.ld Tryz.isAgg5 rfl (rdO (j := j2) (v := .int .u8 z2) (by rw [List.getElem?_map, hz2]; rfl) (by omega))) <| RG.p 8 hR rfl (Q.add rfl rfl) <| RG.p 9 hR rfl (Q.ia Tryz.runUnderlying25 Tryz.sizeOf5 rfl rfl (by omega) (by omega)) ?_
    refine RG.bar 10 hR rfl rfl rfl rfl rfl rfl (C.st1O j2 Tryz.sizeOf5 rfl rfl rfl (by omega) (by rw [List.length_map]; omega)) ?_
    rintro _ _ ⟨rfl, rfl⟩
    refine RG.norm rfl ?_
    refine RG.fin hR rfl ?_
    refine J.norm rfl <| J.blk_n <| J.then_n <| J.region <| J.m rfl <| J.p rfl (Q.add64 rfl rfl (by omega)) <| J.p rfl (Q.asg rfl) <| J.nil ?_
    rw [← List.map_set (f := Value.int .u8)]
    refine J.againI (j2 + 1, ws.set j2 (IntKind.u8.wrap (z2 + 1))) ⟨by show j2 + 1 ≤ _; omega, by show (ws.set j2 _).length = _; rw [List.length_set]; exact hwl⟩ (by show yr.data.length - (j2 + 1) < yr.data.length - j2; omega) ⟨rfl, rfl, rfl, rfl, rfl, rfl, rfl, rfl, trivial⟩
   replace hc84 := X.nm hc84
   refine J.cond_f rfl <| J.exit <| J.then_x <| J.lp_x <| J.blk_x <| J.blk_n <| J.then_n <| J.region <| J.m rfl <| J.p rfl (Q.add64 rfl rfl (by omega)) <| J.p rfl (Q.asg rfl) <| J.nil ?_
   refine J.againI (i + 1) (by show i + 1 ≤ ln; omega) (by show ln - (i + 1) < ln - i; omega) ⟨rfl, rfl, rfl, rfl, rfl, rfl, trivial⟩
  replace hc42 := X.nm hc42
  refine J.cond_f rfl <| J.exit <| J.then_x <| J.lp_x <| J.blk_x <| J.then_n <| J.seq ?_
  have hia : (l.map (·.o)).take i = l.map (·.o) := List.take_of_length_le (by rw [List.length_map]; omega)
  have iM1 := iM i hi
  rw [hia] at iM1 ⊢
  rw [show i = ln by omega] at iM1
  obtain ⟨M1, hM1⟩ : ∃ M1, M1 = (Z.runs (l.map (·.o))).2 := ⟨_, rfl⟩
  rw [← hM1] at iM1 ⊢
  refine J.region <| J.m rfl ?_
  refine J.callI Tryz.call16 (twin_spec m M1 iM1.ok) rfl rfl rfl ?_
  rintro _ _ ⟨t, rfl, rfl⟩
  refine J.norm rfl <| J.p rfl (Q.asg rfl) <| J.nil <| J.then_n <| J.seq <| J.seq ?_
  refine J.draw [4, 7] Tryz.mixed (by kernel_rfl) fun hR => ?_
  refine RG.p 0 hR rfl (Q.mv rfl) <| RG.p 1 hR rfl (Q.eqlp Tryz.runUnderlying30 rfl rfl) <| RG.p 2 hR rfl (Q.mv rfl) ?_
  refine RG.cases 101 rfl (fun hb101 => ?_) (fun hb101 => ?_)
  ·
   cases hb101
  replace hb101 := X.nm hb101
  refine RG.p 3 hR rfl (Q.mv rfl) <| RG.p 6 hR rfl (Q.mv rfl) ?_
  refine RG.callkR 4 hR rfl rfl rfl rfl rfl Tryz.call9 (dump_spec t M1 iM1.ok iM1.kok (by omega) iM1.fit (iM1.dump (by omega))) rfl ?_
  rintro _ _ ⟨p103, c103, rfl, rfl⟩
  refine ⟨_, inferInstance, ?_⟩
  refine RG.normE rfl ?_
  refine RG.slr1 (E0 := 5) (sz := 1) (p := p103) (n := (dumpM M1).length) (c := c103) (xs := bytesV (dumpM M1)) fun hs103 => ?_
  refine RG.hold ?_
  refine RG.norm rfl <| RG.p 5 hR rfl (Q.b2s Tryz.runUnderlying25 Tryz.runUnderlying9 Tryz.runUnderlying5 rfl hs103.inI) ?_
  refine RG.callkR 7 hR rfl rfl rfl rfl rfl Tryz.call17 (rdump_spec r M1 (iM1.lite (by omega)) iM1.ok (by omega) iM1.fit (iM1.dump (by omega))) rfl ?_
  rintro _ _ ⟨p106, c106, rfl, rfl⟩
  refine ⟨_, inferInstance, ?_⟩
  refine RG.normE rfl ?_
  refine RG.slr1 (E0 := 5) (sz := 1) (p := p106) (n := (dumpM M1).length) (c := c106) (xs := bytesV (dumpM M1)) fun hs106 => ?_
  refine RG.hold ?_
  refine RG.norm rfl <| RG.p 8 hR rfl (Q.b2s Tryz.runUnderlying25 Tryz.runUnderlying9 Tryz.runUnderlying5 rfl hs106.inI) <| RG.p 9 hR rfl (Q.neqs rfl rfl) <| RG.p 10 hR rfl (Q.pick_f rfl rfl) ?_
  refine RG.fin hR rfl ?_
  refine J.norm rfl <| J.then_n ?_
  refine J.cases 109 rfl (fun hc109 => ?_) (fun hc109 => ?_)
  ·
   exfalso; simp at hc109
  replace hc109 := X.nm hc109
  refine J.cond_f rfl <| J.cskip <| J.then_n <| J.seq ?_
  refine J.keepI [BktAt m M1, BktAt t M1, G, F] ?_
  refine J.region <| J.m rfl <| J.m rfl ?_
  refine J.callI Tryz.call8 (run_all m M1 iM1.ok iM1.kok G ep en ec le hle (by omega)) rfl rfl rfl ?_
  rintro _ _ ⟨rs1, p112, c112, rfl, hrs1, rfl⟩
  refine J.norm rfl <| J.nil <| J.then_n <| J.seq <| J.region <| J.m rfl <| J.m rfl ?_
  refine J.callI Tryz.call8 (run_all t M1 iM1.ok iM1.kok G gp gn gc ri hri (by omega)) rfl rfl rfl ?_
  rintro _ _ ⟨rs2, p115, c115, rfl, hrs2, rfl⟩
  refine J.norm rfl <| J.nil <| J.then_n <| J.seq <| J.region ?_
  refine J.callI Tryz.call14 (rnew_spec) rfl rfl rfl ?_
  rintro _ _ ⟨ra, rfl, rfl⟩
  refine J.norm rfl <| J.p rfl (Q.asg rfl) <| J.nil <| J.then_n <| J.seq <| J.region ?_
  refine J.callI Tryz.call14 (rnew_spec) rfl rfl rfl ?_
  rintro _ _ ⟨rb, rfl, rfl⟩
  refine J.norm rfl <| J.p rfl (Q.asg rfl) <| J.nil <| J.then_n <| J.seq <| J.seq ?_
  refine J.keepI [RefAt ra ⟨[], [], []⟩, RefAt rb ⟨[], [], []⟩, BktAt m (M1.runs (le.map (·.o))).2, BktAt t (M1.runs (ri.map (·.o))).2, G, F] ?_
  rw [← hZ]
  refine J.region <| J.p rfl (Q.asg rfl) <| J.nil <| J.then_n <| J.block ?_
  refine J.loop (fun i : Nat => i ≤ ln) (fun i => ln - i) (fun i => [(0, .slice lp ln lc), (1, .slice ep en ec), (2, .slice gp gn gc), (7, .pointer (some ⟨m, 0, none⟩)), (14, .pointer (some ⟨t, 0, none⟩)), (15, .pointer (some ⟨ra, 0, none⟩)), (16, .pointer (some ⟨rb, 0, none⟩)), (17, .int .i64 i)]) (fun i => [RefAt ra (Z.runs ((l.map (·.o)).take i)).2, RefAt rb (Z.runs ((l.map (·.o)).take i)).2, BktAt m (M1.runs (le.map (·.o))).2, BktAt t (M1.runs (ri.map (·.o))).2, G, F]) 0 (Nat.zero_le _) ⟨rfl, rfl, rfl, rfl, rfl, rfl, rfl, rfl, trivial⟩ rfl fun i hi => ?_
  refine J.seq <| J.seq <| J.region <| J.m rfl <| J.m rfl <| J.p rfl (Q.lenSl Tryz.runUnderlying22 rfl) <| J.p rfl (Q.lss rfl rfl) <| J.nil <| J.then_n ?_
  refine J.cases 121 rfl (fun hc121 => ?_) (fun hc121 => ?_)
  ·
   replace hc121 := X.nm hc121
   refine J.cond_t rfl <| J.cskip <| J.then_n <| J.seq <| J.block <| J.seq ?_
   obtain ⟨b, off, hlp, hrd⟩ := hl.rd.some_ (by omega)
   obtain ⟨x, hx⟩ : ∃ x, l[i]? = some x := ⟨_, List.getElem?_eq_getElem (by omega)⟩
   have hxo := hl.ok x (List.mem_of_getElem? hx)
   have hxt := runs_take Z (l := l.map (·.o)) (k := i) (o := x.o) (by rw [List.getElem?_map, hx]; rfl)
   have iMi := iM i hi
   obtain ⟨Mi, hMi⟩ : ∃ Mi, Mi = (Z.runs ((l.map (·.o)).take i)).2 := ⟨_, rfl⟩
   rw [← hMi] at hxt iMi ⊢
   have hx2 := congrArg Prod.snd hxt
   dsimp only at hx2
   subst hlp
   refine J.region <| J.m rfl <| J.m rfl <| J.m rfl <| J.p rfl (Q.ia Tryz.runUnderlying22 Tryz.sizeOf27 rfl rfl (by omega) (by omega)) ?_
   refine J.p rfl (Q.ldN (vs := [_, _, _, _, _, _, _, _, _]) Tryz.isAgg27 Tryz.sizeOf27 rfl (ReadsN.inI (rd_elem OW.cells_length hrd hx (by first | rfl | omega)))) ?_
   refine J.callI Tryz.call15 (rdo_spec ra Mi (iMi.lite (by omega)) iMi.ok (by omega) iMi.kin x G hxo) rfl rfl rfl ?_
   rintro _ _ ⟨ya, rfl, hya, rfl⟩
   refine J.norm rfl <| J.nil <| J.then_n <| J.region <| J.m rfl <| J.m rfl <| J.m rfl <| J.p rfl (Q.ia Tryz.runUnderlying22 Tryz.sizeOf27 rfl rfl (by omega) (by omega)) ?_
   refine J.p rfl (Q.ldN (vs := [_, _, _, _, _, _, _, _, _]) Tryz.isAgg27 Tryz.sizeOf27 rfl (ReadsN.inI (rd_elem OW.cells_length hrd hx (by first | rfl | omega)))) ?_
   refine J.callI Tryz.call15 (rdo_spec rb Mi (iMi.lite (by omega)) iMi.ok (by omega) iMi.kin x G hxo) rfl rfl rfl ?_
   rintro _ _ ⟨yb, rfl, hyb, rfl⟩
   refine J.norm rfl ?_
   rw [← hx2]
   refine J.nil <| J.blk_n <| J.then_n <| J.region <| J.m rfl <| J.p rfl (Q.add64 rfl rfl (by omega)) <| J.p rfl (Q.asg rfl) <| J.nil ?_
   refine J.againI (i + 1) (by show i + 1 ≤ ln; omega) (by show ln - (i + 1) < ln - i; omega) ⟨rfl, rfl, rfl, rfl, rfl, rfl, rfl, rfl, trivial⟩
  replace hc121 := X.nm hc121
  refine J.cond_f rfl <| J.exit <| J.then_x <| J.lp_x <| J.blk_x <| J.then_n <| J.seq <| J.seq ?_
  have hib : (l.map (·.o)).take i = l.map (·.o) := List.take_of_length_le (by rw [List.length_map]; omega)
  rw [hib, ← hM1]
  have iE : ∀ i, i ≤ en → (M1.runs ((le.map (·.o)).take i)).2.inv (ln + i) := fun i hi => by
   have := iM1.runs ((le.map (·.o)).take i) fun o ho => hfe o (List.mem_of_mem_take ho)
   rwa [show ((le.map (·.o)).take i).length = i from by rw [List.length_take, List.length_map]; omega] at this
  have iR : ∀ i, i ≤ gn → (M1.runs ((ri.map (·.o)).take i)).2.inv (ln + i) := fun i hi => by
   have := iM1.runs ((ri.map (·.o)).take i) fun o ho => hfr o (List.mem_of_mem_take ho)
   rwa [show ((ri.map (·.o)).take i).length = i from by rw [List.length_take, List.length_map]; omega] at this
  refine J.keepI [RefAt ra M1, RefAt rb M1, BktAt m (M1.runs (le.map (·.o))).2, BktAt t (M1.runs (ri.map (·.o))).2, G, F] ?_
  refine J.region <| J.p rfl (Q.asg rfl) <| J.nil <| J.then_n <| J.block ?_
  refine J.loop (fun i : Nat => i ≤ en) (fun i => en - i) (fun i => [(0, .slice lp ln lc), (1, .slice ep en ec), (2, .slice gp gn gc), (7, .pointer (some ⟨m, 0, none⟩)), (14, .pointer (some ⟨t, 0, none⟩)), (15, .pointer (some ⟨ra, 0, none⟩)), (16, .pointer (some ⟨rb, 0, none⟩)), (18, .int .i64 i)]) (fun i => [RefAt ra (M1.runs ((le.map (·.o)).take i)).2, RefAt rb M1, BktAt m (M1.runs (le.map (·.o))).2, BktAt t (M1.runs (ri.map (·.o))).2, G, F]) 0 (Nat.zero_le _) ⟨rfl, rfl, rfl, rfl, rfl, rfl, rfl, rfl, trivial⟩ rfl fun i hi => ?_
  refine J.seq <| J.seq <| J.region <| J.m rfl <| J.m rfl <| J.p rfl (Q.lenSl Tryz.runUnderlying22 rfl) <| J.p rfl (Q.lss rfl rfl) <| J.nil <| J.then_n ?_
  refine J.cases 139 rfl (fun hc139 => ?_) (fun hc139 => ?_)
  ·
   replace hc139 := X.nm hc139
   refine J.cond_t rfl <| J.cskip <| J.then_n <| J.seq <| J.block ?_
   obtain ⟨b, off, hlp, hrd⟩ := hle.rd.some_ (by omega)
   obtain ⟨x, hx⟩ : ∃ x, le[i]? = some x := ⟨_, List.getElem?_eq_getElem (by omega)⟩
   have hxo := hle.ok x (List.mem_of_getElem? hx)
   have hxt := runs_take M1 (l := le.map (·.o)) (k := i) (o := x.o) (by rw [List.getElem?_map, hx]; rfl)
   have iMi := iE i hi
   obtain ⟨Mi, hMi⟩ : ∃ Mi, Mi = (M1.runs ((le.map (·.o)).take i)).2 := ⟨_, rfl⟩
   rw [← hMi] at hxt iMi ⊢
   have hx2 := congrArg Prod.snd hxt
   dsimp only at hx2
   subst hlp
   refine J.region <| J.m rfl <| J.m rfl <| J.m rfl <| J.p rfl (Q.ia Tryz.runUnderlying22 Tryz.sizeOf27 rfl rfl (by omega) (by omega)) ?_
   refine J.p rfl (Q.ldN (vs := [_, _, _, _, _, _, _, _, _]) Tryz.isAgg27 Tryz.sizeOf27 rfl (ReadsN.inI (rd_elem OW.cells_length hrd hx (by first | rfl | omega)))) ?_
   refine J.callI Tryz.call15 (rdo_spec ra Mi (iMi.lite (by omega)) iMi.ok (by omega) iMi.kin x G hxo) rfl rfl rfl ?_
   rintro _ _ ⟨ya, rfl, hya, rfl⟩
   refine J.norm rfl ?_
   rw [← hx2]
   refine J.nil <| J.blk_n <| J.then_n <| J.region <| J.m rfl <| J.p rfl (Q.add64 rfl rfl (by omega)) <| J.p rfl (Q.asg rfl) <| J.nil ?_
   refine J.againI (i + 1) (by show i + 1 ≤ en; omega) (by show en - (i + 1) < en - i; omega) ⟨rfl, rfl, rfl, rfl, rfl, rfl, rfl, rfl, trivial⟩
  replace hc139 := X.nm hc139
  refine J.cond_f rfl <| J.exit <| J.then_x <| J.lp_x <| J.blk_x <| J.then_n <| J.seq <| J.seq ?_
  have hic : (le.map (·.o)).take i = le.map (·.o) := List.take_of_length_le (by rw [List.length_map]; omega)
  have jE := iE i hi
  rw [hic] at jE ⊢
  obtain ⟨ML, hML⟩ : ∃ ML, ML = (M1.runs (le.map (·.o))).2 := ⟨_, rfl⟩
  rw [← hML] at jE ⊢
  refine J.keepI [RefAt rb M1, RefAt ra ML, BktAt m ML, BktAt t (M1.runs (ri.map (·.o))).2, G, F] ?_
  refine J.region <| J.p rfl (Q.asg rfl) <| J.nil <| J.then_n <| J.block ?_
  refine J.loop (fun i : Nat => i ≤ gn) (fun i => gn - i) (fun i => [(0, .slice lp ln lc), (1, .slice ep en ec), (2, .slice gp gn gc), (7, .pointer (some ⟨m, 0, none⟩)), (14, .pointer (some ⟨t, 0, none⟩)), (15, .pointer (some ⟨ra, 0, none⟩)), (16, .pointer (some ⟨rb, 0, none⟩)), (19, .int .i64 i)]) (fun i => [RefAt rb (M1.runs ((ri.map (·.o)).take i)).2, RefAt ra ML, BktAt m ML, BktAt t (M1.runs (ri.map (·.o))).2, G, F]) 0 (Nat.zero_le _) ⟨rfl, rfl, rfl, rfl, rfl, rfl, rfl, rfl, trivial⟩ rfl fun i hi => ?_
  refine J.seq <| J.seq <| J.region <| J.m rfl <| J.m rfl <| J.p rfl (Q.lenSl Tryz.runUnderlying22 rfl) <| J.p rfl (Q.lss rfl rfl) <| J.nil <| J.then_n ?_
  refine J.cases 151 rfl (fun hc151 => ?_) (fun hc151 => ?_)
  ·
   replace hc151 := X.nm hc151
   refine J.cond_t rfl <| J.cskip <| J.then_n <| J.seq <| J.block ?_
   obtain ⟨b, off, hlp, hrd⟩ := hri.rd.some_ (by omega)
   obtain ⟨x, hx⟩ : ∃ x, ri[i]? = some x := ⟨_, List.getElem?_eq_getElem (by omega)⟩
   have hxo := hri.ok x (List.mem_of_getElem? hx)
   have hxt := runs_take M1 (l := ri.map (·.o)) (k := i) (o := x.o) (by rw [List.getElem?_map, hx]; rfl)
   have iMi := iR i hi
   obtain ⟨Mi, hMi⟩ : ∃ Mi, Mi = (M1.runs ((ri.map (·.o)).take i)).2 := ⟨_, rfl⟩
   rw [← hMi] at hxt iMi ⊢
   have hx2 := congrArg Prod.snd hxt
   dsimp only at hx2
   subst hlp
   refine J.region <| J.m rfl <| J.m rfl <| J.m rfl <| J.p rfl (Q.ia Tryz.runUnderlying22 Tryz.sizeOf27 rfl rfl (by omega) (by omega)) ?_
   refine J.p rfl (Q.ldN (vs := [_, _, _, _, _, _, _, _, _]) Tryz.isAgg27 Tryz.sizeOf27 rfl (ReadsN.inI (rd_elem OW.cells_length hrd hx (by first | rfl | omega)))) ?_
   refine J.callI Tryz.call15 (rdo_spec rb Mi (iMi.lite (by omega)) iMi.ok (by omega) iMi.kin x G hxo) rfl rfl rfl ?_
   rintro _ _ ⟨ya, rfl, hya, rfl⟩
   refine J.norm rfl ?_
   rw [← hx2]
   refine J.nil <| J.blk_n <| J.then_n <| J.region <| J.m rfl <| J.p rfl (Q.add64 rfl rfl (by omega)) <| J.p rfl (Q.asg rfl) <| J.nil ?_
   refine J.againI (i + 1) (by show i + 1 ≤ gn; omega) (by show gn - (i + 1) < gn - i; omega) ⟨rfl, rfl, rfl, rfl, rfl, rfl, rfl, rfl, trivial⟩
  replace hc151 := X.nm hc151
  refine J.cond_f rfl <| J.exit <| J.then_x <| J.lp_x <| J.blk_x <| J.then_n <| J.seq ?_
  have hid2 : (ri.map (·.o)).take i = ri.map (·.o) := List.take_of_length_le (by rw [List.length_map]; omega)
  have jR := iR i hi
  rw [hid2] at jR ⊢
  obtain ⟨MR, hMR⟩ : ∃ MR, MR = (M1.runs (ri.map (·.o))).2 := ⟨_, rfl⟩
  rw [← hMR] at jR ⊢
  refine J.draw [1, 4, 9, 12, 16] Tryz.mixed (by kernel_rfl) fun hR => ?_
  refine RG.p 0 hR rfl (Q.mv rfl) <| RG.p 3 hR rfl (Q.mv rfl) ?_
  refine RG.callkR 1 hR rfl rfl rfl rfl rfl Tryz.call9 (dump_spec m ML jE.ok jE.kok (by omega) jE.fit (jE.dump (by omega))) rfl ?_
  rintro _ _ ⟨p161, c161, rfl, rfl⟩
  refine ⟨_, inferInstance, ?_⟩
  refine RG.normE rfl ?_
  refine RG.slr1 (E0 := 5) (sz := 1) (p := p161) (n := (dumpM ML).length) (c := c161) (xs := bytesV (dumpM ML)) fun hs161 => ?_
  refine RG.hold ?_
  refine RG.norm rfl <| RG.p 2 hR rfl (Q.b2s Tryz.runUnderlying25 Tryz.runUnderlying9 Tryz.runUnderlying5 rfl hs161.inI) ?_
  refine RG.callkR 4 hR rfl rfl rfl rfl rfl Tryz.call17 (rdump_spec ra ML (jE.lite (by omega)) jE.ok (by omega) jE.fit (jE.dump (by omega))) rfl ?_
  rintro _ _ ⟨p164, c164, rfl, rfl⟩
  refine ⟨_, inferInstance, ?_⟩
  refine RG.normE rfl ?_
  refine RG.slr1 (E0 := 5) (sz := 1) (p := p164) (n := (dumpM ML).length) (c := c164) (xs := bytesV (dumpM ML)) fun hs164 => ?_
  refine RG.hold ?_
  refine RG.norm rfl <| RG.p 5 hR rfl (Q.b2s Tryz.runUnderlying25 Tryz.runUnderlying9 Tryz.runUnderlying5 rfl hs164.inI) <| RG.p 6 hR rfl (Q.eqls rfl rfl) <| RG.p 7 hR rfl (Q.mv rfl) ?_
  refine RG.cases 167 rfl (fun hb167 => ?_) (fun hb167 => ?_)
  ·
   replace hb167 := X.nm hb167
   refine RG.p 8 hR rfl (Q.mv rfl) <| RG.p 11 hR rfl (Q.mv rfl) ?_
   refine RG.callkR 9 hR rfl rfl rfl rfl rfl Tryz.call9 (dump_spec t MR jR.ok jR.kok (by omega) jR.fit (jR.dump (by omega))) rfl ?_
   rintro _ _ ⟨p169, c169, rfl, rfl⟩
   refine ⟨_, inferInstance, ?_⟩
   refine RG.normE rfl ?_
   refine RG.slr1 (E0 := 5) (sz := 1) (p := p169) (n := (dumpM MR).length) (c := c169) (xs := bytesV (dumpM MR)) fun hs169 => ?_
   refine RG.hold ?_
   refine RG.norm rfl <| RG.p 10 hR rfl (Q.b2s Tryz.runUnderlying25 Tryz.runUnderlying9 Tryz.runUnderlying5 rfl hs169.inI) ?_
   refine RG.callkR 12 hR rfl rfl rfl rfl rfl Tryz.call17 (rdump_spec rb MR (jR.lite (by omega)) jR.ok (by omega) jR.fit (jR.dump (by omega))) rfl ?_
   rintro _ _ ⟨p172, c172, rfl, rfl⟩
   refine ⟨_, inferInstance, ?_⟩
   refine RG.normE rfl ?_
   refine RG.slr1 (E0 := 5) (sz := 1) (p := p172) (n := (dumpM MR).length) (c := c172) (xs := bytesV (dumpM MR)) fun hs172 => ?_
   refine RG.hold ?_
   refine RG.norm rfl <| RG.p 13 hR rfl (Q.b2s Tryz.runUnderlying25 Tryz.runUnderlying9 Tryz.runUnderlying5 rfl hs172.inI) <| RG.p 14 hR rfl (Q.eqls rfl rfl) <| RG.p 15 hR rfl (Q.pick_t rfl rfl) ?_
   refine RG.bar 16 hR rfl rfl rfl rfl rfl rfl (Q.asg rfl).toC ?_
   rintro _ _ ⟨rfl, rfl⟩
   refine RG.norm rfl ?_
   refine RG.fin hR rfl ?_
   refine J.norm rfl <| J.then_n <| J.cret ?_
   first
    | refine J.ret1I [G] rfl rfl ⟨rfl, rfl⟩
    | (refine J.slot 6 (.bool true) rfl (congrArg Value.bool (by simp)) ?_
       refine J.ret1I [G] rfl rfl ⟨rfl, rfl⟩)
  exfalso; simp at hb167
end Go.Proofs.YtdancegklkifaaaGreat
namespace Go.Proofs.YtdancegklkifaaaGreat
set_option linter.unusedSectionVars false
set_option linter.unusedSimpArgs false
set_option linter.unusedVariables false
open Go.RowKit
open Go.X

section
variable {H : Type} {enc : TypeId × Value → H} {W : World} {base : Nat} {spare : Nat → Bool} {held : Bool} {v : Value}
theorem ops_all : ∀ (es : List (DataW H × List MemPlace)) (css : List (List Value)), css.length = es.length → (∀ (i : Nat) cs, css[i]? = some cs → ∃ n, DataW.trod enc Tryz.prog W base spare held n 27 cs = es[i]?) →
    ∃ l : List OW, css = l.map OW.cells ∧ (∀ x, x ∈ l → x.ok (old W) ∧ x.o.id ≤ 18446744073709551615) ∧ bulks l ≤ Rows.uptoBulkAll (es.map (·.1))
  | [], css, h, _ => by
    obtain rfl : css = [] := List.eq_nil_of_length_eq_zero h
    exact ⟨[], rfl, by simp, by simp [bulks]⟩
  | e :: es, [], h, _ => by simp at h
  | e :: es, cs :: css, h, hg => by
    obtain ⟨n, h0⟩ := hg 0 cs rfl
    obtain ⟨y, rfl, hy, hb, hid⟩ := op_in (x := e) h0
    obtain ⟨l, rfl, hl, hbl⟩ := ops_all es css (by simpa using h) fun i c hc => hg (i + 1) c hc
    refine ⟨y :: l, rfl, fun x hx => ?_, ?_⟩
    · cases List.mem_cons.1 hx with
      | inl e => rw [e]; exact ⟨hy, hid⟩
      | inr e => exact hl x e
    · simp only [bulks, List.map_cons, List.sum_cons, Rows.uptoBulkAll] at hbl ⊢
      omega

theorem ops_in {d : DataW H} {ps : List MemPlace} {a0 : Option Addr} {ln lc : Nat} (h : DataW.Trod enc Tryz.prog W base spare held 22 (.slice a0 ln lc) d ps) (hb : Rows.uptoBulk d ≤ 1048576) : ∃ l, Ops (old W) a0 ln lc l ∧ bulks l ≤ Rows.uptoBulk d ∧ ∀ x, x ∈ l → x.o.id ≤ 18446744073709551615 := by
  obtain ⟨fuel, hf⟩ := h
  rcases elems_in (x := (d, ps)) Tryz.underlying22 cellsOp hf with ⟨e, _⟩ | ⟨a, len, cap, n, es, rs, css, e, hl, hx, hle, hcl, hcs⟩
  · cases e
    exact ⟨[], ⟨.inl ⟨none, 0, rfl, rfl⟩, by simp, by simp⟩, by simp [bulks], by simp⟩
  · cases e
    dsimp only at hx
    rw [hx] at hb
    simp only [Rows.uptoBulk] at hb
    have hbl := bulk_len (es.map (·.1))
    rw [List.length_map, hle] at hbl
    obtain ⟨l, rfl, hok, hbk⟩ := ops_all (enc := enc) (W := W) (base := base) (spare := spare) (held := held) es css (by omega) fun i cs hc => ⟨n, (hcs i cs hc).2.2⟩
    have hll : l.length = ln := by rw [← hcl, List.length_map]
    refine ⟨l, ⟨slr_old (by rw [flat_length OW.cells_length, hll]) ?_ (by omega), fun x hx => (hok x hx).1, by omega⟩, by rw [hx]; simp only [Rows.uptoBulk]; omega, fun x hx => (hok x hx).2⟩
    intro k u hu
    have hk : k < l.length * 9 := by
      have := (List.getElem?_eq_some_iff.1 hu).1
      rwa [flat_length OW.cells_length] at this
    obtain ⟨y, hy⟩ : ∃ y, l[k / 9]? = some y := ⟨_, List.getElem?_eq_getElem (by omega)⟩
    obtain ⟨u', hu'⟩ : ∃ u', y.cells[k % 9]? = some u' := ⟨_, List.getElem?_eq_getElem (by rw [OW.cells_length]; omega)⟩
    have hfl := flat_get OW.cells_length hy hu'
    rw [show k / 9 * 9 + k % 9 = k from by omega, hu] at hfl
    cases hfl
    obtain ⟨_, h2, _⟩ := hcs (k / 9) y.cells (by rw [List.getElem?_map, hy]; rfl)
    have := h2 _ u hu'
    rwa [show k / 9 * 9 + k % 9 = k from by omega] at this
end
end Go.Proofs.YtdancegklkifaaaGreat
namespace Go.Proofs.YtdancegklkifaaaGreat
set_option linter.unusedSectionVars false
set_option linter.unusedSimpArgs false
set_option linter.unusedVariables false
open Go.ChangeShapes Go.WideShapes Go.ChangeAt Go.RowKit
open Go.X

namespace bucketTwins
set_option linter.unusedVariables false
theorem own : ownKnob Tryz.prog.godebug = none := by kernel_rfl
theorem laidOut : laidOutB Tryz.prog = true := by kernel_rfl

theorem walk (a0 : Option Addr) (ln lc : Nat) (l : List OW) (a1 : Option Addr) (en ec : Nat) (le : List OW) (a2 : Option Addr) (gn gc : Nat) (ri : List OW) (W : World) (w0 : Ops (old W) a0 ln lc l) (w1 : Ops (old W) a1 en ec le) (w2 : Ops (old W) a2 gn gc ri)
    (hb : bulks l ≤ 1048576) (hbe : bulks le ≤ 1048576) (hbr : bulks ri ≤ 1048576) (hid : ∀ x, x ∈ l → x.o.id ≤ 18446744073709551615) (hide : ∀ x, x ∈ le → x.o.id ≤ 18446744073709551615) (hidr : ∀ x, x ∈ ri → x.o.id ≤ 18446744073709551615) :
    Calls Tryz.prog 4 #[.slice a0 ln lc, .slice a1 en ec, .slice a2 gn gc] W fun e w' => e = .returned (.bool true) ∧ Below W.heap.size W w' := (twins_spec (old W) a0 ln lc l a1 en ec le a2 gn gc ri w0 w1 w2 hb hbe hbr hid hide hidr).lift

set_option maxRecDepth 100000 in
theorem lifted (os : Os) (started : os.Started) (H : Type) (enc : TypeId × Value → H) (F : Stop.Interp) :
    ReturnsInHanded {} Tryz.checked os 4 .any ((Rows.OpenSpec.upto Rows.bucketTwinsSpec).pre6 enc Tryz.prog Tryz.f4 Rows.bucketTwinsUptoRow.domain false) (((Rows.OpenSpec.upto Rows.bucketTwinsSpec).at F).post enc Tryz.prog Tryz.f4 false true false false) := by
  refine returnsInHanded_of_cond (C := Tryz.checked) (s := Rows.OpenSpec.upto Rows.bucketTwinsSpec) (k := Rows.uptoSmall) rfl own started (by kernel_rfl) Tryz.func4
    (OpenSpec.witness (enc := enc) (C := Tryz.checked) (s := Rows.OpenSpec.upto Rows.bucketTwinsSpec) (k := Rows.uptoSmall) rfl false ⟨#[], #[.slice none 0 0, .slice none 0 0, .slice none 0 0], []⟩ 8 (by kernel_rfl) (by kernel_rfl) (by kernel_rfl)
      (x := ([.nil, .nil, .nil], [], [])) (by kernel_rfl) rfl (by kernel_rfl)) ?_
  intro W base args ds gs before hval0 hW hcnd hk _
  have hval : ∀ (j : Nat) t v, Tryz.f4.params[j]? = some t → args[j]? = some v → Value.okWide Tryz.prog W .any base t v := hval0
  have hW' := hW
  obtain ⟨p, q, hA0, hV, rfl, hfz, hnd⟩ := hW
  have hA : DataW.TrodAll enc Tryz.prog W 0 (fun _ => true) true Tryz.f4.params.toList args.toList ds p := hA0
  rw [Tryz.params4] at hA hval
  obtain ⟨v0, vs0, d0, ds0, p0, q0, hargs, rfl, rfl, h0, r0⟩ := trodAll_cons hA
  obtain ⟨v1, vs1, d1, ds1, p1, q1, rfl, rfl, rfl, h1, r1⟩ := trodAll_cons r0
  obtain ⟨v2, vs2, d2, ds2, p2, q2, rfl, rfl, rfl, h2, r2⟩ := trodAll_cons r1
  obtain ⟨rfl, rfl, rfl⟩ := trodAll_nil r2
  obtain rfl : args = #[v0, v1, v2] := by cases args; simp_all
  obtain ⟨rfl, rfl⟩ := trodVars_none hV
  have hbk := of_decide_eq_true hk
  simp only [List.append_nil, Rows.uptoBulkAll] at hbk
  have lt0 : ∀ x ∈ p0, x.block < W.heap.size := by obtain ⟨m, hm⟩ := h0; exact DataW.trod_lt m _ _ _ hm
  have lt1 : ∀ x ∈ p1, x.block < W.heap.size := by obtain ⟨m, hm⟩ := h1; exact DataW.trod_lt m _ _ _ hm
  have lt2 : ∀ x ∈ p2, x.block < W.heap.size := by obtain ⟨m, hm⟩ := h2; exact DataW.trod_lt m _ _ _ hm
  obtain ⟨a0, ln, lc, rfl⟩ := okWide_slice Tryz.underlying22 (hval 0 22 v0 rfl rfl)
  obtain ⟨a1, en, ec, rfl⟩ := okWide_slice Tryz.underlying22 (hval 1 22 v1 rfl rfl)
  obtain ⟨a2, gn, gc, rfl⟩ := okWide_slice Tryz.underlying22 (hval 2 22 v2 rfl rfl)
  obtain ⟨l, w0, wb, wid⟩ := ops_in h0 (by omega)
  obtain ⟨le, w1, wbe, wide⟩ := ops_in h1 (by omega)
  obtain ⟨ri, w2, wbr, widr⟩ := ops_in h2 (by omega)
  clear hA0 hval0
  refine (walk a0 ln lc l a1 en ec le a2 gn gc ri W w0 w1 w2 (by omega) (by omega) (by omega) wid wide widr).mono fun e W' ⟨he, bel⟩ => ?_
  subst he
  exact ⟨_, rfl, _, _, _, [], _, [], hW', trodAll_mk1 (shut_bool Tryz.underlying4 _), (trodAll_cons_mk (Below.trod laidOut (by kernel_rfl) (of_decide_eq_true (by kernel_rfl)) h0 bel lt0) (trodAll_cons_mk (Below.trod laidOut (by kernel_rfl) (of_decide_eq_true (by kernel_rfl)) h1 bel lt1) (trodAll_cons_mk (Below.trod laidOut (by kernel_rfl) (of_decide_eq_true (by kernel_rfl)) h2 bel lt2) trodAll_mk0))), rfl, bel.frame _, fun h => by cases h⟩

theorem over : Rows.bucketTwinsUptoRow.holds Tryz.pinned (Rows.OpenSpec.upto Rows.bucketTwinsSpec) :=
  OpenClaim.holds_of_cond 4 Tryz.f4 rfl rfl rfl rfl rfl rfl rfl ⟨rfl, rfl, rfl, rfl, rfl⟩ rfl rfl rfl rfl rfl (by kernel_rfl) Tryz.func4 (by kernel_rfl)
    (of_decide_eq_true (by kernel_rfl)) (by unfold Func.isWrapper; first | (rw [if_pos (by decide +kernel)]; kernel_rfl) | (rw [if_neg (by decide +kernel)]; exact ⟨rfl, rfl⟩))
    (fun os started H enc _ F => lifted os started H enc F)
end bucketTwins

theorem bucketTwins_holds : Rows.BucketTwinsUptoSaid := bucketTwins.over
end Go.Proofs.YtdancegklkifaaaGreat

