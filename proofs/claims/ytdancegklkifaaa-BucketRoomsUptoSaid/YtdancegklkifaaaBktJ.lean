/-
  The store's Run; the chapter's example.
-/
import Derived.Test.YtdancegklkifaaaBktI
import Derived.KernelRfl
namespace Go.Proofs.Ytdancegklkifaaa
set_option linter.unusedSectionVars false
set_option linter.unusedSimpArgs false
set_option linter.unusedVariables false
open Go.X
open Go.X.G (Ord3 ord3_nat ord3_int ord3_str ltB sget sput sdel Srtd MapAt MapHole)

def BM.runs (M : BM) : List OM → List RM × BM
  | [] => ([], M)
  | o :: l => ((M.run o).1 :: ((M.run o).2.runs l).1, ((M.run o).2.runs l).2)
theorem runs_snoc (M : BM) : ∀ (l : List OM) (o : OM), M.runs (l ++ [o]) = ((M.runs l).1 ++ [((M.runs l).2.run o).1], ((M.runs l).2.run o).2)
  | [], o => rfl
  | x :: l, o => by simp only [List.cons_append, BM.runs, runs_snoc]
theorem runs_take (M : BM) {l : List OM} {k : Nat} {o : OM} (h : l[k]? = some o) : M.runs (l.take (k + 1)) = ((M.runs (l.take k)).1 ++ [((M.runs (l.take k)).2.run o).1], ((M.runs (l.take k)).2.run o).2) := by
  obtain ⟨h1, h2⟩ := List.getElem?_eq_some_iff.1 h
  rw [List.take_succ_eq_append_getElem h1, h2, runs_snoc]
theorem runs_len (M : BM) : ∀ l : List OM, (M.runs l).1.length = l.length
  | [] => rfl
  | x :: l => by simp only [BM.runs, List.length_cons, runs_len]
theorem runs_ok {k : Nat} {M : BM} (h : M.ok k) : ∀ l : List OM, (M.runs l).2.ok (k + l.length)
  | [] => h
  | x :: l => by
    have := runs_ok (run_ok h x) l
    simp only [BM.runs, List.length_cons]
    rw [show k + (l.length + 1) = k + 1 + l.length from by omega]; exact this

/-- The ops that are handed in. -/
structure Ops (G : Assn) (lp : Option Addr) (ln lc : Nat) (l : List OW) : Prop where
  rd : SlR [G] 9 (.slice lp ln lc) (l.flatMap OW.cells)
  ok : ∀ x, x ∈ l → x.ok G
  small : ln ≤ 1048576
theorem Ops.len {G : Assn} {lp : Option Addr} {ln lc : Nat} {l : List OW} (h : Ops G lp ln lc l) : l.length = ln := by
  have := h.rd.len
  rw [flat_length OW.cells_length] at this; omega

/-- Each op's function is there, whatever the store. -/
def HasActs (K m : Nat) (l : List OW) (G : Assn) : Prop := ∀ (k : Nat) (M : BM), k ≤ K → M.ok k → ∀ x, x ∈ l → x.o.chkB = true → HasAct m M x G

theorem RW.cells_length (x : RW) : x.cells.length = 5 := rfl
theorem RW.cells_one {l : List RW} : ∀ v, v ∈ l.flatMap RW.cells → oneC v = true := by
  intro v hv
  obtain ⟨x, _, hx⟩ := List.mem_flatMap.1 hv
  simp only [RW.cells, List.mem_cons, List.not_mem_nil, or_false] at hx
  rcases hx with rfl | rfl | rfl | rfl | rfl <;> rfl

theorem run_spec {k K : Nat} (m : Nat) (M : BM) (hM : M.ok k) (G : Assn) (lp : Option Addr) (ln lc : Nat) (l : List OW) (hl : Ops G lp ln lc l) (hA : HasActs K m l G) (hK : k + ln ≤ K) :
    FSpec Try.prog 12 [.pointer (some ⟨m, 0, none⟩), .slice lp ln lc] [BktAt m M, G] (fun v B => ∃ (rs : List RW) (p : Option Addr) (c : Nat), v = .slice p rs.length c ∧ rs.map (·.r) = (M.runs (l.map (·.o))).1 ∧
      B = [own 41 5 (.slice p rs.length c) (rs.flatMap RW.cells), star (rs.map RW.asn), BktAt m (M.runs (l.map (·.o))).2, G]) := by
  have hlen := hl.len
  have hsml := hl.small
  refine FSpec.of Try.func12 rfl Try.ntmps12 rfl fun W0 F => ?_
  refine J.seq ?_
  refine J.region ?_
  refine J.q rfl rfl (Q.asg rfl) ?_
  refine J.nil ?_
  refine J.then_n ?_
  refine J.seq ?_
  refine J.region ?_
  refine J.q rfl rfl (Q.asg rfl) ?_
  refine J.nil ?_
  refine J.then_n ?_
  refine J.seq ?_
  refine J.seq ?_
  refine J.region ?_
  refine J.q rfl rfl (Q.mv rfl) ?_
  refine J.q rfl rfl (Q.lenSl Try.runUnderlying45 rfl) ?_
  refine J.q rfl rfl (Q.mv rfl) ?_
  refine J.nil ?_
  refine J.then_n ?_
  refine J.block ?_
  refine J.give (own.nil 41 5 _) ?_
  refine J.give (X := star (([] : List RW).map RW.asn)) trivial ?_
  refine J.pick [1, 0, 2, 3, 4] rfl ?_
  refine J.loop (fun z : Nat × List RW × Option Addr × Nat => z.1 ≤ ln ∧ z.2.1.length = z.1 ∧ z.2.1.map (·.r) = (M.runs ((l.map (·.o)).take z.1)).1) (fun z => ln - z.1) (fun z => [(0, .pointer (some ⟨m, 0, none⟩)), (5, .slice z.2.2.1 z.2.1.length z.2.2.2), (8, .slice lp ln lc), (9, .int .i64 ln), (10, .int .i64 z.1)])
    (fun z => [own 41 5 (.slice z.2.2.1 z.2.1.length z.2.2.2) (z.2.1.flatMap RW.cells), star (z.2.1.map RW.asn), BktAt m (M.runs ((l.map (·.o)).take z.1)).2, G, F]) (0, [], none, 0) ⟨Nat.zero_le _, rfl, rfl⟩ ⟨rfl, rfl, rfl, rfl, rfl, trivial⟩ rfl fun z hz => ?_
  obtain ⟨j, rs, p, c⟩ := z
  obtain ⟨hj, hrl, hrs⟩ := hz
  dsimp only at hj hrl hrs
  refine J.seq ?_
  refine J.region ?_
  refine J.q rfl rfl (Q.lss rfl rfl) ?_
  refine J.nil ?_
  refine J.then_n ?_
  refine J.seq ?_
  refine J.cases 11 rfl (fun hc11 => ?_) (fun hc11 => ?_)
  ·
    first | replace hc11 := X.tt_dec hc11 | replace hc11 := X.tt_not hc11 | replace hc11 := X.ff_dec hc11 | replace hc11 := X.ff_not hc11 | skip
    refine J.cond_t rfl ?_
    refine J.cskip ?_
    refine J.then_n ?_
    refine J.seq ?_
    refine J.block ?_
    refine J.seq ?_
    obtain ⟨b, off, hlp, hrd⟩ := hl.rd.some_ (by omega)
    obtain ⟨x, hx⟩ : ∃ x, l[j]? = some x := ⟨_, List.getElem?_eq_getElem (by omega)⟩
    have hxm := List.mem_of_getElem? hx
    have hxo := hl.ok x hxm
    have hxt := runs_take M (l := l.map (·.o)) (k := j) (o := x.o) (by rw [List.getElem?_map, hx]; rfl)
    obtain ⟨Mj, hMj⟩ : ∃ Mj, Mj = (M.runs ((l.map (·.o)).take j)).2 := ⟨_, rfl⟩
    have hokj : Mj.ok (k + j) := by
      rw [hMj]
      have := runs_ok hM ((l.map (·.o)).take j)
      exact this.mono (by rw [List.length_take]; omega)
    show J _ _ _ [_, _, BktAt m (M.runs ((l.map (·.o)).take j)).2, _, _] _
    rw [← hMj] at hxt ⊢
    refine J.slot 8 (.slice (some ⟨b, off, none⟩) ln lc) rfl (by rw [hlp]) ?_
    refine J.region ?_
    refine J.q rfl rfl (Q.ia Try.runUnderlying45 Try.sizeOf26 rfl rfl (by omega) (by omega)) ?_
    refine J.q rfl rfl (Q.ldN (vs := [_, _, _, _, _, _, _, _, _]) Try.isAgg26 Try.sizeOf26 rfl ((rd_elem OW.cells_length hrd hx (by simp)).within (i := 3) rfl)) ?_
    refine J.c rfl rfl (C.alloc (l := [_, _, _, _, _, _, _, _, _]) Try.zeroValue26 rfl) ?_
    rintro _ _ ⟨b7, rfl, rfl⟩
    refine J.norm rfl ?_
    first | refine J.c0 rfl (C.stA (i := 0) (vs := [_, _, _, _, _, _, _, _, _]) Try.sizeOf26 rfl rfl rfl rfl rfl rfl) ?_ | refine J.c0 rfl (C.stA (i := 1) (vs := [_, _, _, _, _, _, _, _, _]) Try.sizeOf26 rfl rfl rfl rfl rfl rfl) ?_ | refine J.c0 rfl (C.stA (i := 2) (vs := [_, _, _, _, _, _, _, _, _]) Try.sizeOf26 rfl rfl rfl rfl rfl rfl) ?_ | refine J.c0 rfl (C.stA (i := 3) (vs := [_, _, _, _, _, _, _, _, _]) Try.sizeOf26 rfl rfl rfl rfl rfl rfl) ?_ | refine J.c0 rfl (C.stA (i := 4) (vs := [_, _, _, _, _, _, _, _, _]) Try.sizeOf26 rfl rfl rfl rfl rfl rfl) ?_ | refine J.c0 rfl (C.stA (i := 5) (vs := [_, _, _, _, _, _, _, _, _]) Try.sizeOf26 rfl rfl rfl rfl rfl rfl) ?_ | refine J.c0 rfl (C.stA (i := 6) (vs := [_, _, _, _, _, _, _, _, _]) Try.sizeOf26 rfl rfl rfl rfl rfl rfl) ?_ | refine J.c0 rfl (C.stA (i := 7) (vs := [_, _, _, _, _, _, _, _, _]) Try.sizeOf26 rfl rfl rfl rfl rfl rfl) ?_ | refine J.c0 rfl (C.stA (i := 8) (vs := [_, _, _, _, _, _, _, _, _]) Try.sizeOf26 rfl rfl rfl rfl rfl rfl) ?_ | refine J.c0 rfl (C.stA (i := 9) (vs := [_, _, _, _, _, _, _, _, _]) Try.sizeOf26 rfl rfl rfl rfl rfl rfl) ?_ | refine J.c0 rfl (C.stA (i := 10) (vs := [_, _, _, _, _, _, _, _, _]) Try.sizeOf26 rfl rfl rfl rfl rfl rfl) ?_ | refine J.c0 rfl (C.stA (i := 11) (vs := [_, _, _, _, _, _, _, _, _]) Try.sizeOf26 rfl rfl rfl rfl rfl rfl) ?_ | refine J.c0 rfl (C.stA (i := 12) (vs := [_, _, _, _, _, _, _, _, _]) Try.sizeOf26 rfl rfl rfl rfl rfl rfl) ?_ | refine J.c0 rfl (C.stA (i := 13) (vs := [_, _, _, _, _, _, _, _, _]) Try.sizeOf26 rfl rfl rfl rfl rfl rfl) ?_ | refine J.c0 rfl (C.stA (i := 14) (vs := [_, _, _, _, _, _, _, _, _]) Try.sizeOf26 rfl rfl rfl rfl rfl rfl) ?_ | refine J.c0 rfl (C.stA (i := 15) (vs := [_, _, _, _, _, _, _, _, _]) Try.sizeOf26 rfl rfl rfl rfl rfl rfl) ?_
    rintro _ _ ⟨rfl, rfl⟩
    refine J.nil ?_
    refine J.then_n ?_
    refine J.region ?_
    refine J.q rfl rfl (Q.mv rfl) ?_
    refine J.q rfl rfl (Q.mv rfl) ?_
    refine J.q rfl rfl (Q.ldN (vs := [_, _, _, _, _, _, _, _, _]) Try.isAgg26 Try.sizeOf26 rfl (by first | exact ReadsN.pt 0 rfl | exact ReadsN.pt 1 rfl | exact ReadsN.pt 2 rfl | exact ReadsN.pt 3 rfl | exact ReadsN.pt 4 rfl | exact ReadsN.pt 5 rfl | exact ReadsN.pt 6 rfl | exact ReadsN.pt 7 rfl | exact ReadsN.pt 8 rfl | exact ReadsN.pt 9 rfl | exact ReadsN.pt 10 rfl | exact ReadsN.pt 11 rfl | exact ReadsN.pt 12 rfl | exact ReadsN.pt 13 rfl)) ?_
    refine J.call Try.call13 (do_spec m Mj hokj x G hxo (hA (k + j) Mj (by omega) hokj x hxm)) [3, 4] rfl rfl rfl rfl ?_
    rintro _ _ ⟨y, rfl, hy, rfl⟩
    refine J.norm rfl ?_
    refine J.c rfl rfl (C.bslG (l := [_, _, _, _, _]) Try.runUnderlying36 Try.sizeOf41 Try.zeroValue41 (by decide) rfl rfl rfl rfl rfl) ?_
    rintro _ _ ⟨b18, rfl, rfl⟩
    refine J.norm rfl ?_
    refine J.conv (Y := own 41 5 (.slice (some ⟨b18, 0, none⟩) 1 1) y.cells) 0 rfl (own_of_block rfl) ?_
    refine J.slr1 0 rfl fun hs18 => ?_
    refine J.c rfl rfl (C.app (i := 5) Try.runUnderlying36 Try.runUnderlying36 Try.typeInfo41 Try.sizeOf41 Try.zeroValue41 rfl rfl rfl (hs18.within (i := 0) rfl) (by have := RW.cells_one (l := [y]); simpa using this) (by rw [show Try.t41.bytes = 72 from rfl]; show (rs.length + 1) * 72 ≤ _; omega) (by decide)) ?_
    rintro _ _ ⟨p19, c19, rfl, rfl⟩
    refine J.norm rfl ?_
    refine J.q rfl rfl (Q.asg rfl) ?_
    refine J.nil ?_
    refine J.blk_n ?_
    refine J.then_n ?_
    refine J.region ?_
    refine J.q rfl rfl (Q.add64 rfl rfl (by omega)) ?_
    refine J.q rfl rfl (Q.mv rfl) ?_
    refine J.nil ?_
    refine J.addone (f := RW.asn) (l := rs) 2 6 y rfl ?_
    have hfl : (rs ++ [y]).flatMap RW.cells = rs.flatMap RW.cells ++ y.cells := by simp
    refine J.keep [5, 0, 2, 3, 6] rfl ?_
    refine J.again (j + 1, rs ++ [y], p19, c19) ⟨by show j + 1 ≤ ln; omega, by show (rs ++ [y]).length = j + 1; simp [hrl], by show (rs ++ [y]).map (·.r) = (M.runs ((l.map (·.o)).take (j + 1))).1; rw [hxt, List.map_append, hrs, List.map_cons, hy]; rfl⟩ (by show ln - (j + 1) < ln - j; omega) ⟨rfl, (by show _ = some (Value.slice p19 (rs ++ [y]).length c19); rw [List.length_append]; rfl), (by show _ = some (Value.slice lp ln lc); rw [hlp]; rfl), rfl, rfl, trivial⟩ ?_
    show _ = [own 41 5 (.slice p19 (rs ++ [y]).length c19) ((rs ++ [y]).flatMap RW.cells), _, BktAt m (M.runs ((l.map (·.o)).take (j + 1))).2, _, _]
    rw [hxt, hfl, List.length_append]
    rfl
  ·
    first | replace hc11 := X.tt_dec hc11 | replace hc11 := X.tt_not hc11 | replace hc11 := X.ff_dec hc11 | replace hc11 := X.ff_not hc11 | skip
    refine J.cond_f rfl ?_
    refine J.exit ?_
    refine J.then_x ?_
    refine J.lp_x ?_
    refine J.blk_x ?_
    refine J.then_n ?_
    refine J.seq ?_
    refine J.region ?_
    refine J.q rfl rfl (Q.mv rfl) ?_
    refine J.q rfl rfl (Q.asg rfl) ?_
    refine J.nil ?_
    refine J.then_n ?_
    refine J.cret ?_
    have hjn : j = ln := by omega
    subst hjn
    have htk : (l.map (·.o)).take j = l.map (·.o) := List.take_of_length_le (by rw [List.length_map]; omega)
    rw [htk] at hrs
    refine J.ret1 (B := [own 41 5 (.slice p rs.length c) (rs.flatMap RW.cells), star (rs.map RW.asn), BktAt m (M.runs (l.map (·.o))).2, G]) rfl rfl ⟨rs, p, c, rfl, hrs, rfl⟩ ?_
    show [_, _, BktAt m (M.runs ((l.map (·.o)).take j)).2, _, _] = _
    rw [htk]; rfl
end Go.Proofs.Ytdancegklkifaaa
