/-
  Any history: the judge tells just the faults that the document tells. For all arguments within the bounds of the statement.
-/
import Derived.JoinedCond
import Derived.Test.YtidbcaimgahllaaGreatKb6
set_option linter.unusedSectionVars false
set_option linter.unusedVariables false
set_option linter.unusedSimpArgs false
namespace Go.Proofs.YtidbcaimgahllaaGreat
open Go.Proofs.Tryz
open Go.X
open Go.X.G (Ord3 ord3_nat ord3_int ord3_str ltB sget sput sdel Srtd MapAt MapHole valRep)

theorem check_badK (G1 : Assn) (lp : Option Addr) (lc : Nat) (l : List CW) (ds : List DM) (hl : Coms G1 lp lc l ds) (h : ¬ ((∀ (i : Nat) (x : CW), l[i]? = some x → x.index = i + 1) ∧ ∀ d, d ∈ ds → d.bad = false))
    (ep : Option Addr) (en ec : Nat) : FSpec Tryz.prog 8 [.slice lp l.length lc, .slice ep en ec] [G1]
    (fun u B => ∃ p c, u = .slice p [FM.mk 1 (-1)].length c ∧ B = [own 35 2 (.slice p [FM.mk 1 (-1)].length c) ([FM.mk 1 (-1)].flatMap FM.cells), G1]) := by
  refine FSpec.of func8 rfl ntmps8 rfl fun W0 F => ?_
  refine J.seq <| J.region <| J.p rfl (Q.asg rfl) <| J.nil <| J.then_n <| J.scope <| J.seq <| J.region <| J.m rfl ?_
  refine J.callI call20 (read_bad G1 lp lc l ds hl h) rfl rfl rfl ?_
  rintro _ _ ⟨e, he, rfl, rfl⟩
  refine J.norm rfl <| J.m rfl <| J.p rfl (Q.ext rfl rfl) <| J.p rfl (Q.ext rfl rfl) <| J.p rfl (Q.asg rfl) <| J.p rfl (Q.asg rfl) <| J.nil <| J.then_n <| J.seq <| J.seq <| J.region <| J.m rfl <| J.p rfl (Q.neq rfl rfl) <| J.nil <| J.then_n ?_
  refine J.cases 19 rfl (fun hc19 => ?_) (fun hc19 => ?_)
  ·
   replace hc19 := X.nm hc19
   refine J.cond_t rfl <| J.seq <| J.region <| J.p rfl (Q.bld (l := FM.cells ⟨1, -1⟩) runUnderlying35 zeroValue35 places35 rfl (by kernel_rfl)) ?_
   refine J.c rfl rfl (C.bslG (l := [_, _]) runUnderlying29 sizeOf35 zeroValue35 (by decide) rfl rfl rfl rfl rfl) ?_
   rintro _ _ ⟨b21, rfl, rfl⟩
   refine J.norm rfl <| J.p rfl (Q.asg rfl) <| J.nil <| J.then_n <| J.cret <| J.then_r <| J.scp_r ?_
   refine J.convI (pt b21 (.cells (FM.cells ⟨1, -1⟩).toArray 35 (0, 0))) (own 35 2 (.slice (some ⟨b21, 0, none⟩) [FM.mk 1 (-1)].length 1) ([FM.mk 1 (-1)].flatMap FM.cells)) (own_of_block (l := [FM.mk 1 (-1)].flatMap FM.cells) rfl) ?_
   refine J.ret1I [own 35 2 (.slice (some ⟨b21, 0, none⟩) [FM.mk 1 (-1)].length 1) ([FM.mk 1 (-1)].flatMap FM.cells), G1] rfl rfl ⟨some ⟨b21, 0, none⟩, 1, rfl, rfl⟩
  exact absurd (X.nm hc19) he
theorem rcheck_okK (G1 : Assn) (rp : Option Addr) (rc : Nat) (l : List RCW) (hl : RComs G1 rp rc l) (hi : ∀ (i : Nat) (x : RCW), l[i]? = some x → x.index = i + 1) (hb : ∀ x, x ∈ l → x.bad = false) (hc : ∀ x, x ∈ l → x.point = false → x.x.o.chkB = true ∧ x.x.o.id ≤ U64)
    (ep : Option Addr) (ec : Nat) (es : List EW) (he : Evs G1 ep ec es) (hcp : es.length ≤ ec) : FSpec Tryz.prog 9 [.slice rp l.length rc, .slice ep es.length ec] [G1]
    (fun u B => ∃ p c, u = .slice p (faults (begM (l.map RCW.m)) (es.map EW.m)).length c ∧ B = [own 37 2 (.slice p (faults (begM (l.map RCW.m)) (es.map EW.m)).length c) ((faults (begM (l.map RCW.m)) (es.map EW.m)).flatMap FM.cells), G1]) := by
  have hesm := he.small
  have hlsm := hl.small
  refine FSpec.of func9 rfl ntmps9 rfl fun W0 F => ?_
  refine J.seq <| J.region <| J.p rfl (Q.asg rfl) <| J.nil <| J.then_n <| J.seq <| J.region <| J.m rfl ?_
  refine J.callI call24 (played_ok G1 rp rc l hl hi hb hc) rfl rfl rfl ?_
  rintro _ _ ⟨rows, dp, dc, rfl, hD, rfl⟩
  refine J.norm rfl <| J.m rfl <| J.p rfl (Q.ext rfl rfl) <| J.p rfl (Q.ext rfl rfl) <| J.p rfl (Q.asg rfl) <| J.p rfl (Q.asg rfl) <| J.nil <| J.then_n <| J.seq <| J.seq <| J.region <| J.m rfl <| J.p rfl (Q.neq rfl rfl) <| J.nil <| J.then_n <| J.cond_f rfl <| J.cskip <| J.then_n <| J.seq ?_
  obtain ⟨sm, hsm⟩ : ∃ sm, sm = l.map RCW.m := ⟨_, rfl⟩
  rw [← hsm] at hD ⊢
  have hH0o : (begM sm).ok := begM_ok (by rw [hsm, List.length_map]; omega)
  have hrl : rows.length = sm.length := by
   have := congrArg List.length hD.is
   rwa [List.length_map, List.length_map] at this
  have hsl : sm.length = l.length := by rw [hsm, List.length_map]
  have hPo := playP_ok sm
  have hkey : ∀ (i : Nat) (s : SM) (d : DW), sm[i]? = some s → rows[i]? = some d → d.is = !s.point := fun i s d h1 h2 => by
   have h3 : (rows.map (·.is))[i]? = some d.is := by rw [List.getElem?_map, h2]; rfl
   rw [hD.is, List.getElem?_map, h1] at h3
   exact (Option.some.inj h3).symm
  have hrk : ∀ d, d ∈ rows → d.w.r.keys.length ≤ 1099511627776 ∧ d.w.r.data.length ≤ 1099511627776 := fun d hd => by
   have := hPo.small d.w.r (by rw [← hD.rs]; exact List.mem_map.2 ⟨d, hd, rfl⟩)
   omega
  refine J.tellsI (star (rows.map DW.asn)) (dws_ok hrk) fun hro => ?_
  refine J.slrI (E0 := 92) (sz := 15) (p := dp) (n := rows.length) (c := dc) (xs := rows.flatMap DW.cells) fun hsd => ?_
  refine J.shutI [star (rows.map DW.asn), G1] (star [star (rows.map DW.asn), G1]) (fun _ s => s) ?_
  have heK : Evs (star [star (rows.map DW.asn), G1]) ep ec es := he.into 1 rfl
  refine J.region <| J.p rfl (Q.asg rfl) <| J.nil <| J.then_n <| J.seq <| J.seq <| J.region <| J.p rfl (Q.asg rfl) <| J.nil <| J.then_n <| J.block ?_
  refine J.give (own.nil 37 2 _) ?_
  refine J.keepI [own 37 2 (.slice none 0 0) [], own 92 15 (.slice dp rows.length dc) (rows.flatMap DW.cells), (star [star (rows.map DW.asn), G1]), F] ?_
  refine J.loop3 (fun (i : Nat) (_ : Option Addr) (_ : Nat) => i ≤ es.length) (fun i _ _ => es.length - i)
   (fun i p c => [(1, .slice ep es.length ec), (5, .slice dp rows.length dc), (7, .slice p (runE (begM sm) ((es.map EW.m).take i)).fs.length c), (8, .int .i64 i)])
   (fun i p c => [own 37 2 (.slice p (runE (begM sm) ((es.map EW.m).take i)).fs.length c) ((runE (begM sm) ((es.map EW.m).take i)).fs.flatMap FM.cells), own 92 15 (.slice dp rows.length dc) (rows.flatMap DW.cells), (star [star (rows.map DW.asn), G1]), F]) 0 none 0 (Nat.zero_le _) ⟨rfl, rfl, rfl, rfl, trivial⟩ rfl fun i p c hil => ?_
  refine J.seq <| J.seq <| J.region <| J.m rfl <| J.m rfl <| J.p rfl (Q.lenSl runUnderlying23 rfl) <| J.p rfl (Q.lss rfl rfl) <| J.nil <| J.then_n ?_
  refine J.kases 24 rfl (fun hc24 => ?_) (fun hc24 => ?_)
  ·
   refine J.cond_t rfl <| J.cskip <| J.then_n <| J.seq <| J.block <| J.seq ?_
   have hlt : i < es.length := by omega
   obtain ⟨b, off, hep, hrd⟩ := heK.rd.some_ (by omega)
   obtain ⟨e, hex⟩ : ∃ e, es[i]? = some e := ⟨_, List.getElem?_eq_getElem (by omega)⟩
   have heo := heK.ok e (List.mem_of_getElem? hex)
   have hidx := heo.index
   have hpt := runE_take (H := begM sm) (l := es.map EW.m) (k := i) (e := e.m) (by rw [List.getElem?_map, hex]; rfl)
   have hSo := runE_ok hH0o ((es.map EW.m).take i)
   rw [List.length_take, List.length_map, Nat.min_eq_left (by omega)] at hSo
   have hfl := hSo.fs
   have hSn := hSo.n
   obtain ⟨fs, hfs⟩ : ∃ fs, fs = (runE (begM sm) ((es.map EW.m).take i)).fs := ⟨_, rfl⟩
   rw [← hfs] at hfl ⊢
   obtain ⟨em, hem⟩ : ∃ em, em = (es.map EW.m).take i := ⟨_, rfl⟩
   have l1 : (rr1 em e.m).length ≤ 1 := addR_le (Nat.le_refl 0) _ _
   have l2 : (rr2 sm em e.m).length ≤ 2 := addR_le l1 _ _
   have l3 : (rr3 sm em e.m).length ≤ 3 := addR_le l2 _ _
   have n1 : fs.length + (ruF i (rr1 em e.m)).length ≤ 5 * i + 1 := by rw [ruF, List.length_map]; omega
   have n2 : fs.length + (ruF i (rr2 sm em e.m)).length ≤ 5 * i + 2 := by rw [ruF, List.length_map]; omega
   have n3 : fs.length + (ruF i (rr3 sm em e.m)).length ≤ 5 * i + 3 := by rw [ruF, List.length_map]; omega
   have m1 : (fs ++ ruF i (rr1 em e.m)).length ≤ 5 * i + 1 := by rw [List.length_append, ruF, List.length_map]; omega
   have m2 : (fs ++ ruF i (rr2 sm em e.m)).length ≤ 5 * i + 2 := by rw [List.length_append, ruF, List.length_map]; omega
   have m3 : (fs ++ ruF i (rr3 sm em e.m)).length ≤ 5 * i + 3 := by rw [List.length_append, ruF, List.length_map]; omega
   refine J.slot 1 (.slice (some ⟨b, off, none⟩) es.length ec) rfl (by rw [hep]) ?_
   refine J.region <| J.m rfl <| J.m rfl <| J.p rfl (Q.ia runUnderlying23 sizeOf58 rfl rfl (by omega) (by omega)) <| J.p rfl (Q.ldN (vs := [_, _, _, _, _, _, _, _, _, _, _, _, _, _, _, _, _]) isAgg58 sizeOf58 rfl ((rd_elem EW.len hrd hex (by simp)).inI)) ?_
   refine J.c rfl rfl (C.alloc (l := [_, _, _, _, _, _, _, _, _, _, _, _, _, _, _, _, _]) zeroValue58 rfl) ?_
   rintro _ _ ⟨b9, rfl, rfl⟩
   refine J.norm rfl ?_
   refine J.stAJ (vs := [_, _, _, _, _, _, _, _, _, _, _, _, _, _, _, _, _]) rfl sizeOf58 rfl rfl ?_
   refine J.nil <| J.then_n <| J.seq <| J.seq ?_
   refine J.slot 1 (.slice ep es.length ec) rfl (by rw [hep]) ?_
   refine J.region <| J.p rfl (Q.fa (n := 0) runUnderlying58 rfl rfl sizeOf4 rfl) ?_
   refine J.p rfl (Q.ldI isAgg4 rfl) ?_
   refine J.p rfl (Q.not rfl) <| J.nil <| J.then_n ?_
   refine J.kases 33 rfl (fun hc33 => ?_) (fun hc33 => ?_)
   ·
    refine J.cond_t rfl <| J.exit <| J.then_x <| J.blk_x <| J.then_n <| J.region <| J.m rfl <| J.p rfl (Q.add64 rfl rfl (by omega)) <| J.p rfl (Q.asg rfl) <| J.nil ?_
    have hp : e.answer = false := by simpa using hc33
    have hst : (runE (begM sm) ((es.map EW.m).take (i + 1))).fs = fs := by rw [hpt, hfs]; unfold ES.step; rw [if_neg (by show ¬ e.answer = true; rw [hp]; simp)]
    rw [← hst]
    refine J.againI (i + 1, p, c) (by show i + 1 ≤ _; omega) (by show es.length - (i + 1) < es.length - i; omega) ⟨rfl, rfl, rfl, rfl, trivial⟩
   refine J.cond_f rfl <| J.cskip <| J.then_n <| J.seq <| J.region <| J.p rfl (Q.fa (n := 12) runUnderlying58 rfl rfl sizeOf44 rfl) <| J.p rfl (Q.fa (n := 0) runUnderlying44 rfl rfl sizeOf3 rfl) ?_
   refine J.p rfl (Q.ldI isAgg3 rfl) ?_
   refine J.callI call15 (rdefinite_spec e.w.r.status) rfl rfl rfl ?_
   rintro _ _ ⟨rfl, rfl⟩
   refine J.norm rfl <| J.p rfl (Q.asg rfl) <| J.nil <| J.then_n ?_
   refine J.cut (fun _ : Option Addr × Nat => True) (fun w => [(1, .slice ep es.length ec), (5, .slice dp rows.length dc), (8, .int .i64 i), (9, .pointer (some ⟨b9, 0, none⟩)), (10, .bool (defB e.w.r.status)), (7, .slice w.1 (fs ++ ruF i (rr1 em e.m)).length w.2)]) (fun w => [pt b9 (.cells e.cells.toArray 58 (0, 0)), own 92 15 (.slice dp rows.length dc) (rows.flatMap DW.cells), own 37 2 (.slice w.1 (fs ++ ruF i (rr1 em e.m)).length w.2) ((fs ++ ruF i (rr1 em e.m)).flatMap FM.cells), (star [star (rows.map DW.asn), G1]), F]) ?_ fun w _ => ?_
   ·
    refine J.seq <| J.region <| J.m rfl <| J.m rfl <| J.p rfl (Q.fa (n := 1) runUnderlying58 rfl rfl sizeOf40 rfl) ?_
    refine J.p rfl (Q.ldI isAgg40 rfl) ?_
    refine J.callI call25 (waits_spec (star [star (rows.map DW.asn), G1]) ep ec es heK i e.id (by omega)) rfl rfl rfl ?_
    rintro _ _ ⟨rfl, rfl⟩
    refine J.norm rfl ?_
    rw [← hem]
    refine J.p rfl (Q.not rfl) <| J.nil <| J.then_n ?_
    refine J.kases 43 rfl (fun hc43 => ?_) (fun hc43 => ?_)
    ·
     refine J.cond_t rfl <| J.region <| J.m rfl <| J.m rfl <| J.p rfl (Q.bld (l := [.int .i64 2, .int .i64 i]) runUnderlying37 zeroValue37 places37 rfl (by kernel_rfl)) ?_
     refine J.c rfl rfl (C.bslG (l := [_, _]) runUnderlying31 sizeOf37 zeroValue37 (by decide) rfl rfl rfl rfl rfl) ?_
     rintro _ _ ⟨b47, rfl, rfl⟩
     refine J.norm rfl ?_
     refine J.c rfl rfl (C.appI runUnderlying31 runUnderlying31 typeInfo37 sizeOf37 zeroValue37 rfl rfl (SlR.ptI rfl) (FM.one ⟨2, i⟩) (by simp [Tryz.t37] <;> omega) (by decide)) ?_
     rintro _ _ ⟨p48, c48, rfl, rfl⟩
     refine J.norm rfl <| J.p rfl (Q.asg rfl) <| J.nil ?_
     first
      | (have hr : fs ++ ruF i (rr1 em e.m) = fs ++ [(⟨2, (i : Int)⟩ : FM)] := by
          have hb : (!waitsM em e.id) = true := by first | exact hc43 | simpa using hc43
          show _ ++ ruF i (addR [] 2 (!waitsM em e.id)) = _; rw [ruF_add, hb, if_pos rfl]; rfl
         have e1 : (fs).length + 1 = (fs ++ ruF i (rr1 em e.m)).length := by rw [hr]; simp [Nat.add_assoc]
         have e2 : (fs).flatMap FM.cells ++ FM.cells ⟨2, (i : Int)⟩ = (fs ++ ruF i (rr1 em e.m)).flatMap FM.cells := by rw [hr]; simp
         rw [e1, e2]
         exact J.meetI (p48, c48) trivial ⟨rfl, rfl, rfl, rfl, rfl, rfl, trivial⟩)
      | (have hr : fs ++ ruF i (rr1 em e.m) = fs := by
          have hb : (!waitsM em e.id) = false := by first | exact hc43 | simpa using hc43
          show _ ++ ruF i (addR [] 2 (!waitsM em e.id)) = _; rw [ruF_add, hb, if_neg (by simp)]; exact List.append_nil _
         obtain ⟨ft, hft⟩ : ∃ ft, ft = fs ++ ruF i (rr1 em e.m) := ⟨_, rfl⟩
         rw [← hft] at hr ⊢
         rw [← hr]
         exact J.meetI (p, c) trivial ⟨rfl, rfl, rfl, rfl, rfl, rfl, trivial⟩)
    refine J.cond_f rfl <| J.cskip ?_
    first
     | (have hr : fs ++ ruF i (rr1 em e.m) = fs ++ [(⟨2, (i : Int)⟩ : FM)] := by
         have hb : (!waitsM em e.id) = true := by first | exact hc43 | simpa using hc43
         show _ ++ ruF i (addR [] 2 (!waitsM em e.id)) = _; rw [ruF_add, hb, if_pos rfl]; rfl
        have e1 : (fs).length + 1 = (fs ++ ruF i (rr1 em e.m)).length := by rw [hr]; simp [Nat.add_assoc]
        have e2 : (fs).flatMap FM.cells ++ FM.cells ⟨2, (i : Int)⟩ = (fs ++ ruF i (rr1 em e.m)).flatMap FM.cells := by rw [hr]; simp
        rw [e1, e2]
        exact J.meetI (p48, c48) trivial ⟨rfl, rfl, rfl, rfl, rfl, rfl, trivial⟩)
     | (have hr : fs ++ ruF i (rr1 em e.m) = fs := by
         have hb : (!waitsM em e.id) = false := by first | exact hc43 | simpa using hc43
         show _ ++ ruF i (addR [] 2 (!waitsM em e.id)) = _; rw [ruF_add, hb, if_neg (by simp)]; exact List.append_nil _
        obtain ⟨ft, hft⟩ : ∃ ft, ft = fs ++ ruF i (rr1 em e.m) := ⟨_, rfl⟩
        rw [← hft] at hr ⊢
        rw [← hr]
        exact J.meetI (p, c) trivial ⟨rfl, rfl, rfl, rfl, rfl, rfl, trivial⟩)
   refine J.norm rfl ?_
   obtain ⟨p11, c11⟩ := w
   dsimp only
   refine J.cut (fun _ : Unit => True) (fun _ => [(1, .slice ep es.length ec), (5, .slice dp rows.length dc), (8, .int .i64 i), (9, .pointer (some ⟨b9, 0, none⟩)), (10, .bool (defB e.w.r.status)), (11, .bool (thereB (begM sm) e.id e.index)), (7, .slice p11 (fs ++ ruF i (rr1 em e.m)).length c11)]) (fun _ => [pt b9 (.cells e.cells.toArray 58 (0, 0)), own 92 15 (.slice dp rows.length dc) (rows.flatMap DW.cells), own 37 2 (.slice p11 (fs ++ ruF i (rr1 em e.m)).length c11) ((fs ++ ruF i (rr1 em e.m)).flatMap FM.cells), (star [star (rows.map DW.asn), G1]), F]) ?_ fun _ _ => ?_
   ·
    refine J.draw [33] Tryz.mixed (by kernel_rfl) fun hR => ?_
    refine RG.p 0 hR rfl (Q.fa (n := 11) runUnderlying58 rfl rfl sizeOf40 rfl) ?_
    refine RG.p 1 hR rfl (Q.ldI isAgg40 rfl) ?_
    refine RG.p 2 hR rfl (Q.gtr rfl rfl) <| RG.p 3 hR rfl (Q.mv rfl) ?_
    refine RG.cases 52 rfl (fun hb52 => ?_) (fun hb52 => ?_)
    ·
     replace hb52 := X.nm hb52
     refine RG.p 4 hR rfl (Q.fa (n := 11) runUnderlying58 rfl rfl sizeOf40 rfl) ?_
     refine RG.p 5 hR rfl (Q.ldI isAgg40 rfl) ?_
     refine RG.p 6 hR rfl (Q.mv rfl) <| RG.p 7 hR rfl (Q.lenSl runUnderlying87 rfl) <| RG.p 8 hR rfl (Q.conv runUnderlying3 runUnderlying40 rfl) ?_
     refine RG.slot 57 (.int .u64 (rows.length : Int)) rfl (by rw [wrap64 (by omega)]) ?_
     refine RG.p 9 hR rfl (Q.leq rfl rfl) <| RG.p 10 hR rfl (Q.pick_t rfl rfl) <| RG.p 11 hR rfl (Q.mv rfl) ?_
     refine RG.cases 60 rfl (fun hb60 => ?_) (fun hb60 => ?_)
     ·
      replace hb60 := X.nm hb60
      have hn1 : 1 ≤ e.index := by omega
      have hn2 : e.index ≤ rows.length := by omega
      obtain ⟨b2, o2, hdp, hrr⟩ := hsd.some_ (by omega)
      obtain ⟨d, hdx⟩ : ∃ d, rows[e.index - 1]? = some d := ⟨_, List.getElem?_eq_getElem (by omega)⟩
      obtain ⟨s, hsx⟩ : ∃ s, sm[e.index - 1]? = some s := ⟨_, List.getElem?_eq_getElem (by omega)⟩
      have hdi := hkey _ s d hsx hdx
      refine RG.p 12 hR rfl (Q.mv rfl) ?_
      refine RG.slot 61 (.slice (some ⟨b2, o2, none⟩) rows.length dc) rfl (by rw [hdp]) ?_
      refine RG.p 13 hR rfl (Q.fa (n := 11) runUnderlying58 rfl rfl sizeOf40 rfl) ?_
      refine RG.p 14 hR rfl (Q.ldI isAgg40 rfl) ?_
      refine RG.p 15 hR rfl (Q.sub rfl rfl) ?_
      refine RG.slot 64 (.int .u64 ((e.index - 1 : Nat) : Int)) rfl (by rw [show (e.index : Int) - 1 = ((e.index - 1 : Nat) : Int) by omega, wrap64 (by omega)]) ?_
      refine RG.p 16 hR rfl (Q.ia runUnderlying87 sizeOf92 rfl rfl (by omega) (by omega)) <| RG.p 17 hR rfl (Q.fa (n := 0) runUnderlying92 rfl rfl sizeOf4 rfl) <| RG.p 18 hR rfl (Q.ld isAgg4 rfl ((((rd_elem DW.len hrr hdx rfl) 0 (.bool d.is) rfl).cast (by simp)).inI)) <| RG.p 19 hR rfl (Q.pick_t rfl rfl) <| RG.p 20 hR rfl (Q.mv rfl) ?_
      refine RG.cases 69 rfl (fun hb69 => ?_) (fun hb69 => ?_)
      ·
       replace hb69 := X.nm hb69
       refine RG.p 21 hR rfl (Q.mv rfl) ?_
       refine RG.slot 70 (.slice (some ⟨b2, o2, none⟩) rows.length dc) rfl (by rw [hdp]) ?_
       refine RG.p 22 hR rfl (Q.fa (n := 11) runUnderlying58 rfl rfl sizeOf40 rfl) ?_
       refine RG.p 23 hR rfl (Q.ldI isAgg40 rfl) ?_
       refine RG.p 24 hR rfl (Q.sub rfl rfl) ?_
       refine RG.slot 73 (.int .u64 ((e.index - 1 : Nat) : Int)) rfl (by rw [show (e.index : Int) - 1 = ((e.index - 1 : Nat) : Int) by omega, wrap64 (by omega)]) ?_
       refine RG.p 25 hR rfl (Q.ia runUnderlying87 sizeOf92 rfl rfl (by omega) (by omega)) <| RG.p 26 hR rfl (Q.fa (n := 1) runUnderlying92 rfl rfl sizeOf52 rfl) <| RG.p 27 hR rfl (Q.fa (n := 0) runUnderlying52 rfl rfl sizeOf40 rfl) <| RG.p 28 hR rfl (Q.ld isAgg40 rfl ((((rd_elem DW.len hrr hdx rfl) 1 (.int .u64 d.x.o.id) rfl).cast (by simp)).inI)) ?_
       refine RG.p 29 hR rfl (Q.fa (n := 1) runUnderlying58 rfl rfl sizeOf40 rfl) ?_
       refine RG.p 30 hR rfl (Q.ldI isAgg40 rfl) ?_
       refine RG.p 31 hR rfl (Q.eql rfl rfl) <| RG.p 32 hR rfl (Q.pick_t rfl rfl) ?_
       refine RG.bar 33 hR rfl rfl rfl rfl rfl rfl (Q.asg rfl).toC ?_
       rintro _ _ ⟨rfl, rfl⟩
       refine RG.norm rfl ?_
       refine RG.fin hR rfl ?_
       refine J.norm rfl ?_
       have hdt : d.is = true := hb69
       have hp : s.point = false := by rw [hdt] at hdi; simpa using hdi.symm
       have ho := hD.op _ s d hsx hdx hp
       have ht : decide ((d.x.o.id : Int) = (e.id : Int)) = thereB (begM sm) e.id e.index := by
        unfold thereB
        rw [show (begM sm).l = sm from rfl, hsx, decide_eq_true hn1, decide_eq_true (show e.index ≤ sm.length by omega)]
        simp only [hp, Bool.not_false, Bool.true_and]
        rw [decide_eq_decide.2 (show s.o.id = e.id ↔ (d.x.o.id : Int) = (e.id : Int) by omega)]
       exact J.meetI () trivial ⟨rfl, rfl, rfl, rfl, rfl, (by show some (Value.bool (decide ((d.x.o.id : Int) = (e.id : Int)))) = _; rw [ht]), rfl, trivial⟩
      replace hb69 := X.nm hb69
      refine RG.k 21 hR rfl <| RG.k 22 hR rfl <| RG.k 23 hR rfl <| RG.k 24 hR rfl <| RG.k 25 hR rfl <| RG.k 26 hR rfl <| RG.k 27 hR rfl <| RG.k 28 hR rfl <| RG.k 29 hR rfl <| RG.k 30 hR rfl ?_
      refine RG.k 31 hR rfl <| RG.p 32 hR rfl (Q.pick_f rfl rfl) ?_
      refine RG.bar 33 hR rfl rfl rfl rfl rfl rfl (Q.asg rfl).toC ?_
      rintro _ _ ⟨rfl, rfl⟩
      refine RG.norm rfl ?_
      refine RG.fin hR rfl ?_
      refine J.norm rfl ?_
      have hdt : d.is = false := hb69
      have hp : s.point = true := by rw [hdt] at hdi; simpa using hdi.symm
      have ht : thereB (begM sm) e.id e.index = false := by
       unfold thereB
       rw [show (begM sm).l = sm from rfl, hsx]
       simp [hp]
      exact J.meetI () trivial ⟨rfl, rfl, rfl, rfl, rfl, (by rw [ht]; rfl), rfl, trivial⟩
     replace hb60 := X.nm hb60
     refine RG.k 12 hR rfl <| RG.k 13 hR rfl <| RG.k 14 hR rfl <| RG.k 15 hR rfl <| RG.k 16 hR rfl <| RG.k 17 hR rfl <| RG.k 18 hR rfl <| RG.p 19 hR rfl (Q.pick_f rfl rfl) <| RG.p 20 hR rfl (Q.mv rfl) <| RG.k 21 hR rfl ?_
     refine RG.k 22 hR rfl <| RG.k 23 hR rfl <| RG.k 24 hR rfl <| RG.k 25 hR rfl <| RG.k 26 hR rfl <| RG.k 27 hR rfl <| RG.k 28 hR rfl <| RG.k 29 hR rfl <| RG.k 30 hR rfl <| RG.k 31 hR rfl ?_
     refine RG.p 32 hR rfl (Q.pick_f rfl rfl) ?_
     refine RG.bar 33 hR rfl rfl rfl rfl rfl rfl (Q.asg rfl).toC ?_
     rintro _ _ ⟨rfl, rfl⟩
     refine RG.norm rfl ?_
     refine RG.fin hR rfl ?_
     refine J.norm rfl ?_
     have ht : thereB (begM sm) e.id e.index = false := by
      unfold thereB
      rw [show (begM sm).l = sm from rfl, decide_eq_false (show ¬ e.index ≤ sm.length by omega)]
      simp
     exact J.meetI () trivial ⟨rfl, rfl, rfl, rfl, rfl, (by rw [ht]; rfl), rfl, trivial⟩
    replace hb52 := X.nm hb52
    refine RG.k 4 hR rfl <| RG.k 5 hR rfl <| RG.k 6 hR rfl <| RG.k 7 hR rfl <| RG.k 8 hR rfl <| RG.k 9 hR rfl <| RG.p 10 hR rfl (Q.pick_f rfl rfl) <| RG.p 11 hR rfl (Q.mv rfl) <| RG.k 12 hR rfl <| RG.k 13 hR rfl ?_
    refine RG.k 14 hR rfl <| RG.k 15 hR rfl <| RG.k 16 hR rfl <| RG.k 17 hR rfl <| RG.k 18 hR rfl <| RG.p 19 hR rfl (Q.pick_f rfl rfl) <| RG.p 20 hR rfl (Q.mv rfl) <| RG.k 21 hR rfl <| RG.k 22 hR rfl <| RG.k 23 hR rfl ?_
    refine RG.k 24 hR rfl <| RG.k 25 hR rfl <| RG.k 26 hR rfl <| RG.k 27 hR rfl <| RG.k 28 hR rfl <| RG.k 29 hR rfl <| RG.k 30 hR rfl <| RG.k 31 hR rfl <| RG.p 32 hR rfl (Q.pick_f rfl rfl) ?_
    refine RG.bar 33 hR rfl rfl rfl rfl rfl rfl (Q.asg rfl).toC ?_
    rintro _ _ ⟨rfl, rfl⟩
    refine RG.norm rfl ?_
    refine RG.fin hR rfl ?_
    refine J.norm rfl ?_
    have ht : thereB (begM sm) e.id e.index = false := by
     unfold thereB
     rw [decide_eq_false (show ¬ 1 ≤ e.index by omega)]
     simp
    exact J.meetI () trivial ⟨rfl, rfl, rfl, rfl, rfl, (by rw [ht]; rfl), rfl, trivial⟩
   refine J.norm rfl ?_
   refine J.cut (fun _ : Option Addr × Nat => True) (fun w => [(1, .slice ep es.length ec), (5, .slice dp rows.length dc), (8, .int .i64 i), (9, .pointer (some ⟨b9, 0, none⟩)), (10, .bool (defB e.w.r.status)), (11, .bool (thereB (begM sm) e.id e.index)), (7, .slice w.1 (fs ++ ruF i (rr2 sm em e.m)).length w.2)]) (fun w => [pt b9 (.cells e.cells.toArray 58 (0, 0)), own 92 15 (.slice dp rows.length dc) (rows.flatMap DW.cells), own 37 2 (.slice w.1 (fs ++ ruF i (rr2 sm em e.m)).length w.2) ((fs ++ ruF i (rr2 sm em e.m)).flatMap FM.cells), (star [star (rows.map DW.asn), G1]), F]) ?_ fun w _ => ?_
   ·
    refine J.seq <| J.region <| J.p rfl (Q.fa (n := 11) runUnderlying58 rfl rfl sizeOf40 rfl) ?_
    refine J.p rfl (Q.ldI isAgg40 rfl) ?_
    refine J.p rfl (Q.neq rfl rfl) <| J.m rfl ?_
    refine J.kases 85 rfl (fun hb85 => ?_) (fun hb85 => ?_)
    ·
     refine J.m rfl <| J.p rfl (Q.not rfl) <| J.p rfl (Q.pick_t rfl rfl) <| J.nil <| J.then_n ?_
     refine J.kases 88 rfl (fun hc88 => ?_) (fun hc88 => ?_)
     ·
      refine J.cond_t rfl <| J.region <| J.m rfl <| J.m rfl <| J.p rfl (Q.bld (l := [.int .i64 3, .int .i64 i]) runUnderlying37 zeroValue37 places37 rfl (by kernel_rfl)) ?_
      refine J.c rfl rfl (C.bslG (l := [_, _]) runUnderlying31 sizeOf37 zeroValue37 (by decide) rfl rfl rfl rfl rfl) ?_
      rintro _ _ ⟨b92, rfl, rfl⟩
      refine J.norm rfl ?_
      refine J.c rfl rfl (C.appI runUnderlying31 runUnderlying31 typeInfo37 sizeOf37 zeroValue37 rfl rfl (SlR.ptI rfl) (FM.one ⟨3, i⟩) (by simp [Tryz.t37] <;> omega) (by decide)) ?_
      rintro _ _ ⟨p93, c93, rfl, rfl⟩
      refine J.norm rfl <| J.p rfl (Q.asg rfl) <| J.nil ?_
      first
       | (have hr : fs ++ ruF i (rr2 sm em e.m) = fs ++ ruF i (rr1 em e.m) ++ [(⟨3, (i : Int)⟩ : FM)] := by
           have hb : (decide (e.index ≠ 0) && !thereB (begM sm) e.id e.index) = true := by rw [decide_eq_true (show e.index ≠ 0 by omega), show thereB (begM sm) e.id e.index = false by simpa using hc88] <;> rfl
           show _ ++ ruF i (addR (rr1 em e.m) 3 (decide (e.index ≠ 0) && !thereB (begM sm) e.id e.index)) = _; rw [ruF_add, hb, if_pos rfl, ← List.append_assoc]
          have e1 : (fs ++ ruF i (rr1 em e.m)).length + 1 = (fs ++ ruF i (rr2 sm em e.m)).length := by rw [hr]; simp [Nat.add_assoc]
          have e2 : (fs ++ ruF i (rr1 em e.m)).flatMap FM.cells ++ FM.cells ⟨3, (i : Int)⟩ = (fs ++ ruF i (rr2 sm em e.m)).flatMap FM.cells := by rw [hr]; simp
          rw [e1, e2]
          exact J.meetI (p93, c93) trivial ⟨rfl, rfl, rfl, rfl, rfl, rfl, rfl, trivial⟩)
       | (have hr : fs ++ ruF i (rr2 sm em e.m) = fs ++ ruF i (rr1 em e.m) := by
           have hb : (decide (e.index ≠ 0) && !thereB (begM sm) e.id e.index) = false := by first | (rw [decide_eq_false (show ¬ e.index ≠ 0 by omega)] <;> rfl) | (rw [show thereB (begM sm) e.id e.index = true by simpa using hc88] <;> simp)
           show _ ++ ruF i (addR (rr1 em e.m) 3 (decide (e.index ≠ 0) && !thereB (begM sm) e.id e.index)) = _; rw [ruF_add, hb, if_neg (by simp)]
          rw [← hr]
          exact J.meetI (p11, c11) trivial ⟨rfl, rfl, rfl, rfl, rfl, rfl, rfl, trivial⟩)
     refine J.cond_f rfl <| J.cskip ?_
     first
      | (have hr : fs ++ ruF i (rr2 sm em e.m) = fs ++ ruF i (rr1 em e.m) ++ [(⟨3, (i : Int)⟩ : FM)] := by
          have hb : (decide (e.index ≠ 0) && !thereB (begM sm) e.id e.index) = true := by rw [decide_eq_true (show e.index ≠ 0 by omega), show thereB (begM sm) e.id e.index = false by simpa using hc88] <;> rfl
          show _ ++ ruF i (addR (rr1 em e.m) 3 (decide (e.index ≠ 0) && !thereB (begM sm) e.id e.index)) = _; rw [ruF_add, hb, if_pos rfl, ← List.append_assoc]
         have e1 : (fs ++ ruF i (rr1 em e.m)).length + 1 = (fs ++ ruF i (rr2 sm em e.m)).length := by rw [hr]; simp [Nat.add_assoc]
         have e2 : (fs ++ ruF i (rr1 em e.m)).flatMap FM.cells ++ FM.cells ⟨3, (i : Int)⟩ = (fs ++ ruF i (rr2 sm em e.m)).flatMap FM.cells := by rw [hr]; simp
         rw [e1, e2]
         exact J.meetI (p93, c93) trivial ⟨rfl, rfl, rfl, rfl, rfl, rfl, rfl, trivial⟩)
      | (have hr : fs ++ ruF i (rr2 sm em e.m) = fs ++ ruF i (rr1 em e.m) := by
          have hb : (decide (e.index ≠ 0) && !thereB (begM sm) e.id e.index) = false := by first | (rw [decide_eq_false (show ¬ e.index ≠ 0 by omega)] <;> rfl) | (rw [show thereB (begM sm) e.id e.index = true by simpa using hc88] <;> simp)
          show _ ++ ruF i (addR (rr1 em e.m) 3 (decide (e.index ≠ 0) && !thereB (begM sm) e.id e.index)) = _; rw [ruF_add, hb, if_neg (by simp)]
         rw [← hr]
         exact J.meetI (p11, c11) trivial ⟨rfl, rfl, rfl, rfl, rfl, rfl, rfl, trivial⟩)
    refine J.k rfl <| J.k rfl <| J.p rfl (Q.pick_f rfl rfl) <| J.nil <| J.then_n <| J.cond_f rfl <| J.cskip ?_
    first
     | (have hr : fs ++ ruF i (rr2 sm em e.m) = fs ++ ruF i (rr1 em e.m) ++ [(⟨3, (i : Int)⟩ : FM)] := by
         have hb : (decide (e.index ≠ 0) && !thereB (begM sm) e.id e.index) = true := by rw [decide_eq_true (show e.index ≠ 0 by omega), show thereB (begM sm) e.id e.index = false by simpa using hc88] <;> rfl
         show _ ++ ruF i (addR (rr1 em e.m) 3 (decide (e.index ≠ 0) && !thereB (begM sm) e.id e.index)) = _; rw [ruF_add, hb, if_pos rfl, ← List.append_assoc]
        have e1 : (fs ++ ruF i (rr1 em e.m)).length + 1 = (fs ++ ruF i (rr2 sm em e.m)).length := by rw [hr]; simp [Nat.add_assoc]
        have e2 : (fs ++ ruF i (rr1 em e.m)).flatMap FM.cells ++ FM.cells ⟨3, (i : Int)⟩ = (fs ++ ruF i (rr2 sm em e.m)).flatMap FM.cells := by rw [hr]; simp
        rw [e1, e2]
        exact J.meetI (p93, c93) trivial ⟨rfl, rfl, rfl, rfl, rfl, rfl, rfl, trivial⟩)
     | (have hr : fs ++ ruF i (rr2 sm em e.m) = fs ++ ruF i (rr1 em e.m) := by
         have hb : (decide (e.index ≠ 0) && !thereB (begM sm) e.id e.index) = false := by first | (rw [decide_eq_false (show ¬ e.index ≠ 0 by omega)] <;> rfl) | (rw [show thereB (begM sm) e.id e.index = true by simpa using hc88] <;> simp)
         show _ ++ ruF i (addR (rr1 em e.m) 3 (decide (e.index ≠ 0) && !thereB (begM sm) e.id e.index)) = _; rw [ruF_add, hb, if_neg (by simp)]
        rw [← hr]
        exact J.meetI (p11, c11) trivial ⟨rfl, rfl, rfl, rfl, rfl, rfl, rfl, trivial⟩)
   refine J.norm rfl ?_
   obtain ⟨p14, c14⟩ := w
   dsimp only
   refine J.cut (fun _ : Option Addr × Nat => True) (fun w => [(1, .slice ep es.length ec), (5, .slice dp rows.length dc), (8, .int .i64 i), (9, .pointer (some ⟨b9, 0, none⟩)), (10, .bool (defB e.w.r.status)), (11, .bool (thereB (begM sm) e.id e.index)), (7, .slice w.1 (fs ++ ruF i (rr3 sm em e.m)).length w.2)]) (fun w => [pt b9 (.cells e.cells.toArray 58 (0, 0)), own 92 15 (.slice dp rows.length dc) (rows.flatMap DW.cells), own 37 2 (.slice w.1 (fs ++ ruF i (rr3 sm em e.m)).length w.2) ((fs ++ ruF i (rr3 sm em e.m)).flatMap FM.cells), (star [star (rows.map DW.asn), G1]), F]) ?_ fun w _ => ?_
   ·
    refine J.seq <| J.region <| J.m rfl <| J.m rfl ?_
    refine J.kases 95 rfl (fun hb95 => ?_) (fun hb95 => ?_)
    ·
     refine J.p rfl (Q.fa (n := 11) runUnderlying58 rfl rfl sizeOf40 rfl) ?_
     refine J.p rfl (Q.ldI isAgg40 rfl) ?_
     refine J.p rfl (Q.eql rfl rfl) <| J.p rfl (Q.pick_t rfl rfl) <| J.nil <| J.then_n ?_
     refine J.kases 99 rfl (fun hc99 => ?_) (fun hc99 => ?_)
     ·
      refine J.cond_t rfl <| J.region <| J.m rfl <| J.m rfl <| J.p rfl (Q.bld (l := [.int .i64 4, .int .i64 i]) runUnderlying37 zeroValue37 places37 rfl (by kernel_rfl)) ?_
      refine J.c rfl rfl (C.bslG (l := [_, _]) runUnderlying31 sizeOf37 zeroValue37 (by decide) rfl rfl rfl rfl rfl) ?_
      rintro _ _ ⟨b103, rfl, rfl⟩
      refine J.norm rfl ?_
      refine J.c rfl rfl (C.appI runUnderlying31 runUnderlying31 typeInfo37 sizeOf37 zeroValue37 rfl rfl (SlR.ptI rfl) (FM.one ⟨4, i⟩) (by simp [Tryz.t37] <;> omega) (by decide)) ?_
      rintro _ _ ⟨p104, c104, rfl, rfl⟩
      refine J.norm rfl <| J.p rfl (Q.asg rfl) <| J.nil ?_
      first
       | (have hr : fs ++ ruF i (rr3 sm em e.m) = fs ++ ruF i (rr2 sm em e.m) ++ [(⟨4, (i : Int)⟩ : FM)] := by
           have hb : (defB e.w.r.status && decide (e.index = 0)) = true := by rw [show defB e.w.r.status = true from hb95, decide_eq_true (show e.index = 0 by omega)] <;> rfl
           show _ ++ ruF i (addR (rr2 sm em e.m) 4 (defB e.w.r.status && decide (e.index = 0))) = _; rw [ruF_add, hb, if_pos rfl, ← List.append_assoc]
          have e1 : (fs ++ ruF i (rr2 sm em e.m)).length + 1 = (fs ++ ruF i (rr3 sm em e.m)).length := by rw [hr]; simp [Nat.add_assoc]
          have e2 : (fs ++ ruF i (rr2 sm em e.m)).flatMap FM.cells ++ FM.cells ⟨4, (i : Int)⟩ = (fs ++ ruF i (rr3 sm em e.m)).flatMap FM.cells := by rw [hr]; simp
          rw [e1, e2]
          exact J.meetI (p104, c104) trivial ⟨rfl, rfl, rfl, rfl, rfl, rfl, rfl, trivial⟩)
       | (have hr : fs ++ ruF i (rr3 sm em e.m) = fs ++ ruF i (rr2 sm em e.m) := by
           have hb : (defB e.w.r.status && decide (e.index = 0)) = false := by first | (rw [show defB e.w.r.status = false from hb95] <;> rfl) | (rw [decide_eq_false (show ¬ e.index = 0 by omega)] <;> simp)
           show _ ++ ruF i (addR (rr2 sm em e.m) 4 (defB e.w.r.status && decide (e.index = 0))) = _; rw [ruF_add, hb, if_neg (by simp)]
          rw [← hr]
          exact J.meetI (p14, c14) trivial ⟨rfl, rfl, rfl, rfl, rfl, rfl, rfl, trivial⟩)
     refine J.cond_f rfl <| J.cskip ?_
     first
      | (have hr : fs ++ ruF i (rr3 sm em e.m) = fs ++ ruF i (rr2 sm em e.m) ++ [(⟨4, (i : Int)⟩ : FM)] := by
          have hb : (defB e.w.r.status && decide (e.index = 0)) = true := by rw [show defB e.w.r.status = true from hb95, decide_eq_true (show e.index = 0 by omega)] <;> rfl
          show _ ++ ruF i (addR (rr2 sm em e.m) 4 (defB e.w.r.status && decide (e.index = 0))) = _; rw [ruF_add, hb, if_pos rfl, ← List.append_assoc]
         have e1 : (fs ++ ruF i (rr2 sm em e.m)).length + 1 = (fs ++ ruF i (rr3 sm em e.m)).length := by rw [hr]; simp [Nat.add_assoc]
         have e2 : (fs ++ ruF i (rr2 sm em e.m)).flatMap FM.cells ++ FM.cells ⟨4, (i : Int)⟩ = (fs ++ ruF i (rr3 sm em e.m)).flatMap FM.cells := by rw [hr]; simp
         rw [e1, e2]
         exact J.meetI (p104, c104) trivial ⟨rfl, rfl, rfl, rfl, rfl, rfl, rfl, trivial⟩)
      | (have hr : fs ++ ruF i (rr3 sm em e.m) = fs ++ ruF i (rr2 sm em e.m) := by
          have hb : (defB e.w.r.status && decide (e.index = 0)) = false := by first | (rw [show defB e.w.r.status = false from hb95] <;> rfl) | (rw [decide_eq_false (show ¬ e.index = 0 by omega)] <;> simp)
          show _ ++ ruF i (addR (rr2 sm em e.m) 4 (defB e.w.r.status && decide (e.index = 0))) = _; rw [ruF_add, hb, if_neg (by simp)]
         rw [← hr]
         exact J.meetI (p14, c14) trivial ⟨rfl, rfl, rfl, rfl, rfl, rfl, rfl, trivial⟩)
    refine J.k rfl <| J.k rfl <| J.k rfl <| J.p rfl (Q.pick_f rfl rfl) <| J.nil <| J.then_n <| J.cond_f rfl <| J.cskip ?_
    first
     | (have hr : fs ++ ruF i (rr3 sm em e.m) = fs ++ ruF i (rr2 sm em e.m) ++ [(⟨4, (i : Int)⟩ : FM)] := by
         have hb : (defB e.w.r.status && decide (e.index = 0)) = true := by rw [show defB e.w.r.status = true from hb95, decide_eq_true (show e.index = 0 by omega)] <;> rfl
         show _ ++ ruF i (addR (rr2 sm em e.m) 4 (defB e.w.r.status && decide (e.index = 0))) = _; rw [ruF_add, hb, if_pos rfl, ← List.append_assoc]
        have e1 : (fs ++ ruF i (rr2 sm em e.m)).length + 1 = (fs ++ ruF i (rr3 sm em e.m)).length := by rw [hr]; simp [Nat.add_assoc]
        have e2 : (fs ++ ruF i (rr2 sm em e.m)).flatMap FM.cells ++ FM.cells ⟨4, (i : Int)⟩ = (fs ++ ruF i (rr3 sm em e.m)).flatMap FM.cells := by rw [hr]; simp
        rw [e1, e2]
        exact J.meetI (p104, c104) trivial ⟨rfl, rfl, rfl, rfl, rfl, rfl, rfl, trivial⟩)
     | (have hr : fs ++ ruF i (rr3 sm em e.m) = fs ++ ruF i (rr2 sm em e.m) := by
         have hb : (defB e.w.r.status && decide (e.index = 0)) = false := by first | (rw [show defB e.w.r.status = false from hb95] <;> rfl) | (rw [decide_eq_false (show ¬ e.index = 0 by omega)] <;> simp)
         show _ ++ ruF i (addR (rr2 sm em e.m) 4 (defB e.w.r.status && decide (e.index = 0))) = _; rw [ruF_add, hb, if_neg (by simp)]
        rw [← hr]
        exact J.meetI (p14, c14) trivial ⟨rfl, rfl, rfl, rfl, rfl, rfl, rfl, trivial⟩)
   refine J.norm rfl ?_
   obtain ⟨p16, c16⟩ := w
   dsimp only
   refine J.cut (fun w : Bool × Option Addr × Nat => ∃ late, EarlyIs sm em e.id late ∧ w.1 = late) (fun w => [(1, .slice ep es.length ec), (5, .slice dp rows.length dc), (8, .int .i64 i), (9, .pointer (some ⟨b9, 0, none⟩)), (10, .bool (defB e.w.r.status)), (11, .bool (thereB (begM sm) e.id e.index)), (7, .slice w.2.1 (fs ++ ruF i (rr4 sm em e.m w.1)).length w.2.2)]) (fun w => [pt b9 (.cells e.cells.toArray 58 (0, 0)), own 92 15 (.slice dp rows.length dc) (rows.flatMap DW.cells), own 37 2 (.slice w.2.1 (fs ++ ruF i (rr4 sm em e.m w.1)).length w.2.2) ((fs ++ ruF i (rr4 sm em e.m w.1)).flatMap FM.cells), (star [star (rows.map DW.asn), G1]), F]) ?_ fun w hw => ?_
   ·
    refine J.seq ?_
    refine J.pickI [pt b9 (.cells e.cells.toArray 58 (0, 0))] ?_
    refine J.norm rfl ?_
    refine J.drawE [10] 1 Tryz.mixed (by kernel_rfl) rfl rfl fun hR => ?_
    refine RG.p 0 hR rfl (Q.fa (n := 11) runUnderlying58 rfl rfl sizeOf40 rfl) ?_
    refine RG.p 1 hR rfl (Q.ldI isAgg40 rfl) ?_
    refine RG.p 2 hR rfl (Q.neq rfl rfl) <| RG.p 3 hR rfl (Q.mv rfl) ?_
    refine RG.cases 108 rfl (fun hb108 => ?_) (fun hb108 => ?_)
    ·
     replace hb108 := X.nm hb108
     refine RG.p 4 hR rfl (Q.mv rfl) <| RG.p 5 hR rfl (Q.mv rfl) <| RG.p 6 hR rfl (Q.mv rfl) <| RG.p 7 hR rfl (Q.slH runUnderlying23 sizeOf58 rfl rfl (by omega) (by omega)) ?_
     refine RG.slot 112 (.slice ep (es.take i).length ec) rfl (by rw [List.length_take, Nat.min_eq_left (by omega)]; simp) ?_
     refine RG.p 8 hR rfl (Q.fa (n := 1) runUnderlying58 rfl rfl sizeOf40 rfl) ?_
     refine RG.p 9 hR rfl (Q.ldI isAgg40 rfl) ?_
     refine RG.callI 10 hR rfl rfl rfl rfl rfl rfl call26 (early_spec (own 92 15 (.slice dp rows.length dc) (rows.flatMap DW.cells)) (star [star (rows.map DW.asn), G1]) sm rows hD dp dc hsd (by omega) ep ec (es.take i) (heK.front (by omega)) e.id) rfl ?_
     rintro _ _ ⟨late, rfl, hlate, rfl⟩
     refine RG.norm rfl <| RG.p 11 hR rfl (Q.pick_t rfl rfl) ?_
     refine RG.fin hR rfl ?_
     refine J.norm rfl <| J.then_n ?_
     refine J.kases 116 rfl (fun hc116 => ?_) (fun hc116 => ?_)
     ·
      refine J.cond_t rfl <| J.region <| J.m rfl <| J.m rfl <| J.p rfl (Q.bld (l := [.int .i64 5, .int .i64 i]) runUnderlying37 zeroValue37 places37 rfl (by kernel_rfl)) ?_
      refine J.c rfl rfl (C.bslG (l := [_, _]) runUnderlying31 sizeOf37 zeroValue37 (by decide) rfl rfl rfl rfl rfl) ?_
      rintro _ _ ⟨b120, rfl, rfl⟩
      refine J.norm rfl ?_
      refine J.c rfl rfl (C.appI runUnderlying31 runUnderlying31 typeInfo37 sizeOf37 zeroValue37 rfl rfl (SlR.ptI rfl) (FM.one ⟨5, i⟩) (by simp [Tryz.t37] <;> omega) (by decide)) ?_
      rintro _ _ ⟨p121, c121, rfl, rfl⟩
      refine J.norm rfl <| J.p rfl (Q.asg rfl) <| J.nil ?_
      rw [List.map_take, ← hem] at hlate
      have hr : fs ++ ruF i (rr4 sm em e.m late) = (fs ++ ruF i (rr3 sm em e.m)) ++ [(⟨5, (i : Int)⟩ : FM)] := by
       have hb : (decide (e.index ≠ 0) && late) = true := by rw [decide_eq_true (show e.index ≠ 0 by omega), show late = true from hc116] <;> rfl
       show _ ++ ruF i (addR (rr3 sm em e.m) 5 (decide (e.index ≠ 0) && late)) = _
       rw [ruF_add, hb, if_pos rfl, ← List.append_assoc]
      have e1 : (fs ++ ruF i (rr3 sm em e.m)).length + 1 = (fs ++ ruF i (rr4 sm em e.m late)).length := by rw [hr]; simp [Nat.add_assoc]
      have e2 : (fs ++ ruF i (rr3 sm em e.m)).flatMap FM.cells ++ FM.cells ⟨5, (i : Int)⟩ = (fs ++ ruF i (rr4 sm em e.m late)).flatMap FM.cells := by rw [hr]; simp
      rw [e1, e2]
      exact J.meetI (late, p121, c121) ⟨late, hlate, rfl⟩ ⟨rfl, rfl, rfl, rfl, rfl, rfl, rfl, trivial⟩
     refine J.cond_f rfl <| J.cskip ?_
     rw [List.map_take, ← hem] at hlate
     have hr : fs ++ ruF i (rr4 sm em e.m late) = fs ++ ruF i (rr3 sm em e.m) := by
      have hb : (decide (e.index ≠ 0) && late) = false := by rw [show late = false from hc116] <;> simp
      show _ ++ ruF i (addR (rr3 sm em e.m) 5 (decide (e.index ≠ 0) && late)) = _
      rw [ruF_add, hb, if_neg (by simp)]
     rw [← hr]
     exact J.meetI (late, p16, c16) ⟨late, hlate, rfl⟩ ⟨rfl, rfl, rfl, rfl, rfl, rfl, rfl, trivial⟩
    replace hb108 := X.nm hb108
    refine RG.k 4 hR rfl <| RG.k 5 hR rfl <| RG.k 6 hR rfl <| RG.k 7 hR rfl <| RG.k 8 hR rfl <| RG.k 9 hR rfl ?_
    refine RG.pass 10 hR rfl rfl rfl rfl rfl ?_
    refine RG.p 11 hR rfl (Q.pick_f rfl rfl) ?_
    refine RG.fin hR rfl ?_
    refine J.norm rfl <| J.then_n <| J.cond_f rfl <| J.cskip ?_
    obtain ⟨late, hlate⟩ := early_is sm em e.id
    have hr : fs ++ ruF i (rr4 sm em e.m late) = fs ++ ruF i (rr3 sm em e.m) := by
     have hb : (decide (e.index ≠ 0) && late) = false := by rw [decide_eq_false (show ¬ e.index ≠ 0 by omega)] <;> rfl
     show _ ++ ruF i (addR (rr3 sm em e.m) 5 (decide (e.index ≠ 0) && late)) = _
     rw [ruF_add, hb, if_neg (by simp)]
    rw [← hr]
    exact J.meetI (late, p16, c16) ⟨late, hlate, rfl⟩ ⟨rfl, rfl, rfl, rfl, rfl, rfl, rfl, trivial⟩
   refine J.norm rfl ?_
   obtain ⟨late, p18, c18⟩ := w
   obtain ⟨late, hlate, rfl⟩ := hw
   dsimp only at hlate ⊢
   have l4 : (rr4 sm em e.m late).length ≤ 4 := addR_le l3 _ _
   have n4 : fs.length + (ruF i (rr4 sm em e.m late)).length ≤ 5 * i + 4 := by rw [ruF, List.length_map]; omega
   have m4 : (fs ++ ruF i (rr4 sm em e.m late)).length ≤ 5 * i + 4 := by rw [List.length_append, ruF, List.length_map]; omega
   refine J.seq ?_
   refine J.pickI [pt b9 (.cells e.cells.toArray 58 (0, 0)), own 92 15 (.slice dp rows.length dc) (rows.flatMap DW.cells)] ?_
   refine J.norm rfl ?_
   refine J.drawE [19] 2 Tryz.mixed (by kernel_rfl) rfl rfl fun hR => ?_
   refine RG.p 0 hR rfl (Q.mv rfl) <| RG.p 1 hR rfl (Q.mv rfl) ?_
   refine RG.cases 123 rfl (fun hb123 => ?_) (fun hb123 => ?_)
   ·
    replace hb123 := X.nm hb123
    refine RG.p 2 hR rfl (Q.fa (n := 11) runUnderlying58 rfl rfl sizeOf40 rfl) ?_
    refine RG.p 3 hR rfl (Q.ldI isAgg40 rfl) ?_
    refine RG.p 4 hR rfl (Q.neq rfl rfl) <| RG.p 5 hR rfl (Q.pick_t rfl rfl) <| RG.p 6 hR rfl (Q.mv rfl) ?_
    refine RG.cases 128 rfl (fun hb128 => ?_) (fun hb128 => ?_)
    ·
     replace hb128 := X.nm hb128
     refine RG.p 7 hR rfl (Q.mv rfl) <| RG.p 8 hR rfl (Q.pick_t rfl rfl) <| RG.p 9 hR rfl (Q.mv rfl) ?_
     refine RG.cases 131 rfl (fun hb131 => ?_) (fun hb131 => ?_)
     ·
      replace hb131 := X.nm hb131
      have hth : thereB (begM sm) e.id e.index = true := hb131
      obtain ⟨hn1, hn2⟩ := there_in hth
      have hn2 : e.index ≤ sm.length := hn2
      obtain ⟨b2, o2, hdp, hrr⟩ := hsd.some_ (by omega)
      obtain ⟨d, hdx⟩ : ∃ d, rows[e.index - 1]? = some d := ⟨_, List.getElem?_eq_getElem (by omega)⟩
      have hrs : (playP sm).rs[e.index - 1]? = some d.w.r := by rw [← hD.rs, List.getElem?_map, hdx]; rfl
      refine RG.p 10 hR rfl (Q.fa (n := 12) runUnderlying58 rfl rfl sizeOf44 rfl) <| RG.p 11 hR rfl (Q.ldN (vs := [_, _, _, _, _]) isAgg44 sizeOf44 rfl (rnSub 12 rfl)) <| RG.p 12 hR rfl (Q.mv rfl) ?_
      refine RG.slot 134 (.slice (some ⟨b2, o2, none⟩) rows.length dc) rfl (by rw [hdp]) ?_
      refine RG.p 13 hR rfl (Q.fa (n := 11) runUnderlying58 rfl rfl sizeOf40 rfl) ?_
      refine RG.p 14 hR rfl (Q.ldI isAgg40 rfl) ?_
      refine RG.p 15 hR rfl (Q.sub rfl rfl) ?_
      refine RG.slot 137 (.int .u64 ((e.index - 1 : Nat) : Int)) rfl (by rw [show (e.index : Int) - 1 = ((e.index - 1 : Nat) : Int) by omega, wrap64 (by omega)]) ?_
      refine RG.p 16 hR rfl (Q.ia runUnderlying87 sizeOf92 rfl rfl (by omega) (by omega)) <| RG.p 17 hR rfl (Q.fa (n := 10) runUnderlying92 rfl rfl sizeOf44 rfl) <| RG.p 18 hR rfl (Q.ldN (vs := [_, _, _, _, _]) isAgg44 sizeOf44 rfl ((rd_cast (rd_sub (us := d.w.cells) (rd_elem DW.len hrr hdx rfl) 10 rfl) (by simp)).inI)) ?_
      refine RG.callI 19 hR rfl rfl rfl rfl rfl rfl call16 (rsame_spec (star [star (rows.map DW.asn), G1]) e.w d.w heo.w (((hro _ _ hdx).into (e.index - 1) (by rw [List.getElem?_map, hdx]; rfl)).into 0 rfl)) rfl ?_
      rintro _ _ ⟨rfl, rfl⟩
      refine RG.norm rfl <| RG.p 20 hR rfl (Q.not rfl) <| RG.p 21 hR rfl (Q.pick_t rfl rfl) ?_
      refine RG.fin hR rfl ?_
      refine J.norm rfl <| J.then_n ?_
      refine J.kases 143 rfl (fun hc143 => ?_) (fun hc143 => ?_)
      ·
       refine J.cond_t rfl <| J.region <| J.m rfl <| J.m rfl <| J.p rfl (Q.bld (l := [.int .i64 6, .int .i64 i]) runUnderlying37 zeroValue37 places37 rfl (by kernel_rfl)) ?_
       refine J.c rfl rfl (C.bslG (l := [_, _]) runUnderlying31 sizeOf37 zeroValue37 (by decide) rfl rfl rfl rfl rfl) ?_
       rintro _ _ ⟨b147, rfl, rfl⟩
       refine J.norm rfl ?_
       refine J.c rfl rfl (C.appI runUnderlying31 runUnderlying31 typeInfo37 sizeOf37 zeroValue37 rfl rfl (SlR.ptI rfl) (FM.one ⟨6, i⟩) (by simp [Tryz.t37] <;> omega) (by decide)) ?_
       rintro _ _ ⟨p148, c148, rfl, rfl⟩
       refine J.norm rfl <| J.p rfl (Q.asg rfl) <| J.nil <| J.blk_n <| J.then_n <| J.region <| J.m rfl <| J.p rfl (Q.add64 rfl rfl (by omega)) <| J.p rfl (Q.asg rfl) <| J.nil ?_
       have hrs5 : ruF i (refRules sm em e.m late) = ruF i (addR (rr4 sm em e.m late) 6 (defB e.w.r.status && thereB (begM sm) e.id e.index && !(match (playP sm).rs[max e.index 1 - 1]? with | some r => sameM e.w.r r | none => true))) := rfl
       have hstep : (runE (begM sm) ((es.map EW.m).take (i + 1))).fs = fs ++ ruF i (refRules sm em e.m late) := by
        rw [hpt, hfs]
        have ha : e.answer = true := by simpa using hc33
        unfold ES.step
        rw [if_pos (show e.m.answer = true from ha)]
        show _ ++ _ = _ ++ _
        rw [← hem, rules_same hlate, hem, hSn]; rfl
       first
        | (have hb : (defB e.w.r.status && thereB (begM sm) e.id e.index && !(match (playP sm).rs[max e.index 1 - 1]? with | some r => sameM e.w.r r | none => true)) = true := by
            rw [show defB e.w.r.status = true from hb123, hth, show max e.index 1 - 1 = e.index - 1 by omega, hrs]
            show (true && true && !sameM e.w.r d.w.r) = true
            rw [show sameM e.w.r d.w.r = false by simpa using hc143] <;> rfl
           have hr : (runE (begM sm) ((es.map EW.m).take (i + 1))).fs = (fs ++ ruF i (rr4 sm em e.m late)) ++ [(⟨6, (i : Int)⟩ : FM)] := by rw [hstep, hrs5, ruF_add, hb, if_pos rfl, ← List.append_assoc]
           have e1 : (fs ++ ruF i (rr4 sm em e.m late)).length + 1 = (runE (begM sm) ((es.map EW.m).take (i + 1))).fs.length := by rw [hr]; simp [Nat.add_assoc]
           have e2 : (fs ++ ruF i (rr4 sm em e.m late)).flatMap FM.cells ++ FM.cells ⟨6, (i : Int)⟩ = (runE (begM sm) ((es.map EW.m).take (i + 1))).fs.flatMap FM.cells := by rw [hr]; simp
           rw [e1, e2]
           refine J.againI (i + 1, p148, c148) (by show i + 1 ≤ _; omega) (by show es.length - (i + 1) < es.length - i; omega) ⟨rfl, rfl, rfl, rfl, trivial⟩)
        | (have hb : (defB e.w.r.status && thereB (begM sm) e.id e.index && !(match (playP sm).rs[max e.index 1 - 1]? with | some r => sameM e.w.r r | none => true)) = false := by
            first
             | (rw [show defB e.w.r.status = false from hb123] <;> rfl)
             | (rw [show thereB (begM sm) e.id e.index = false from hb131] <;> simp)
             | (have h0 : e.index = 0 := by omega
                have : thereB (begM sm) e.id e.index = false := by unfold thereB; rw [h0]; rfl
                rw [this]; simp)
             | (rw [show defB e.w.r.status = true from hb123, hth, show max e.index 1 - 1 = e.index - 1 by omega, hrs]
                show (true && true && !sameM e.w.r d.w.r) = false
                rw [show sameM e.w.r d.w.r = true by simpa using hc143] <;> rfl)
           have hr : (runE (begM sm) ((es.map EW.m).take (i + 1))).fs = fs ++ ruF i (rr4 sm em e.m late) := by rw [hstep, hrs5, ruF_add, hb, if_neg (by simp)]
           rw [← hr]
           refine J.againI (i + 1, p18, c18) (by show i + 1 ≤ _; omega) (by show es.length - (i + 1) < es.length - i; omega) ⟨rfl, rfl, rfl, rfl, trivial⟩)
      refine J.cond_f rfl <| J.cskip <| J.blk_n <| J.then_n <| J.region <| J.m rfl <| J.p rfl (Q.add64 rfl rfl (by omega)) <| J.p rfl (Q.asg rfl) <| J.nil ?_
      have hrs5 : ruF i (refRules sm em e.m late) = ruF i (addR (rr4 sm em e.m late) 6 (defB e.w.r.status && thereB (begM sm) e.id e.index && !(match (playP sm).rs[max e.index 1 - 1]? with | some r => sameM e.w.r r | none => true))) := rfl
      have hstep : (runE (begM sm) ((es.map EW.m).take (i + 1))).fs = fs ++ ruF i (refRules sm em e.m late) := by
       rw [hpt, hfs]
       have ha : e.answer = true := by simpa using hc33
       unfold ES.step
       rw [if_pos (show e.m.answer = true from ha)]
       show _ ++ _ = _ ++ _
       rw [← hem, rules_same hlate, hem, hSn]; rfl
      first
       | (have hb : (defB e.w.r.status && thereB (begM sm) e.id e.index && !(match (playP sm).rs[max e.index 1 - 1]? with | some r => sameM e.w.r r | none => true)) = true := by
           rw [show defB e.w.r.status = true from hb123, hth, show max e.index 1 - 1 = e.index - 1 by omega, hrs]
           show (true && true && !sameM e.w.r d.w.r) = true
           rw [show sameM e.w.r d.w.r = false by simpa using hc143] <;> rfl
          have hr : (runE (begM sm) ((es.map EW.m).take (i + 1))).fs = (fs ++ ruF i (rr4 sm em e.m late)) ++ [(⟨6, (i : Int)⟩ : FM)] := by rw [hstep, hrs5, ruF_add, hb, if_pos rfl, ← List.append_assoc]
          have e1 : (fs ++ ruF i (rr4 sm em e.m late)).length + 1 = (runE (begM sm) ((es.map EW.m).take (i + 1))).fs.length := by rw [hr]; simp [Nat.add_assoc]
          have e2 : (fs ++ ruF i (rr4 sm em e.m late)).flatMap FM.cells ++ FM.cells ⟨6, (i : Int)⟩ = (runE (begM sm) ((es.map EW.m).take (i + 1))).fs.flatMap FM.cells := by rw [hr]; simp
          rw [e1, e2]
          refine J.againI (i + 1, p148, c148) (by show i + 1 ≤ _; omega) (by show es.length - (i + 1) < es.length - i; omega) ⟨rfl, rfl, rfl, rfl, trivial⟩)
       | (have hb : (defB e.w.r.status && thereB (begM sm) e.id e.index && !(match (playP sm).rs[max e.index 1 - 1]? with | some r => sameM e.w.r r | none => true)) = false := by
           first
            | (rw [show defB e.w.r.status = false from hb123] <;> rfl)
            | (rw [show thereB (begM sm) e.id e.index = false from hb131] <;> simp)
            | (have h0 : e.index = 0 := by omega
               have : thereB (begM sm) e.id e.index = false := by unfold thereB; rw [h0]; rfl
               rw [this]; simp)
            | (rw [show defB e.w.r.status = true from hb123, hth, show max e.index 1 - 1 = e.index - 1 by omega, hrs]
               show (true && true && !sameM e.w.r d.w.r) = false
               rw [show sameM e.w.r d.w.r = true by simpa using hc143] <;> rfl)
          have hr : (runE (begM sm) ((es.map EW.m).take (i + 1))).fs = fs ++ ruF i (rr4 sm em e.m late) := by rw [hstep, hrs5, ruF_add, hb, if_neg (by simp)]
          rw [← hr]
          refine J.againI (i + 1, p18, c18) (by show i + 1 ≤ _; omega) (by show es.length - (i + 1) < es.length - i; omega) ⟨rfl, rfl, rfl, rfl, trivial⟩)
     replace hb131 := X.nm hb131
     refine RG.k 10 hR rfl <| RG.k 11 hR rfl <| RG.k 12 hR rfl <| RG.k 13 hR rfl <| RG.k 14 hR rfl <| RG.k 15 hR rfl <| RG.k 16 hR rfl <| RG.k 17 hR rfl <| RG.k 18 hR rfl ?_
     refine RG.pass 19 hR rfl rfl rfl rfl rfl ?_
     refine RG.k 20 hR rfl <| RG.p 21 hR rfl (Q.pick_f rfl rfl) ?_
     refine RG.fin hR rfl ?_
     refine J.norm rfl <| J.then_n <| J.cond_f rfl <| J.cskip <| J.blk_n <| J.then_n <| J.region <| J.m rfl <| J.p rfl (Q.add64 rfl rfl (by omega)) <| J.p rfl (Q.asg rfl) <| J.nil ?_
     have hrs5 : ruF i (refRules sm em e.m late) = ruF i (addR (rr4 sm em e.m late) 6 (defB e.w.r.status && thereB (begM sm) e.id e.index && !(match (playP sm).rs[max e.index 1 - 1]? with | some r => sameM e.w.r r | none => true))) := rfl
     have hstep : (runE (begM sm) ((es.map EW.m).take (i + 1))).fs = fs ++ ruF i (refRules sm em e.m late) := by
      rw [hpt, hfs]
      have ha : e.answer = true := by simpa using hc33
      unfold ES.step
      rw [if_pos (show e.m.answer = true from ha)]
      show _ ++ _ = _ ++ _
      rw [← hem, rules_same hlate, hem, hSn]; rfl
     first
      | (have hb : (defB e.w.r.status && thereB (begM sm) e.id e.index && !(match (playP sm).rs[max e.index 1 - 1]? with | some r => sameM e.w.r r | none => true)) = true := by
          rw [show defB e.w.r.status = true from hb123, hth, show max e.index 1 - 1 = e.index - 1 by omega, hrs]
          show (true && true && !sameM e.w.r d.w.r) = true
          rw [show sameM e.w.r d.w.r = false by simpa using hc143] <;> rfl
         have hr : (runE (begM sm) ((es.map EW.m).take (i + 1))).fs = (fs ++ ruF i (rr4 sm em e.m late)) ++ [(⟨6, (i : Int)⟩ : FM)] := by rw [hstep, hrs5, ruF_add, hb, if_pos rfl, ← List.append_assoc]
         have e1 : (fs ++ ruF i (rr4 sm em e.m late)).length + 1 = (runE (begM sm) ((es.map EW.m).take (i + 1))).fs.length := by rw [hr]; simp [Nat.add_assoc]
         have e2 : (fs ++ ruF i (rr4 sm em e.m late)).flatMap FM.cells ++ FM.cells ⟨6, (i : Int)⟩ = (runE (begM sm) ((es.map EW.m).take (i + 1))).fs.flatMap FM.cells := by rw [hr]; simp
         rw [e1, e2]
         refine J.againI (i + 1, p148, c148) (by show i + 1 ≤ _; omega) (by show es.length - (i + 1) < es.length - i; omega) ⟨rfl, rfl, rfl, rfl, trivial⟩)
      | (have hb : (defB e.w.r.status && thereB (begM sm) e.id e.index && !(match (playP sm).rs[max e.index 1 - 1]? with | some r => sameM e.w.r r | none => true)) = false := by
          first
           | (rw [show defB e.w.r.status = false from hb123] <;> rfl)
           | (rw [show thereB (begM sm) e.id e.index = false from hb131] <;> simp)
           | (have h0 : e.index = 0 := by omega
              have : thereB (begM sm) e.id e.index = false := by unfold thereB; rw [h0]; rfl
              rw [this]; simp)
           | (rw [show defB e.w.r.status = true from hb123, hth, show max e.index 1 - 1 = e.index - 1 by omega, hrs]
              show (true && true && !sameM e.w.r d.w.r) = false
              rw [show sameM e.w.r d.w.r = true by simpa using hc143] <;> rfl)
         have hr : (runE (begM sm) ((es.map EW.m).take (i + 1))).fs = fs ++ ruF i (rr4 sm em e.m late) := by rw [hstep, hrs5, ruF_add, hb, if_neg (by simp)]
         rw [← hr]
         refine J.againI (i + 1, p18, c18) (by show i + 1 ≤ _; omega) (by show es.length - (i + 1) < es.length - i; omega) ⟨rfl, rfl, rfl, rfl, trivial⟩)
    replace hb128 := X.nm hb128
    refine RG.k 7 hR rfl <| RG.p 8 hR rfl (Q.pick_f rfl rfl) <| RG.p 9 hR rfl (Q.mv rfl) <| RG.k 10 hR rfl <| RG.k 11 hR rfl <| RG.k 12 hR rfl <| RG.k 13 hR rfl <| RG.k 14 hR rfl <| RG.k 15 hR rfl <| RG.k 16 hR rfl ?_
    refine RG.k 17 hR rfl <| RG.k 18 hR rfl ?_
    refine RG.pass 19 hR rfl rfl rfl rfl rfl ?_
    refine RG.k 20 hR rfl <| RG.p 21 hR rfl (Q.pick_f rfl rfl) ?_
    refine RG.fin hR rfl ?_
    refine J.norm rfl <| J.then_n <| J.cond_f rfl <| J.cskip <| J.blk_n <| J.then_n <| J.region <| J.m rfl <| J.p rfl (Q.add64 rfl rfl (by omega)) <| J.p rfl (Q.asg rfl) <| J.nil ?_
    have hrs5 : ruF i (refRules sm em e.m late) = ruF i (addR (rr4 sm em e.m late) 6 (defB e.w.r.status && thereB (begM sm) e.id e.index && !(match (playP sm).rs[max e.index 1 - 1]? with | some r => sameM e.w.r r | none => true))) := rfl
    have hstep : (runE (begM sm) ((es.map EW.m).take (i + 1))).fs = fs ++ ruF i (refRules sm em e.m late) := by
     rw [hpt, hfs]
     have ha : e.answer = true := by simpa using hc33
     unfold ES.step
     rw [if_pos (show e.m.answer = true from ha)]
     show _ ++ _ = _ ++ _
     rw [← hem, rules_same hlate, hem, hSn]; rfl
    first
     | (have hb : (defB e.w.r.status && thereB (begM sm) e.id e.index && !(match (playP sm).rs[max e.index 1 - 1]? with | some r => sameM e.w.r r | none => true)) = true := by
         rw [show defB e.w.r.status = true from hb123, hth, show max e.index 1 - 1 = e.index - 1 by omega, hrs]
         show (true && true && !sameM e.w.r d.w.r) = true
         rw [show sameM e.w.r d.w.r = false by simpa using hc143] <;> rfl
        have hr : (runE (begM sm) ((es.map EW.m).take (i + 1))).fs = (fs ++ ruF i (rr4 sm em e.m late)) ++ [(⟨6, (i : Int)⟩ : FM)] := by rw [hstep, hrs5, ruF_add, hb, if_pos rfl, ← List.append_assoc]
        have e1 : (fs ++ ruF i (rr4 sm em e.m late)).length + 1 = (runE (begM sm) ((es.map EW.m).take (i + 1))).fs.length := by rw [hr]; simp [Nat.add_assoc]
        have e2 : (fs ++ ruF i (rr4 sm em e.m late)).flatMap FM.cells ++ FM.cells ⟨6, (i : Int)⟩ = (runE (begM sm) ((es.map EW.m).take (i + 1))).fs.flatMap FM.cells := by rw [hr]; simp
        rw [e1, e2]
        refine J.againI (i + 1, p148, c148) (by show i + 1 ≤ _; omega) (by show es.length - (i + 1) < es.length - i; omega) ⟨rfl, rfl, rfl, rfl, trivial⟩)
     | (have hb : (defB e.w.r.status && thereB (begM sm) e.id e.index && !(match (playP sm).rs[max e.index 1 - 1]? with | some r => sameM e.w.r r | none => true)) = false := by
         first
          | (rw [show defB e.w.r.status = false from hb123] <;> rfl)
          | (rw [show thereB (begM sm) e.id e.index = false from hb131] <;> simp)
          | (have h0 : e.index = 0 := by omega
             have : thereB (begM sm) e.id e.index = false := by unfold thereB; rw [h0]; rfl
             rw [this]; simp)
          | (rw [show defB e.w.r.status = true from hb123, hth, show max e.index 1 - 1 = e.index - 1 by omega, hrs]
             show (true && true && !sameM e.w.r d.w.r) = false
             rw [show sameM e.w.r d.w.r = true by simpa using hc143] <;> rfl)
        have hr : (runE (begM sm) ((es.map EW.m).take (i + 1))).fs = fs ++ ruF i (rr4 sm em e.m late) := by rw [hstep, hrs5, ruF_add, hb, if_neg (by simp)]
        rw [← hr]
        refine J.againI (i + 1, p18, c18) (by show i + 1 ≤ _; omega) (by show es.length - (i + 1) < es.length - i; omega) ⟨rfl, rfl, rfl, rfl, trivial⟩)
   replace hb123 := X.nm hb123
   refine RG.k 2 hR rfl <| RG.k 3 hR rfl <| RG.k 4 hR rfl <| RG.p 5 hR rfl (Q.pick_f rfl rfl) <| RG.p 6 hR rfl (Q.mv rfl) <| RG.k 7 hR rfl <| RG.p 8 hR rfl (Q.pick_f rfl rfl) <| RG.p 9 hR rfl (Q.mv rfl) <| RG.k 10 hR rfl ?_
   refine RG.k 11 hR rfl <| RG.k 12 hR rfl <| RG.k 13 hR rfl <| RG.k 14 hR rfl <| RG.k 15 hR rfl <| RG.k 16 hR rfl <| RG.k 17 hR rfl <| RG.k 18 hR rfl ?_
   refine RG.pass 19 hR rfl rfl rfl rfl rfl ?_
   refine RG.k 20 hR rfl <| RG.p 21 hR rfl (Q.pick_f rfl rfl) ?_
   refine RG.fin hR rfl ?_
   refine J.norm rfl <| J.then_n <| J.cond_f rfl <| J.cskip <| J.blk_n <| J.then_n <| J.region <| J.m rfl <| J.p rfl (Q.add64 rfl rfl (by omega)) <| J.p rfl (Q.asg rfl) <| J.nil ?_
   have hrs5 : ruF i (refRules sm em e.m late) = ruF i (addR (rr4 sm em e.m late) 6 (defB e.w.r.status && thereB (begM sm) e.id e.index && !(match (playP sm).rs[max e.index 1 - 1]? with | some r => sameM e.w.r r | none => true))) := rfl
   have hstep : (runE (begM sm) ((es.map EW.m).take (i + 1))).fs = fs ++ ruF i (refRules sm em e.m late) := by
    rw [hpt, hfs]
    have ha : e.answer = true := by simpa using hc33
    unfold ES.step
    rw [if_pos (show e.m.answer = true from ha)]
    show _ ++ _ = _ ++ _
    rw [← hem, rules_same hlate, hem, hSn]; rfl
   first
    | (have hb : (defB e.w.r.status && thereB (begM sm) e.id e.index && !(match (playP sm).rs[max e.index 1 - 1]? with | some r => sameM e.w.r r | none => true)) = true := by
        rw [show defB e.w.r.status = true from hb123, hth, show max e.index 1 - 1 = e.index - 1 by omega, hrs]
        show (true && true && !sameM e.w.r d.w.r) = true
        rw [show sameM e.w.r d.w.r = false by simpa using hc143] <;> rfl
       have hr : (runE (begM sm) ((es.map EW.m).take (i + 1))).fs = (fs ++ ruF i (rr4 sm em e.m late)) ++ [(⟨6, (i : Int)⟩ : FM)] := by rw [hstep, hrs5, ruF_add, hb, if_pos rfl, ← List.append_assoc]
       have e1 : (fs ++ ruF i (rr4 sm em e.m late)).length + 1 = (runE (begM sm) ((es.map EW.m).take (i + 1))).fs.length := by rw [hr]; simp [Nat.add_assoc]
       have e2 : (fs ++ ruF i (rr4 sm em e.m late)).flatMap FM.cells ++ FM.cells ⟨6, (i : Int)⟩ = (runE (begM sm) ((es.map EW.m).take (i + 1))).fs.flatMap FM.cells := by rw [hr]; simp
       rw [e1, e2]
       refine J.againI (i + 1, p148, c148) (by show i + 1 ≤ _; omega) (by show es.length - (i + 1) < es.length - i; omega) ⟨rfl, rfl, rfl, rfl, trivial⟩)
    | (have hb : (defB e.w.r.status && thereB (begM sm) e.id e.index && !(match (playP sm).rs[max e.index 1 - 1]? with | some r => sameM e.w.r r | none => true)) = false := by
        first
         | (rw [show defB e.w.r.status = false from hb123] <;> rfl)
         | (rw [show thereB (begM sm) e.id e.index = false from hb131] <;> simp)
         | (have h0 : e.index = 0 := by omega
            have : thereB (begM sm) e.id e.index = false := by unfold thereB; rw [h0]; rfl
            rw [this]; simp)
         | (rw [show defB e.w.r.status = true from hb123, hth, show max e.index 1 - 1 = e.index - 1 by omega, hrs]
            show (true && true && !sameM e.w.r d.w.r) = false
            rw [show sameM e.w.r d.w.r = true by simpa using hc143] <;> rfl)
       have hr : (runE (begM sm) ((es.map EW.m).take (i + 1))).fs = fs ++ ruF i (rr4 sm em e.m late) := by rw [hstep, hrs5, ruF_add, hb, if_neg (by simp)]
       rw [← hr]
       refine J.againI (i + 1, p18, c18) (by show i + 1 ≤ _; omega) (by show es.length - (i + 1) < es.length - i; omega) ⟨rfl, rfl, rfl, rfl, trivial⟩)
  refine J.cond_f rfl <| J.exit <| J.then_x <| J.lp_x <| J.blk_x <| J.then_n <| J.seq <| J.region <| J.m rfl <| J.p rfl (Q.asg rfl) <| J.nil <| J.then_n <| J.cret ?_
  have htk : (es.map EW.m).take i = es.map EW.m := List.take_of_length_le (by rw [List.length_map]; omega)
  rw [htk, show (runE (begM sm) (es.map EW.m)).fs = faults (begM sm) (es.map EW.m) from rfl]
  refine J.unpackI [star (rows.map DW.asn), G1] ?_
  refine J.norm rfl ?_
  refine J.ret1I [own 37 2 (.slice p (faults (begM sm) (es.map EW.m)).length c) ((faults (begM sm) (es.map EW.m)).flatMap FM.cells), G1] rfl rfl ⟨p, c, rfl, rfl⟩
theorem rcheck_badK (G1 : Assn) (rp : Option Addr) (rc : Nat) (l : List RCW) (hl : RComs G1 rp rc l) (h : ¬ ((∀ (i : Nat) (x : RCW), l[i]? = some x → x.index = i + 1) ∧ ∀ x, x ∈ l → x.bad = false)) (hc : ∀ x, x ∈ l → x.bad = false → x.point = false → x.x.o.chkB = true ∧ x.x.o.id ≤ U64)
    (ep : Option Addr) (en ec : Nat) : FSpec Tryz.prog 9 [.slice rp l.length rc, .slice ep en ec] [G1]
    (fun u B => ∃ p c, u = .slice p [FM.mk 1 (-1)].length c ∧ B = [own 37 2 (.slice p [FM.mk 1 (-1)].length c) ([FM.mk 1 (-1)].flatMap FM.cells), G1]) := by
  refine FSpec.of func9 rfl ntmps9 rfl fun W0 F => ?_
  refine J.seq <| J.region <| J.p rfl (Q.asg rfl) <| J.nil <| J.then_n <| J.seq <| J.region <| J.m rfl ?_
  refine J.callI call24 (played_bad G1 rp rc l hl h hc) rfl rfl rfl ?_
  rintro _ _ ⟨e, he, rfl, rfl⟩
  refine J.norm rfl <| J.m rfl <| J.p rfl (Q.ext rfl rfl) <| J.p rfl (Q.ext rfl rfl) <| J.p rfl (Q.asg rfl) <| J.p rfl (Q.asg rfl) <| J.nil <| J.then_n <| J.seq <| J.seq <| J.region <| J.m rfl <| J.p rfl (Q.neq rfl rfl) <| J.nil <| J.then_n ?_
  refine J.cases 18 rfl (fun hc18 => ?_) (fun hc18 => ?_)
  ·
   replace hc18 := X.nm hc18
   refine J.cond_t rfl <| J.seq <| J.region <| J.p rfl (Q.bld (l := FM.cells ⟨1, -1⟩) runUnderlying37 zeroValue37 places37 rfl (by kernel_rfl)) ?_
   refine J.c rfl rfl (C.bslG (l := [_, _]) runUnderlying31 sizeOf37 zeroValue37 (by decide) rfl rfl rfl rfl rfl) ?_
   rintro _ _ ⟨b20, rfl, rfl⟩
   refine J.norm rfl <| J.p rfl (Q.asg rfl) <| J.nil <| J.then_n <| J.cret <| J.then_r ?_
   refine J.convI (pt b20 (.cells (FM.cells ⟨1, -1⟩).toArray 37 (0, 0))) (own 37 2 (.slice (some ⟨b20, 0, none⟩) [FM.mk 1 (-1)].length 1) ([FM.mk 1 (-1)].flatMap FM.cells)) (own_of_block (l := [FM.mk 1 (-1)].flatMap FM.cells) rfl) ?_
   refine J.ret1I [own 37 2 (.slice (some ⟨b20, 0, none⟩) [FM.mk 1 (-1)].length 1) ([FM.mk 1 (-1)].flatMap FM.cells), G1] rfl rfl ⟨some ⟨b20, 0, none⟩, 1, rfl, rfl⟩
  exact absurd (X.nm hc18) he

structure QW where
  index : Nat
  way : Int
  x : OW
  z : PW
  rp : Option Addr
  raw : List UInt8
  rc : Nat
abbrev QW.cells (q : QW) : List Value := [.int .u64 q.index, .int .i64 q.way, .int .u64 q.x.o.id, .int .i64 q.x.o.kind, .string q.x.o.bucket, .string q.x.o.key, .string q.x.o.after, .int .i64 q.x.o.n, .int .u64 q.x.o.upload, .slice q.x.pp q.x.o.parts.length q.x.pc, .slice q.x.dp q.x.o.data.length q.x.dc,
  .string q.z.o.bucket, .string q.z.o.key, .int .u64 q.z.o.version, .int .u64 q.z.o.stripe, .int .i64 q.z.o.k, .int .i64 q.z.o.m, .int .i64 q.z.o.size, .int .u32 q.z.o.sum, .slice q.z.np q.z.o.nodes.length q.z.nc, .slice q.rp q.raw.length q.rc]
theorem QW.len (q : QW) : q.cells.length = 21 := rfl
structure QW.ok (G : Assn) (q : QW) : Prop where
  x : q.x.ok G
  ids : q.x.o.id ≤ 18446744073709551615 ∧ q.x.o.upload ≤ 18446744073709551615
  z : q.z.ok G
  raw : SlP G q.rp q.rc q.raw
def qbulk (l : List QW) : Nat := (l.map fun q => q.x.o.bulk).sum
structure Qs (G : Assn) (lp : Option Addr) (lc : Nat) (l : List QW) : Prop where
  rd : SlR [G] 21 (.slice lp l.length lc) (l.flatMap QW.cells)
  ok : ∀ q, q ∈ l → q.ok G
  small : l.length ≤ 1048576
  bulk : qbulk l ≤ 1048576
def QW.cmd (q : QW) : List UInt8 := if q.way = 1 then opB q.x.o else if q.way = 2 then ptrB q.z.o else q.raw
def QW.dm (q : QW) : DM := if q.way = 1 then ⟨q.x.o, false, false⟩ else decM q.cmd
theorem ptrB_len {p : PM} (h : p.bucket.size ≤ 4194304 ∧ p.key.size ≤ 4194304 ∧ p.nodes.length ≤ 4194304) (hn : p.version ≤ 18446744073709551615 ∧ p.stripe ≤ 18446744073709551615) : (ptrB p).length ≤ 60000000 := by
  have e1 : p.bucket.data.toList.length = p.bucket.size := by simp
  have e2 : p.key.data.toList.length = p.key.size := by simp
  have k1 := numB_len p.bucket.data.toList.length (by omega)
  have k2 := numB_len p.key.data.toList.length (by omega)
  have a1 := flat_numB [2] (by intro v hv; rw [List.mem_singleton.1 hv]; omega)
  have a2 := flat_numB [p.version, p.stripe] (by intro v hv; simp only [List.mem_cons, List.not_mem_nil, or_false] at hv; omega)
  have a3 := flat_numB ([p.k, p.m, p.size, (p.sum : Int), (p.nodes.length : Int)].map u64N) (by intro v hv; obtain ⟨u, _, rfl⟩ := List.mem_map.1 hv; exact u64N_le u)
  have a4 := flat_numB (p.nodes.map u64N) (by intro v hv; obtain ⟨u, _, rfl⟩ := List.mem_map.1 hv; exact u64N_le u)
  rw [List.length_map] at a3 a4
  simp only [List.length_cons, List.length_nil] at a1 a2 a3
  unfold ptrB ptrT
  simp only [List.length_append, List.flatMap_cons, List.flatMap_nil, encB, List.length_nil] at a1 a2 ⊢
  omega
theorem RCW.one (x : RCW) : ∀ v, v ∈ x.cells → oneC v = true := by
  intro v hv
  simp only [RCW.cells, List.mem_cons, List.not_mem_nil, or_false] at hv
  rcases hv with rfl | rfl | rfl | rfl | rfl | rfl | rfl | rfl | rfl | rfl | rfl | rfl <;> rfl
theorem OW.one (x : OW) : ∀ v, v ∈ x.cells → oneC v = true := by
  intro v hv
  simp only [OW.cells, List.mem_cons, List.not_mem_nil, or_false] at hv
  rcases hv with rfl | rfl | rfl | rfl | rfl | rfl | rfl | rfl | rfl <;> rfl

theorem qbulk_take {l : List QW} {i : Nat} {q : QW} (h : l[i]? = some q) : qbulk (l.take (i + 1)) = qbulk (l.take i) + q.x.o.bulk := by
  obtain ⟨h1, h2⟩ := List.getElem?_eq_some_iff.1 h
  unfold qbulk
  rw [List.take_succ_eq_append_getElem h1, List.map_append, List.sum_append, h2]; simp
theorem qbulk_le (l : List QW) (i : Nat) : qbulk (l.take i) ≤ qbulk l := by
  unfold qbulk
  conv => rhs; rw [← List.take_append_drop i l, List.map_append, List.sum_append]
  omega
theorem ow_into {G : Assn} {As : List Assn} {x : OW} (i : Nat) (h : x.ok G) (e : As[i]? = some G) : x.ok (star As) := ⟨h.parts.into i e, h.data.into i e, h.small⟩
theorem cws_ok {ows : List CW} : ∀ h, star (ows.map CW.asn) h → ∀ w, w ∈ ows → w.bs.length ≤ 1099511627776 → SlP (star (ows.map CW.asn)) w.p w.c w.bs := by
  intro h hh w hw hn
  obtain ⟨i, hi⟩ := List.getElem?_of_mem hw
  have s1 : HSat h (w.asn :: (ows.eraseIdx i).map CW.asn) := HSat.perm (perm_focus CW.asn hi) hh
  obtain ⟨j1, j2, q, _⟩ := s1
  have hsl : SlR [w.asn] 1 (.slice w.p w.bs.length w.c) (bytesV w.bs) := own.slr (i := 0) rfl ⟨j1, X.G.HSat.one q⟩
  exact ⟨hsl.into i (by rw [List.getElem?_map, hi]; rfl), hn, (own.len _ q).2⟩

structure QZ where
  i : Nat
  cs : List CW
  ows : List CW
  p5 : Option Addr
  c5 : Nat
  rws : List RCW
  oys : List OW
  p6 : Option Addr
  c6 : Nat
  ops : List OW
  p7 : Option Addr
  c7 : Nat
def CFrom (ows : List CW) (c : CW) (q : QW) : Prop := (∃ w, w ∈ ows ∧ c.p = w.p ∧ c.c = w.c ∧ c.bs = w.bs) ∨ (c.p = q.rp ∧ c.c = q.rc ∧ c.bs = q.raw)
structure QZ.ok (G : Assn) (l : List QW) (z : QZ) : Prop where
  i : z.i ≤ l.length
  chk : ∀ (j : Nat) (q : QW), j < z.i → l[j]? = some q → q.way = 1 → q.x.o.chkB = true
  cl : z.cs.length = z.i
  cs : ∀ (j : Nat) (c : CW) (q : QW), z.cs[j]? = some c → l[j]? = some q → c.index = q.index ∧ c.bs = q.cmd ∧ CFrom z.ows c q
  rl : z.rws.length = z.i
  rs : ∀ (j : Nat) (r : RCW) (q : QW), z.rws[j]? = some r → l[j]? = some q → r.index = q.index ∧ r.bad = q.dm.bad ∧ r.point = q.dm.point ∧ r.x.o = q.dm.o ∧ (r.x ∈ z.oys ∨ r.x = q.x)
  oy : ∀ y, y ∈ z.oys → y.ok y.asn
  ol : z.ops.length ≤ z.i
  oo : ∀ y, y ∈ z.ops → y.ok G
  ob : bulks z.ops ≤ qbulk (l.take z.i)

structure VZ where
  p : Option Addr
  c : Nat
  ows : List CW
  r : RCW
  ops : List OW
  p7 : Option Addr
  c7 : Nat
structure VZ.ok (G : Assn) (q : QW) (ows : List CW) (ops : List OW) (v : VZ) : Prop where
  chk : q.way = 1 → q.x.o.chkB = true
  cf : CFrom v.ows ⟨q.index, q.cmd, v.p, v.c⟩ q
  sub : ∀ w, w ∈ ows → w ∈ v.ows
  ri : v.r.index = q.index ∧ v.r.bad = false
  rx : q.way = 1 → v.r.point = false ∧ v.r.x = q.x
  ol : v.ops.length ≤ ops.length + 1
  oo : ∀ y, y ∈ v.ops → y.ok G
  ob : bulks v.ops ≤ bulks ops + q.x.o.bulk

structure XZ where
  r : RCW
  oys : List OW
structure XZ.ok (q : QW) (oys : List OW) (v : XZ) : Prop where
  ri : v.r.index = q.index
  rb : v.r.bad = q.dm.bad ∧ v.r.point = q.dm.point ∧ v.r.x.o = q.dm.o
  ry : v.r.x ∈ v.oys ∨ v.r.x = q.x
  sub : ∀ y, y ∈ oys → y ∈ v.oys
  oy : ∀ y, y ∈ v.oys → y.ok y.asn

abbrev QZ.mem (z : QZ) : List Assn := [own 56 2 (.slice z.p5 z.cs.length z.c5) (z.cs.flatMap CW.cells), star (z.ows.map CW.asn), own 71 12 (.slice z.p6 z.rws.length z.c6) (z.rws.flatMap RCW.cells), star (z.oys.map OW.asn)]
def RowsOK (G : Assn) (l : List QW) (X : Assn) (p5 : Option Addr) (n5 c5 : Nat) (p6 : Option Addr) (n6 c6 : Nat) : Prop := l.length ≤ 300 ∧ ∃ z : QZ, z.ok G l ∧ z.i = l.length ∧ p5 = z.p5 ∧ n5 = z.cs.length ∧ c5 = z.c5 ∧ p6 = z.p6 ∧ n6 = z.rws.length ∧ c6 = z.c6 ∧ X = star z.mem

theorem rows_spec (G : Assn) (lp : Option Addr) (lc : Nat) (l : List QW) (hl : Qs G lp lc l) : FSpec Tryz.prog 7 [.slice lp l.length lc] [G]
    (fun u B => ∃ (X : Assn) (p5 : Option Addr) (n5 c5 : Nat) (p6 : Option Addr) (n6 c6 : Nat) (b : Bool), u = .tuple #[.slice p5 n5 c5, .slice p6 n6 c6, .bool b] ∧ (b = true → RowsOK G l X p5 n5 c5 p6 n6 c6) ∧ B = [X, G]) := by
  have hlsm := hl.small
  have hlbk := hl.bulk
  refine FSpec.of func7 rfl ntmps7 rfl fun W0 F => ?_
  refine J.seq <| J.region <| J.p rfl (Q.asg rfl) <| J.p rfl (Q.asg rfl) <| J.p rfl (Q.asg rfl) <| J.nil <| J.then_n <| J.seq <| J.region <| J.p rfl (Q.asg rfl) <| J.nil <| J.then_n <| J.seq <| J.region <| J.p rfl (Q.asg rfl) <| J.nil <| J.then_n <| J.seq <| J.region <| J.p rfl (Q.asg rfl) <| J.nil <| J.then_n <| J.seq <| J.seq <| J.region <| J.m rfl <| J.p rfl (Q.lenSl runUnderlying22 rfl) ?_
  refine J.p rfl (Q.gtr rfl rfl) <| J.nil <| J.then_n ?_
  refine J.kases 17 rfl (fun hc17 => ?_) (fun hc17 => ?_)
  ·
   refine J.cond_t rfl <| J.seq <| J.region <| J.p rfl (Q.asg rfl) <| J.p rfl (Q.asg rfl) <| J.p rfl (Q.asg rfl) <| J.nil <| J.then_n <| J.cret <| J.then_r ?_
   refine J.give (X := star ([] : List Assn)) trivial ?_
   refine J.ret3 (B := [star ([] : List Assn), G]) rfl rfl rfl rfl ⟨_, none, 0, 0, none, 0, 0, false, rfl, fun h => (by cases h), rfl⟩ rfl
  refine J.cond_f rfl <| J.cskip <| J.then_n <| J.seq <| J.seq <| J.region <| J.p rfl (Q.asg rfl) <| J.nil <| J.then_n <| J.block ?_
  have hl300 : l.length ≤ 300 := by omega
  refine J.give (own.nil 56 2 _) ?_
  refine J.give (X := star (([] : List CW).map CW.asn)) trivial ?_
  refine J.give (own.nil 71 12 _) ?_
  refine J.give (X := star (([] : List OW).map OW.asn)) trivial ?_
  refine J.give (own.nil 52 9 _) ?_
  refine J.keepI [own 56 2 (.slice none 0 0) [], star (([] : List CW).map CW.asn), own 71 12 (.slice none 0 0) [], star (([] : List OW).map OW.asn), own 52 9 (.slice none 0 0) [], G, F] ?_
  refine J.loop (fun z : QZ => z.ok G l) (fun z => l.length - z.i) (fun z => [(0, .slice lp l.length lc), (5, .slice z.p5 z.cs.length z.c5), (6, .slice z.p6 z.rws.length z.c6), (7, .slice z.p7 z.ops.length z.c7), (8, .int .i64 z.i)])
   (fun z => [own 56 2 (.slice z.p5 z.cs.length z.c5) (z.cs.flatMap CW.cells), star (z.ows.map CW.asn), own 71 12 (.slice z.p6 z.rws.length z.c6) (z.rws.flatMap RCW.cells), star (z.oys.map OW.asn), own 52 9 (.slice z.p7 z.ops.length z.c7) (z.ops.flatMap OW.cells), G, F]) ⟨0, [], [], none, 0, [], [], none, 0, [], none, 0⟩ ⟨Nat.zero_le _, (fun _ _ h => absurd h (Nat.not_lt_zero _)), rfl, (fun _ _ _ h => by cases h), rfl, (fun _ _ _ h => by cases h), (fun _ h => by cases h), Nat.le_refl _, (fun _ h => by cases h), by simp [bulks, qbulk]⟩ ⟨rfl, rfl, rfl, rfl, rfl, trivial⟩ rfl fun z hz => ?_
  obtain ⟨i, cs, ows, p5, c5, rws, oys, p6, c6, ops, p7, c7⟩ := z
  have hzi := hz.i
  have hzc := hz.cl
  have hzr := hz.rl
  have hzo := hz.ol
  dsimp only at hzi hzc hzr hzo ⊢
  refine J.seq <| J.seq <| J.region <| J.m rfl <| J.m rfl <| J.p rfl (Q.lenSl runUnderlying22 rfl) <| J.p rfl (Q.lss rfl rfl) <| J.nil <| J.then_n ?_
  refine J.kases 21 rfl (fun hc21 => ?_) (fun hc21 => ?_)
  ·
   refine J.cond_t rfl <| J.cskip <| J.then_n <| J.seq <| J.block <| J.seq ?_
   have hil : i < l.length := by omega
   obtain ⟨b, off, hlp, hrd⟩ := hl.rd.some_ (by omega)
   obtain ⟨q, hq⟩ : ∃ q, l[i]? = some q := ⟨_, List.getElem?_eq_getElem (by omega)⟩
   have hqm := List.mem_of_getElem? hq
   have hqo := hl.ok q hqm
   have hqt := hqo.z.texts
   have hqn := hqo.z.nums
   have hqr := hqo.raw.n
   refine J.slot 0 (.slice (some ⟨b, off, none⟩) l.length lc) rfl (by rw [hlp]) ?_
   refine J.region <| J.m rfl <| J.m rfl <| J.p rfl (Q.ia runUnderlying22 sizeOf69 rfl rfl (by omega) (by omega)) <| J.p rfl (Q.fa (n := 0) runUnderlying69 rfl rfl sizeOf40 rfl) <| J.p rfl (Q.ld isAgg40 rfl ((((rd_elem QW.len hrd hq rfl) 0 (.int .u64 q.index) rfl).cast (by simp)).inI)) <| J.p rfl (Q.bld (l := RCW.cells ⟨q.index, false, false, bareW O0⟩) runUnderlying71 zeroValue71 places71 rfl (by kernel_rfl)) ?_
   refine J.c rfl rfl (C.alloc (l := [_, _, _, _, _, _, _, _, _, _, _, _]) zeroValue71 rfl) ?_
   rintro _ _ ⟨b9, rfl, rfl⟩
   refine J.norm rfl ?_
   refine J.stAJ (vs := [_, _, _, _, _, _, _, _, _, _, _, _]) rfl sizeOf71 rfl rfl ?_
   refine J.nil <| J.then_n <| J.seq <| J.region <| J.p rfl (Q.asg rfl) <| J.nil <| J.then_n ?_
   refine J.cut (fun v : VZ => v.ok G q ows ops) (fun v => [(0, .slice (some ⟨b, off, none⟩) l.length lc), (5, .slice p5 cs.length c5), (6, .slice p6 rws.length c6), (7, .slice v.p7 v.ops.length v.c7), (8, .int .i64 i), (9, .pointer (some ⟨b9, 0, none⟩)), (10, .slice v.p q.cmd.length v.c)])
    (fun v => [own 71 12 (.slice (some ⟨b9, 0, none⟩) 1 1) ([v.r].flatMap RCW.cells), own 56 2 (.slice p5 cs.length c5) (cs.flatMap CW.cells), star (v.ows.map CW.asn), own 71 12 (.slice p6 rws.length c6) (rws.flatMap RCW.cells), star (oys.map OW.asn), own 52 9 (.slice v.p7 v.ops.length v.c7) (v.ops.flatMap OW.cells), G, F]) ?_ fun v hv => ?_
   ·
    refine J.seq ?_
    refine J.convI (pt b9 (.cells (RCW.cells ⟨q.index, false, false, bareW O0⟩).toArray 71 (0, 0))) (own 71 12 (.slice (some ⟨b9, 0, none⟩) 1 1) ([(⟨q.index, false, false, bareW O0⟩ : RCW)].flatMap RCW.cells)) (own_of_block (l := [(⟨q.index, false, false, bareW O0⟩ : RCW)].flatMap RCW.cells) rfl) ?_
    refine J.region <| J.m rfl <| J.m rfl <| J.p rfl (Q.ia runUnderlying22 sizeOf69 rfl rfl (by omega) (by omega)) <| J.p rfl (Q.fa (n := 1) runUnderlying69 rfl rfl sizeOf3 rfl) <| J.p rfl (Q.ld isAgg3 rfl ((((rd_elem QW.len hrd hq rfl) 1 (.int .i64 q.way) rfl).cast (by simp)).inI)) <| J.nil <| J.then_n <| J.block <| J.seq <| J.region <| J.p rfl (Q.eql rfl rfl) ?_
    refine J.p rfl (Q.asg rfl) <| J.nil <| J.then_n ?_
    refine J.kases 40 rfl (fun hc40 => ?_) (fun hc40 => ?_)
    ·
     refine J.cond_t rfl <| J.seq <| J.seq <| J.region <| J.m rfl <| J.m rfl <| J.p rfl (Q.ia runUnderlying22 sizeOf69 rfl rfl (by omega) (by omega)) <| J.p rfl (Q.fa (n := 2) runUnderlying69 rfl rfl sizeOf52 rfl) <| J.p rfl (Q.ldN (vs := [_, _, _, _, _, _, _, _, _]) isAgg52 sizeOf52 rfl ((rd_cast (rd_sub (us := q.x.cells) (rd_elem QW.len hrd hq rfl) 2 rfl) (by simp)).inI)) ?_
     refine J.callI call12 (rcheck_spec G q.x hqo.x) rfl rfl rfl ?_
     rintro _ _ ⟨rfl, rfl⟩
     refine J.norm rfl <| J.p rfl (Q.neq rfl rfl) <| J.nil <| J.then_n ?_
     refine J.kases 48 rfl (fun hc48 => ?_) (fun hc48 => ?_)
     ·
      refine J.cond_t rfl <| J.seq <| J.region <| J.p rfl (Q.asg rfl) <| J.p rfl (Q.asg rfl) <| J.p rfl (Q.asg rfl) <| J.nil <| J.then_n <| J.cret <| J.then_r <| J.blk_r <| J.cut_r <| J.blk_r <| J.then_r <| J.lp_r <| J.blk_r <| J.then_r ?_
      refine J.keepI ([G] ++ [F]) ?_
      refine J.give (X := star ([] : List Assn)) trivial ?_
      refine J.ret3 (B := [star ([] : List Assn), G]) rfl rfl rfl rfl ⟨_, none, 0, 0, none, 0, 0, false, rfl, fun h => (by cases h), rfl⟩ rfl
     refine J.cond_f rfl <| J.cskip <| J.then_n <| J.seq ?_
     have hw1 : q.way = 1 := by omega
     have hchk : q.x.o.chkB = true := by
      rw [chk_eq]
      cases h : q.x.o.chkR with
      | true => rfl
      | false => rw [h] at hc48; simp at hc48
     have hcm : q.cmd = opB q.x.o := by unfold QW.cmd; rw [if_pos hw1]
     refine J.region <| J.m rfl <| J.m rfl <| J.m rfl <| J.p rfl (Q.ia runUnderlying22 sizeOf69 rfl rfl (by omega) (by omega)) <| J.p rfl (Q.fa (n := 2) runUnderlying69 rfl rfl sizeOf52 rfl) <| J.p rfl (Q.ldN (vs := [_, _, _, _, _, _, _, _, _]) isAgg52 sizeOf52 rfl ((rd_cast (rd_sub (us := q.x.cells) (rd_elem QW.len hrd hq rfl) 2 rfl) (by simp)).inI)) ?_
     refine J.c rfl rfl (C.bslG (l := [_, _, _, _, _, _, _, _, _]) runUnderlying39 sizeOf52 zeroValue52 (by decide) rfl rfl rfl rfl rfl) ?_
     rintro _ _ ⟨b55, rfl, rfl⟩
     refine J.norm rfl ?_
     refine J.c rfl rfl (C.appI runUnderlying39 runUnderlying39 typeInfo52 sizeOf52 zeroValue52 rfl rfl (SlR.ptI rfl) (OW.one q.x) (by simp [Tryz.t52] <;> omega) (by decide)) ?_
     rintro _ _ ⟨p56, c56, rfl, rfl⟩
     refine J.norm rfl <| J.p rfl (Q.asg rfl) <| J.nil <| J.then_n <| J.seq <| J.region <| J.m rfl <| J.m rfl <| J.p rfl (Q.ia runUnderlying22 sizeOf69 rfl rfl (by omega) (by omega)) <| J.p rfl (Q.fa (n := 2) runUnderlying69 rfl rfl sizeOf52 rfl) <| J.p rfl (Q.ldN (vs := [_, _, _, _, _, _, _, _, _]) isAgg52 sizeOf52 rfl ((rd_cast (rd_sub (us := q.x.cells) (rd_elem QW.len hrd hq rfl) 2 rfl) (by simp)).inI)) ?_
     refine J.callI call14 (opCommand_spec G q.x hqo.x (chk_fine hchk hqo.ids.1 hqo.ids.2)) rfl rfl rfl ?_
     rintro _ _ ⟨q62, d62, rfl, rfl⟩
     refine J.norm rfl <| J.p rfl (Q.asg rfl) <| J.nil <| J.then_n <| J.region <| J.m rfl <| J.m rfl <| J.p rfl (Q.ia runUnderlying22 sizeOf69 rfl rfl (by omega) (by omega)) <| J.p rfl (Q.fa (n := 2) runUnderlying69 rfl rfl sizeOf52 rfl) <| J.p rfl (Q.ldN (vs := [_, _, _, _, _, _, _, _, _]) isAgg52 sizeOf52 rfl ((rd_cast (rd_sub (us := q.x.cells) (rd_elem QW.len hrd hq rfl) 2 rfl) (by simp)).inI)) ?_
     refine J.p rfl (Q.fa (n := 3) runUnderlying71 rfl rfl sizeOf52 rfl) ?_
     refine J.c0 rfl (C.stNO (E := 71) (sz := 12) (b := b9) (off := 0) (n := 1) (c := 1) (xs := [(⟨q.index, false, false, bareW O0⟩ : RCW)].flatMap RCW.cells) (vs := q.x.cells) 3 sizeOf52 rfl rfl rfl (by show 3 + 9 ≤ 12; omega) rfl) ?_
     rintro _ _ ⟨rfl, rfl⟩
     refine J.norm rfl ?_
     rw [show splice ([(⟨q.index, false, false, bareW O0⟩ : RCW)].flatMap RCW.cells) 3 q.x.cells = [(⟨q.index, false, false, q.x⟩ : RCW)].flatMap RCW.cells from rfl]
     refine J.nil <| J.blk_n ?_
     refine J.shutI [wrO q62 d62 (opB q.x.o), star (ows.map CW.asn)] (star ((ows ++ [(⟨0, opB q.x.o, q62, d62⟩ : CW)]).map CW.asn)) (star_snoc (f := CW.asn) (l := ows) ⟨0, opB q.x.o, q62, d62⟩) ?_
     have e1 : ops.length + 1 = (ops ++ [q.x]).length := by simp
     have e2 : ops.flatMap OW.cells ++ q.x.cells = (ops ++ [q.x]).flatMap OW.cells := by simp
     rw [e1, e2]
     exact J.meetI ⟨q62, d62, ows ++ [(⟨0, opB q.x.o, q62, d62⟩ : CW)], ⟨q.index, false, false, q.x⟩, ops ++ [q.x], p56, c56⟩
      ⟨fun _ => hchk, .inl ⟨⟨0, opB q.x.o, q62, d62⟩, List.mem_append_right _ List.mem_cons_self, rfl, rfl, hcm⟩, fun w hw => List.mem_append_left _ hw, ⟨rfl, rfl⟩, fun _ => ⟨rfl, rfl⟩, by simp, fun y hy => (by
       rcases List.mem_append.1 hy with h | h
       · exact hz.oo y h
       · rw [List.mem_singleton.1 h]; exact hqo.x), by simp [bulks, OM.bulk]⟩ ⟨rfl, rfl, rfl, rfl, rfl, rfl, (by show _ = some (Value.slice q62 q.cmd.length d62); rw [hcm]; rfl), trivial⟩
    refine J.cond_f rfl <| J.seq <| J.region <| J.p rfl (Q.eql rfl rfl) <| J.p rfl (Q.asg rfl) <| J.nil <| J.then_n ?_
    refine J.kases 69 rfl (fun hc69 => ?_) (fun hc69 => ?_)
    ·
     refine J.cond_t rfl <| J.seq <| J.region <| J.m rfl <| J.m rfl <| J.p rfl (Q.ia runUnderlying22 sizeOf69 rfl rfl (by omega) (by omega)) <| J.p rfl (Q.fa (n := 11) runUnderlying69 rfl rfl sizeOf67 rfl) <| J.p rfl (Q.ldN (vs := [_, _, _, _, _, _, _, _, _]) isAgg67 sizeOf67 rfl ((rd_cast (rd_sub (us := q.z.cells) (rd_elem QW.len hrd hq rfl) 11 rfl) (by simp)).inI)) ?_
     refine J.callI call18 (pointCommand_spec G q.z hqo.z) rfl rfl rfl ?_
     rintro _ _ ⟨q76, d76, rfl, rfl⟩
     refine J.norm rfl <| J.p rfl (Q.asg rfl) <| J.nil <| J.then_n <| J.region <| J.p rfl (Q.fa (n := 2) runUnderlying71 rfl rfl sizeOf4 rfl) ?_
     refine J.c0 rfl (C.st1O (E := 71) (sz := 12) (b := b9) (off := 0) (n := 1) (c := 1) (xs := [(⟨q.index, false, false, bareW O0⟩ : RCW)].flatMap RCW.cells) 2 sizeOf4 rfl rfl rfl rfl (by show 2 + 1 ≤ 12; omega)) ?_
     rintro _ _ ⟨rfl, rfl⟩
     refine J.norm rfl ?_
     rw [show ([(⟨q.index, false, false, bareW O0⟩ : RCW)].flatMap RCW.cells).set 2 (.bool true) = [(⟨q.index, false, true, bareW O0⟩ : RCW)].flatMap RCW.cells from rfl]
     refine J.nil <| J.blk_n ?_
     have hw1 : ¬ q.way = 1 := by omega
     have hw2 : q.way = 2 := by omega
     have hcm : q.cmd = ptrB q.z.o := by unfold QW.cmd; rw [if_neg hw1, if_pos hw2]
     refine J.shutI [wrO q76 d76 (ptrB q.z.o), star (ows.map CW.asn)] (star ((ows ++ [(⟨0, ptrB q.z.o, q76, d76⟩ : CW)]).map CW.asn)) (star_snoc (f := CW.asn) (l := ows) ⟨0, ptrB q.z.o, q76, d76⟩) ?_
     exact J.meetI ⟨q76, d76, ows ++ [(⟨0, ptrB q.z.o, q76, d76⟩ : CW)], ⟨q.index, false, true, bareW O0⟩, ops, p7, c7⟩
      ⟨fun h => absurd h hw1, .inl ⟨⟨0, ptrB q.z.o, q76, d76⟩, List.mem_append_right _ List.mem_cons_self, rfl, rfl, hcm⟩, fun w hw => List.mem_append_left _ hw, ⟨rfl, rfl⟩, fun h => absurd h hw1, by show ops.length ≤ _; omega, hz.oo, by show bulks ops ≤ _; omega⟩ ⟨rfl, rfl, rfl, rfl, rfl, rfl, (by show _ = some (Value.slice q76 q.cmd.length d76); rw [hcm]; rfl), trivial⟩
    refine J.cond_f rfl <| J.region <| J.m rfl <| J.m rfl <| J.p rfl (Q.ia runUnderlying22 sizeOf69 rfl rfl (by omega) (by omega)) <| J.p rfl (Q.fa (n := 20) runUnderlying69 rfl rfl sizeOf42 rfl) <| J.p rfl (Q.ld isAgg42 rfl ((((rd_elem QW.len hrd hq rfl) 20 (.slice q.rp q.raw.length q.rc) rfl).cast (by simp)).inI)) <| J.p rfl (Q.asg rfl) ?_
    refine J.nil <| J.blk_n ?_
    have hw1 : ¬ q.way = 1 := by omega
    have hw2 : ¬ q.way = 2 := by omega
    have hcm : q.cmd = q.raw := by unfold QW.cmd; rw [if_neg hw1, if_neg hw2]
    exact J.meetI ⟨q.rp, q.rc, ows, ⟨q.index, false, false, bareW O0⟩, ops, p7, c7⟩
     ⟨fun h => absurd h hw1, .inr ⟨rfl, rfl, hcm⟩, fun w hw => hw, ⟨rfl, rfl⟩, fun h => absurd h hw1, by show ops.length ≤ _; omega, hz.oo, by show bulks ops ≤ _; omega⟩ ⟨rfl, rfl, rfl, rfl, rfl, rfl, (by show _ = some (Value.slice q.rp q.cmd.length q.rc); rw [hcm]; rfl), trivial⟩
   refine J.norm rfl ?_
   obtain ⟨vp, vc, vows, vr, vops, vp7, vc7⟩ := v
   have hvo := hv.ol
   dsimp only at hvo ⊢
   have hcl : q.cmd.length ≤ 1099511627776 := by
    unfold QW.cmd
    split
    · rename_i h1
      have := opB_len (chk_fine (hv.chk h1) hqo.ids.1 hqo.ids.2); omega
    · split
      · have := ptrB_len (p := q.z.o) ⟨hqt.1, hqt.2.1, hqt.2.2⟩ ⟨hqn.1, hqn.2.1⟩; omega
      · omega
   refine J.tellsI (star (vows.map CW.asn)) cws_ok fun hcw => ?_
   have hslp : SlP (star [star (vows.map CW.asn), G]) vp vc q.cmd := by
    rcases hv.cf with ⟨w, h1, h2, h3, h4⟩ | ⟨h1, h2, h3⟩
    · have h2 : vp = w.p := h2
      have h3 : vc = w.c := h3
      have h4 : q.cmd = w.bs := h4
      rw [h2, h3, h4]
      exact (hcw w h1 (by rw [← h4]; exact hcl)).into 0 rfl
    · have h1 : vp = q.rp := h1
      have h2 : vc = q.rc := h2
      have h3 : q.cmd = q.raw := h3
      rw [h1, h2, h3]
      exact hqo.raw.into 1 rfl
   refine J.cut (fun u : XZ => u.ok q oys) (fun _ => [(0, .slice (some ⟨b, off, none⟩) l.length lc), (5, .slice p5 cs.length c5), (6, .slice p6 rws.length c6), (7, .slice vp7 vops.length vc7), (8, .int .i64 i), (9, .pointer (some ⟨b9, 0, none⟩)), (10, .slice vp q.cmd.length vc)])
    (fun u => [own 71 12 (.slice (some ⟨b9, 0, none⟩) 1 1) ([u.r].flatMap RCW.cells), own 56 2 (.slice p5 cs.length c5) (cs.flatMap CW.cells), star (vows.map CW.asn), own 71 12 (.slice p6 rws.length c6) (rws.flatMap RCW.cells), star (u.oys.map OW.asn), own 52 9 (.slice vp7 vops.length vc7) (vops.flatMap OW.cells), G, F]) ?_ fun u hu => ?_
   ·
    refine J.seq <| J.region <| J.m rfl <| J.m rfl <| J.p rfl (Q.ia runUnderlying22 sizeOf69 rfl rfl (by omega) (by omega)) <| J.p rfl (Q.fa (n := 1) runUnderlying69 rfl rfl sizeOf3 rfl) <| J.p rfl (Q.ld isAgg3 rfl ((((rd_elem QW.len hrd hq rfl) 1 (.int .i64 q.way) rfl).cast (by simp)).inI)) <| J.p rfl (Q.neq rfl rfl) <| J.nil <| J.then_n ?_
    refine J.kases 83 rfl (fun hc83 => ?_) (fun hc83 => ?_)
    ·
     refine J.cond_t rfl <| J.seq ?_
     have hw1 : ¬ q.way = 1 := by omega
     have hdm : q.dm = decM q.cmd := by unfold QW.dm; rw [if_neg hw1]
     obtain ⟨vi, vbad, vpoint, vx⟩ := vr
     have hvi : vi = q.index := hv.ri.1
     subst hvi
     refine J.shutI [star (vows.map CW.asn), G] (star [star (vows.map CW.asn), G]) (fun _ s => s) ?_
     refine J.region <| J.m rfl ?_
     refine J.callI call19 (decode_any q.cmd hcl (star [star (vows.map CW.asn), G]) vp vc hslp) rfl rfl rfl ?_
     rintro _ _ ⟨y, zp, rfl, hyo, hyk, rfl⟩
     refine J.norm rfl ?_
     rw [← hdm] at hyo ⊢
     refine J.m rfl <| J.p rfl (Q.ext rfl rfl) <| J.p rfl (Q.ext rfl rfl) <| J.p rfl (Q.ext rfl rfl) <| J.p rfl (Q.ext rfl rfl) ?_
     refine J.c rfl rfl (C.alloc (l := [_, _, _, _, _, _, _, _, _]) zeroValue52 rfl) ?_
     rintro _ _ ⟨b11, rfl, rfl⟩
     refine J.norm rfl ?_
     refine J.c rfl rfl (C.alloc (l := [_, _, _, _, _, _, _, _, _]) zeroValue67 rfl) ?_
     rintro _ _ ⟨b12, rfl, rfl⟩
     refine J.norm rfl ?_
     refine J.stAJ (vs := [_, _, _, _, _, _, _, _, _]) rfl sizeOf52 rfl rfl ?_
     refine J.stAJ (vs := [_, _, _, _, _, _, _, _, _]) rfl sizeOf67 rfl rfl ?_
     refine J.p rfl (Q.asg rfl) <| J.p rfl (Q.asg rfl) <| J.nil <| J.then_n <| J.seq <| J.region <| J.m rfl <| J.p rfl (Q.neq rfl rfl) ?_
     refine J.slot 92 (.bool q.dm.bad) rfl (by cases q.dm.bad <;> rfl) ?_
     refine J.p rfl (Q.fa (n := 1) runUnderlying71 rfl rfl sizeOf4 rfl) ?_
     refine J.c0 rfl (C.st1O (E := 71) (sz := 12) (b := b9) (off := 0) (n := 1) (c := 1) (xs := [(⟨q.index, vbad, vpoint, vx⟩ : RCW)].flatMap RCW.cells) 1 sizeOf4 rfl rfl rfl rfl (by show 1 + 1 ≤ 12; omega)) ?_
     rintro _ _ ⟨rfl, rfl⟩
     refine J.norm rfl ?_
     rw [show ([(⟨q.index, vbad, vpoint, vx⟩ : RCW)].flatMap RCW.cells).set 1 (.bool q.dm.bad) = [(⟨q.index, q.dm.bad, vpoint, vx⟩ : RCW)].flatMap RCW.cells from rfl]
     refine J.nil <| J.then_n <| J.seq <| J.region <| J.m rfl <| J.p rfl (Q.fa (n := 2) runUnderlying71 rfl rfl sizeOf4 rfl) ?_
     refine J.c0 rfl (C.st1O (E := 71) (sz := 12) (b := b9) (off := 0) (n := 1) (c := 1) (xs := [(⟨q.index, q.dm.bad, vpoint, vx⟩ : RCW)].flatMap RCW.cells) 2 sizeOf4 rfl rfl rfl rfl (by show 2 + 1 ≤ 12; omega)) ?_
     rintro _ _ ⟨rfl, rfl⟩
     refine J.norm rfl ?_
     rw [show ([(⟨q.index, q.dm.bad, vpoint, vx⟩ : RCW)].flatMap RCW.cells).set 2 (.bool q.dm.point) = [(⟨q.index, q.dm.bad, q.dm.point, vx⟩ : RCW)].flatMap RCW.cells from rfl]
     refine J.nil <| J.then_n <| J.region ?_
     refine J.p rfl (Q.ldN (vs := [_, _, _, _, _, _, _, _, _]) isAgg52 sizeOf52 rfl rnI) ?_
     refine J.p rfl (Q.fa (n := 3) runUnderlying71 rfl rfl sizeOf52 rfl) ?_
     refine J.c0 rfl (C.stNO (E := 71) (sz := 12) (b := b9) (off := 0) (n := 1) (c := 1) (xs := [(⟨q.index, q.dm.bad, q.dm.point, vx⟩ : RCW)].flatMap RCW.cells) (vs := y.cells) 3 sizeOf52 rfl rfl rfl (by show 3 + 9 ≤ 12; omega) rfl) ?_
     rintro _ _ ⟨rfl, rfl⟩
     refine J.norm rfl ?_
     rw [show splice ([(⟨q.index, q.dm.bad, q.dm.point, vx⟩ : RCW)].flatMap RCW.cells) 3 y.cells = [(⟨q.index, q.dm.bad, q.dm.point, y⟩ : RCW)].flatMap RCW.cells from rfl]
     refine J.nil ?_
     refine J.unpackI [star (vows.map CW.asn), G] ?_
     refine J.norm rfl ?_
     refine J.shutI [y.asn, star (oys.map OW.asn)] (star ((oys ++ [y]).map OW.asn)) (star_snoc _) ?_
     exact J.meetI ⟨⟨q.index, q.dm.bad, q.dm.point, y⟩, oys ++ [y]⟩ ⟨rfl, ⟨rfl, rfl, hyo⟩, .inl (List.mem_append_right _ List.mem_cons_self), fun w hw => List.mem_append_left _ hw, fun w hw => (by
      rcases List.mem_append.1 hw with h | h
      · exact hz.oy w h
      · rw [List.mem_singleton.1 h]; exact hyk)⟩ ⟨rfl, rfl, rfl, rfl, rfl, rfl, rfl, trivial⟩
    refine J.cond_f rfl <| J.cskip ?_
    have hw1 : q.way = 1 := by omega
    have hdm : q.dm = ⟨q.x.o, false, false⟩ := by unfold QW.dm; rw [if_pos hw1]
    exact J.meetI ⟨vr, oys⟩ ⟨hv.ri.1, ⟨by rw [hdm]; exact hv.ri.2, by rw [hdm]; exact (hv.rx hw1).1, by rw [hdm]; show vr.x.o = q.x.o; rw [show vr.x = q.x from (hv.rx hw1).2]⟩, .inr (hv.rx hw1).2, fun w hw => hw, hz.oy⟩ ⟨rfl, rfl, rfl, rfl, rfl, rfl, rfl, trivial⟩
   refine J.norm rfl ?_
   obtain ⟨ur, uoys⟩ := u
   dsimp only
   refine J.seq <| J.region <| J.m rfl <| J.m rfl <| J.m rfl <| J.p rfl (Q.ia runUnderlying22 sizeOf69 rfl rfl (by omega) (by omega)) <| J.p rfl (Q.fa (n := 0) runUnderlying69 rfl rfl sizeOf40 rfl) <| J.p rfl (Q.ld isAgg40 rfl ((((rd_elem QW.len hrd hq rfl) 0 (.int .u64 q.index) rfl).cast (by simp)).inI)) <| J.m rfl ?_
   refine J.p rfl (Q.bld (l := CW.cells ⟨q.index, q.cmd, vp, vc⟩) runUnderlying56 zeroValue56 places56 rfl (by kernel_rfl)) ?_
   refine J.c rfl rfl (C.bslG (l := [_, _]) runUnderlying25 sizeOf56 zeroValue56 (by decide) rfl rfl rfl rfl rfl) ?_
   rintro _ _ ⟨b106, rfl, rfl⟩
   refine J.norm rfl ?_
   refine J.c rfl rfl (C.appI runUnderlying25 runUnderlying25 typeInfo56 sizeOf56 zeroValue56 rfl rfl (SlR.ptI rfl) (CW.one ⟨q.index, q.cmd, vp, vc⟩) (by simp [Tryz.t56] <;> omega) (by decide)) ?_
   rintro _ _ ⟨p107, c107, rfl, rfl⟩
   refine J.norm rfl <| J.p rfl (Q.asg rfl) <| J.nil <| J.then_n <| J.region <| J.m rfl ?_
   refine J.p rfl (Q.ldN (vs := [_, _, _, _, _, _, _, _, _, _, _, _]) isAgg71 sizeOf71 rfl (rnO RCW.len (l := [ur]) (i := 0) rfl (by simp))) ?_
   refine J.c rfl rfl (C.bslG (l := [_, _, _, _, _, _, _, _, _, _, _, _]) runUnderlying26 sizeOf71 zeroValue71 (by decide) rfl rfl rfl rfl rfl) ?_
   rintro _ _ ⟨b110, rfl, rfl⟩
   refine J.norm rfl ?_
   refine J.c rfl rfl (C.appI runUnderlying26 runUnderlying26 typeInfo71 sizeOf71 zeroValue71 rfl rfl (SlR.ptI rfl) (RCW.one ur) (by simp [Tryz.t71] <;> omega) (by decide)) ?_
   rintro _ _ ⟨p111, c111, rfl, rfl⟩
   refine J.norm rfl <| J.p rfl (Q.asg rfl) <| J.nil <| J.blk_n <| J.then_n <| J.region <| J.m rfl <| J.p rfl (Q.add64 rfl rfl (by omega)) <| J.p rfl (Q.asg rfl) <| J.nil ?_
   have e1 : cs.length + 1 = (cs ++ [(⟨q.index, q.cmd, vp, vc⟩ : CW)]).length := by simp
   have e2 : cs.flatMap CW.cells ++ CW.cells ⟨q.index, q.cmd, vp, vc⟩ = (cs ++ [(⟨q.index, q.cmd, vp, vc⟩ : CW)]).flatMap CW.cells := by simp
   have e3 : rws.length + 1 = (rws ++ [ur]).length := by simp
   have e4 : rws.flatMap RCW.cells ++ ur.cells = (rws ++ [ur]).flatMap RCW.cells := by simp
   rw [e1, e2, e3, e4]
   refine J.againI ⟨i + 1, cs ++ [(⟨q.index, q.cmd, vp, vc⟩ : CW)], vows, p107, c107, rws ++ [ur], uoys, p111, c111, vops, vp7, vc7⟩ ?_ (by show l.length - (i + 1) < l.length - i; omega) ⟨(by show _ = some (Value.slice lp l.length lc); rw [hlp]; rfl), rfl, rfl, rfl, rfl, trivial⟩
   refine ⟨by show i + 1 ≤ _; omega, ?_, by show (cs ++ [_]).length = i + 1; rw [← e1, hzc], ?_, by show (rws ++ [ur]).length = i + 1; rw [← e3, hzr], ?_, hu.oy, by show vops.length ≤ i + 1; omega, hv.oo, ?_⟩
   · intro j q2 hj hq2 hw
     rcases Nat.lt_or_ge j i with h | h
     · exact hz.chk j q2 h hq2 hw
     · obtain rfl : j = i := by have : j < i + 1 := hj
                                omega
       rw [hq] at hq2; cases hq2; exact hv.chk hw
   · intro j c q2 hc hq2
     have hc : (cs ++ [(⟨q.index, q.cmd, vp, vc⟩ : CW)])[j]? = some c := hc
     rcases Nat.lt_or_ge j cs.length with h | h
     · rw [List.getElem?_append_left h] at hc
       obtain ⟨g1, g2, g3⟩ := hz.cs j c q2 hc hq2
       exact ⟨g1, g2, g3.imp (fun ⟨w, k1, k2⟩ => ⟨w, hv.sub w k1, k2⟩) id⟩
     · have hk := (List.getElem?_eq_some_iff.1 hc).1
       rw [← e1] at hk
       obtain rfl : j = i := by omega
       rw [List.getElem?_append_right h, hzc, Nat.sub_self] at hc
       cases hc
       rw [hq] at hq2; cases hq2
       exact ⟨rfl, rfl, hv.cf⟩
   · intro j r q2 hr hq2
     have hr : (rws ++ [ur])[j]? = some r := hr
     rcases Nat.lt_or_ge j rws.length with h | h
     · rw [List.getElem?_append_left h] at hr
       obtain ⟨g1, g2, g3, g4, g5⟩ := hz.rs j r q2 hr hq2
       exact ⟨g1, g2, g3, g4, g5.imp (fun k => hu.sub _ k) id⟩
     · have hk := (List.getElem?_eq_some_iff.1 hr).1
       rw [← e3] at hk
       obtain rfl : j = i := by omega
       rw [List.getElem?_append_right h, hzr, Nat.sub_self] at hr
       cases hr
       rw [hq] at hq2; cases hq2
       exact ⟨hu.ri, hu.rb.1, hu.rb.2.1, hu.rb.2.2, hu.ry⟩
   · show bulks vops ≤ qbulk (l.take (i + 1))
     rw [qbulk_take hq]
     have h1 := hv.ob
     have h2 := hz.ob
     dsimp only at h1 h2
     omega
  refine J.cond_f rfl <| J.exit <| J.then_x <| J.lp_x <| J.blk_x <| J.then_n <| J.seq ?_
  refine J.slrI (E0 := 52) (sz := 9) (p := p7) (n := ops.length) (c := c7) (xs := ops.flatMap OW.cells) fun hso => ?_
  refine J.shutI [own 52 9 (.slice p7 ops.length c7) (ops.flatMap OW.cells), G] (star [own 52 9 (.slice p7 ops.length c7) (ops.flatMap OW.cells), G]) (fun _ s => s) ?_
  have hops : Ops (star [own 52 9 (.slice p7 ops.length c7) (ops.flatMap OW.cells), G]) p7 ops.length c7 ops := ⟨hso.into 0 rfl, fun y hy => ow_into 1 (hz.oo y hy) rfl, by omega⟩
  have hbk : bulks ops ≤ 1048576 := by
   have h1 := hz.ob
   have h2 := qbulk_le l i
   dsimp only at h1
   omega
  refine J.region <| J.m rfl <| J.m rfl <| J.m rfl ?_
  refine J.callI call10 (few_spec (star [own 52 9 (.slice p7 ops.length c7) (ops.flatMap OW.cells), G]) p7 ops.length c7 ops hops hbk) rfl rfl rfl ?_
  rintro _ _ ⟨f, hf, rfl, rfl⟩
  refine J.norm rfl ?_
  refine J.unpackI [own 52 9 (.slice p7 ops.length c7) (ops.flatMap OW.cells), G] ?_
  refine J.norm rfl <| J.p rfl (Q.asg rfl) <| J.p rfl (Q.asg rfl) <| J.p rfl (Q.asg rfl) <| J.nil <| J.then_n <| J.cret ?_
  have hin : i = l.length := by omega
  refine J.shutI [own 56 2 (.slice p5 cs.length c5) (cs.flatMap CW.cells), star (ows.map CW.asn), own 71 12 (.slice p6 rws.length c6) (rws.flatMap RCW.cells), star (oys.map OW.asn)] (star [own 56 2 (.slice p5 cs.length c5) (cs.flatMap CW.cells), star (ows.map CW.asn), own 71 12 (.slice p6 rws.length c6) (rws.flatMap RCW.cells), star (oys.map OW.asn)]) (fun _ s => s) ?_
  refine J.keepI ([star [own 56 2 (.slice p5 cs.length c5) (cs.flatMap CW.cells), star (ows.map CW.asn), own 71 12 (.slice p6 rws.length c6) (rws.flatMap RCW.cells), star (oys.map OW.asn)], G] ++ [F]) ?_
  refine J.ret3 (B := [star [own 56 2 (.slice p5 cs.length c5) (cs.flatMap CW.cells), star (ows.map CW.asn), own 71 12 (.slice p6 rws.length c6) (rws.flatMap RCW.cells), star (oys.map OW.asn)], G]) rfl rfl rfl rfl ⟨_, p5, cs.length, c5, p6, rws.length, c6, f, rfl, fun _ => ⟨hl300, ⟨i, cs, ows, p5, c5, rws, oys, p6, c6, ops, p7, c7⟩, hz, hin, rfl, rfl, rfl, rfl, rfl, rfl, rfl⟩, rfl⟩ rfl

theorem decM_good {bs : List UInt8} (hb : (decM bs).bad = false) (hp : (decM bs).point = false) : (decM bs).o.chkB = true ∧ (decM bs).o.id ≤ U64 := by
  unfold decM at hb hp ⊢
  split at hb
  · rename_i h1
    rw [if_pos h1] at hp ⊢
    split at hb
    · rename_i h2
      rw [if_pos h2]
      simp only [Bool.and_eq_true] at h2
      exact ⟨h2.1.2, RS.num_bd _⟩
    · cases hb
  · rename_i h1
    rw [if_neg h1] at hp ⊢
    split at hb
    · rename_i h2
      rw [if_pos h2] at hp
      split at hb
      · rename_i h3
        rw [if_pos h3] at hp; cases hp
      · cases hb
    · cases hb
theorem QZ.ok.good {G : Assn} {l : List QW} {z : QZ} (h : z.ok G l) (hi : z.i = l.length) (hq : ∀ q, q ∈ l → q.ok G) {j : Nat} {q : QW} (hj : l[j]? = some q) (hb : q.dm.bad = false) (hp : q.dm.point = false) : q.dm.o.chkB = true ∧ q.dm.o.id ≤ U64 := by
  unfold QW.dm at hb hp ⊢
  split
  · rename_i hw
    exact ⟨h.chk j q (by rw [hi]; exact (List.getElem?_eq_some_iff.1 hj).1) hj hw, (hq q (List.mem_of_getElem? hj)).ids.1⟩
  · rename_i hw
    rw [if_neg hw] at hb hp
    exact decM_good hb hp
theorem QZ.ok.row {G : Assn} {l : List QW} {z : QZ} (h : z.ok G l) (hi : z.i = l.length) {r : RCW} (hr : r ∈ z.rws) : ∃ (j : Nat) (q : QW), z.rws[j]? = some r ∧ l[j]? = some q := by
  obtain ⟨j, hj⟩ := List.getElem?_of_mem hr
  have := (List.getElem?_eq_some_iff.1 hj).1
  have := h.rl
  exact ⟨j, _, hj, List.getElem?_eq_getElem (by omega)⟩
theorem QZ.ok.sm {G : Assn} {l : List QW} {z : QZ} (h : z.ok G l) (hi : z.i = l.length) : z.rws.map RCW.m = (l.map QW.dm).map DM.m := by
  have h1 := h.rl
  refine List.ext_getElem? fun j => ?_
  rcases Nat.lt_or_ge j l.length with q | q
  · obtain ⟨r, hr⟩ : ∃ r, z.rws[j]? = some r := ⟨_, List.getElem?_eq_getElem (by omega)⟩
    obtain ⟨w, hw⟩ : ∃ w, l[j]? = some w := ⟨_, List.getElem?_eq_getElem (by omega)⟩
    obtain ⟨_, _, g3, g4, _⟩ := h.rs j r w hr hw
    rw [List.getElem?_map, List.getElem?_map, List.getElem?_map, hr, hw]
    show some (SM.mk r.x.o r.point) = some (SM.mk w.dm.o w.dm.point)
    rw [g3, g4]
  · rw [List.getElem?_eq_none (by rw [List.length_map]; omega), List.getElem?_eq_none (by rw [List.length_map, List.length_map]; omega)]

theorem oys_ok {oys : List OW} (hs : ∀ y, y ∈ oys → y.ok y.asn) {y : OW} (hy : y ∈ oys) : y.ok (star (oys.map OW.asn)) := by
  obtain ⟨i, hi⟩ := List.getElem?_of_mem hy
  exact ow_into i (hs y hy) (by rw [List.getElem?_map, hi]; rfl)
structure XTells (z : QZ) (X : Assn) : Prop where
  c : SlR [X] 2 (.slice z.p5 z.cs.length z.c5) (z.cs.flatMap CW.cells)
  w : ∀ w, w ∈ z.ows → w.bs.length ≤ 1099511627776 → SlP X w.p w.c w.bs
  r : SlR [X] 12 (.slice z.p6 z.rws.length z.c6) (z.rws.flatMap RCW.cells)
theorem x_tells (z : QZ) : ∀ h, star z.mem h → XTells z (star z.mem) := by
  intro h hh
  have hh' : HSat h z.mem := hh
  obtain ⟨h1, h2, a, ⟨k1, k2, b, ⟨m1, m2, c, _, _, _, _⟩, _, _, _⟩, _, _, _⟩ := hh'
  exact ⟨(own.slr (i := 0) rfl ⟨h1, X.G.HSat.one a⟩ : SlR [own 56 2 _ _] 2 _ _).into 0 rfl, fun w hw hn => (cws_ok k1 b w hw hn).into 1 rfl, (own.slr (i := 0) rfl ⟨m1, X.G.HSat.one c⟩ : SlR [own 71 12 _ _] 12 _ _).into 2 rfl⟩

def ChkR (fs : List FM) (T : TypeId) (K : Assn) (u : Value) (B : List Assn) : Prop := ∃ p c, u = .slice p fs.length c ∧ B = [own T 2 (.slice p fs.length c) (fs.flatMap FM.cells), K]
theorem both (G : Assn) (l : List QW) (hq : ∀ q, q ∈ l → q.ok G) (hl : l.length ≤ 300) (z : QZ) (hz : z.ok G l) (hi : z.i = l.length) (ht : XTells z (star z.mem)) (ep : Option Addr) (ec : Nat) (es : List EW) (he : Evs G ep ec es) (hel : es.length ≤ 300) (hcp : es.length ≤ ec) :
    ∃ fs : List FM, fs.length ≤ 2000 ∧ FSpec Tryz.prog 8 [.slice z.p5 z.cs.length z.c5, .slice ep es.length ec] [star [star z.mem, G]] (ChkR fs 35 (star [star z.mem, G])) ∧
      FSpec Tryz.prog 9 [.slice z.p6 z.rws.length z.c6, .slice ep es.length ec] [star [star z.mem, G]] (ChkR fs 37 (star [star z.mem, G])) := by
  have hcl := hz.cl
  have hrl := hz.rl
  have hqj : ∀ {j : Nat} {n : Nat}, j < n → n = l.length → ∃ q, l[j]? = some q := fun hj hn => ⟨_, List.getElem?_eq_getElem (by omega)⟩
  have hdec : ∀ q, q ∈ l → (q.way = 1 → q.x.o.chkB = true) → q.cmd.length ≤ 1099511627776 ∧ DecIs q.cmd q.dm := fun q hm hc => by
    have ho := hq q hm
    have hlen : q.cmd.length ≤ 1099511627776 := by
      unfold QW.cmd
      split
      · rename_i h1
        have := opB_len (chk_fine (hc h1) ho.ids.1 ho.ids.2); omega
      · split
        · have h1 := ho.z.texts
          have h2 := ho.z.nums
          have := ptrB_len (p := q.z.o) ⟨h1.1, h1.2.1, h1.2.2⟩ ⟨h2.1, h2.2.1⟩; omega
        · have := ho.raw.n; omega
    refine ⟨hlen, ?_⟩
    unfold QW.dm
    split
    · rename_i h1
      have : q.cmd = opB q.x.o := by unfold QW.cmd; rw [if_pos h1]
      rw [this]
      exact decode_op (chk_fine (hc h1) ho.ids.1 ho.ids.2) (hc h1)
    · exact decode_any q.cmd hlen
  have hchk : ∀ (j : Nat) (q : QW), l[j]? = some q → q.way = 1 → q.x.o.chkB = true := fun j q hj hw => hz.chk j q (by rw [hi]; exact (List.getElem?_eq_some_iff.1 hj).1) hj hw
  have hC : Coms (star [star z.mem, G]) z.p5 z.c5 z.cs (l.map QW.dm) := by
    refine ⟨ht.c.into 0 rfl, fun c hc => ?_, by omega, fun j c hc => ?_, by rw [List.length_map, hcl, hi]⟩
    · obtain ⟨j, hj⟩ := List.getElem?_of_mem hc
      obtain ⟨q, hqq⟩ := hqj (List.getElem?_eq_some_iff.1 hj).1 (by omega)
      obtain ⟨_, g2, g3⟩ := hz.cs j c q hj hqq
      have hm := List.mem_of_getElem? hqq
      have hlen := (hdec q hm (hchk j q hqq)).1
      rw [← g2] at hlen
      rcases g3 with ⟨w, k1, k2, k3, k4⟩ | ⟨k1, k2, k3⟩
      · rw [k2, k3]
        rw [k4] at hlen ⊢
        exact (ht.w w k1 hlen).into 0 rfl
      · rw [k1, k2, k3]; exact (hq q hm).raw.into 1 rfl
    · obtain ⟨q, hqq⟩ := hqj (List.getElem?_eq_some_iff.1 hc).1 (by omega)
      obtain ⟨_, g2, _⟩ := hz.cs j c q hc hqq
      exact ⟨q.dm, by rw [List.getElem?_map, hqq]; rfl, by rw [g2]; exact (hdec q (List.mem_of_getElem? hqq) (hchk j q hqq)).2⟩
  have hR : RComs (star [star z.mem, G]) z.p6 z.c6 z.rws := by
    refine ⟨ht.r.into 0 rfl, fun r hr => ?_, by omega⟩
    obtain ⟨j, q, h1, h2⟩ := hz.row hi hr
    obtain ⟨_, _, _, _, g5⟩ := hz.rs j r q h1 h2
    rcases g5 with g5 | g5
    · exact ow_into 0 (ow_into 3 (oys_ok hz.oy g5) rfl) rfl
    · rw [g5]; exact ow_into 1 (hq q (List.mem_of_getElem? h2)).x rfl
  have hE : Evs (star [star z.mem, G]) ep ec es := he.into 1 rfl
  have hcc : ∀ r, r ∈ z.rws → r.bad = false → r.point = false → r.x.o.chkB = true ∧ r.x.o.id ≤ U64 := fun r hr hb hp => by
    obtain ⟨j, q, h1, h2⟩ := hz.row hi hr
    obtain ⟨_, g2, g3, g4, _⟩ := hz.rs j r q h1 h2
    rw [g4]
    exact hz.good hi hq h2 (by rw [← g2]; exact hb) (by rw [← g3]; exact hp)
  by_cases hP : (∀ (j : Nat) (q : QW), l[j]? = some q → q.index = j + 1) ∧ ∀ q, q ∈ l → q.dm.bad = false
  · refine ⟨faults (begM ((l.map QW.dm).map DM.m)) (es.map EW.m), ?_, check_okK _ _ _ _ _ hC (fun j c hc => ?_) (fun d hd => ?_) ep ec es hE, ?_⟩
    · have h1 := runE_ok (begM_ok (l := (l.map QW.dm).map DM.m) (by rw [List.length_map, List.length_map]; omega)) (es.map EW.m)
      have h2 := h1.fs
      rw [List.length_map] at h2
      show (runE _ _).fs.length ≤ _
      omega
    · obtain ⟨q, hqq⟩ := hqj (List.getElem?_eq_some_iff.1 hc).1 (by omega)
      rw [(hz.cs j c q hc hqq).1]; exact hP.1 j q hqq
    · obtain ⟨q, hqm, rfl⟩ := List.mem_map.1 hd
      exact hP.2 q hqm
    · have := rcheck_okK (star [star z.mem, G]) z.p6 z.c6 z.rws hR (fun j r hr => ?_) (fun r hr => ?_) (fun r hr hp => ?_) ep ec es hE hcp
      · rw [hz.sm hi] at this; exact this
      · obtain ⟨q, hqq⟩ := hqj (List.getElem?_eq_some_iff.1 hr).1 (by omega)
        rw [(hz.rs j r q hr hqq).1]; exact hP.1 j q hqq
      · obtain ⟨j, q, h1, h2⟩ := hz.row hi hr
        rw [(hz.rs j r q h1 h2).2.1]; exact hP.2 q (List.mem_of_getElem? h2)
      · obtain ⟨j, q, h1, h2⟩ := hz.row hi hr
        exact hcc r hr (by rw [(hz.rs j r q h1 h2).2.1]; exact hP.2 q (List.mem_of_getElem? h2)) hp
  · refine ⟨[⟨1, -1⟩], by simp, check_badK _ _ _ _ _ hC (fun h => hP ⟨fun j q hj => ?_, fun q hm => h.2 _ (List.mem_map.2 ⟨q, hm, rfl⟩)⟩) ep es.length ec, rcheck_badK _ _ _ _ hR (fun h => hP ⟨fun j q hj => ?_, fun q hm => ?_⟩) hcc ep es.length ec⟩
    · have hjl := (List.getElem?_eq_some_iff.1 hj).1
      obtain ⟨c, hc⟩ : ∃ c, z.cs[j]? = some c := ⟨_, List.getElem?_eq_getElem (by omega)⟩
      rw [← (hz.cs j c q hc hj).1]; exact h.1 j c hc
    · have hjl := (List.getElem?_eq_some_iff.1 hj).1
      obtain ⟨r, hr⟩ : ∃ r, z.rws[j]? = some r := ⟨_, List.getElem?_eq_getElem (by omega)⟩
      rw [← (hz.rs j r q hr hj).1]; exact h.1 j r hr
    · obtain ⟨j, hj⟩ := List.getElem?_of_mem hm
      have hjl := (List.getElem?_eq_some_iff.1 hj).1
      obtain ⟨r, hr⟩ : ∃ r, z.rws[j]? = some r := ⟨_, List.getElem?_eq_getElem (by omega)⟩
      rw [← (hz.rs j r q hr hj).2.1]; exact h.2 r (List.mem_of_getElem? hr)

theorem checks_spec (G : Assn) (lp : Option Addr) (lc : Nat) (l : List QW) (hl : Qs G lp lc l) (ep : Option Addr) (ec : Nat) (es : List EW) (herd : SlR [G] 17 (.slice ep es.length ec) (es.flatMap EW.cells)) (heok : ∀ e, e ∈ es → e.ok G) (hes : es.length ≤ 1048576) (hcp : es.length ≤ ec) :
    FSpec Tryz.prog 3 [.slice lp l.length lc, .slice ep es.length ec] [G] (fun v B => v = .bool true ∧ B = [G]) := by
  refine FSpec.of func3 rfl ntmps3 rfl fun W0 F => ?_
  refine J.seq <| J.region <| J.p rfl (Q.asg rfl) <| J.nil <| J.then_n <| J.seq <| J.seq <| J.region ?_
  refine J.callI call6 (known_spec) rfl rfl rfl ?_
  rintro _ _ ⟨rfl, rfl⟩
  refine J.norm rfl <| J.p rfl (Q.not rfl) <| J.nil <| J.then_n <| J.cond_f rfl <| J.cskip <| J.then_n <| J.seq <| J.region <| J.m rfl ?_
  refine J.callI call7 (rows_spec G lp lc l hl) rfl rfl rfl ?_
  rintro _ _ ⟨Y, p5, n5, c5, p6, n6, c6, ok, rfl, hok, rfl⟩
  refine J.norm rfl <| J.m rfl <| J.p rfl (Q.ext rfl rfl) <| J.p rfl (Q.ext rfl rfl) <| J.p rfl (Q.ext rfl rfl) <| J.p rfl (Q.asg rfl) <| J.p rfl (Q.asg rfl) <| J.p rfl (Q.asg rfl) <| J.nil <| J.then_n <| J.seq <| J.seq <| J.region <| J.m rfl <| J.p rfl (Q.not rfl) <| J.m rfl ?_
  refine J.kases 21 rfl (fun hb21 => ?_) (fun hb21 => ?_)
  ·
   refine J.k rfl <| J.k rfl <| J.k rfl <| J.p rfl (Q.pick_t rfl rfl) <| J.nil <| J.then_n <| J.cond_t rfl <| J.seq <| J.region <| J.p rfl (Q.asg rfl) <| J.nil <| J.then_n <| J.cret <| J.then_r ?_
   refine J.ret1I [G] rfl rfl ⟨rfl, rfl⟩
  refine J.m rfl <| J.p rfl (Q.lenSl runUnderlying23 rfl) <| J.p rfl (Q.gtr rfl rfl) <| J.p rfl (Q.pick_f rfl rfl) <| J.nil <| J.then_n ?_
  refine J.kases 25 rfl (fun hc25 => ?_) (fun hc25 => ?_)
  ·
   refine J.cond_t rfl <| J.seq <| J.region <| J.p rfl (Q.asg rfl) <| J.nil <| J.then_n <| J.cret <| J.then_r ?_
   refine J.ret1I [G] rfl rfl ⟨rfl, rfl⟩
  refine J.cond_f rfl <| J.cskip <| J.then_n <| J.seq ?_
  have hel : es.length ≤ 300 := by omega
  obtain ⟨hl300, z, hz, hzi, rfl, rfl, rfl, rfl, rfl, rfl, rfl⟩ := hok (by simpa using hb21)
  refine J.tellsI (star z.mem) (x_tells z) fun ht => ?_
  obtain ⟨fs, hfl, hC, hR⟩ := both G l hl.ok hl300 z hz hzi ht ep ec es ⟨herd, heok, by omega⟩ hel hcp
  refine J.shutI [star z.mem, G] (star [star z.mem, G]) (fun _ s => s) ?_
  refine J.region <| J.m rfl <| J.m rfl ?_
  refine J.callI call8 (hC) rfl rfl rfl ?_
  rintro _ _ ⟨p28, c28, rfl, rfl⟩
  refine J.norm rfl <| J.p rfl (Q.asg rfl) <| J.nil <| J.then_n <| J.seq <| J.region <| J.m rfl <| J.m rfl ?_
  refine J.callI call9 (hR) rfl rfl rfl ?_
  rintro _ _ ⟨p31, c31, rfl, rfl⟩
  refine J.norm rfl ?_
  refine J.slrI (E0 := 35) (sz := 2) (p := p28) (n := fs.length) (c := c28) (xs := fs.flatMap FM.cells) fun hs28 => ?_
  refine J.slrI (E0 := 37) (sz := 2) (p := p31) (n := fs.length) (c := c31) (xs := fs.flatMap FM.cells) fun hs31 => ?_
  refine J.p rfl (Q.asg rfl) <| J.nil <| J.then_n <| J.seq <| J.seq <| J.region <| J.m rfl <| J.p rfl (Q.lenSl runUnderlying29 rfl) <| J.m rfl <| J.p rfl (Q.lenSl runUnderlying31 rfl) <| J.p rfl (Q.neq rfl rfl) <| J.nil <| J.then_n ?_
  refine J.cases 36 rfl (fun hc36 => ?_) (fun hc36 => ?_)
  ·
   exact absurd rfl (X.nm hc36)
  replace hc36 := X.nm hc36
  refine J.cond_f rfl <| J.cskip <| J.then_n <| J.seq <| J.seq <| J.region <| J.p rfl (Q.asg rfl) <| J.nil <| J.then_n <| J.block ?_
  refine J.keepI [own 35 2 (.slice p28 fs.length c28) (fs.flatMap FM.cells), own 37 2 (.slice p31 fs.length c31) (fs.flatMap FM.cells), star [star z.mem, G], F] ?_
  refine J.loop (fun i : Nat => i ≤ fs.length) (fun i => fs.length - i) (fun i => [(8, .slice p28 fs.length c28), (9, .slice p31 fs.length c31), (10, .int .i64 i)]) (fun _ => [own 35 2 (.slice p28 fs.length c28) (fs.flatMap FM.cells), own 37 2 (.slice p31 fs.length c31) (fs.flatMap FM.cells), star [star z.mem, G], F]) 0 (Nat.zero_le _) ⟨rfl, rfl, rfl, trivial⟩ rfl fun i hi => ?_
  refine J.seq <| J.seq <| J.region <| J.m rfl <| J.m rfl <| J.p rfl (Q.lenSl runUnderlying29 rfl) <| J.p rfl (Q.lss rfl rfl) <| J.nil <| J.then_n ?_
  refine J.kases 40 rfl (fun hc40 => ?_) (fun hc40 => ?_)
  ·
   refine J.cond_t rfl <| J.cskip <| J.then_n <| J.seq <| J.block <| J.seq ?_
   have hil : i < fs.length := by omega
   obtain ⟨b1, o1, hp1, hr1⟩ := hs28.some_ (by omega)
   obtain ⟨b2, o2, hp2, hr2⟩ := hs31.some_ (by omega)
   obtain ⟨f, hf⟩ : ∃ f, fs[i]? = some f := ⟨_, List.getElem?_eq_getElem (by omega)⟩
   refine J.slot 8 (.slice (some ⟨b1, o1, none⟩) fs.length c28) rfl (by rw [hp1]) ?_
   refine J.slot 9 (.slice (some ⟨b2, o2, none⟩) fs.length c31) rfl (by rw [hp2]) ?_
   refine J.draw [] Tryz.mixed (by kernel_rfl) fun hR => ?_
   refine RG.p 0 hR rfl (Q.mv rfl) <| RG.p 1 hR rfl (Q.mv rfl) <| RG.p 2 hR rfl (Q.ia runUnderlying29 sizeOf35 rfl rfl (by omega) (by omega)) <| RG.p 3 hR rfl (Q.fa (n := 0) runUnderlying35 rfl rfl sizeOf33 rfl) <| RG.p 4 hR rfl (Q.ld isAgg33 rfl ((((rd_elem FM.len hr1 hf rfl) 0 (.int .i64 f.rule) rfl).cast (by simp)).inI)) ?_
   refine RG.p 5 hR rfl (Q.mv rfl) <| RG.p 6 hR rfl (Q.mv rfl) <| RG.p 7 hR rfl (Q.ia runUnderlying31 sizeOf37 rfl rfl (by omega) (by omega)) <| RG.p 8 hR rfl (Q.fa (n := 0) runUnderlying37 rfl rfl sizeOf3 rfl) <| RG.p 9 hR rfl (Q.ld isAgg3 rfl ((((rd_elem FM.len hr2 hf rfl) 0 (.int .i64 f.rule) rfl).cast (by simp)).inI)) ?_
   refine RG.p 10 hR rfl (Q.neq rfl rfl) <| RG.p 11 hR rfl (Q.mv rfl) ?_
   refine RG.cases 54 rfl (fun hb54 => ?_) (fun hb54 => ?_)
   ·
    replace hb54 := X.nm hb54
    simp at hb54
   replace hb54 := X.nm hb54
   refine RG.p 12 hR rfl (Q.mv rfl) <| RG.p 13 hR rfl (Q.mv rfl) <| RG.p 14 hR rfl (Q.ia runUnderlying29 sizeOf35 rfl rfl (by omega) (by omega)) <| RG.p 15 hR rfl (Q.fa (n := 1) runUnderlying35 rfl rfl sizeOf3 rfl) <| RG.p 16 hR rfl (Q.ld isAgg3 rfl ((((rd_elem FM.len hr1 hf rfl) 1 (.int .i64 f.event) rfl).cast (by simp)).inI)) ?_
   refine RG.p 17 hR rfl (Q.mv rfl) <| RG.p 18 hR rfl (Q.mv rfl) <| RG.p 19 hR rfl (Q.ia runUnderlying31 sizeOf37 rfl rfl (by omega) (by omega)) <| RG.p 20 hR rfl (Q.fa (n := 1) runUnderlying37 rfl rfl sizeOf3 rfl) <| RG.p 21 hR rfl (Q.ld isAgg3 rfl ((((rd_elem FM.len hr2 hf rfl) 1 (.int .i64 f.event) rfl).cast (by simp)).inI)) ?_
   refine RG.p 22 hR rfl (Q.neq rfl rfl) <| RG.p 23 hR rfl (Q.pick_f rfl rfl) ?_
   refine RG.fin hR rfl ?_
   refine J.norm rfl <| J.then_n ?_
   refine J.kases 66 rfl (fun hc66 => ?_) (fun hc66 => ?_)
   ·
    simp at hc66
   refine J.cond_f rfl <| J.cskip <| J.blk_n <| J.then_n <| J.region <| J.m rfl <| J.p rfl (Q.add64 rfl rfl (by omega)) <| J.p rfl (Q.asg rfl) <| J.nil ?_
   refine J.againI (i + 1) (by show i + 1 ≤ _; omega) (by show fs.length - (i + 1) < fs.length - i; omega) ⟨(by show _ = some (Value.slice p28 fs.length c28); rw [hp1]; rfl), (by show _ = some (Value.slice p31 fs.length c31); rw [hp2]; rfl), rfl, trivial⟩
  refine J.cond_f rfl <| J.exit <| J.then_x <| J.lp_x <| J.blk_x <| J.then_n <| J.seq ?_
  refine J.unpackI [star z.mem, G] ?_
  refine J.norm rfl <| J.region <| J.p rfl (Q.asg rfl) <| J.nil <| J.then_n <| J.cret ?_
  refine J.ret1I [G] rfl rfl ⟨rfl, rfl⟩
end Go.Proofs.YtidbcaimgahllaaGreat
namespace Go.Proofs.YtidbcaimgahllaaGreat
open Go.Proofs.Tryz
open Go.RowKit
open Go.X

section
variable {H : Type} {enc : TypeId × Value → H} {W : World} {base : Nat} {spare : Nat → Bool} {held : Bool} {v : Value}
end

theorem choose_all {α : Type} {f : α → Value} {Q : α → Prop} : ∀ (css : List (List Value)), (∀ cs, cs ∈ css → ∃ d : α, cs = [f d] ∧ Q d) → ∃ ds : List α, css = ds.map (fun d => [f d]) ∧ ∀ d, d ∈ ds → Q d
  | [], _ => ⟨[], rfl, by simp⟩
  | cs :: r, h => by
    obtain ⟨d, h1, h2⟩ := h cs (by simp)
    obtain ⟨ds, h3, h4⟩ := choose_all r fun c hc => h c (List.mem_cons_of_mem _ hc)
    refine ⟨d :: ds, by rw [h1, h3]; rfl, fun x hx => ?_⟩
    cases List.mem_cons.1 hx with
    | inl e => rw [e]; exact h2
    | inr e => exact h4 x e

section
variable {H : Type} {enc : TypeId × Value → H} {W : World} {base : Nat} {spare : Nat → Bool} {held : Bool} {fuel : Nat} {v : Value} {x : DataW H × List MemPlace} {cs : List Value}
theorem cellsBool : Tryz.prog.cellsOf 4 = 1 := by kernel_rfl
theorem cellsStrs : Tryz.prog.cellsOf 41 = 1 := by kernel_rfl
theorem cellsRes : Tryz.prog.cellsOf 44 = 5 := by kernel_rfl
theorem strs_in (h : DataW.trod enc Tryz.prog W base spare held fuel 41 [v] = some x) : ∃ (p : Option Addr) (cap : Nat) (ss : List ByteArray), v = .slice p ss.length cap ∧ SlR [old W] 1 (.slice p ss.length cap) (ss.map Value.string) ∧ ss.length ≤ Rows.uptoBulk x.1 := by
  rcases elems_in underlying41 cellsStr h with ⟨rfl, _⟩ | ⟨a, len, cap, n, es, rs, css, rfl, hc, hx, hel, hcl, hcss⟩
  · exact ⟨none, 0, [], rfl, .inl ⟨none, 0, rfl, rfl⟩, by simp⟩
  · obtain ⟨ss, hds, _⟩ := choose_all (f := Value.string) (Q := fun _ => True) css (by
      intro cs hm
      obtain ⟨i, hi, he⟩ := List.mem_iff_getElem.1 hm
      have hi' : css[i]? = some cs := by rw [List.getElem?_eq_getElem hi, he]
      obtain ⟨_, _, h3⟩ := hcss i cs hi'
      obtain ⟨y, hy⟩ : ∃ y, es[i]? = some y := ⟨_, List.getElem?_eq_getElem (by omega)⟩
      rw [hy] at h3
      obtain ⟨s, k1, _⟩ := DataW.trod_string underlying9 h3
      exact ⟨s, k1, trivial⟩)
    have hl : len = ss.length := by rw [← hcl, hds, List.length_map]
    subst hl
    refine ⟨some a, cap, ss, rfl, slr_old (by simp) ?_ (by omega), by rw [hx, ← hel]; have := len_le (es := es.map (·.1)) (rs := rs); rwa [List.length_map] at this⟩
    intro i u hu
    rw [List.getElem?_map, Option.map_eq_some_iff] at hu
    obtain ⟨d, hd, rfl⟩ := hu
    have := (hcss i [.string d] (by rw [hds, List.getElem?_map, hd]; rfl)).2.1 0 (.string d) rfl
    simpa using this

theorem five {α : Type} {l : List α} (h : l.length = 5) : ∃ c0 c1 c2 c3 c4, l = [c0, c1, c2, c3, c4] := by
  match l with
  | [a, b, c, d, e] => exact ⟨a, b, c, d, e, rfl⟩
set_option maxRecDepth 100000 in
theorem res_in (h : DataW.trod enc Tryz.prog W base spare held fuel 44 cs = some x) (hb : Rows.uptoBulk x.1 ≤ 1048576) : ∃ y : RW, cs = y.cells ∧ y.ok (old W) := by
  obtain ⟨xs, m, rfl, rfl, hl, hxl, hf⟩ := DataW.trod_struct underlying44 h
  rw [cellsRes] at hl
  obtain ⟨c0, c1, c2, c3, c4, rfl⟩ : ∃ c0 c1 c2 c3 c4, cs = [c0, c1, c2, c3, c4] := five hl
  obtain ⟨x0, x1, x2, x3, x4, rfl⟩ : ∃ x0 x1 x2 x3 x4, xs = [x0, x1, x2, x3, x4] := five hxl
  have f0 : DataW.trod enc Tryz.prog W base spare held m 3 (([c0, c1, c2, c3, c4].drop 0).take (Tryz.prog.cellsOf 3)) = [x0, x1, x2, x3, x4][0]? := hf 0 _ rfl
  have f1 : DataW.trod enc Tryz.prog W base spare held m 40 (([c0, c1, c2, c3, c4].drop 1).take (Tryz.prog.cellsOf 40)) = [x0, x1, x2, x3, x4][1]? := hf 1 _ rfl
  have f2 : DataW.trod enc Tryz.prog W base spare held m 41 (([c0, c1, c2, c3, c4].drop 2).take (Tryz.prog.cellsOf 41)) = [x0, x1, x2, x3, x4][2]? := hf 2 _ rfl
  have f3 : DataW.trod enc Tryz.prog W base spare held m 4 (([c0, c1, c2, c3, c4].drop 3).take (Tryz.prog.cellsOf 4)) = [x0, x1, x2, x3, x4][3]? := hf 3 _ rfl
  have f4 : DataW.trod enc Tryz.prog W base spare held m 42 (([c0, c1, c2, c3, c4].drop 4).take (Tryz.prog.cellsOf 42)) = [x0, x1, x2, x3, x4][4]? := hf 4 _ rfl
  simp only [cellsInt, cellsU64, cellsStrs, cellsBool, cellsBytes, List.drop_zero, List.drop_succ_cons, List.take_succ_cons, List.take_zero, List.getElem?_cons_zero, List.getElem?_cons_succ] at f0 f1 f2 f3 f4
  obtain ⟨n0, e0, rfl, w0⟩ := DataW.trod_int underlying3 f0
  obtain ⟨n1, e1, rfl, w1⟩ := DataW.trod_int underlying40 f1
  obtain ⟨b3, e3, rfl⟩ := DataW.trod_bool underlying4 f3
  simp at e0 e1 e3
  subst e0 e1 e3
  have u1 := (wf_has w1).1
  obtain ⟨m1, rfl⟩ : ∃ k : Nat, n1 = k := ⟨n1.toNat, by have : (0 : Int) ≤ n1 := u1; omega⟩
  obtain ⟨p2, cap2, ss, rfl, hr2, hs2⟩ := strs_in f2
  obtain ⟨p4, len4, cap4, zs4, rfl, hc4, hz4, hr4, hw4, hx4⟩ := ints_in underlying42 underlying5 cellsU8 f4
  obtain ⟨bs, hb1, hb2⟩ := ints_bytes zs4 hw4
  have h4 : len4 = bs.length := by omega
  subst h4
  simp only [Rows.uptoBulk, List.map_cons, List.map_nil, Rows.uptoBulkAll] at hb
  have b4 : bs.length ≤ Rows.uptoBulk x4.1 := by
    rcases hx4 with ⟨_, h0⟩ | ⟨es, rs, hx, hl⟩
    · omega
    · rw [hx]; have := len_le (es := es) (rs := rs); omega
  exact ⟨⟨⟨n0, m1, ss, b3, bs⟩, p2, cap2, p4, cap4⟩, rfl, hr2, by rw [← hb2]; exact hr4, by show ss.length ≤ _ ∧ bs.length ≤ _; omega⟩
end
section
variable {H : Type} {enc : TypeId × Value → H} {W : World} {base : Nat} {spare : Nat → Bool} {held : Bool} {fuel : Nat} {v : Value} {x : DataW H × List MemPlace}
end

section
variable {H : Type} {enc : TypeId × Value → H} {W : World} {base : Nat} {spare : Nat → Bool} {held : Bool} {fuel : Nat} {v : Value} {x : DataW H × List MemPlace} {cs : List Value}
theorem cellsU32 : Tryz.prog.cellsOf 65 = 1 := by kernel_rfl
theorem cellsPtr : Tryz.prog.cellsOf 67 = 9 := by kernel_rfl
theorem cellsRow : Tryz.prog.cellsOf 69 = 21 := by kernel_rfl
theorem cellsEv : Tryz.prog.cellsOf 58 = 17 := by kernel_rfl

set_option maxRecDepth 100000 in
theorem ptr_in (h : DataW.trod enc Tryz.prog W base spare held fuel 67 cs = some x) (hb : Rows.uptoBulk x.1 ≤ 1048576) : ∃ z : PW, cs = z.cells ∧ z.ok (old W) := by
  obtain ⟨xs, m, rfl, rfl, hl, hxl, hf⟩ := DataW.trod_struct underlying67 h
  rw [cellsPtr] at hl
  obtain ⟨c0, c1, c2, c3, c4, c5, c6, c7, c8, rfl⟩ : ∃ c0 c1 c2 c3 c4 c5 c6 c7 c8, cs = [c0, c1, c2, c3, c4, c5, c6, c7, c8] := nine hl
  obtain ⟨x0, x1, x2, x3, x4, x5, x6, x7, x8, rfl⟩ : ∃ x0 x1 x2 x3 x4 x5 x6 x7 x8, xs = [x0, x1, x2, x3, x4, x5, x6, x7, x8] := nine hxl
  have f0 : DataW.trod enc Tryz.prog W base spare held m 9 (([c0, c1, c2, c3, c4, c5, c6, c7, c8].drop 0).take (Tryz.prog.cellsOf 9)) = [x0, x1, x2, x3, x4, x5, x6, x7, x8][0]? := hf 0 _ rfl
  have f1 : DataW.trod enc Tryz.prog W base spare held m 9 (([c0, c1, c2, c3, c4, c5, c6, c7, c8].drop 1).take (Tryz.prog.cellsOf 9)) = [x0, x1, x2, x3, x4, x5, x6, x7, x8][1]? := hf 1 _ rfl
  have f2 : DataW.trod enc Tryz.prog W base spare held m 40 (([c0, c1, c2, c3, c4, c5, c6, c7, c8].drop 2).take (Tryz.prog.cellsOf 40)) = [x0, x1, x2, x3, x4, x5, x6, x7, x8][2]? := hf 2 _ rfl
  have f3 : DataW.trod enc Tryz.prog W base spare held m 40 (([c0, c1, c2, c3, c4, c5, c6, c7, c8].drop 3).take (Tryz.prog.cellsOf 40)) = [x0, x1, x2, x3, x4, x5, x6, x7, x8][3]? := hf 3 _ rfl
  have f4 : DataW.trod enc Tryz.prog W base spare held m 3 (([c0, c1, c2, c3, c4, c5, c6, c7, c8].drop 4).take (Tryz.prog.cellsOf 3)) = [x0, x1, x2, x3, x4, x5, x6, x7, x8][4]? := hf 4 _ rfl
  have f5 : DataW.trod enc Tryz.prog W base spare held m 3 (([c0, c1, c2, c3, c4, c5, c6, c7, c8].drop 5).take (Tryz.prog.cellsOf 3)) = [x0, x1, x2, x3, x4, x5, x6, x7, x8][5]? := hf 5 _ rfl
  have f6 : DataW.trod enc Tryz.prog W base spare held m 3 (([c0, c1, c2, c3, c4, c5, c6, c7, c8].drop 6).take (Tryz.prog.cellsOf 3)) = [x0, x1, x2, x3, x4, x5, x6, x7, x8][6]? := hf 6 _ rfl
  have f7 : DataW.trod enc Tryz.prog W base spare held m 65 (([c0, c1, c2, c3, c4, c5, c6, c7, c8].drop 7).take (Tryz.prog.cellsOf 65)) = [x0, x1, x2, x3, x4, x5, x6, x7, x8][7]? := hf 7 _ rfl
  have f8 : DataW.trod enc Tryz.prog W base spare held m 50 (([c0, c1, c2, c3, c4, c5, c6, c7, c8].drop 8).take (Tryz.prog.cellsOf 50)) = [x0, x1, x2, x3, x4, x5, x6, x7, x8][8]? := hf 8 _ rfl
  simp only [cellsInt, cellsStr, cellsU64, cellsInts, cellsU32, List.drop_zero, List.drop_succ_cons, List.take_succ_cons, List.take_zero, List.getElem?_cons_zero, List.getElem?_cons_succ] at f0 f1 f2 f3 f4 f5 f6 f7 f8
  obtain ⟨s0, e0, rfl, z0⟩ := DataW.trod_string underlying9 f0
  obtain ⟨s1, e1, rfl, z1⟩ := DataW.trod_string underlying9 f1
  obtain ⟨n2, e2, rfl, w2⟩ := DataW.trod_int underlying40 f2
  obtain ⟨n3, e3, rfl, w3⟩ := DataW.trod_int underlying40 f3
  obtain ⟨n4, e4, rfl, w4⟩ := DataW.trod_int underlying3 f4
  obtain ⟨n5, e5, rfl, w5⟩ := DataW.trod_int underlying3 f5
  obtain ⟨n6, e6, rfl, w6⟩ := DataW.trod_int underlying3 f6
  obtain ⟨n7, e7, rfl, w7⟩ := DataW.trod_int underlying65 f7
  simp at e0 e1 e2 e3 e4 e5 e6 e7
  subst e0 e1 e2 e3 e4 e5 e6 e7
  have u2 : (0 : Int) ≤ n2 := (wf_has w2).1
  have u3 : (0 : Int) ≤ n3 := (wf_has w3).1
  have u7 : (0 : Int) ≤ n7 := (wf_has w7).1
  have v2 : n2 ≤ 18446744073709551615 := (wf_has w2).2
  have v3 : n3 ≤ 18446744073709551615 := (wf_has w3).2
  have v7 : n7 ≤ 4294967295 := (wf_has w7).2
  obtain ⟨m2, rfl⟩ : ∃ k : Nat, n2 = k := ⟨n2.toNat, by omega⟩
  obtain ⟨m3, rfl⟩ : ∃ k : Nat, n3 = k := ⟨n3.toNat, by omega⟩
  obtain ⟨m7, rfl⟩ : ∃ k : Nat, n7 = k := ⟨n7.toNat, by omega⟩
  obtain ⟨p8, len8, cap8, zs8, rfl, hc8, hz8, hr8, hw8, hx8⟩ := ints_in underlying50 underlying3 cellsInt f8
  subst hz8
  have hs0 : s0.data.toList.length = s0.size := by simp
  have hs1 : s1.data.toList.length = s1.size := by simp
  have b8 : zs8.length ≤ Rows.uptoBulk x8.1 := by
    rcases hx8 with ⟨_, h0⟩ | ⟨es, rs, hx, hl⟩
    · omega
    · rw [hx]; have := len_le (es := es) (rs := rs); omega
  simp only [Rows.uptoBulk, List.map_cons, List.map_nil, Rows.uptoBulkAll] at hb
  exact ⟨⟨⟨s0, s1, m2, m3, n4, n5, n6, m7, zs8⟩, p8, cap8⟩, rfl, hr8, ⟨by show s0.size ≤ _; omega, by show s1.size ≤ _; omega, by show zs8.length ≤ _; omega⟩, ⟨by show m2 ≤ _; omega, by show m3 ≤ _; omega, by show m7 ≤ _; omega⟩⟩

theorem cut21 {l : List Value} (h : l.length = 21) : l = l.take 1 ++ (l.drop 1).take 1 ++ (l.drop 2).take 9 ++ (l.drop 11).take 9 ++ (l.drop 20).take 1 := by
  refine List.ext_getElem? fun i => ?_
  have t0 : (l.take 1).length = 1 := by rw [List.length_take]; omega
  have t1 : ((l.drop 1).take 1).length = 1 := by rw [List.length_take, List.length_drop]; omega
  have t2 : ((l.drop 2).take 9).length = 9 := by rw [List.length_take, List.length_drop]; omega
  have t3 : ((l.drop 11).take 9).length = 9 := by rw [List.length_take, List.length_drop]; omega
  simp only [List.getElem?_append, List.length_append, t0, t1, t2, t3, List.getElem?_take, List.getElem?_drop]
  by_cases i1 : i < 1
  · simp [i1, show i < 1 + 1 by omega, show i < 1 + 1 + 9 by omega, show i < 1 + 1 + 9 + 9 by omega]
  by_cases i2 : i < 2
  · simp [i1, i2, show i < 1 + 1 + 9 by omega, show i < 1 + 1 + 9 + 9 by omega, show i - 1 < 1 by omega, show 1 + (i - 1) = i by omega]
  by_cases i3 : i < 11
  · simp [i2, i3, show i < 1 + 1 + 9 + 9 by omega, show i - 2 < 9 by omega, show 2 + (i - 2) = i by omega]
  by_cases i4 : i < 20
  · simp [i3, i4, show i - 11 < 9 by omega, show 11 + (i - 11) = i by omega]
  by_cases i5 : i < 21
  · simp [i4, show i - 20 < 1 by omega, show 20 + (i - 20) = i by omega]
  · rw [List.getElem?_eq_none (by omega)]
    simp [i4, show ¬ i - 20 < 1 by omega]

set_option maxRecDepth 100000 in
theorem row_in (h : DataW.trod enc Tryz.prog W base spare held fuel 69 cs = some x) (hb : Rows.uptoBulk x.1 ≤ 1048576) : ∃ q : QW, cs = q.cells ∧ q.ok (old W) ∧ q.x.o.bulk ≤ Rows.uptoBulk x.1 := by
  obtain ⟨xs, m, rfl, rfl, hl, hxl, hf⟩ := DataW.trod_struct underlying69 h
  rw [cellsRow] at hl
  obtain ⟨x0, x1, x2, x3, x4, rfl⟩ : ∃ x0 x1 x2 x3 x4, xs = [x0, x1, x2, x3, x4] := five hxl
  have f0 : DataW.trod enc Tryz.prog W base spare held m 40 ((cs.drop 0).take (Tryz.prog.cellsOf 40)) = [x0, x1, x2, x3, x4][0]? := hf 0 _ rfl
  have f1 : DataW.trod enc Tryz.prog W base spare held m 3 ((cs.drop 1).take (Tryz.prog.cellsOf 3)) = [x0, x1, x2, x3, x4][1]? := hf 1 _ rfl
  have f2 : DataW.trod enc Tryz.prog W base spare held m 52 ((cs.drop 2).take (Tryz.prog.cellsOf 52)) = [x0, x1, x2, x3, x4][2]? := hf 2 _ rfl
  have f3 : DataW.trod enc Tryz.prog W base spare held m 67 ((cs.drop 11).take (Tryz.prog.cellsOf 67)) = [x0, x1, x2, x3, x4][3]? := hf 3 _ rfl
  have f4 : DataW.trod enc Tryz.prog W base spare held m 42 ((cs.drop 20).take (Tryz.prog.cellsOf 42)) = [x0, x1, x2, x3, x4][4]? := hf 4 _ rfl
  simp only [cellsInt, cellsU64, cellsOp, cellsPtr, cellsBytes, List.drop_zero, List.getElem?_cons_zero, List.getElem?_cons_succ] at f0 f1 f2 f3 f4
  simp only [Rows.uptoBulk, List.map_cons, List.map_nil, Rows.uptoBulkAll] at hb ⊢
  obtain ⟨n0, e0, rfl, w0⟩ := DataW.trod_int underlying40 f0
  obtain ⟨n1, e1, rfl, w1⟩ := DataW.trod_int underlying3 f1
  have u0 : (0 : Int) ≤ n0 := (wf_has w0).1
  obtain ⟨m0, rfl⟩ : ∃ k : Nat, n0 = k := ⟨n0.toNat, by omega⟩
  obtain ⟨y, hy, hyo, hyb, hyi⟩ := op_in f2
  obtain ⟨z, hz, hzo⟩ := ptr_in f3 (by omega)
  obtain ⟨c20, hc20⟩ : ∃ c, (cs.drop 20).take 1 = [c] := by
    have : ((cs.drop 20).take 1).length = 1 := by rw [List.length_take, List.length_drop]; omega
    match h : (cs.drop 20).take 1, this with
    | [c], _ => exact ⟨c, rfl⟩
  rw [hc20] at f4
  obtain ⟨p4, len4, cap4, zs4, rfl, hc4, hz4, hr4, hw4, hx4⟩ := ints_in underlying42 underlying5 cellsU8 f4
  obtain ⟨bs, hb1, hb2⟩ := ints_bytes zs4 hw4
  have h4 : len4 = bs.length := by omega
  subst h4
  have b4 : bs.length ≤ Rows.uptoBulk x4.1 := by
    rcases hx4 with ⟨_, h0⟩ | ⟨es, rs, hx, hl⟩
    · omega
    · rw [hx]; have := len_le (es := es) (rs := rs); omega
  refine ⟨⟨m0, n1, y, z, p4, bs, cap4⟩, ?_, ⟨hyo, hyi, hzo, ⟨by rw [← hb2]; exact hr4, by show bs.length ≤ _; omega, hc4⟩⟩, by show y.o.bulk ≤ _; omega⟩
  rw [cut21 hl, e0, e1, hy, hz, hc20]
  rfl

theorem cut17 {l : List Value} (h : l.length = 17) : l = l.take 1 ++ (l.drop 1).take 1 ++ (l.drop 2).take 9 ++ (l.drop 11).take 1 ++ (l.drop 12).take 5 := by
  refine List.ext_getElem? fun i => ?_
  have t0 : (l.take 1).length = 1 := by rw [List.length_take]; omega
  have t1 : ((l.drop 1).take 1).length = 1 := by rw [List.length_take, List.length_drop]; omega
  have t2 : ((l.drop 2).take 9).length = 9 := by rw [List.length_take, List.length_drop]; omega
  have t3 : ((l.drop 11).take 1).length = 1 := by rw [List.length_take, List.length_drop]; omega
  simp only [List.getElem?_append, List.length_append, t0, t1, t2, t3, List.getElem?_take, List.getElem?_drop]
  by_cases i1 : i < 1
  · simp [i1, show i < 1 + 1 by omega, show i < 1 + 1 + 9 by omega, show i < 1 + 1 + 9 + 1 by omega]
  by_cases i2 : i < 2
  · simp [i1, i2, show i < 1 + 1 + 9 by omega, show i < 1 + 1 + 9 + 1 by omega, show i - 1 < 1 by omega, show 1 + (i - 1) = i by omega]
  by_cases i3 : i < 11
  · simp [i2, i3, show i < 1 + 1 + 9 + 1 by omega, show i - 2 < 9 by omega, show 2 + (i - 2) = i by omega]
  by_cases i4 : i < 12
  · simp [i3, i4, show i - 11 < 1 by omega, show 11 + (i - 11) = i by omega]
  by_cases i5 : i < 17
  · simp [i4, show i - 12 < 5 by omega, show 12 + (i - 12) = i by omega]
  · rw [List.getElem?_eq_none (by omega)]
    simp [i4, show ¬ i - 12 < 5 by omega]
set_option maxRecDepth 100000 in
theorem ev_in (h : DataW.trod enc Tryz.prog W base spare held fuel 58 cs = some x) (hb : Rows.uptoBulk x.1 ≤ 1048576) : ∃ e : EW, cs = e.cells ∧ e.ok (old W) := by
  obtain ⟨xs, m, rfl, rfl, hl, hxl, hf⟩ := DataW.trod_struct underlying58 h
  rw [cellsEv] at hl
  obtain ⟨x0, x1, x2, x3, x4, rfl⟩ : ∃ x0 x1 x2 x3 x4, xs = [x0, x1, x2, x3, x4] := five hxl
  have f0 : DataW.trod enc Tryz.prog W base spare held m 4 ((cs.drop 0).take (Tryz.prog.cellsOf 4)) = [x0, x1, x2, x3, x4][0]? := hf 0 _ rfl
  have f1 : DataW.trod enc Tryz.prog W base spare held m 40 ((cs.drop 1).take (Tryz.prog.cellsOf 40)) = [x0, x1, x2, x3, x4][1]? := hf 1 _ rfl
  have f2 : DataW.trod enc Tryz.prog W base spare held m 52 ((cs.drop 2).take (Tryz.prog.cellsOf 52)) = [x0, x1, x2, x3, x4][2]? := hf 2 _ rfl
  have f3 : DataW.trod enc Tryz.prog W base spare held m 40 ((cs.drop 11).take (Tryz.prog.cellsOf 40)) = [x0, x1, x2, x3, x4][3]? := hf 3 _ rfl
  have f4 : DataW.trod enc Tryz.prog W base spare held m 44 ((cs.drop 12).take (Tryz.prog.cellsOf 44)) = [x0, x1, x2, x3, x4][4]? := hf 4 _ rfl
  simp only [cellsBool, cellsU64, cellsOp, cellsRes, List.drop_zero, List.getElem?_cons_zero, List.getElem?_cons_succ] at f0 f1 f2 f3 f4
  simp only [Rows.uptoBulk, List.map_cons, List.map_nil, Rows.uptoBulkAll] at hb
  obtain ⟨b0, e0, rfl⟩ := DataW.trod_bool underlying4 f0
  obtain ⟨n1, e1, rfl, w1⟩ := DataW.trod_int underlying40 f1
  obtain ⟨n3, e3, rfl, w3⟩ := DataW.trod_int underlying40 f3
  have u1 : (0 : Int) ≤ n1 := (wf_has w1).1
  have u3 : (0 : Int) ≤ n3 := (wf_has w3).1
  have v3 : n3 ≤ 18446744073709551615 := (wf_has w3).2
  obtain ⟨m1, rfl⟩ : ∃ k : Nat, n1 = k := ⟨n1.toNat, by omega⟩
  obtain ⟨m3, rfl⟩ : ∃ k : Nat, n3 = k := ⟨n3.toNat, by omega⟩
  obtain ⟨y, hy, _⟩ := op_in f2
  obtain ⟨w, hw, hwo⟩ := res_in f4 (by omega)
  refine ⟨⟨b0, m1, y, m3, w⟩, ?_, hwo, by show m3 ≤ _; omega⟩
  rw [cut17 hl, e0, e1, hy, e3, hw]
  rfl

theorem all_in {α : Type} {t : TypeId} {cl : α → List Value} {ok : α → Prop} {bk : α → Nat} (one : ∀ (n : Nat) (cs : List Value) (x : DataW H × List MemPlace), DataW.trod enc Tryz.prog W base spare held n t cs = some x → Rows.uptoBulk x.1 ≤ 1048576 → ∃ a, cs = cl a ∧ ok a ∧ bk a ≤ Rows.uptoBulk x.1) :
    ∀ (es : List (DataW H × List MemPlace)) (css : List (List Value)), css.length = es.length → Rows.uptoBulkAll (es.map (·.1)) ≤ 1048576 → (∀ (i : Nat) cs, css[i]? = some cs → ∃ n, DataW.trod enc Tryz.prog W base spare held n t cs = es[i]?) →
    ∃ l : List α, css = l.map cl ∧ (∀ a, a ∈ l → ok a) ∧ (l.map bk).sum ≤ Rows.uptoBulkAll (es.map (·.1))
  | [], css, h, _, _ => by
    obtain rfl : css = [] := List.eq_nil_of_length_eq_zero h
    exact ⟨[], rfl, by simp, by simp⟩
  | e :: es, [], h, _, _ => by simp at h
  | e :: es, cs :: css, h, hb, hg => by
    simp only [List.map_cons, Rows.uptoBulkAll] at hb
    obtain ⟨n, h0⟩ := hg 0 cs rfl
    obtain ⟨a, rfl, ha, hab⟩ := one n cs e h0 (by omega)
    obtain ⟨l, rfl, hl, hbl⟩ := all_in one es css (by simpa using h) (by omega) fun i c hc => hg (i + 1) c hc
    refine ⟨a :: l, rfl, fun x hx => ?_, ?_⟩
    · cases List.mem_cons.1 hx with
      | inl e => rw [e]; exact ha
      | inr e => exact hl x e
    · simp only [List.map_cons, List.sum_cons, Rows.uptoBulkAll]; omega

theorem slice_all {α : Type} {t t2 : TypeId} {sz : Nat} {cl : α → List Value} {ok : α → Prop} {bk : α → Nat} (hsz : 0 < sz) (hcl : ∀ a, (cl a).length = sz) (ht : Tryz.prog.underlying t = some (.slice t2)) (hc : Tryz.prog.cellsOf t2 = sz)
    (one : ∀ (n : Nat) (cs : List Value) (x : DataW H × List MemPlace), DataW.trod enc Tryz.prog W base spare held n t2 cs = some x → Rows.uptoBulk x.1 ≤ 1048576 → ∃ a, cs = cl a ∧ ok a ∧ bk a ≤ Rows.uptoBulk x.1)
    {a0 : Option Addr} {ln lc : Nat} (h : DataW.trod enc Tryz.prog W base spare held fuel t [.slice a0 ln lc] = some x) (hb : Rows.uptoBulk x.1 ≤ 1048576) :
    ∃ l : List α, l.length = ln ∧ ln ≤ lc ∧ ln ≤ 1048576 ∧ SlR [old W] sz (.slice a0 ln lc) (l.flatMap cl) ∧ (∀ a, a ∈ l → ok a) ∧ (l.map bk).sum ≤ Rows.uptoBulk x.1 := by
  rcases elems_in ht hc h with ⟨e, _⟩ | ⟨a, len, cap, n, es, rs, css, e, hl, hx, hle, hcl2, hcs⟩
  · cases e
    exact ⟨[], rfl, Nat.le_refl _, Nat.zero_le _, .inl ⟨none, 0, rfl, rfl⟩, by simp, by simp⟩
  · cases e
    rw [hx] at hb
    simp only [Rows.uptoBulk] at hb
    have hbl := bulk_len (es.map (·.1))
    rw [List.length_map, hle] at hbl
    obtain ⟨l, rfl, hok, hbk⟩ := all_in one es css (by omega) (by omega) fun i cs hc => ⟨n, (hcs i cs hc).2.2⟩
    have hll : l.length = ln := by rw [← hcl2, List.length_map]
    refine ⟨l, hll, hl, by omega, slr_old (by rw [flat_length hcl, hll]) ?_ hsz, hok, by rw [hx]; simp only [Rows.uptoBulk]; omega⟩
    intro k u hu
    have hk : k < l.length * sz := by
      have := (List.getElem?_eq_some_iff.1 hu).1
      rwa [flat_length hcl] at this
    have hkd : k / sz < l.length := Nat.div_lt_of_lt_mul (by rw [Nat.mul_comm]; exact hk)
    have hkm := Nat.mod_lt k hsz
    have hkk : k / sz * sz + k % sz = k := by rw [Nat.mul_comm]; exact Nat.div_add_mod k sz
    obtain ⟨y, hy⟩ : ∃ y, l[k / sz]? = some y := ⟨_, List.getElem?_eq_getElem hkd⟩
    obtain ⟨u', hu'⟩ : ∃ u', (cl y)[k % sz]? = some u' := ⟨_, List.getElem?_eq_getElem (by rw [hcl]; exact hkm)⟩
    have hfl := flat_get hcl hy hu'
    rw [hkk, hu] at hfl
    cases hfl
    obtain ⟨_, h2, _⟩ := hcs (k / sz) (cl y) (by rw [List.getElem?_map, hy]; rfl)
    have := h2 _ u hu'
    rwa [hkk] at this
end
end Go.Proofs.YtidbcaimgahllaaGreat
namespace Go.Proofs.YtidbcaimgahllaaGreat
open Go.Proofs.Tryz
open Go.ChangeShapes Go.WideShapes Go.ChangeAt Go.RowKit
open Go.X

namespace judgeChecks
theorem own : ownKnob Tryz.prog.godebug = none := by kernel_rfl
theorem laidOut : laidOutB Tryz.prog = true := by kernel_rfl

theorem walk (lp : Option Addr) (lc : Nat) (l : List QW) (ep : Option Addr) (ec : Nat) (es : List EW) (W : World) (hl : Qs (old W) lp lc l) (herd : SlR [old W] 17 (.slice ep es.length ec) (es.flatMap EW.cells)) (heok : ∀ e, e ∈ es → e.ok (old W)) (hes : es.length ≤ 1048576) (hcp : es.length ≤ ec) :
    Calls Tryz.prog 3 #[.slice lp l.length lc, .slice ep es.length ec] W fun e w' => e = .returned (.bool true) ∧ Below W.heap.size W w' := (checks_spec (old W) lp lc l hl ep ec es herd heok hes hcp).lift

set_option maxRecDepth 100000 in
theorem lifted (os : Os) (started : os.Started) (H : Type) (enc : TypeId × Value → H) (F : Stop.Interp) :
    ReturnsInHanded {} Tryz.checked os 3 .any ((Rows.OpenSpec.upto Rows.judgeChecksSpec).pre6 enc Tryz.prog Tryz.f3 Rows.judgeChecksUptoRow.domain false) (((Rows.OpenSpec.upto Rows.judgeChecksSpec).at F).post enc Tryz.prog Tryz.f3 false true false false) := by
  refine returnsInHanded_of_cond (C := Tryz.checked) (s := Rows.OpenSpec.upto Rows.judgeChecksSpec) (k := Rows.uptoSmall) rfl own started (by kernel_rfl) func3
    (OpenSpec.witness (enc := enc) (C := Tryz.checked) (s := Rows.OpenSpec.upto Rows.judgeChecksSpec) (k := Rows.uptoSmall) rfl false ⟨#[], #[.slice none 0 0, .slice none 0 0], []⟩ 8 (by kernel_rfl) (by kernel_rfl) (by kernel_rfl)
      (x := ([.nil, .nil], [], [])) (by kernel_rfl) rfl (by kernel_rfl)) ?_
  intro W base args ds gs before hval0 hW hcnd hk _
  have hval : ∀ (j : Nat) t v, Tryz.f3.params[j]? = some t → args[j]? = some v → Value.okWide Tryz.prog W .any base t v := hval0
  have hW' := hW
  obtain ⟨p, q, hA0, hV, rfl, hfz, hnd⟩ := hW
  have hA : DataW.TrodAll enc Tryz.prog W 0 (fun _ => true) true Tryz.f3.params.toList args.toList ds p := hA0
  rw [Tryz.params3] at hA hval
  obtain ⟨v0, vs0, d0, ds0, p0, q0, hargs, rfl, rfl, h0, r0⟩ := trodAll_cons hA
  obtain ⟨v1, vs1, d1, ds1, p1, q1, rfl, rfl, rfl, h1, r1⟩ := trodAll_cons r0
  obtain ⟨rfl, rfl, rfl⟩ := trodAll_nil r1
  obtain rfl : args = #[v0, v1] := by cases args; simp_all
  obtain ⟨rfl, rfl⟩ := trodVars_none hV
  have hbk := of_decide_eq_true hk
  simp only [List.append_nil, Rows.uptoBulkAll] at hbk
  have lt0 : ∀ x ∈ p0, x.block < W.heap.size := by obtain ⟨m, hm⟩ := h0; exact DataW.trod_lt m _ _ _ hm
  have lt1 : ∀ x ∈ p1, x.block < W.heap.size := by obtain ⟨m, hm⟩ := h1; exact DataW.trod_lt m _ _ _ hm
  obtain ⟨a0, ln, lc, rfl⟩ := okWide_slice underlying22 (hval 0 22 v0 rfl rfl)
  obtain ⟨xa1, xl1, xc1, rfl⟩ := okWide_slice underlying23 (hval 1 23 v1 rfl rfl)
  obtain ⟨l, hll, hlc, hlm, hlr, hlo, hlb⟩ : ∃ l : List QW, l.length = ln ∧ ln ≤ lc ∧ ln ≤ 1048576 ∧ SlR [old W] 21 (.slice a0 ln lc) (l.flatMap QW.cells) ∧ (∀ q, q ∈ l → q.ok (old W)) ∧ (l.map fun q => q.x.o.bulk).sum ≤ Rows.uptoBulk d0 := by
    obtain ⟨m, hm⟩ := h0
    exact slice_all (cl := QW.cells) (ok := fun q => q.ok (old W)) (bk := fun q => q.x.o.bulk) (by decide) QW.len underlying22 cellsRow (fun n cs x h hb => row_in h hb) hm (by show Rows.uptoBulk d0 ≤ _; omega)
  obtain ⟨es, hel, hec, hem, her, heo, _⟩ : ∃ l : List EW, l.length = xl1 ∧ xl1 ≤ xc1 ∧ xl1 ≤ 1048576 ∧ SlR [old W] 17 (.slice xa1 xl1 xc1) (l.flatMap EW.cells) ∧ (∀ q, q ∈ l → q.ok (old W)) ∧ (l.map fun _ => 0).sum ≤ Rows.uptoBulk d1 := by
    obtain ⟨m, hm⟩ := h1
    exact slice_all (cl := EW.cells) (ok := fun q => q.ok (old W)) (bk := fun _ => 0) (by decide) EW.len underlying23 cellsEv (fun n cs x h hb => by obtain ⟨e, a1, a2⟩ := ev_in h hb; exact ⟨e, a1, a2, Nat.zero_le _⟩) hm (by show Rows.uptoBulk d1 ≤ _; omega)
  subst hll hel
  clear hA0 hval0
  refine (walk a0 lc l xa1 xc1 es W ⟨hlr, hlo, hlm, (by show (l.map fun q => q.x.o.bulk).sum ≤ _; omega)⟩ her heo hem hec).mono fun e W' ⟨he, bel⟩ => ?_
  subst he
  exact ⟨_, rfl, _, _, _, [], _, [], hW', trodAll_mk1 (shut_bool underlying4 _), (trodAll_cons_mk (Below.trod laidOut (by kernel_rfl) (of_decide_eq_true (by kernel_rfl)) h0 bel lt0) (trodAll_cons_mk (Below.trod laidOut (by kernel_rfl) (of_decide_eq_true (by kernel_rfl)) h1 bel lt1) trodAll_mk0)), rfl, bel.frame _, fun h => by cases h⟩

theorem over : Rows.judgeChecksUptoRow.holds Tryz.pinned (Rows.OpenSpec.upto Rows.judgeChecksSpec) :=
  OpenClaim.holds_of_cond 3 Tryz.f3 rfl rfl rfl rfl rfl rfl rfl ⟨rfl, rfl, rfl, rfl, rfl⟩ rfl rfl rfl rfl rfl (by kernel_rfl) func3 (by kernel_rfl)
    (of_decide_eq_true (by kernel_rfl)) (by unfold Func.isWrapper; first | (rw [if_pos (by decide +kernel)]; kernel_rfl) | (rw [if_neg (by decide +kernel)]; exact ⟨rfl, rfl⟩))
    (fun os started H enc _ F => lifted os started H enc F)
end judgeChecks

theorem judgeChecks_holds : Rows.JudgeChecksUptoSaid := judgeChecks.over
end Go.Proofs.YtidbcaimgahllaaGreat

