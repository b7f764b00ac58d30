/-
  Few: is a row of ops such that a play is worth its while?
-/
import Derived.Test.YtdancegklkifaaaBktN
import Derived.Test.YtdancegklkifaaaBktIn
namespace Go.Proofs.Ytdancegklkifaaa
set_option linter.unusedSectionVars false
set_option linter.unusedSimpArgs false
set_option linter.unusedVariables false
open Go.X
open Go.X.G (Ord3 ord3_nat ord3_int ord3_str ltB sget sput sdel Srtd MapAt MapHole)

def bulks (l : List OW) : Nat := (l.map fun x => x.o.bulk).sum
theorem bulks_take {l : List OW} {i : Nat} {x : OW} (h : l[i]? = some x) : bulks (l.take (i + 1)) = bulks (l.take i) + x.o.bulk := by
  obtain ⟨h1, h2⟩ := List.getElem?_eq_some_iff.1 h
  unfold bulks
  rw [List.take_succ_eq_append_getElem h1, List.map_append, List.sum_append, h2]; simp
theorem bulks_le {l : List OW} (i : Nat) : bulks (l.take i) ≤ bulks l := by
  unfold bulks
  conv => rhs; rw [← List.take_append_drop i l, List.map_append, List.sum_append]
  omega

theorem few_spec (G : Assn) (lp : Option Addr) (ln lc : Nat) (l : List OW) (hl : Ops G lp ln lc l) (hb : bulks l ≤ 1048576) : FSpec Try.prog 14 [.slice lp ln lc] [G] (fun v B => ∃ b : Bool, (b = true → ln ≤ 400) ∧ v = .bool b ∧ B = [G]) := by
  have hlen := hl.len
  have hsml := hl.small
  refine FSpec.of Try.func14 rfl Try.ntmps14 rfl fun W0 F => ?_
  refine J.seq ?_
  refine J.region ?_
  refine J.q rfl rfl (Q.asg rfl) ?_
  refine J.nil ?_
  refine J.then_n ?_
  refine J.seq ?_
  refine J.region ?_
  refine J.q rfl rfl (Q.asg rfl) ?_
  refine J.nil ?_
  refine J.then_n ?_
  refine J.seq ?_
  refine J.seq ?_
  refine J.region ?_
  refine J.q rfl rfl (Q.asg rfl) ?_
  refine J.nil ?_
  refine J.then_n ?_
  refine J.block ?_
  refine J.loop (fun z : Nat × Int => z.1 ≤ ln ∧ 0 ≤ z.2 ∧ z.2 ≤ bulks (l.take z.1)) (fun z => ln - z.1) (fun z => [(0, .slice lp ln lc), (3, .int .i64 z.2), (4, .int .i64 z.1)]) (fun _ => [G, F]) (0, 0) ⟨Nat.zero_le _, Int.le_refl _, by show (0 : Int) ≤ ((bulks (l.take 0) : Nat) : Int); omega⟩ ⟨rfl, rfl, rfl, trivial⟩ rfl fun z hz => ?_
  obtain ⟨i, n⟩ := z
  obtain ⟨hi, hn0, hn1⟩ := hz
  dsimp only at hi hn0 hn1
  refine J.seq ?_
  refine J.seq ?_
  refine J.region ?_
  refine J.q rfl rfl (Q.mv rfl) ?_
  refine J.q rfl rfl (Q.mv rfl) ?_
  refine J.q rfl rfl (Q.lenSl Try.runUnderlying45 rfl) ?_
  refine J.q rfl rfl (Q.lss rfl rfl) ?_
  refine J.nil ?_
  refine J.then_n ?_
  refine J.cases 8 rfl (fun hc8 => ?_) (fun hc8 => ?_)
  ·
    first | replace hc8 := X.tt_dec hc8 | replace hc8 := X.tt_not hc8 | replace hc8 := X.ff_dec hc8 | replace hc8 := X.ff_not hc8 | skip
    try (first | (cases hc8; done) | (exfalso; simp at hc8; done))
    all_goals
      refine J.cond_t rfl ?_
      refine J.cskip ?_
      refine J.then_n ?_
      refine J.seq ?_
      refine J.block ?_
      obtain ⟨b, off, hlp, hrd⟩ := hl.rd.some_ (by omega)
      obtain ⟨x, hx⟩ : ∃ x, l[i]? = some x := ⟨_, List.getElem?_eq_getElem (by omega)⟩
      have hbt := bulks_take hx
      have hbl := bulks_le (l := l) (i + 1)
      have hbk : x.o.bulk = x.o.bucket.size + x.o.key.size + x.o.after.size + x.o.parts.length + x.o.data.length := rfl
      refine J.slot 0 (.slice (some ⟨b, off, none⟩) ln lc) rfl (by rw [hlp]) ?_
      refine J.draw [36] Try.mixed (by kernel_rfl) fun hR => ?_
      refine RG.q 0 hR rfl rfl rfl rfl rfl rfl (Q.mv rfl) ?_
      refine RG.q 1 hR rfl rfl rfl rfl rfl rfl (Q.mv rfl) ?_
      refine RG.q 2 hR rfl rfl rfl rfl rfl rfl (Q.mv rfl) ?_
      refine RG.q 3 hR rfl rfl rfl rfl rfl rfl (Q.ia Try.runUnderlying45 Try.sizeOf26 rfl rfl (by omega) (by omega)) ?_
      refine RG.q 4 hR rfl rfl rfl rfl rfl rfl (Q.fa (n := 2) Try.runUnderlying26 rfl rfl Try.sizeOf9 rfl) ?_
      refine RG.q 5 hR rfl rfl rfl rfl rfl rfl (Q.ld Try.isAgg9 rfl (((rd_field OW.cells_length hrd hx (k := 2) (u := .string x.o.bucket) rfl rfl).within (i := 0) rfl).cast (by first | (simp; done) | (simp; omega)))) ?_
      refine RG.q 6 hR rfl rfl rfl rfl rfl rfl (Q.lenS Try.runUnderlying9 rfl) ?_
      refine RG.q 7 hR rfl rfl rfl rfl rfl rfl (Q.add64 rfl rfl (by omega)) ?_
      refine RG.q 8 hR rfl rfl rfl rfl rfl rfl (Q.mv rfl) ?_
      refine RG.q 9 hR rfl rfl rfl rfl rfl rfl (Q.mv rfl) ?_
      refine RG.q 10 hR rfl rfl rfl rfl rfl rfl (Q.ia Try.runUnderlying45 Try.sizeOf26 rfl rfl (by omega) (by omega)) ?_
      refine RG.q 11 hR rfl rfl rfl rfl rfl rfl (Q.fa (n := 3) Try.runUnderlying26 rfl rfl Try.sizeOf9 rfl) ?_
      refine RG.q 12 hR rfl rfl rfl rfl rfl rfl (Q.ld Try.isAgg9 rfl (((rd_field OW.cells_length hrd hx (k := 3) (u := .string x.o.key) rfl rfl).within (i := 0) rfl).cast (by first | (simp; done) | (simp; omega)))) ?_
      refine RG.q 13 hR rfl rfl rfl rfl rfl rfl (Q.lenS Try.runUnderlying9 rfl) ?_
      refine RG.q 14 hR rfl rfl rfl rfl rfl rfl (Q.add64 rfl rfl (by omega)) ?_
      refine RG.q 15 hR rfl rfl rfl rfl rfl rfl (Q.mv rfl) ?_
      refine RG.q 16 hR rfl rfl rfl rfl rfl rfl (Q.mv rfl) ?_
      refine RG.q 17 hR rfl rfl rfl rfl rfl rfl (Q.ia Try.runUnderlying45 Try.sizeOf26 rfl rfl (by omega) (by omega)) ?_
      refine RG.q 18 hR rfl rfl rfl rfl rfl rfl (Q.fa (n := 4) Try.runUnderlying26 rfl rfl Try.sizeOf9 rfl) ?_
      refine RG.q 19 hR rfl rfl rfl rfl rfl rfl (Q.ld Try.isAgg9 rfl (((rd_field OW.cells_length hrd hx (k := 4) (u := .string x.o.after) rfl rfl).within (i := 0) rfl).cast (by first | (simp; done) | (simp; omega)))) ?_
      refine RG.q 20 hR rfl rfl rfl rfl rfl rfl (Q.lenS Try.runUnderlying9 rfl) ?_
      refine RG.q 21 hR rfl rfl rfl rfl rfl rfl (Q.add64 rfl rfl (by omega)) ?_
      refine RG.q 22 hR rfl rfl rfl rfl rfl rfl (Q.mv rfl) ?_
      refine RG.q 23 hR rfl rfl rfl rfl rfl rfl (Q.mv rfl) ?_
      refine RG.q 24 hR rfl rfl rfl rfl rfl rfl (Q.ia Try.runUnderlying45 Try.sizeOf26 rfl rfl (by omega) (by omega)) ?_
      refine RG.q 25 hR rfl rfl rfl rfl rfl rfl (Q.fa (n := 7) Try.runUnderlying26 rfl rfl Try.sizeOf23 rfl) ?_
      refine RG.q 26 hR rfl rfl rfl rfl rfl rfl (Q.ld Try.isAgg23 rfl (((rd_field OW.cells_length hrd hx (k := 7) (u := .slice x.pp x.o.parts.length x.pc) rfl rfl).within (i := 0) rfl).cast (by first | (simp; done) | (simp; omega)))) ?_
      refine RG.q 27 hR rfl rfl rfl rfl rfl rfl (Q.lenSl Try.runUnderlying23 rfl) ?_
      refine RG.q 28 hR rfl rfl rfl rfl rfl rfl (Q.add64 rfl rfl (by omega)) ?_
      refine RG.q 29 hR rfl rfl rfl rfl rfl rfl (Q.mv rfl) ?_
      refine RG.q 30 hR rfl rfl rfl rfl rfl rfl (Q.mv rfl) ?_
      refine RG.q 31 hR rfl rfl rfl rfl rfl rfl (Q.ia Try.runUnderlying45 Try.sizeOf26 rfl rfl (by omega) (by omega)) ?_
      refine RG.q 32 hR rfl rfl rfl rfl rfl rfl (Q.fa (n := 8) Try.runUnderlying26 rfl rfl Try.sizeOf24 rfl) ?_
      refine RG.q 33 hR rfl rfl rfl rfl rfl rfl (Q.ld Try.isAgg24 rfl (((rd_field OW.cells_length hrd hx (k := 8) (u := .slice x.dp x.o.data.length x.dc) rfl rfl).within (i := 0) rfl).cast (by first | (simp; done) | (simp; omega)))) ?_
      refine RG.q 34 hR rfl rfl rfl rfl rfl rfl (Q.lenSl Try.runUnderlying24 rfl) ?_
      refine RG.q 35 hR rfl rfl rfl rfl rfl rfl (Q.add64 rfl rfl (by omega)) ?_
      refine RG.bar 36 hR rfl rfl rfl rfl rfl rfl (Q.asg rfl).toC ?_
      rintro _ _ ⟨rfl, rfl⟩
      refine RG.norm rfl ?_
      refine RG.fin hR rfl ?_
      refine J.norm rfl ?_
      refine J.blk_n ?_
      refine J.then_n ?_
      refine J.region ?_
      refine J.q rfl rfl (Q.mv rfl) ?_
      refine J.q rfl rfl (Q.add64 rfl rfl (by omega)) ?_
      refine J.q rfl rfl (Q.asg rfl) ?_
      refine J.nil ?_
      refine J.again (i + 1, n + x.o.bucket.size + x.o.key.size + x.o.after.size + x.o.parts.length + x.o.data.length) ⟨by show i + 1 ≤ ln; omega, by show 0 ≤ n + x.o.bucket.size + x.o.key.size + x.o.after.size + x.o.parts.length + x.o.data.length; omega, by show n + x.o.bucket.size + x.o.key.size + x.o.after.size + x.o.parts.length + x.o.data.length ≤ ((bulks (l.take (i + 1)) : Nat) : Int); omega⟩ (by show ln - (i + 1) < ln - i; omega) ⟨(by show _ = some (Value.slice lp ln lc); rw [hlp]; rfl), rfl, rfl, trivial⟩ rfl
  ·
    first | replace hc8 := X.tt_dec hc8 | replace hc8 := X.tt_not hc8 | replace hc8 := X.ff_dec hc8 | replace hc8 := X.ff_not hc8 | skip
    try (first | (cases hc8; done) | (exfalso; simp at hc8; done))
    all_goals
      refine J.cond_f rfl ?_
      refine J.exit ?_
      refine J.then_x ?_
      refine J.lp_x ?_
      refine J.blk_x ?_
      refine J.then_n ?_
      refine J.seq ?_
      refine J.region ?_
      refine J.q rfl rfl (Q.mv rfl) ?_
      refine J.q rfl rfl (Q.lenSl Try.runUnderlying45 rfl) ?_
      refine J.q rfl rfl (Q.leq rfl rfl) ?_
      refine J.q rfl rfl (Q.mv rfl) ?_
      refine J.cases 50 rfl (fun hb50 => ?_) (fun hb50 => ?_)
      ·
        first | replace hb50 := X.tt_dec hb50 | replace hb50 := X.tt_not hb50 | replace hb50 := X.ff_dec hb50 | replace hb50 := X.ff_not hb50 | skip
        try (first | (cases hb50; done) | (exfalso; simp at hb50; done))
        all_goals
          refine J.q rfl rfl (Q.mv rfl) ?_
          refine J.q rfl rfl (Q.leq rfl rfl) ?_
          refine J.q rfl rfl (Q.pick_t rfl rfl) ?_
          refine J.q rfl rfl (Q.asg rfl) ?_
          refine J.nil ?_
          refine J.then_n ?_
          refine J.cret ?_
          first
            | refine J.ret1 (B := [G]) rfl rfl ⟨_, ?_, rfl, rfl⟩ rfl
          intro hbt
          first
            | omega
            | (simp at hbt; omega)
            | (simp at hbt; done)
      ·
        first | replace hb50 := X.tt_dec hb50 | replace hb50 := X.tt_not hb50 | replace hb50 := X.ff_dec hb50 | replace hb50 := X.ff_not hb50 | skip
        try (first | (cases hb50; done) | (exfalso; simp at hb50; done))
        all_goals
          refine J.skip rfl rfl ?_
          refine J.skip rfl rfl ?_
          refine J.q rfl rfl (Q.pick_f rfl rfl) ?_
          refine J.q rfl rfl (Q.asg rfl) ?_
          refine J.nil ?_
          refine J.then_n ?_
          refine J.cret ?_
          first
            | refine J.ret1 (B := [G]) rfl rfl ⟨_, ?_, rfl, rfl⟩ rfl
          intro hbt
          first
            | omega
            | (simp at hbt; omega)
            | (simp at hbt; done)
end Go.Proofs.Ytdancegklkifaaa
