/-
  What each kind of op does to a store: unmake, complete.
-/
import Derived.Test.YtdancegklkifaaaBktF
import Derived.Test.YtdancegklkifaaaXv
namespace Go.Proofs.Ytdancegklkifaaa
set_option linter.unusedSectionVars false
set_option linter.unusedSimpArgs false
set_option linter.unusedVariables false
open Go.X
open Go.X.G (Ord3 ord3_nat ord3_int ord3_str ltB sget sput sdel Srtd MapAt MapHole Ent Ents edone eleft)

def BM.uses (M : BM) (b : ByteArray) : Bool := M.uploads.any fun p => decide (p.2.bucket = b)
def BM.unmake (M : BM) (o : OM) : RM × BM :=
  match sget o.bucket M.buckets with
  | none => (st 404, M)
  | some objs => if (decide (0 < objs.length) || M.uses o.bucket) = true then (st 409, M) else (st 200, { M with buckets := sdel o.bucket M.buckets })

/-- The parts that are named, in their order. -/
def partOf (P : Parts) (n : Int) : List UInt8 := (sget n P).getD []
def collect (P : Parts) (l : List Int) : Option (List UInt8) := if (l.all fun n => (sget n P).isSome) = true then some (l.flatMap (partOf P)) else none
def BM.complete (M : BM) (o : OM) : RM × BM :=
  match sget o.upload M.uploads with
  | none => (st 404, M)
  | some u => match collect u.parts o.parts with
    | none => (st 400, M)
    | some d => (st 200, { M with buckets := sput ltB u.bucket (sput ltB u.key d ((sget u.bucket M.buckets).getD [])) M.buckets, uploads := sdel o.upload M.uploads })

theorem bytes_eq (a b : ByteArray) : decide (a.data.toList = b.data.toList) = decide (a = b) := by
  rw [Bool.eq_iff_iff]
  simp only [decide_eq_true_eq]
  refine ⟨fun h => ?_, fun h => by rw [h]⟩
  cases a; cases b; simp only [ByteArray.mk.injEq] at *; exact Array.toList_inj.1 h

theorem any_perm {α : Type} {p : α → Bool} {l m : List α} (h : l.Perm m) : l.any p = m.any p := by
  rw [Bool.eq_iff_iff, List.any_eq_true, List.any_eq_true]
  exact ⟨fun ⟨x, a, b⟩ => ⟨x, h.mem_iff.1 a, b⟩, fun ⟨x, a, b⟩ => ⟨x, h.mem_iff.2 a, b⟩⟩

def entUses (b : ByteArray) (es : List (Ent Nat UM)) : Bool := es.any fun e => decide (e.v.bucket = b)
theorem entUses_all {M : BM} {es : List (Ent Nat UM)} {c : Nat} (h : Ents M.uploads es c) (b : ByteArray) : entUses b es = M.uses b := by
  unfold entUses BM.uses
  rw [← any_perm h.perm, List.any_map]; rfl
theorem entUses_step {es : List (Ent Nat UM)} {seen : List Nat} {e : Ent Nat UM} (hn : (es.map (·.born)).Nodup) (he : e ∈ eleft es seen) (b : ByteArray) : entUses b (edone es (seen ++ [e.born])) = (entUses b (edone es seen) || decide (e.v.bucket = b)) := by
  unfold entUses
  rw [any_perm (X.G.estep hn he).1, List.any_cons, Bool.or_comm]

theorem flat_take_succ {P : Parts} {l : List Int} {k : Nat} {v : Int} {d : List UInt8} (h : l[k]? = some v) (hd : sget v P = some d) : (l.take (k + 1)).flatMap (partOf P) = (l.take k).flatMap (partOf P) ++ d := by
  obtain ⟨h1, h2⟩ := List.getElem?_eq_some_iff.1 h
  rw [List.take_succ_eq_append_getElem h1, List.flatMap_append, h2, List.flatMap_cons, List.flatMap_nil, List.append_nil]
  congr 1
  unfold partOf; rw [hd]; rfl
theorem all_take_some {P : Parts} {l : List Int} {k : Nat} {v : Int} (h : l[k]? = some v) (ha : ((l.take k).all fun n => (sget n P).isSome) = true) (hd : (sget v P).isSome = true) : ((l.take (k + 1)).all fun n => (sget n P).isSome) = true := by
  obtain ⟨h1, h2⟩ := List.getElem?_eq_some_iff.1 h
  rw [List.take_succ_eq_append_getElem h1, List.all_append, ha, h2, List.all_cons, hd]; rfl
theorem collect_none {P : Parts} {l : List Int} {k : Nat} {v : Int} (h : l[k]? = some v) (hd : sget v P = none) : collect P l = none := by
  unfold collect
  rw [if_neg]
  intro ha
  rw [List.all_eq_true] at ha
  have := ha v (List.mem_of_getElem? h)
  rw [hd] at this; cases this

theorem partOf_len {P : Parts} (hP : ∀ a d, sget a P = some d → d.length ≤ 16777216) (n : Int) : (partOf P n).length ≤ 16777216 := by
  unfold partOf
  cases h : sget n P with
  | none => simp
  | some d => exact hP n d h
theorem flat_len {P : Parts} (hP : ∀ a d, sget a P = some d → d.length ≤ 16777216) : ∀ l : List Int, (l.flatMap (partOf P)).length ≤ l.length * 16777216
  | [] => by simp
  | n :: l => by
    have h1 := flat_len hP l
    have h2 := partOf_len hP n
    simp only [List.flatMap_cons, List.length_append, List.length_cons]; omega

section
variable {k : Nat} (m : Nat) (M : BM) (hM : M.ok k) (x : OW) (G : Assn) (hx : x.ok G)
include hM hx

theorem unmake_no (hB : sget x.o.bucket M.buckets = none) : FSpec Try.prog 34 [.pointer (some ⟨m, 0, none⟩), .agg x.cells.toArray] [BktAt m M, G] (ActR m G (st 404, M)) := by
  refine FSpec.of Try.func34 rfl Try.ntmps34 rfl fun W0 F => ?_
  refine J.seq ?_
  refine J.region ?_
  refine J.c rfl rfl (C.box (l := [_, _, _, _, _, _, _, _, _]) rfl rfl) ?_
  rintro _ _ ⟨b3, rfl, rfl⟩
  refine J.norm rfl ?_
  refine J.c rfl rfl (C.alloc (l := [_, _, _, _, _]) Try.zeroValue41 rfl) ?_
  rintro _ _ ⟨b4, rfl, rfl⟩
  refine J.norm rfl ?_
  refine J.nil ?_
  refine J.then_n ?_
  refine J.seq ?_
  refine J.seq ?_
  refine J.region ?_
  refine J.q rfl rfl (Q.mv rfl) ?_
  refine J.q rfl rfl (Q.ldN (vs := [_, _, _, _, _, _, _, _, _]) Try.isAgg26 Try.sizeOf26 rfl (by first | exact ReadsN.pt 0 rfl | exact ReadsN.pt 1 rfl | exact ReadsN.pt 2 rfl | exact ReadsN.pt 3 rfl | exact ReadsN.pt 4 rfl | exact ReadsN.pt 5 rfl | exact ReadsN.pt 6 rfl | exact ReadsN.pt 7 rfl | exact ReadsN.pt 8 rfl | exact ReadsN.pt 9 rfl | exact ReadsN.pt 10 rfl | exact ReadsN.pt 11 rfl | exact ReadsN.pt 12 rfl | exact ReadsN.pt 13 rfl)) ?_
  refine J.call Try.call46 (known_no m M x hB) [2] rfl rfl rfl rfl ?_
  rintro _ _ ⟨rfl, rfl⟩
  refine J.norm rfl ?_
  refine J.q rfl rfl (Q.not rfl) ?_
  refine J.nil ?_
  refine J.then_n ?_
  refine J.cases 11 rfl (fun hc11 => ?_) (fun hc11 => ?_)
  ·
    first | replace hc11 := X.tt_dec hc11 | replace hc11 := X.tt_not hc11 | replace hc11 := X.ff_dec hc11 | replace hc11 := X.ff_not hc11 | skip
    try (first | (cases hc11; done) | (exfalso; simp at hc11; done))
    all_goals
      refine J.cond_t rfl ?_
      refine J.seq ?_
      refine J.region ?_
      refine J.call Try.call24 (status_spec 404) [] rfl rfl rfl rfl ?_
      rintro _ _ ⟨y, rfl, hy, rfl⟩
      refine J.norm rfl ?_
      first | refine J.c0 rfl (C.stA (i := 0) (vs := [_, _, _, _, _]) Try.sizeOf41 rfl rfl rfl rfl rfl rfl) ?_ | refine J.c0 rfl (C.stA (i := 1) (vs := [_, _, _, _, _]) Try.sizeOf41 rfl rfl rfl rfl rfl rfl) ?_ | refine J.c0 rfl (C.stA (i := 2) (vs := [_, _, _, _, _]) Try.sizeOf41 rfl rfl rfl rfl rfl rfl) ?_ | refine J.c0 rfl (C.stA (i := 3) (vs := [_, _, _, _, _]) Try.sizeOf41 rfl rfl rfl rfl rfl rfl) ?_ | refine J.c0 rfl (C.stA (i := 4) (vs := [_, _, _, _, _]) Try.sizeOf41 rfl rfl rfl rfl rfl rfl) ?_ | refine J.c0 rfl (C.stA (i := 5) (vs := [_, _, _, _, _]) Try.sizeOf41 rfl rfl rfl rfl rfl rfl) ?_ | refine J.c0 rfl (C.stA (i := 6) (vs := [_, _, _, _, _]) Try.sizeOf41 rfl rfl rfl rfl rfl rfl) ?_ | refine J.c0 rfl (C.stA (i := 7) (vs := [_, _, _, _, _]) Try.sizeOf41 rfl rfl rfl rfl rfl rfl) ?_ | refine J.c0 rfl (C.stA (i := 8) (vs := [_, _, _, _, _]) Try.sizeOf41 rfl rfl rfl rfl rfl rfl) ?_ | refine J.c0 rfl (C.stA (i := 9) (vs := [_, _, _, _, _]) Try.sizeOf41 rfl rfl rfl rfl rfl rfl) ?_ | refine J.c0 rfl (C.stA (i := 10) (vs := [_, _, _, _, _]) Try.sizeOf41 rfl rfl rfl rfl rfl rfl) ?_ | refine J.c0 rfl (C.stA (i := 11) (vs := [_, _, _, _, _]) Try.sizeOf41 rfl rfl rfl rfl rfl rfl) ?_ | refine J.c0 rfl (C.stA (i := 12) (vs := [_, _, _, _, _]) Try.sizeOf41 rfl rfl rfl rfl rfl rfl) ?_ | refine J.c0 rfl (C.stA (i := 13) (vs := [_, _, _, _, _]) Try.sizeOf41 rfl rfl rfl rfl rfl rfl) ?_ | refine J.c0 rfl (C.stA (i := 14) (vs := [_, _, _, _, _]) Try.sizeOf41 rfl rfl rfl rfl rfl rfl) ?_ | refine J.c0 rfl (C.stA (i := 15) (vs := [_, _, _, _, _]) Try.sizeOf41 rfl rfl rfl rfl rfl rfl) ?_
      rintro _ _ ⟨rfl, rfl⟩
      refine J.nil ?_
      refine J.then_n ?_
      refine J.cret ?_
      refine J.then_r ?_
      refine J.retC [1, 0, 4, 5] (vs := [_, _, _, _, _]) rfl rfl Try.isAgg41 Try.sizeOf41 (ReadsN.pt 2 rfl) rfl (B := [_, _, _]) ⟨_, rfl, hy, rfl⟩
  ·
    exact absurd hc11 (by simp)
theorem unmake_yes {objs : Objs} (hB : sget x.o.bucket M.buckets = some objs) : FSpec Try.prog 34 [.pointer (some ⟨m, 0, none⟩), .agg x.cells.toArray] [BktAt m M, G] (ActR m G (if (decide (0 < objs.length) || M.uses x.o.bucket) = true then (st 409, M) else (st 200, { M with buckets := sdel x.o.bucket M.buckets }))) := by
  refine FSpec.of Try.func34 rfl Try.ntmps34 rfl fun W0 F => ?_
  refine J.seq ?_
  refine J.region ?_
  refine J.c rfl rfl (C.box (l := [_, _, _, _, _, _, _, _, _]) rfl rfl) ?_
  rintro _ _ ⟨b3, rfl, rfl⟩
  refine J.norm rfl ?_
  refine J.c rfl rfl (C.alloc (l := [_, _, _, _, _]) Try.zeroValue41 rfl) ?_
  rintro _ _ ⟨b4, rfl, rfl⟩
  refine J.norm rfl ?_
  refine J.nil ?_
  refine J.then_n ?_
  refine J.seq ?_
  refine J.seq ?_
  refine J.region ?_
  refine J.q rfl rfl (Q.mv rfl) ?_
  refine J.q rfl rfl (Q.ldN (vs := [_, _, _, _, _, _, _, _, _]) Try.isAgg26 Try.sizeOf26 rfl (by first | exact ReadsN.pt 0 rfl | exact ReadsN.pt 1 rfl | exact ReadsN.pt 2 rfl | exact ReadsN.pt 3 rfl | exact ReadsN.pt 4 rfl | exact ReadsN.pt 5 rfl | exact ReadsN.pt 6 rfl | exact ReadsN.pt 7 rfl | exact ReadsN.pt 8 rfl | exact ReadsN.pt 9 rfl | exact ReadsN.pt 10 rfl | exact ReadsN.pt 11 rfl | exact ReadsN.pt 12 rfl | exact ReadsN.pt 13 rfl)) ?_
  refine J.call Try.call46 (known_yes m M hM x hB) [2] rfl rfl rfl rfl ?_
  rintro _ _ ⟨rfl, rfl⟩
  refine J.norm rfl ?_
  refine J.q rfl rfl (Q.not rfl) ?_
  refine J.nil ?_
  refine J.then_n ?_
  refine J.cases 11 rfl (fun hc11 => ?_) (fun hc11 => ?_)
  ·
    cases hc11
  ·
    first | replace hc11 := X.tt_dec hc11 | replace hc11 := X.tt_not hc11 | replace hc11 := X.ff_dec hc11 | replace hc11 := X.ff_not hc11 | skip
    refine J.cond_f rfl ?_
    refine J.cskip ?_
    refine J.then_n ?_
    refine J.seq ?_
    refine J.open1 0 rfl (fun _ h => h) fun z => ?_
    refine J.norm rfl ?_
    refine J.mapFocus 1 hB rfl fun val => ?_
    refine J.norm rfl ?_
    refine J.open_ 0 rfl rfl (fun _ h => h) fun r hr => ?_
    subst hr
    refine J.norm rfl ?_
    refine J.draw [9] Try.mixed (by kernel_rfl) fun hR => ?_
    refine RG.q 0 hR rfl rfl rfl rfl rfl rfl (Q.mv rfl) ?_
    refine RG.q 1 hR rfl rfl rfl rfl rfl rfl (Q.nil_ rfl) ?_
    refine RG.q 2 hR rfl rfl rfl rfl rfl rfl (Q.fa (n := 0) Try.runUnderlying62 rfl rfl Try.sizeOf58 rfl) ?_
    refine RG.q 3 hR rfl rfl rfl rfl rfl rfl (Q.ld Try.isAgg58 rfl (by first | exact Reads.pt 0 rfl rfl | exact Reads.pt 1 rfl rfl | exact Reads.pt 2 rfl rfl | exact Reads.pt 3 rfl rfl | exact Reads.pt 4 rfl rfl | exact Reads.pt 5 rfl rfl | exact Reads.pt 6 rfl rfl | exact Reads.pt 7 rfl rfl | exact Reads.pt 8 rfl rfl | exact Reads.pt 9 rfl rfl | exact Reads.pt 10 rfl rfl | exact Reads.pt 11 rfl rfl | exact Reads.pt 12 rfl rfl | exact Reads.pt 13 rfl rfl)) ?_
    refine RG.q 4 hR rfl rfl rfl rfl rfl rfl (Q.fa (n := 2) Try.runUnderlying26 rfl rfl Try.sizeOf9 rfl) ?_
    refine RG.q 5 hR rfl rfl rfl rfl rfl rfl (Q.ld Try.isAgg9 rfl (by first | exact Reads.pt 0 rfl rfl | exact Reads.pt 1 rfl rfl | exact Reads.pt 2 rfl rfl | exact Reads.pt 3 rfl rfl | exact Reads.pt 4 rfl rfl | exact Reads.pt 5 rfl rfl | exact Reads.pt 6 rfl rfl | exact Reads.pt 7 rfl rfl | exact Reads.pt 8 rfl rfl | exact Reads.pt 9 rfl rfl | exact Reads.pt 10 rfl rfl | exact Reads.pt 11 rfl rfl | exact Reads.pt 12 rfl rfl | exact Reads.pt 13 rfl rfl)) ?_
    refine RG.q 6 hR rfl rfl rfl rfl rfl rfl (X.G.Q.lkYes (i := 1) Try.runUnderlying58 keyS Try.zeroValue74 rfl rfl rfl) ?_
    refine RG.q 7 hR rfl rfl rfl rfl rfl rfl (X.G.Q.lenAt (i := 0) Try.runUnderlying74 rfl rfl) ?_
    refine RG.q 8 hR rfl rfl rfl rfl rfl rfl (Q.gtr rfl rfl) ?_
    refine RG.bar 9 hR rfl rfl rfl rfl rfl rfl (Q.asg rfl).toC ?_
    rintro _ _ ⟨rfl, rfl⟩
    refine RG.norm rfl ?_
    refine RG.fin hR rfl ?_
    refine J.norm rfl ?_
    refine J.then_n ?_
    refine J.seq ?_
    refine J.seq ?_
    refine J.open_ 3 rfl rfl (fun _ h => h) fun q hq => ?_
    refine J.norm rfl ?_
    refine J.region ?_
    refine J.q rfl rfl (Q.mv rfl) ?_
    refine J.q rfl rfl (Q.nil_ rfl) ?_
    refine J.q rfl rfl (Q.fa (n := 1) Try.runUnderlying62 rfl rfl Try.sizeOf59 rfl) ?_
    refine J.q rfl rfl (Q.ld Try.isAgg59 rfl (by first | exact Reads.pt 0 rfl rfl | exact Reads.pt 1 rfl rfl | exact Reads.pt 2 rfl rfl | exact Reads.pt 3 rfl rfl | exact Reads.pt 4 rfl rfl | exact Reads.pt 5 rfl rfl | exact Reads.pt 6 rfl rfl | exact Reads.pt 7 rfl rfl | exact Reads.pt 8 rfl rfl | exact Reads.pt 9 rfl rfl | exact Reads.pt 10 rfl rfl | exact Reads.pt 11 rfl rfl | exact Reads.pt 12 rfl rfl | exact Reads.pt 13 rfl rfl)) ?_
    refine J.c rfl rfl (X.G.C.range (i := 0) Try.runUnderlying59 rfl rfl) ?_
    rintro _ _ ⟨b26, rfl, rfl⟩
    refine J.norm rfl ?_
    refine J.nil ?_
    refine J.then_n ?_
    refine J.block ?_
    refine J.loop (fun z' : List Nat × Bool => z'.2 = (decide (0 < objs.length) || entUses x.o.bucket (edone q.1 z'.1))) (fun z' => (eleft q.1 z'.1).length) (fun z' => [(0, .pointer (some ⟨m, 0, none⟩)), (3, .pointer (some ⟨b3, 0, none⟩)), (4, .pointer (some ⟨b4, 0, none⟩)), (5, .bool z'.2), (26, .pointer (some ⟨b26, 0, none⟩))])
      (fun z' => [pt b26 (X.G.miter z.2.1 q.2 z'.1), pt z.2.1 (X.G.mobj encU (q.1.map Ent.m) q.2), star (q.1.map (Ent.asn uRep)), MapAt Value.string datRep r objs, MapHole Value.string bRep z.1 M.buckets x.o.bucket (.map (some r)), pt m (.cells [.map (some z.1), .map (some z.2.1), .map (some z.2.2)].toArray 62 (0, 0)), MapAt encU dRep z.2.2 M.done, pt b4 (.cells [Value.int .i64 0, .int .u64 0, .slice none 0 0, .bool false, .slice none 0 0].toArray 41 (0, 0)), pt b3 (.cells x.cells.toArray 26 (0, 0)), G, F])
      ([], decide (0 < objs.length)) (by simp [X.G.edone_nil, entUses]) ⟨rfl, rfl, rfl, congrArg some (congrArg Value.bool (by simp)), rfl, trivial⟩ rfl fun z' hz => ?_
    obtain ⟨seen, used⟩ := z'
    dsimp only at hz
    refine J.seq ?_
    refine J.region ?_
    refine J.c rfl rfl (X.G.C.nextE (i := 0) (j := 1) hq rfl rfl rfl) ?_
    rintro _ _ ⟨t, rest, seen', rfl, rfl, hst⟩
    refine J.norm rfl ?_
    refine J.q rfl rfl (Q.ext rfl rfl) ?_
    refine J.nil ?_
    refine J.then_n ?_
    refine J.seq ?_
    refine J.cases 28 rfl (fun hc28 => ?_) (fun hc28 => ?_)
    ·
      first | replace hc28 := X.tt_dec hc28 | replace hc28 := X.tt_not hc28 | replace hc28 := X.ff_dec hc28 | replace hc28 := X.ff_not hc28 | skip
      obtain ⟨e, he, rfl⟩ : ∃ e, e ∈ eleft q.1 seen ∧ seen' = seen ++ [e.born] := by rcases hst with ⟨h, _⟩ | ⟨_, h⟩; exact absurd hc28 (by rw [h]; decide); exact h
      refine J.cond_t rfl ?_
      refine J.cskip ?_
      refine J.then_n ?_
      refine J.block ?_
      refine J.seq ?_
      refine J.region ?_
      have hstep := X.G.estep hq.born he
      have huse := entUses_step hq.born he x.o.bucket
      obtain ⟨j, hj⟩ := List.getElem?_of_mem (List.mem_filter.1 he).1
      obtain ⟨ek, eu, eval, eb⟩ := e
      refine J.q rfl rfl (X.G.Q.entryE (i := 0) (j := 1) hq he rfl rfl rfl) ?_
      refine J.focus 2 j rfl hj ?_
      refine J.norm rfl ?_
      refine J.conv (Y := uRep ek eu eval) 0 rfl (fun _ h => h) ?_
      refine J.open_ 0 rfl rfl (fun _ h => h) fun z2 hz2 => ?_
      subst hz2
      refine J.norm rfl ?_
      refine J.q rfl rfl (Q.ext rfl rfl) ?_
      refine J.q rfl rfl (Q.asg rfl) ?_
      refine J.nil ?_
      refine J.then_n ?_
      refine J.draw [10] Try.mixed (by kernel_rfl) fun hR => ?_
      refine RG.q 0 hR rfl rfl rfl rfl rfl rfl (Q.mv rfl) ?_
      refine RG.q 1 hR rfl rfl rfl rfl rfl rfl (Q.mv rfl) ?_
      refine RG.cases 32 rfl (fun hb32 => ?_) (fun hb32 => ?_)
      ·
        first | replace hb32 := X.tt_dec hb32 | replace hb32 := X.tt_not hb32 | replace hb32 := X.ff_dec hb32 | replace hb32 := X.ff_not hb32 | skip
        refine RG.skip 2 hR rfl rfl rfl rfl rfl rfl ?_
        refine RG.skip 3 hR rfl rfl rfl rfl rfl rfl ?_
        refine RG.skip 4 hR rfl rfl rfl rfl rfl rfl ?_
        refine RG.skip 5 hR rfl rfl rfl rfl rfl rfl ?_
        refine RG.skip 6 hR rfl rfl rfl rfl rfl rfl ?_
        refine RG.skip 7 hR rfl rfl rfl rfl rfl rfl ?_
        refine RG.skip 8 hR rfl rfl rfl rfl rfl rfl ?_
        refine RG.q 9 hR rfl rfl rfl rfl rfl rfl (Q.pick_t rfl rfl) ?_
        refine RG.bar 10 hR rfl rfl rfl rfl rfl rfl (Q.asg rfl).toC ?_
        rintro _ _ ⟨rfl, rfl⟩
        refine RG.norm rfl ?_
        refine RG.fin hR rfl ?_
        refine J.norm rfl ?_
        refine J.blk_n ?_
        refine J.shut [0, 1] (uRep ek eu (.pointer (some ⟨z2.1, 0, none⟩))) rfl (fun h s => ⟨z2, rfl, s⟩) ?_
        refine J.refocus (f := Ent.asn uRep) 0 1 j ⟨ek, eu, .pointer (some ⟨z2.1, 0, none⟩), eb⟩ rfl hj ?_
        refine J.keep [1, 2, 0, 3, 4, 5, 6, 7, 8, 9, 10] rfl ?_
        refine J.again (seen ++ [eb], _) ?_ hstep.2 ⟨rfl, rfl, rfl, rfl, rfl, trivial⟩ rfl
        dsimp only at huse ⊢
        rw [huse, ← Bool.or_assoc, ← hz]
        first
          | (have hb : used = true := hb32
             rw [hb]; rfl)
          | (have hb : used = false := hb32
             rw [hb, Bool.false_or]; exact bytes_eq _ _)
      ·
        first | replace hb32 := X.tt_dec hb32 | replace hb32 := X.tt_not hb32 | replace hb32 := X.ff_dec hb32 | replace hb32 := X.ff_not hb32 | skip
        refine RG.q 2 hR rfl rfl rfl rfl rfl rfl (Q.mv rfl) ?_
        refine RG.q 3 hR rfl rfl rfl rfl rfl rfl (Q.nil_ rfl) ?_
        refine RG.q 4 hR rfl rfl rfl rfl rfl rfl (Q.fa (n := 0) Try.runUnderlying80 rfl rfl Try.sizeOf9 rfl) ?_
        refine RG.q 5 hR rfl rfl rfl rfl rfl rfl (Q.ld Try.isAgg9 rfl (by first | exact Reads.pt 0 rfl rfl | exact Reads.pt 1 rfl rfl | exact Reads.pt 2 rfl rfl | exact Reads.pt 3 rfl rfl | exact Reads.pt 4 rfl rfl | exact Reads.pt 5 rfl rfl | exact Reads.pt 6 rfl rfl | exact Reads.pt 7 rfl rfl | exact Reads.pt 8 rfl rfl | exact Reads.pt 9 rfl rfl | exact Reads.pt 10 rfl rfl | exact Reads.pt 11 rfl rfl | exact Reads.pt 12 rfl rfl | exact Reads.pt 13 rfl rfl)) ?_
        refine RG.q 6 hR rfl rfl rfl rfl rfl rfl (Q.fa (n := 2) Try.runUnderlying26 rfl rfl Try.sizeOf9 rfl) ?_
        refine RG.q 7 hR rfl rfl rfl rfl rfl rfl (Q.ld Try.isAgg9 rfl (by first | exact Reads.pt 0 rfl rfl | exact Reads.pt 1 rfl rfl | exact Reads.pt 2 rfl rfl | exact Reads.pt 3 rfl rfl | exact Reads.pt 4 rfl rfl | exact Reads.pt 5 rfl rfl | exact Reads.pt 6 rfl rfl | exact Reads.pt 7 rfl rfl | exact Reads.pt 8 rfl rfl | exact Reads.pt 9 rfl rfl | exact Reads.pt 10 rfl rfl | exact Reads.pt 11 rfl rfl | exact Reads.pt 12 rfl rfl | exact Reads.pt 13 rfl rfl)) ?_
        refine RG.q 8 hR rfl rfl rfl rfl rfl rfl (Q.eqls rfl rfl) ?_
        refine RG.q 9 hR rfl rfl rfl rfl rfl rfl (Q.pick_f rfl rfl) ?_
        refine RG.bar 10 hR rfl rfl rfl rfl rfl rfl (Q.asg rfl).toC ?_
        rintro _ _ ⟨rfl, rfl⟩
        refine RG.norm rfl ?_
        refine RG.fin hR rfl ?_
        refine J.norm rfl ?_
        refine J.blk_n ?_
        refine J.shut [0, 1] (uRep ek eu (.pointer (some ⟨z2.1, 0, none⟩))) rfl (fun h s => ⟨z2, rfl, s⟩) ?_
        refine J.refocus (f := Ent.asn uRep) 0 1 j ⟨ek, eu, .pointer (some ⟨z2.1, 0, none⟩), eb⟩ rfl hj ?_
        refine J.keep [1, 2, 0, 3, 4, 5, 6, 7, 8, 9, 10] rfl ?_
        refine J.again (seen ++ [eb], _) ?_ hstep.2 ⟨rfl, rfl, rfl, rfl, rfl, trivial⟩ rfl
        dsimp only at huse ⊢
        rw [huse, ← Bool.or_assoc, ← hz]
        first
          | (have hb : used = true := hb32
             rw [hb]; rfl)
          | (have hb : used = false := hb32
             rw [hb, Bool.false_or]; exact bytes_eq _ _)
    ·
      first | replace hc28 := X.tt_dec hc28 | replace hc28 := X.tt_not hc28 | replace hc28 := X.ff_dec hc28 | replace hc28 := X.ff_not hc28 | skip
      obtain ⟨hall, rfl⟩ : edone q.1 seen = q.1 ∧ seen' = seen := by rcases hst with ⟨_, h⟩ | ⟨h, _⟩; exact h; exact absurd hc28 (by rw [h]; decide)
      refine J.cond_f rfl ?_
      refine J.exit ?_
      refine J.then_x ?_
      refine J.lp_x ?_
      refine J.blk_x ?_
      refine J.then_n ?_
      refine J.seq ?_
      refine J.seq ?_
      have hused : used = (decide (0 < objs.length) || M.uses x.o.bucket) := by rw [hz, hall, entUses_all hq]
      refine J.shut [1, 2] (MapAt encU uRep z.2.1 M.uploads) rfl (fun h s => ⟨q, hq, s⟩) ?_
      refine J.region ?_
      refine J.q rfl rfl (Q.mv rfl) ?_
      refine J.nil ?_
      refine J.then_n ?_
      refine J.cases 41 rfl (fun hc41 => ?_) (fun hc41 => ?_)
      ·
        first | replace hc41 := X.tt_dec hc41 | replace hc41 := X.tt_not hc41 | replace hc41 := X.ff_dec hc41 | replace hc41 := X.ff_not hc41 | skip
        refine J.cond_t rfl ?_
        refine J.seq ?_
        refine J.region ?_
        refine J.call Try.call24 (status_spec 409) [] rfl rfl rfl rfl ?_
        rintro _ _ ⟨y, rfl, hy, rfl⟩
        refine J.norm rfl ?_
        first | refine J.c0 rfl (C.stA (i := 0) (vs := [_, _, _, _, _]) Try.sizeOf41 rfl rfl rfl rfl rfl rfl) ?_ | refine J.c0 rfl (C.stA (i := 1) (vs := [_, _, _, _, _]) Try.sizeOf41 rfl rfl rfl rfl rfl rfl) ?_ | refine J.c0 rfl (C.stA (i := 2) (vs := [_, _, _, _, _]) Try.sizeOf41 rfl rfl rfl rfl rfl rfl) ?_ | refine J.c0 rfl (C.stA (i := 3) (vs := [_, _, _, _, _]) Try.sizeOf41 rfl rfl rfl rfl rfl rfl) ?_ | refine J.c0 rfl (C.stA (i := 4) (vs := [_, _, _, _, _]) Try.sizeOf41 rfl rfl rfl rfl rfl rfl) ?_ | refine J.c0 rfl (C.stA (i := 5) (vs := [_, _, _, _, _]) Try.sizeOf41 rfl rfl rfl rfl rfl rfl) ?_ | refine J.c0 rfl (C.stA (i := 6) (vs := [_, _, _, _, _]) Try.sizeOf41 rfl rfl rfl rfl rfl rfl) ?_ | refine J.c0 rfl (C.stA (i := 7) (vs := [_, _, _, _, _]) Try.sizeOf41 rfl rfl rfl rfl rfl rfl) ?_ | refine J.c0 rfl (C.stA (i := 8) (vs := [_, _, _, _, _]) Try.sizeOf41 rfl rfl rfl rfl rfl rfl) ?_ | refine J.c0 rfl (C.stA (i := 9) (vs := [_, _, _, _, _]) Try.sizeOf41 rfl rfl rfl rfl rfl rfl) ?_ | refine J.c0 rfl (C.stA (i := 10) (vs := [_, _, _, _, _]) Try.sizeOf41 rfl rfl rfl rfl rfl rfl) ?_ | refine J.c0 rfl (C.stA (i := 11) (vs := [_, _, _, _, _]) Try.sizeOf41 rfl rfl rfl rfl rfl rfl) ?_ | refine J.c0 rfl (C.stA (i := 12) (vs := [_, _, _, _, _]) Try.sizeOf41 rfl rfl rfl rfl rfl rfl) ?_ | refine J.c0 rfl (C.stA (i := 13) (vs := [_, _, _, _, _]) Try.sizeOf41 rfl rfl rfl rfl rfl rfl) ?_ | refine J.c0 rfl (C.stA (i := 14) (vs := [_, _, _, _, _]) Try.sizeOf41 rfl rfl rfl rfl rfl rfl) ?_ | refine J.c0 rfl (C.stA (i := 15) (vs := [_, _, _, _, _]) Try.sizeOf41 rfl rfl rfl rfl rfl rfl) ?_
        rintro _ _ ⟨rfl, rfl⟩
        refine J.nil ?_
        refine J.then_n ?_
        refine J.cret ?_
        refine J.then_r ?_
        rw [if_pos (by rw [← hused]; exact hc41)]
        refine J.shut [3] (bRep x.o.bucket objs (.map (some r))) rfl (fun h s => ⟨r, rfl, s⟩) ?_
        refine J.mapSame 0 4 ord3_str hM.bs hB rfl ?_
        refine J.shut [4, 0, 2, 5] (BktAt m M) rfl (fun h s => ⟨z, s⟩) ?_
        refine J.retC [0, 1, 5, 6] (vs := [_, _, _, _, _]) rfl rfl Try.isAgg41 Try.sizeOf41 (ReadsN.pt 3 rfl) rfl (B := [_, _, _]) ⟨_, rfl, hy, rfl⟩
      ·
        first | replace hc41 := X.tt_dec hc41 | replace hc41 := X.tt_not hc41 | replace hc41 := X.ff_dec hc41 | replace hc41 := X.ff_not hc41 | skip
        refine J.cond_f rfl ?_
        refine J.cskip ?_
        refine J.then_n ?_
        refine J.seq ?_
        refine J.shut [2] (bRep x.o.bucket objs (.map (some r))) rfl (fun h s => ⟨r, rfl, s⟩) ?_
        refine J.mapSame 0 3 ord3_str hM.bs hB rfl ?_
        refine J.draw [6] Try.mixed (by kernel_rfl) fun hR => ?_
        refine RG.q 0 hR rfl rfl rfl rfl rfl rfl (Q.mv rfl) ?_
        refine RG.q 1 hR rfl rfl rfl rfl rfl rfl (Q.nil_ rfl) ?_
        refine RG.q 2 hR rfl rfl rfl rfl rfl rfl (Q.fa (n := 0) Try.runUnderlying62 rfl rfl Try.sizeOf58 rfl) ?_
        refine RG.q 3 hR rfl rfl rfl rfl rfl rfl (Q.ld Try.isAgg58 rfl (by first | exact Reads.pt 0 rfl rfl | exact Reads.pt 1 rfl rfl | exact Reads.pt 2 rfl rfl | exact Reads.pt 3 rfl rfl | exact Reads.pt 4 rfl rfl | exact Reads.pt 5 rfl rfl | exact Reads.pt 6 rfl rfl | exact Reads.pt 7 rfl rfl | exact Reads.pt 8 rfl rfl | exact Reads.pt 9 rfl rfl | exact Reads.pt 10 rfl rfl | exact Reads.pt 11 rfl rfl | exact Reads.pt 12 rfl rfl | exact Reads.pt 13 rfl rfl)) ?_
        refine RG.q 4 hR rfl rfl rfl rfl rfl rfl (Q.fa (n := 2) Try.runUnderlying26 rfl rfl Try.sizeOf9 rfl) ?_
        refine RG.q 5 hR rfl rfl rfl rfl rfl rfl (Q.ld Try.isAgg9 rfl (by first | exact Reads.pt 0 rfl rfl | exact Reads.pt 1 rfl rfl | exact Reads.pt 2 rfl rfl | exact Reads.pt 3 rfl rfl | exact Reads.pt 4 rfl rfl | exact Reads.pt 5 rfl rfl | exact Reads.pt 6 rfl rfl | exact Reads.pt 7 rfl rfl | exact Reads.pt 8 rfl rfl | exact Reads.pt 9 rfl rfl | exact Reads.pt 10 rfl rfl | exact Reads.pt 11 rfl rfl | exact Reads.pt 12 rfl rfl | exact Reads.pt 13 rfl rfl)) ?_
        refine RG.bar 6 hR rfl rfl rfl rfl rfl rfl (X.G.C.mapDel 0 Try.runUnderlying58 keyS rfl rfl) ?_
        rintro _ _ ⟨rfl, rfl⟩
        refine RG.norm rfl ?_
        refine RG.fin hR rfl ?_
        refine J.norm rfl ?_
        refine J.then_n ?_
        refine J.seq ?_
        refine J.region ?_
        refine J.call Try.call24 (status_spec 200) [] rfl rfl rfl rfl ?_
        rintro _ _ ⟨y, rfl, hy, rfl⟩
        refine J.norm rfl ?_
        first | refine J.c0 rfl (C.stA (i := 0) (vs := [_, _, _, _, _]) Try.sizeOf41 rfl rfl rfl rfl rfl rfl) ?_ | refine J.c0 rfl (C.stA (i := 1) (vs := [_, _, _, _, _]) Try.sizeOf41 rfl rfl rfl rfl rfl rfl) ?_ | refine J.c0 rfl (C.stA (i := 2) (vs := [_, _, _, _, _]) Try.sizeOf41 rfl rfl rfl rfl rfl rfl) ?_ | refine J.c0 rfl (C.stA (i := 3) (vs := [_, _, _, _, _]) Try.sizeOf41 rfl rfl rfl rfl rfl rfl) ?_ | refine J.c0 rfl (C.stA (i := 4) (vs := [_, _, _, _, _]) Try.sizeOf41 rfl rfl rfl rfl rfl rfl) ?_ | refine J.c0 rfl (C.stA (i := 5) (vs := [_, _, _, _, _]) Try.sizeOf41 rfl rfl rfl rfl rfl rfl) ?_ | refine J.c0 rfl (C.stA (i := 6) (vs := [_, _, _, _, _]) Try.sizeOf41 rfl rfl rfl rfl rfl rfl) ?_ | refine J.c0 rfl (C.stA (i := 7) (vs := [_, _, _, _, _]) Try.sizeOf41 rfl rfl rfl rfl rfl rfl) ?_ | refine J.c0 rfl (C.stA (i := 8) (vs := [_, _, _, _, _]) Try.sizeOf41 rfl rfl rfl rfl rfl rfl) ?_ | refine J.c0 rfl (C.stA (i := 9) (vs := [_, _, _, _, _]) Try.sizeOf41 rfl rfl rfl rfl rfl rfl) ?_ | refine J.c0 rfl (C.stA (i := 10) (vs := [_, _, _, _, _]) Try.sizeOf41 rfl rfl rfl rfl rfl rfl) ?_ | refine J.c0 rfl (C.stA (i := 11) (vs := [_, _, _, _, _]) Try.sizeOf41 rfl rfl rfl rfl rfl rfl) ?_ | refine J.c0 rfl (C.stA (i := 12) (vs := [_, _, _, _, _]) Try.sizeOf41 rfl rfl rfl rfl rfl rfl) ?_ | refine J.c0 rfl (C.stA (i := 13) (vs := [_, _, _, _, _]) Try.sizeOf41 rfl rfl rfl rfl rfl rfl) ?_ | refine J.c0 rfl (C.stA (i := 14) (vs := [_, _, _, _, _]) Try.sizeOf41 rfl rfl rfl rfl rfl rfl) ?_ | refine J.c0 rfl (C.stA (i := 15) (vs := [_, _, _, _, _]) Try.sizeOf41 rfl rfl rfl rfl rfl rfl) ?_
        rintro _ _ ⟨rfl, rfl⟩
        refine J.nil ?_
        refine J.then_n ?_
        refine J.cret ?_
        have hcu : used = false := hc41
        rw [if_neg (by rw [← hused, hcu]; simp)]
        refine J.shut [4, 1, 2, 5] (BktAt m { M with buckets := sdel x.o.bucket M.buckets }) rfl (fun h s => ⟨z, s⟩) ?_
        refine J.retC [0, 1, 5, 6] (vs := [_, _, _, _, _]) rfl rfl Try.isAgg41 Try.sizeOf41 (ReadsN.pt 3 rfl) rfl (B := [_, _, _]) ⟨_, rfl, hy, rfl⟩
theorem unmake_spec : FSpec Try.prog 34 [.pointer (some ⟨m, 0, none⟩), .agg x.cells.toArray] [BktAt m M, G] (ActR m G (M.unmake x.o)) := by
  unfold BM.unmake
  split
  · rename_i hB; exact unmake_no m M hM x G hx hB
  · rename_i hB; exact unmake_yes m M hM x G hx hB

theorem complete_no (hU : sget x.o.upload M.uploads = none) : FSpec Try.prog 41 [.pointer (some ⟨m, 0, none⟩), .agg x.cells.toArray] [BktAt m M, G] (ActR m G (st 404, M)) := by
  refine FSpec.of Try.func41 rfl Try.ntmps41 rfl fun W0 F => ?_
  refine J.seq ?_
  refine J.region ?_
  refine J.c rfl rfl (C.box (l := [_, _, _, _, _, _, _, _, _]) rfl rfl) ?_
  rintro _ _ ⟨b3, rfl, rfl⟩
  refine J.norm rfl ?_
  refine J.c rfl rfl (C.alloc (l := [_, _, _, _, _]) Try.zeroValue41 rfl) ?_
  rintro _ _ ⟨b4, rfl, rfl⟩
  refine J.norm rfl ?_
  refine J.nil ?_
  refine J.then_n ?_
  refine J.seq ?_
  refine J.open1 2 rfl (fun _ h => h) fun z => ?_
  refine J.norm rfl ?_
  refine J.draw [7] Try.mixed (by kernel_rfl) fun hR => ?_
  refine RG.q 0 hR rfl rfl rfl rfl rfl rfl (Q.mv rfl) ?_
  refine RG.q 1 hR rfl rfl rfl rfl rfl rfl (Q.nil_ rfl) ?_
  refine RG.q 2 hR rfl rfl rfl rfl rfl rfl (Q.fa (n := 1) Try.runUnderlying62 rfl rfl Try.sizeOf59 rfl) ?_
  refine RG.q 3 hR rfl rfl rfl rfl rfl rfl (Q.ld Try.isAgg59 rfl (by first | exact Reads.pt 0 rfl rfl | exact Reads.pt 1 rfl rfl | exact Reads.pt 2 rfl rfl | exact Reads.pt 3 rfl rfl | exact Reads.pt 4 rfl rfl | exact Reads.pt 5 rfl rfl | exact Reads.pt 6 rfl rfl | exact Reads.pt 7 rfl rfl | exact Reads.pt 8 rfl rfl | exact Reads.pt 9 rfl rfl | exact Reads.pt 10 rfl rfl | exact Reads.pt 11 rfl rfl | exact Reads.pt 12 rfl rfl | exact Reads.pt 13 rfl rfl)) ?_
  refine RG.q 4 hR rfl rfl rfl rfl rfl rfl (Q.fa (n := 6) Try.runUnderlying26 rfl rfl Try.sizeOf22 rfl) ?_
  refine RG.q 5 hR rfl rfl rfl rfl rfl rfl (Q.ld Try.isAgg22 rfl (by first | exact Reads.pt 0 rfl rfl | exact Reads.pt 1 rfl rfl | exact Reads.pt 2 rfl rfl | exact Reads.pt 3 rfl rfl | exact Reads.pt 4 rfl rfl | exact Reads.pt 5 rfl rfl | exact Reads.pt 6 rfl rfl | exact Reads.pt 7 rfl rfl | exact Reads.pt 8 rfl rfl | exact Reads.pt 9 rfl rfl | exact Reads.pt 10 rfl rfl | exact Reads.pt 11 rfl rfl | exact Reads.pt 12 rfl rfl | exact Reads.pt 13 rfl rfl)) ?_
  refine RG.q 6 hR rfl rfl rfl rfl rfl rfl (X.G.Q.lkNo (i := 2) Try.runUnderlying59 keyU Try.zeroValue78 rfl rfl rfl hU) ?_
  refine RG.bar 7 hR rfl rfl rfl rfl rfl rfl (Q.asg rfl).toC ?_
  rintro _ _ ⟨rfl, rfl⟩
  refine RG.norm rfl ?_
  refine RG.fin hR rfl ?_
  refine J.norm rfl ?_
  refine J.then_n ?_
  refine J.seq ?_
  refine J.seq ?_
  refine J.region ?_
  refine J.q rfl rfl (Q.mv rfl) ?_
  refine J.q rfl rfl (Q.eqlp Try.runUnderlying78 rfl rfl) ?_
  refine J.nil ?_
  refine J.then_n ?_
  refine J.cases 19 rfl (fun hc19 => ?_) (fun hc19 => ?_)
  ·
    first | replace hc19 := X.tt_dec hc19 | replace hc19 := X.tt_not hc19 | replace hc19 := X.ff_dec hc19 | replace hc19 := X.ff_not hc19 | skip
    try (first | (cases hc19; done) | (exfalso; simp at hc19; done))
    all_goals
      refine J.cond_t rfl ?_
      refine J.seq ?_
      refine J.region ?_
      refine J.call Try.call24 (status_spec 404) [] rfl rfl rfl rfl ?_
      rintro _ _ ⟨y, rfl, hy, rfl⟩
      refine J.norm rfl ?_
      first | refine J.c0 rfl (C.stA (i := 0) (vs := [_, _, _, _, _]) Try.sizeOf41 rfl rfl rfl rfl rfl rfl) ?_ | refine J.c0 rfl (C.stA (i := 1) (vs := [_, _, _, _, _]) Try.sizeOf41 rfl rfl rfl rfl rfl rfl) ?_ | refine J.c0 rfl (C.stA (i := 2) (vs := [_, _, _, _, _]) Try.sizeOf41 rfl rfl rfl rfl rfl rfl) ?_ | refine J.c0 rfl (C.stA (i := 3) (vs := [_, _, _, _, _]) Try.sizeOf41 rfl rfl rfl rfl rfl rfl) ?_ | refine J.c0 rfl (C.stA (i := 4) (vs := [_, _, _, _, _]) Try.sizeOf41 rfl rfl rfl rfl rfl rfl) ?_ | refine J.c0 rfl (C.stA (i := 5) (vs := [_, _, _, _, _]) Try.sizeOf41 rfl rfl rfl rfl rfl rfl) ?_ | refine J.c0 rfl (C.stA (i := 6) (vs := [_, _, _, _, _]) Try.sizeOf41 rfl rfl rfl rfl rfl rfl) ?_ | refine J.c0 rfl (C.stA (i := 7) (vs := [_, _, _, _, _]) Try.sizeOf41 rfl rfl rfl rfl rfl rfl) ?_ | refine J.c0 rfl (C.stA (i := 8) (vs := [_, _, _, _, _]) Try.sizeOf41 rfl rfl rfl rfl rfl rfl) ?_ | refine J.c0 rfl (C.stA (i := 9) (vs := [_, _, _, _, _]) Try.sizeOf41 rfl rfl rfl rfl rfl rfl) ?_ | refine J.c0 rfl (C.stA (i := 10) (vs := [_, _, _, _, _]) Try.sizeOf41 rfl rfl rfl rfl rfl rfl) ?_ | refine J.c0 rfl (C.stA (i := 11) (vs := [_, _, _, _, _]) Try.sizeOf41 rfl rfl rfl rfl rfl rfl) ?_ | refine J.c0 rfl (C.stA (i := 12) (vs := [_, _, _, _, _]) Try.sizeOf41 rfl rfl rfl rfl rfl rfl) ?_ | refine J.c0 rfl (C.stA (i := 13) (vs := [_, _, _, _, _]) Try.sizeOf41 rfl rfl rfl rfl rfl rfl) ?_ | refine J.c0 rfl (C.stA (i := 14) (vs := [_, _, _, _, _]) Try.sizeOf41 rfl rfl rfl rfl rfl rfl) ?_ | refine J.c0 rfl (C.stA (i := 15) (vs := [_, _, _, _, _]) Try.sizeOf41 rfl rfl rfl rfl rfl rfl) ?_
      rintro _ _ ⟨rfl, rfl⟩
      refine J.nil ?_
      refine J.then_n ?_
      refine J.cret ?_
      refine J.then_r ?_
      refine J.shut [1, 2, 3, 4] (BktAt m M) rfl (fun h s => ⟨z, s⟩) ?_
      refine J.retC [0, 1, 4, 5] (vs := [_, _, _, _, _]) rfl rfl Try.isAgg41 Try.sizeOf41 (ReadsN.pt 2 rfl) rfl (B := [_, _, _]) ⟨_, rfl, hy, rfl⟩
  ·
    cases hc19

theorem complete_yes (hpl : x.o.parts.length ≤ 10000) {u : UM} (hU : sget x.o.upload M.uploads = some u) : FSpec Try.prog 41 [.pointer (some ⟨m, 0, none⟩), .agg x.cells.toArray] [BktAt m M, G]
    (ActR m G (match collect u.parts x.o.parts with
    | none => (st 400, M)
    | some d => (st 200, { M with buckets := sput ltB u.bucket (sput ltB u.key d ((sget u.bucket M.buckets).getD [])) M.buckets, uploads := sdel x.o.upload M.uploads }))) := by
  have hP := hM.ps _ _ hU
  obtain ⟨objs, hB⟩ := Option.isSome_iff_exists.1 hP.2.1
  have hO := hM.os _ _ hB
  have hfl := flat_len hP.2.2
  refine FSpec.of Try.func41 rfl Try.ntmps41 rfl fun W0 F => ?_
  refine J.seq ?_
  refine J.region ?_
  refine J.c rfl rfl (C.box (l := [_, _, _, _, _, _, _, _, _]) rfl rfl) ?_
  rintro _ _ ⟨b3, rfl, rfl⟩
  refine J.norm rfl ?_
  refine J.c rfl rfl (C.alloc (l := [_, _, _, _, _]) Try.zeroValue41 rfl) ?_
  rintro _ _ ⟨b4, rfl, rfl⟩
  refine J.norm rfl ?_
  refine J.nil ?_
  refine J.then_n ?_
  refine J.seq ?_
  refine J.open1 2 rfl (fun _ h => h) fun z => ?_
  refine J.norm rfl ?_
  refine J.mapFocus 2 hU rfl fun val => ?_
  refine J.norm rfl ?_
  refine J.open_ 0 rfl rfl (fun _ h => h) fun z2 hz2 => ?_
  subst hz2
  refine J.norm rfl ?_
  refine J.draw [7] Try.mixed (by kernel_rfl) fun hR => ?_
  refine RG.q 0 hR rfl rfl rfl rfl rfl rfl (Q.mv rfl) ?_
  refine RG.q 1 hR rfl rfl rfl rfl rfl rfl (Q.nil_ rfl) ?_
  refine RG.q 2 hR rfl rfl rfl rfl rfl rfl (Q.fa (n := 1) Try.runUnderlying62 rfl rfl Try.sizeOf59 rfl) ?_
  refine RG.q 3 hR rfl rfl rfl rfl rfl rfl (Q.ld Try.isAgg59 rfl (by first | exact Reads.pt 0 rfl rfl | exact Reads.pt 1 rfl rfl | exact Reads.pt 2 rfl rfl | exact Reads.pt 3 rfl rfl | exact Reads.pt 4 rfl rfl | exact Reads.pt 5 rfl rfl | exact Reads.pt 6 rfl rfl | exact Reads.pt 7 rfl rfl | exact Reads.pt 8 rfl rfl | exact Reads.pt 9 rfl rfl | exact Reads.pt 10 rfl rfl | exact Reads.pt 11 rfl rfl | exact Reads.pt 12 rfl rfl | exact Reads.pt 13 rfl rfl)) ?_
  refine RG.q 4 hR rfl rfl rfl rfl rfl rfl (Q.fa (n := 6) Try.runUnderlying26 rfl rfl Try.sizeOf22 rfl) ?_
  refine RG.q 5 hR rfl rfl rfl rfl rfl rfl (Q.ld Try.isAgg22 rfl (by first | exact Reads.pt 0 rfl rfl | exact Reads.pt 1 rfl rfl | exact Reads.pt 2 rfl rfl | exact Reads.pt 3 rfl rfl | exact Reads.pt 4 rfl rfl | exact Reads.pt 5 rfl rfl | exact Reads.pt 6 rfl rfl | exact Reads.pt 7 rfl rfl | exact Reads.pt 8 rfl rfl | exact Reads.pt 9 rfl rfl | exact Reads.pt 10 rfl rfl | exact Reads.pt 11 rfl rfl | exact Reads.pt 12 rfl rfl | exact Reads.pt 13 rfl rfl)) ?_
  refine RG.q 6 hR rfl rfl rfl rfl rfl rfl (X.G.Q.lkYes (i := 2) Try.runUnderlying59 keyU Try.zeroValue78 rfl rfl rfl) ?_
  refine RG.bar 7 hR rfl rfl rfl rfl rfl rfl (Q.asg rfl).toC ?_
  rintro _ _ ⟨rfl, rfl⟩
  refine RG.norm rfl ?_
  refine RG.fin hR rfl ?_
  refine J.norm rfl ?_
  refine J.then_n ?_
  refine J.seq ?_
  refine J.seq ?_
  refine J.region ?_
  refine J.q rfl rfl (Q.mv rfl) ?_
  refine J.q rfl rfl (Q.eqlp Try.runUnderlying78 rfl rfl) ?_
  refine J.nil ?_
  refine J.then_n ?_
  refine J.cases 19 rfl (fun hc19 => ?_) (fun hc19 => ?_)
  ·
    cases hc19
  ·
    first | replace hc19 := X.tt_dec hc19 | replace hc19 := X.tt_not hc19 | replace hc19 := X.ff_dec hc19 | replace hc19 := X.ff_not hc19 | skip
    refine J.cond_f rfl ?_
    refine J.cskip ?_
    refine J.then_n ?_
    refine J.seq ?_
    refine J.region ?_
    refine J.q rfl rfl (Q.asg rfl) ?_
    refine J.nil ?_
    refine J.then_n ?_
    refine J.seq ?_
    refine J.seq ?_
    refine J.region ?_
    refine J.q rfl rfl (Q.fa (n := 7) Try.runUnderlying26 rfl rfl Try.sizeOf23 rfl) ?_
    refine J.q rfl rfl (Q.ld Try.isAgg23 rfl (by first | exact Reads.pt 0 rfl rfl | exact Reads.pt 1 rfl rfl | exact Reads.pt 2 rfl rfl | exact Reads.pt 3 rfl rfl | exact Reads.pt 4 rfl rfl | exact Reads.pt 5 rfl rfl | exact Reads.pt 6 rfl rfl | exact Reads.pt 7 rfl rfl | exact Reads.pt 8 rfl rfl | exact Reads.pt 9 rfl rfl | exact Reads.pt 10 rfl rfl | exact Reads.pt 11 rfl rfl | exact Reads.pt 12 rfl rfl | exact Reads.pt 13 rfl rfl)) ?_
    refine J.q rfl rfl (Q.lenSl Try.runUnderlying23 rfl) ?_
    refine J.q rfl rfl (Q.mv rfl) ?_
    refine J.nil ?_
    refine J.then_n ?_
    refine J.block ?_
    refine J.open_ 1 rfl rfl (fun _ h => h) fun q hq => ?_
    refine J.norm rfl ?_
    refine J.give (own.nil 5 1 _) ?_
    refine J.loop (fun w : Nat × Option Addr × Nat => w.1 ≤ x.o.parts.length ∧ ((x.o.parts.take w.1).all fun n => (sget n u.parts).isSome) = true) (fun w => x.o.parts.length - w.1) (fun w => [(0, .pointer (some ⟨m, 0, none⟩)), (3, .pointer (some ⟨b3, 0, none⟩)), (4, .pointer (some ⟨b4, 0, none⟩)), (5, .pointer (some ⟨z2.1, 0, none⟩)), (6, .slice w.2.1 ((x.o.parts.take w.1).flatMap (partOf u.parts)).length w.2.2), (22, .slice x.pp x.o.parts.length x.pc), (23, .int .i64 x.o.parts.length), (24, .int .i64 w.1)])
      (fun w => [own 5 1 (.slice w.2.1 ((x.o.parts.take w.1).flatMap (partOf u.parts)).length w.2.2) (bytesV ((x.o.parts.take w.1).flatMap (partOf u.parts))), pt z2.2 (X.G.mobj (Value.int .i64) (q.1.map Ent.m) q.2), star (q.1.map (Ent.asn datRep)), pt z2.1 (.cells [.string u.bucket, .string u.key, .map (some z2.2)].toArray 80 (0, 0)), MapHole encU uRep z.2.1 M.uploads x.o.upload (.pointer (some ⟨z2.1, 0, none⟩)), pt m (.cells [.map (some z.1), .map (some z.2.1), .map (some z.2.2)].toArray 62 (0, 0)), MapAt Value.string bRep z.1 M.buckets, MapAt encU dRep z.2.2 M.done, pt b4 (.cells [Value.int .i64 0, .int .u64 0, .slice none 0 0, .bool false, .slice none 0 0].toArray 41 (0, 0)), pt b3 (.cells x.cells.toArray 26 (0, 0)), G, F])
      (0, none, 0) ⟨Nat.zero_le _, rfl⟩ ⟨rfl, rfl, rfl, rfl, rfl, rfl, rfl, rfl, trivial⟩ rfl fun w hw => ?_
    obtain ⟨i, p6, c6⟩ := w
    obtain ⟨hi, hall⟩ := hw
    dsimp only at hi hall
    refine J.seq ?_
    refine J.region ?_
    refine J.q rfl rfl (Q.lss rfl rfl) ?_
    refine J.nil ?_
    refine J.then_n ?_
    refine J.seq ?_
    refine J.cases 25 rfl (fun hc25 => ?_) (fun hc25 => ?_)
    ·
      first | replace hc25 := X.tt_dec hc25 | replace hc25 := X.tt_not hc25 | replace hc25 := X.ff_dec hc25 | replace hc25 := X.ff_not hc25 | skip
      refine J.cond_t rfl ?_
      refine J.cskip ?_
      refine J.then_n ?_
      refine J.seq ?_
      refine J.block ?_
      refine J.seq ?_
      obtain ⟨b, off, hpp, hrd⟩ := hx.parts.some_ (by omega)
      obtain ⟨v, hv⟩ : ∃ v, x.o.parts[i]? = some v := ⟨_, List.getElem?_eq_getElem (by omega)⟩
      refine J.slot 22 (.slice (some ⟨b, off, none⟩) x.o.parts.length x.pc) rfl (by rw [hpp]) ?_
      refine J.region ?_
      refine J.q rfl rfl (Q.ia Try.runUnderlying23 Try.sizeOf3 rfl rfl (by omega) (by omega)) ?_
      refine J.q rfl rfl (Q.ld Try.isAgg3 rfl (((hrd i (.int .i64 v) (by simp [hv])).within (i := 10) rfl).cast (by simp))) ?_
      refine J.q rfl rfl (Q.asg rfl) ?_
      refine J.nil ?_
      refine J.then_n ?_
      refine J.seq ?_
      refine J.region ?_
      refine J.q rfl rfl (Q.mv rfl) ?_
      refine J.q rfl rfl (Q.nil_ rfl) ?_
      refine J.q rfl rfl (Q.fa (n := 2) Try.runUnderlying80 rfl rfl Try.sizeOf38 rfl) ?_
      refine J.q rfl rfl (Q.ld Try.isAgg38 rfl (by first | exact Reads.pt 0 rfl rfl | exact Reads.pt 1 rfl rfl | exact Reads.pt 2 rfl rfl | exact Reads.pt 3 rfl rfl | exact Reads.pt 4 rfl rfl | exact Reads.pt 5 rfl rfl | exact Reads.pt 6 rfl rfl | exact Reads.pt 7 rfl rfl | exact Reads.pt 8 rfl rfl | exact Reads.pt 9 rfl rfl | exact Reads.pt 10 rfl rfl | exact Reads.pt 11 rfl rfl | exact Reads.pt 12 rfl rfl | exact Reads.pt 13 rfl rfl)) ?_
      refine J.q rfl rfl (Q.mv rfl) ?_
      refine J.q rfl rfl (X.G.Q.lk2 (i := 1) Try.runUnderlying38 keyI Try.zeroValue24 rfl rfl rfl) ?_
      refine J.q rfl rfl (Q.mv rfl) ?_
      refine J.q rfl rfl (Q.ext rfl rfl) ?_
      refine J.q rfl rfl (Q.ext rfl rfl) ?_
      refine J.q rfl rfl (Q.asg rfl) ?_
      refine J.q rfl rfl (Q.asg rfl) ?_
      refine J.nil ?_
      refine J.then_n ?_
      refine J.seq ?_
      refine J.seq ?_
      refine J.region ?_
      refine J.q rfl rfl (Q.mv rfl) ?_
      refine J.q rfl rfl (Q.not rfl) ?_
      refine J.nil ?_
      refine J.then_n ?_
      refine J.cases 38 rfl (fun hc38 => ?_) (fun hc38 => ?_)
      ·
        first | replace hc38 := X.tt_dec hc38 | replace hc38 := X.tt_not hc38 | replace hc38 := X.ff_dec hc38 | replace hc38 := X.ff_not hc38 | skip
        refine J.cond_t rfl ?_
        refine J.seq ?_
        refine J.region ?_
        refine J.call Try.call24 (status_spec 400) [] rfl rfl rfl rfl ?_
        rintro _ _ ⟨y, rfl, hy, rfl⟩
        refine J.norm rfl ?_
        first | refine J.c0 rfl (C.stA (i := 0) (vs := [_, _, _, _, _]) Try.sizeOf41 rfl rfl rfl rfl rfl rfl) ?_ | refine J.c0 rfl (C.stA (i := 1) (vs := [_, _, _, _, _]) Try.sizeOf41 rfl rfl rfl rfl rfl rfl) ?_ | refine J.c0 rfl (C.stA (i := 2) (vs := [_, _, _, _, _]) Try.sizeOf41 rfl rfl rfl rfl rfl rfl) ?_ | refine J.c0 rfl (C.stA (i := 3) (vs := [_, _, _, _, _]) Try.sizeOf41 rfl rfl rfl rfl rfl rfl) ?_ | refine J.c0 rfl (C.stA (i := 4) (vs := [_, _, _, _, _]) Try.sizeOf41 rfl rfl rfl rfl rfl rfl) ?_ | refine J.c0 rfl (C.stA (i := 5) (vs := [_, _, _, _, _]) Try.sizeOf41 rfl rfl rfl rfl rfl rfl) ?_ | refine J.c0 rfl (C.stA (i := 6) (vs := [_, _, _, _, _]) Try.sizeOf41 rfl rfl rfl rfl rfl rfl) ?_ | refine J.c0 rfl (C.stA (i := 7) (vs := [_, _, _, _, _]) Try.sizeOf41 rfl rfl rfl rfl rfl rfl) ?_ | refine J.c0 rfl (C.stA (i := 8) (vs := [_, _, _, _, _]) Try.sizeOf41 rfl rfl rfl rfl rfl rfl) ?_ | refine J.c0 rfl (C.stA (i := 9) (vs := [_, _, _, _, _]) Try.sizeOf41 rfl rfl rfl rfl rfl rfl) ?_ | refine J.c0 rfl (C.stA (i := 10) (vs := [_, _, _, _, _]) Try.sizeOf41 rfl rfl rfl rfl rfl rfl) ?_ | refine J.c0 rfl (C.stA (i := 11) (vs := [_, _, _, _, _]) Try.sizeOf41 rfl rfl rfl rfl rfl rfl) ?_ | refine J.c0 rfl (C.stA (i := 12) (vs := [_, _, _, _, _]) Try.sizeOf41 rfl rfl rfl rfl rfl rfl) ?_ | refine J.c0 rfl (C.stA (i := 13) (vs := [_, _, _, _, _]) Try.sizeOf41 rfl rfl rfl rfl rfl rfl) ?_ | refine J.c0 rfl (C.stA (i := 14) (vs := [_, _, _, _, _]) Try.sizeOf41 rfl rfl rfl rfl rfl rfl) ?_ | refine J.c0 rfl (C.stA (i := 15) (vs := [_, _, _, _, _]) Try.sizeOf41 rfl rfl rfl rfl rfl rfl) ?_
        rintro _ _ ⟨rfl, rfl⟩
        refine J.nil ?_
        refine J.then_n ?_
        refine J.cret ?_
        refine J.then_r ?_
        refine J.blk_r ?_
        refine J.then_r ?_
        refine J.lp_r ?_
        refine J.blk_r ?_
        refine J.then_r ?_
        have hno : sget v u.parts = none := by
          rw [hq.get]
          rcases X.G.elook v q.1 with ⟨_, h2, _⟩ | ⟨j, e, _, _, h3, _⟩
          · exact h2
          · rw [h3] at hc38; cases hc38
        rw [collect_none hv hno]
        refine J.shut [2, 3] (MapAt (Value.int .i64) datRep z2.2 u.parts) rfl (fun h s => ⟨q, hq, s⟩) ?_
        refine J.shut [3, 0] (uRep x.o.upload u (.pointer (some ⟨z2.1, 0, none⟩))) rfl (fun h s => ⟨z2, rfl, s⟩) ?_
        refine J.mapSame 0 3 ord3_nat hM.us hU rfl ?_
        refine J.shut [3, 4, 0, 5] (BktAt m M) rfl (fun h s => ⟨z, s⟩) ?_
        refine J.retC [0, 1, 5, 6] (vs := [_, _, _, _, _]) rfl rfl Try.isAgg41 Try.sizeOf41 (ReadsN.pt 3 rfl) rfl (B := [_, _, _]) ⟨_, rfl, hy, rfl⟩
      ·
        first | replace hc38 := X.tt_dec hc38 | replace hc38 := X.tt_not hc38 | replace hc38 := X.ff_dec hc38 | replace hc38 := X.ff_not hc38 | skip
        refine J.cond_f rfl ?_
        refine J.cskip ?_
        refine J.then_n ?_
        obtain ⟨j, e, hj, hek, hmg, hsg⟩ : ∃ (j : Nat) (e : Ent Int (List UInt8)), q.1[j]? = some e ∧ e.key = v ∧ X.G.mget v (q.1.map Ent.m) = some e.val ∧ sget v u.parts = some e.v := by
          rcases X.G.elook v q.1 with ⟨h1, _, _⟩ | ⟨j, e, h1, h2, h3, h4, _⟩
          · rw [h1] at hc38; cases hc38
          · exact ⟨j, e, h1, h2, h3, by rw [hq.get]; exact h4⟩
        obtain ⟨ek, d, eval, eb⟩ := e
        have hd16 : d.length ≤ 16777216 := hP.2.2 _ _ hsg
        have hacc := hfl (x.o.parts.take i)
        have hil : (x.o.parts.take i).length ≤ 10000 := by rw [List.length_take]; omega
        have hacc2 : (List.flatMap (partOf u.parts) (List.take (i, p6, c6).fst x.o.parts)).length ≤ 167772160000 := by show (List.flatMap (partOf u.parts) (List.take i x.o.parts)).length ≤ _; omega
        refine J.focus 2 j rfl hj ?_
        refine J.norm rfl ?_
        refine J.conv (Y := datRep ek d eval) 0 rfl (fun _ h => h) ?_
        refine J.open_ 0 rfl rfl (fun _ h => h) fun z3 hz3 => ?_
        subst hz3
        refine J.norm rfl ?_
        refine J.slr1 0 rfl fun hs9 => ?_
        refine J.slot 9 (.slice z3.1 d.length z3.2) rfl (by rw [hmg]; rfl) ?_
        refine J.region ?_
        refine J.q rfl rfl (Q.mv rfl) ?_
        refine J.q rfl rfl (Q.mv rfl) ?_
        refine J.c rfl rfl (C.app (i := 2) Try.runUnderlying24 Try.runUnderlying24 Try.typeInfo5 Try.sizeOf5 Try.zeroValue5 rfl rfl rfl (hs9.within (i := 0) rfl) (bytesV_one _) (by rw [show Try.t5.bytes = 1 from rfl]; omega) (by decide)) ?_
        rintro _ _ ⟨p42, c42, rfl, rfl⟩
        refine J.norm rfl ?_
        refine J.q rfl rfl (Q.asg rfl) ?_
        refine J.nil ?_
        refine J.blk_n ?_
        refine J.then_n ?_
        refine J.region ?_
        refine J.q rfl rfl (Q.add64 rfl rfl (by omega)) ?_
        refine J.q rfl rfl (Q.mv rfl) ?_
        refine J.nil ?_
        have hfs := flat_take_succ hv hsg
        dsimp only at hfs
        refine J.shut [0] (datRep ek d (.slice z3.1 d.length z3.2)) rfl (fun h s => ⟨z3, rfl, s⟩) ?_
        refine J.refocus (f := Ent.asn datRep) 0 1 j ⟨ek, d, .slice z3.1 d.length z3.2, eb⟩ rfl hj ?_
        refine J.keep [1, 2, 0, 3, 4, 5, 6, 7, 8, 9, 10, 11] rfl ?_
        refine J.again (i + 1, p42, c42) ⟨by show i + 1 ≤ _; omega, all_take_some hv hall (by rw [hsg]; rfl)⟩ (by show x.o.parts.length - (i + 1) < x.o.parts.length - i; omega) ⟨rfl, rfl, rfl, rfl, (by show _ = some (Value.slice p42 _ c42); rw [hfs, List.length_append]; rfl), (by show _ = some (Value.slice x.pp _ _); rw [hpp]; rfl), rfl, rfl, trivial⟩ ?_
        show _ = [own 5 1 (.slice p42 ((x.o.parts.take (i + 1)).flatMap (partOf u.parts)).length c42) (bytesV ((x.o.parts.take (i + 1)).flatMap (partOf u.parts))), _, _, _, _, _, _, _, _, _, _, _]
        rw [hfs, List.length_append, ← bytesV_append]
    ·
      first | replace hc25 := X.tt_dec hc25 | replace hc25 := X.tt_not hc25 | replace hc25 := X.ff_dec hc25 | replace hc25 := X.ff_not hc25 | skip
      refine J.cond_f rfl ?_
      refine J.exit ?_
      refine J.then_x ?_
      refine J.lp_x ?_
      refine J.blk_x ?_
      refine J.then_n ?_
      refine J.seq ?_
      have hin : i = x.o.parts.length := by omega
      subst hin
      rw [List.take_length] at hall ⊢
      have hcs : collect u.parts x.o.parts = some (x.o.parts.flatMap (partOf u.parts)) := by unfold collect; rw [if_pos hall]
      rw [hcs, hB]
      obtain ⟨acc, hac⟩ : ∃ acc, acc = x.o.parts.flatMap (partOf u.parts) := ⟨_, rfl⟩
      rw [← hac]
      refine J.shut [1, 2] (MapAt (Value.int .i64) datRep z2.2 u.parts) rfl (fun h s => ⟨q, hq, s⟩) ?_
      refine J.mapFocus 5 hB rfl fun val => ?_
      refine J.norm rfl ?_
      refine J.open_ 0 rfl rfl (fun _ h => h) fun r hr => ?_
      subst hr
      refine J.norm rfl ?_
      refine J.draw [14] Try.mixed (by kernel_rfl) fun hR => ?_
      refine RG.q 0 hR rfl rfl rfl rfl rfl rfl (Q.mv rfl) ?_
      refine RG.q 1 hR rfl rfl rfl rfl rfl rfl (Q.nil_ rfl) ?_
      refine RG.q 2 hR rfl rfl rfl rfl rfl rfl (Q.fa (n := 0) Try.runUnderlying62 rfl rfl Try.sizeOf58 rfl) ?_
      refine RG.q 3 hR rfl rfl rfl rfl rfl rfl (Q.ld Try.isAgg58 rfl (by first | exact Reads.pt 0 rfl rfl | exact Reads.pt 1 rfl rfl | exact Reads.pt 2 rfl rfl | exact Reads.pt 3 rfl rfl | exact Reads.pt 4 rfl rfl | exact Reads.pt 5 rfl rfl | exact Reads.pt 6 rfl rfl | exact Reads.pt 7 rfl rfl | exact Reads.pt 8 rfl rfl | exact Reads.pt 9 rfl rfl | exact Reads.pt 10 rfl rfl | exact Reads.pt 11 rfl rfl | exact Reads.pt 12 rfl rfl | exact Reads.pt 13 rfl rfl)) ?_
      refine RG.q 4 hR rfl rfl rfl rfl rfl rfl (Q.mv rfl) ?_
      refine RG.q 5 hR rfl rfl rfl rfl rfl rfl (Q.nil_ rfl) ?_
      refine RG.q 6 hR rfl rfl rfl rfl rfl rfl (Q.fa (n := 0) Try.runUnderlying80 rfl rfl Try.sizeOf9 rfl) ?_
      refine RG.q 7 hR rfl rfl rfl rfl rfl rfl (Q.ld Try.isAgg9 rfl (by first | exact Reads.pt 0 rfl rfl | exact Reads.pt 1 rfl rfl | exact Reads.pt 2 rfl rfl | exact Reads.pt 3 rfl rfl | exact Reads.pt 4 rfl rfl | exact Reads.pt 5 rfl rfl | exact Reads.pt 6 rfl rfl | exact Reads.pt 7 rfl rfl | exact Reads.pt 8 rfl rfl | exact Reads.pt 9 rfl rfl | exact Reads.pt 10 rfl rfl | exact Reads.pt 11 rfl rfl | exact Reads.pt 12 rfl rfl | exact Reads.pt 13 rfl rfl)) ?_
      refine RG.q 8 hR rfl rfl rfl rfl rfl rfl (X.G.Q.lkYes (i := 1) Try.runUnderlying58 keyS Try.zeroValue74 rfl rfl rfl) ?_
      refine RG.q 9 hR rfl rfl rfl rfl rfl rfl (Q.mv rfl) ?_
      refine RG.q 10 hR rfl rfl rfl rfl rfl rfl (Q.nil_ rfl) ?_
      refine RG.q 11 hR rfl rfl rfl rfl rfl rfl (Q.fa (n := 1) Try.runUnderlying80 rfl rfl Try.sizeOf9 rfl) ?_
      refine RG.q 12 hR rfl rfl rfl rfl rfl rfl (Q.ld Try.isAgg9 rfl (by first | exact Reads.pt 0 rfl rfl | exact Reads.pt 1 rfl rfl | exact Reads.pt 2 rfl rfl | exact Reads.pt 3 rfl rfl | exact Reads.pt 4 rfl rfl | exact Reads.pt 5 rfl rfl | exact Reads.pt 6 rfl rfl | exact Reads.pt 7 rfl rfl | exact Reads.pt 8 rfl rfl | exact Reads.pt 9 rfl rfl | exact Reads.pt 10 rfl rfl | exact Reads.pt 11 rfl rfl | exact Reads.pt 12 rfl rfl | exact Reads.pt 13 rfl rfl)) ?_
      refine RG.q 13 hR rfl rfl rfl rfl rfl rfl (Q.mv rfl) ?_
      refine RG.bar 14 hR rfl rfl rfl rfl rfl rfl (X.G.C.mapPut 0 acc ord3_str hO.1 Try.runUnderlying74 keyS rfl rfl rfl rfl) ?_
      rintro _ _ ⟨rfl, rfl⟩
      refine RG.norm rfl ?_
      refine RG.fin hR rfl ?_
      refine J.norm rfl ?_
      refine J.then_n ?_
      refine J.seq ?_
      refine J.shut [4, 2] (uRep x.o.upload u (.pointer (some ⟨z2.1, 0, none⟩))) rfl (fun h s => ⟨z2, rfl, s⟩) ?_
      refine J.mapSame 0 4 ord3_nat hM.us hU rfl ?_
      refine J.draw [6] Try.mixed (by kernel_rfl) fun hR => ?_
      refine RG.q 0 hR rfl rfl rfl rfl rfl rfl (Q.mv rfl) ?_
      refine RG.q 1 hR rfl rfl rfl rfl rfl rfl (Q.nil_ rfl) ?_
      refine RG.q 2 hR rfl rfl rfl rfl rfl rfl (Q.fa (n := 1) Try.runUnderlying62 rfl rfl Try.sizeOf59 rfl) ?_
      refine RG.q 3 hR rfl rfl rfl rfl rfl rfl (Q.ld Try.isAgg59 rfl (by first | exact Reads.pt 0 rfl rfl | exact Reads.pt 1 rfl rfl | exact Reads.pt 2 rfl rfl | exact Reads.pt 3 rfl rfl | exact Reads.pt 4 rfl rfl | exact Reads.pt 5 rfl rfl | exact Reads.pt 6 rfl rfl | exact Reads.pt 7 rfl rfl | exact Reads.pt 8 rfl rfl | exact Reads.pt 9 rfl rfl | exact Reads.pt 10 rfl rfl | exact Reads.pt 11 rfl rfl | exact Reads.pt 12 rfl rfl | exact Reads.pt 13 rfl rfl)) ?_
      refine RG.q 4 hR rfl rfl rfl rfl rfl rfl (Q.fa (n := 6) Try.runUnderlying26 rfl rfl Try.sizeOf22 rfl) ?_
      refine RG.q 5 hR rfl rfl rfl rfl rfl rfl (Q.ld Try.isAgg22 rfl (by first | exact Reads.pt 0 rfl rfl | exact Reads.pt 1 rfl rfl | exact Reads.pt 2 rfl rfl | exact Reads.pt 3 rfl rfl | exact Reads.pt 4 rfl rfl | exact Reads.pt 5 rfl rfl | exact Reads.pt 6 rfl rfl | exact Reads.pt 7 rfl rfl | exact Reads.pt 8 rfl rfl | exact Reads.pt 9 rfl rfl | exact Reads.pt 10 rfl rfl | exact Reads.pt 11 rfl rfl | exact Reads.pt 12 rfl rfl | exact Reads.pt 13 rfl rfl)) ?_
      refine RG.bar 6 hR rfl rfl rfl rfl rfl rfl (X.G.C.mapDel 0 Try.runUnderlying59 keyU rfl rfl) ?_
      rintro _ _ ⟨rfl, rfl⟩
      refine RG.norm rfl ?_
      refine RG.fin hR rfl ?_
      refine J.norm rfl ?_
      refine J.then_n ?_
      refine J.seq ?_
      refine J.region ?_
      refine J.call Try.call24 (status_spec 200) [] rfl rfl rfl rfl ?_
      rintro _ _ ⟨y, rfl, hy, rfl⟩
      refine J.norm rfl ?_
      first | refine J.c0 rfl (C.stA (i := 0) (vs := [_, _, _, _, _]) Try.sizeOf41 rfl rfl rfl rfl rfl rfl) ?_ | refine J.c0 rfl (C.stA (i := 1) (vs := [_, _, _, _, _]) Try.sizeOf41 rfl rfl rfl rfl rfl rfl) ?_ | refine J.c0 rfl (C.stA (i := 2) (vs := [_, _, _, _, _]) Try.sizeOf41 rfl rfl rfl rfl rfl rfl) ?_ | refine J.c0 rfl (C.stA (i := 3) (vs := [_, _, _, _, _]) Try.sizeOf41 rfl rfl rfl rfl rfl rfl) ?_ | refine J.c0 rfl (C.stA (i := 4) (vs := [_, _, _, _, _]) Try.sizeOf41 rfl rfl rfl rfl rfl rfl) ?_ | refine J.c0 rfl (C.stA (i := 5) (vs := [_, _, _, _, _]) Try.sizeOf41 rfl rfl rfl rfl rfl rfl) ?_ | refine J.c0 rfl (C.stA (i := 6) (vs := [_, _, _, _, _]) Try.sizeOf41 rfl rfl rfl rfl rfl rfl) ?_ | refine J.c0 rfl (C.stA (i := 7) (vs := [_, _, _, _, _]) Try.sizeOf41 rfl rfl rfl rfl rfl rfl) ?_ | refine J.c0 rfl (C.stA (i := 8) (vs := [_, _, _, _, _]) Try.sizeOf41 rfl rfl rfl rfl rfl rfl) ?_ | refine J.c0 rfl (C.stA (i := 9) (vs := [_, _, _, _, _]) Try.sizeOf41 rfl rfl rfl rfl rfl rfl) ?_ | refine J.c0 rfl (C.stA (i := 10) (vs := [_, _, _, _, _]) Try.sizeOf41 rfl rfl rfl rfl rfl rfl) ?_ | refine J.c0 rfl (C.stA (i := 11) (vs := [_, _, _, _, _]) Try.sizeOf41 rfl rfl rfl rfl rfl rfl) ?_ | refine J.c0 rfl (C.stA (i := 12) (vs := [_, _, _, _, _]) Try.sizeOf41 rfl rfl rfl rfl rfl rfl) ?_ | refine J.c0 rfl (C.stA (i := 13) (vs := [_, _, _, _, _]) Try.sizeOf41 rfl rfl rfl rfl rfl rfl) ?_ | refine J.c0 rfl (C.stA (i := 14) (vs := [_, _, _, _, _]) Try.sizeOf41 rfl rfl rfl rfl rfl rfl) ?_ | refine J.c0 rfl (C.stA (i := 15) (vs := [_, _, _, _, _]) Try.sizeOf41 rfl rfl rfl rfl rfl rfl) ?_
      rintro _ _ ⟨rfl, rfl⟩
      refine J.nil ?_
      refine J.then_n ?_
      refine J.cret ?_
      refine J.shut [4] (datRep u.key acc (.slice p6 acc.length c6)) rfl (fun h s => ⟨(p6, c6), rfl, s⟩) ?_
      refine J.mapBack 0 3 acc ord3_str (X.G.srtd_put ord3_str hO.1 _ _) rfl ?_
      rw [X.G.sput_put ord3_str hO.1]
      refine J.shut [0] (bRep u.bucket (sput ltB u.key acc objs) (.map (some r))) rfl (fun h s => ⟨r, rfl, s⟩) ?_
      refine J.mapBack 0 3 (sput ltB u.key acc objs) ord3_str hM.bs rfl ?_
      refine J.shut [3, 0, 2, 4] (BktAt m { M with buckets := sput ltB u.bucket (sput ltB u.key acc objs) M.buckets, uploads := sdel x.o.upload M.uploads }) rfl (fun h s => ⟨z, s⟩) ?_
      refine J.retC [0, 1, 4, 5] (vs := [_, _, _, _, _]) rfl rfl Try.isAgg41 Try.sizeOf41 (ReadsN.pt 2 rfl) rfl (B := [_, _, _]) ⟨_, rfl, hy, rfl⟩
theorem complete_spec (hpl : x.o.parts.length ≤ 10000) : FSpec Try.prog 41 [.pointer (some ⟨m, 0, none⟩), .agg x.cells.toArray] [BktAt m M, G] (ActR m G (M.complete x.o)) := by
  unfold BM.complete
  split
  · rename_i hU; exact complete_no m M hM x G hx hU
  · rename_i hU; exact complete_yes m M hM x G hx hpl hU
end
end Go.Proofs.Ytdancegklkifaaa
