/-
  What each kind of op does to a store: make, put, get, delete, begin, part, abort.
-/
import Derived.Test.YtdancegklkifaaaBktE
namespace Go.Proofs.Ytdancegklkifaaa
set_option linter.unusedSectionVars false
set_option linter.unusedSimpArgs false
set_option linter.unusedVariables false
open Go.X
open Go.X.G (Ord3 ord3_nat ord3_int ord3_str ltB sget sput sdel Srtd MapAt MapHole)

/-- What a call comes to that takes an op on a store. -/
def ActR (m : Nat) (G : Assn) (res : RM × BM) (v : Value) (B : List Assn) : Prop := ∃ y : RW, v = .agg y.cells.toArray ∧ y.r = res.1 ∧ B = [BktAt m res.2, y.asn, G]

def BM.make (M : BM) (o : OM) : RM × BM :=
  match sget o.bucket M.buckets with
  | some _ => (st 409, M)
  | none => (st 200, { M with buckets := sput ltB o.bucket [] M.buckets })
def BM.put (M : BM) (o : OM) : RM × BM :=
  match sget o.bucket M.buckets with
  | none => (st 404, M)
  | some objs => (st 200, { M with buckets := sput ltB o.bucket (sput ltB o.key o.data objs) M.buckets })
def BM.get (M : BM) (o : OM) : RM × BM :=
  match sget o.bucket M.buckets with
  | none => (st 404, M)
  | some objs => match sget o.key objs with
    | none => (st 404, M)
    | some d => (⟨200, 0, [], false, d⟩, M)
def BM.delete (M : BM) (o : OM) : RM × BM :=
  match sget o.bucket M.buckets with
  | none => (st 404, M)
  | some objs => match sget o.key objs with
    | none => (st 404, M)
    | some _ => (st 200, { M with buckets := sput ltB o.bucket (sdel o.key objs) M.buckets })
def BM.begin (M : BM) (o : OM) : RM × BM :=
  match sget o.bucket M.buckets with
  | none => (st 404, M)
  | some _ => (⟨200, o.id, [], false, []⟩, { M with uploads := sput ltN o.id ⟨o.bucket, o.key, []⟩ M.uploads })
def BM.part (M : BM) (o : OM) : RM × BM :=
  match sget o.upload M.uploads with
  | none => (st 404, M)
  | some u => (st 200, { M with uploads := sput ltN o.upload ⟨u.bucket, u.key, sput ltI o.n o.data u.parts⟩ M.uploads })
def BM.abort (M : BM) (o : OM) : RM × BM :=
  match sget o.upload M.uploads with
  | none => (st 404, M)
  | some _ => (st 200, { M with uploads := sdel o.upload M.uploads })

section
variable {k : Nat} (m : Nat) (M : BM) (hM : M.ok k) (x : OW) (G : Assn) (hx : x.ok G)
include hM hx

theorem make_yes {objs : Objs} (hB : sget x.o.bucket M.buckets = some objs) : FSpec Try.prog 33 [.pointer (some ⟨m, 0, none⟩), .agg x.cells.toArray] [BktAt m M, G] (ActR m G (st 409, M)) := by
  refine FSpec.of Try.func33 rfl Try.ntmps33 rfl fun W0 F => ?_
  refine J.seq ?_
  refine J.region ?_
  refine J.c rfl rfl (C.box (l := [_, _, _, _, _, _, _, _, _]) rfl rfl) ?_
  rintro _ _ ⟨b3, rfl, rfl⟩
  refine J.norm rfl ?_
  refine J.c rfl rfl (C.alloc (l := [_, _, _, _, _]) Try.zeroValue41 rfl) ?_
  rintro _ _ ⟨b4, rfl, rfl⟩
  refine J.norm rfl ?_
  refine J.nil ?_
  refine J.then_n ?_
  refine J.seq ?_
  refine J.seq ?_
  refine J.region ?_
  refine J.q rfl rfl (Q.mv rfl) ?_
  refine J.q rfl rfl (Q.ldN (vs := [_, _, _, _, _, _, _, _, _]) Try.isAgg26 Try.sizeOf26 rfl (by first | exact ReadsN.pt 0 rfl | exact ReadsN.pt 1 rfl | exact ReadsN.pt 2 rfl | exact ReadsN.pt 3 rfl | exact ReadsN.pt 4 rfl | exact ReadsN.pt 5 rfl | exact ReadsN.pt 6 rfl | exact ReadsN.pt 7 rfl | exact ReadsN.pt 8 rfl | exact ReadsN.pt 9 rfl | exact ReadsN.pt 10 rfl | exact ReadsN.pt 11 rfl | exact ReadsN.pt 12 rfl | exact ReadsN.pt 13 rfl)) ?_
  refine J.call Try.call46 ((by first | exact known_no m M x hB | exact known_yes m M hM x hB)) [2] rfl rfl rfl rfl ?_
  rintro _ _ ⟨rfl, rfl⟩
  refine J.norm rfl ?_
  refine J.nil ?_
  refine J.then_n ?_
  refine J.cases 7 rfl (fun hc7 => ?_) (fun hc7 => ?_)
  ·
    first | replace hc7 := X.tt_dec hc7 | replace hc7 := X.tt_not hc7 | replace hc7 := X.ff_dec hc7 | replace hc7 := X.ff_not hc7 | skip
    try (first | (cases hc7; done) | (exfalso; simp at hc7; done))
    all_goals
      refine J.cond_t rfl ?_
      refine J.seq ?_
      refine J.region ?_
      refine J.call Try.call24 (status_spec 409) [] rfl rfl rfl rfl ?_
      rintro _ _ ⟨y, rfl, hy, rfl⟩
      refine J.norm rfl ?_
      first | refine J.c0 rfl (C.stA (i := 0) (vs := [_, _, _, _, _]) Try.sizeOf41 rfl rfl rfl rfl rfl rfl) ?_ | refine J.c0 rfl (C.stA (i := 1) (vs := [_, _, _, _, _]) Try.sizeOf41 rfl rfl rfl rfl rfl rfl) ?_ | refine J.c0 rfl (C.stA (i := 2) (vs := [_, _, _, _, _]) Try.sizeOf41 rfl rfl rfl rfl rfl rfl) ?_ | refine J.c0 rfl (C.stA (i := 3) (vs := [_, _, _, _, _]) Try.sizeOf41 rfl rfl rfl rfl rfl rfl) ?_ | refine J.c0 rfl (C.stA (i := 4) (vs := [_, _, _, _, _]) Try.sizeOf41 rfl rfl rfl rfl rfl rfl) ?_ | refine J.c0 rfl (C.stA (i := 5) (vs := [_, _, _, _, _]) Try.sizeOf41 rfl rfl rfl rfl rfl rfl) ?_ | refine J.c0 rfl (C.stA (i := 6) (vs := [_, _, _, _, _]) Try.sizeOf41 rfl rfl rfl rfl rfl rfl) ?_ | refine J.c0 rfl (C.stA (i := 7) (vs := [_, _, _, _, _]) Try.sizeOf41 rfl rfl rfl rfl rfl rfl) ?_ | refine J.c0 rfl (C.stA (i := 8) (vs := [_, _, _, _, _]) Try.sizeOf41 rfl rfl rfl rfl rfl rfl) ?_ | refine J.c0 rfl (C.stA (i := 9) (vs := [_, _, _, _, _]) Try.sizeOf41 rfl rfl rfl rfl rfl rfl) ?_ | refine J.c0 rfl (C.stA (i := 10) (vs := [_, _, _, _, _]) Try.sizeOf41 rfl rfl rfl rfl rfl rfl) ?_ | refine J.c0 rfl (C.stA (i := 11) (vs := [_, _, _, _, _]) Try.sizeOf41 rfl rfl rfl rfl rfl rfl) ?_ | refine J.c0 rfl (C.stA (i := 12) (vs := [_, _, _, _, _]) Try.sizeOf41 rfl rfl rfl rfl rfl rfl) ?_ | refine J.c0 rfl (C.stA (i := 13) (vs := [_, _, _, _, _]) Try.sizeOf41 rfl rfl rfl rfl rfl rfl) ?_ | refine J.c0 rfl (C.stA (i := 14) (vs := [_, _, _, _, _]) Try.sizeOf41 rfl rfl rfl rfl rfl rfl) ?_ | refine J.c0 rfl (C.stA (i := 15) (vs := [_, _, _, _, _]) Try.sizeOf41 rfl rfl rfl rfl rfl rfl) ?_
      rintro _ _ ⟨rfl, rfl⟩
      refine J.nil ?_
      refine J.then_n ?_
      refine J.cret ?_
      refine J.then_r ?_
      refine J.retC [1, 0, 4, 5] (vs := [_, _, _, _, _]) rfl rfl Try.isAgg41 Try.sizeOf41 (ReadsN.pt 2 rfl) rfl (B := [_, _, _]) ⟨_, rfl, hy, rfl⟩
  ·
    first | replace hc7 := X.tt_dec hc7 | replace hc7 := X.tt_not hc7 | replace hc7 := X.ff_dec hc7 | replace hc7 := X.ff_not hc7 | skip
    try (first | (cases hc7; done) | (exfalso; simp at hc7; done))
    all_goals
      refine J.cond_f rfl ?_
      refine J.cskip ?_
      refine J.then_n ?_
      refine J.seq ?_
      refine J.open1 0 rfl (fun _ h => h) fun z => ?_
      refine J.norm rfl ?_
      refine J.draw [6, 7] Try.mixed (by kernel_rfl) fun hR => ?_
      refine RG.q 0 hR rfl rfl rfl rfl rfl rfl (Q.mv rfl) ?_
      refine RG.q 1 hR rfl rfl rfl rfl rfl rfl (Q.nil_ rfl) ?_
      refine RG.q 2 hR rfl rfl rfl rfl rfl rfl (Q.fa (n := 0) Try.runUnderlying62 rfl rfl Try.sizeOf58 rfl) ?_
      refine RG.q 3 hR rfl rfl rfl rfl rfl rfl (Q.ld Try.isAgg58 rfl (by first | exact Reads.pt 0 rfl rfl | exact Reads.pt 1 rfl rfl | exact Reads.pt 2 rfl rfl | exact Reads.pt 3 rfl rfl | exact Reads.pt 4 rfl rfl | exact Reads.pt 5 rfl rfl | exact Reads.pt 6 rfl rfl | exact Reads.pt 7 rfl rfl | exact Reads.pt 8 rfl rfl | exact Reads.pt 9 rfl rfl | exact Reads.pt 10 rfl rfl | exact Reads.pt 11 rfl rfl | exact Reads.pt 12 rfl rfl | exact Reads.pt 13 rfl rfl)) ?_
      refine RG.q 4 hR rfl rfl rfl rfl rfl rfl (Q.fa (n := 2) Try.runUnderlying26 rfl rfl Try.sizeOf9 rfl) ?_
      refine RG.q 5 hR rfl rfl rfl rfl rfl rfl (Q.ld Try.isAgg9 rfl (by first | exact Reads.pt 0 rfl rfl | exact Reads.pt 1 rfl rfl | exact Reads.pt 2 rfl rfl | exact Reads.pt 3 rfl rfl | exact Reads.pt 4 rfl rfl | exact Reads.pt 5 rfl rfl | exact Reads.pt 6 rfl rfl | exact Reads.pt 7 rfl rfl | exact Reads.pt 8 rfl rfl | exact Reads.pt 9 rfl rfl | exact Reads.pt 10 rfl rfl | exact Reads.pt 11 rfl rfl | exact Reads.pt 12 rfl rfl | exact Reads.pt 13 rfl rfl)) ?_
      refine RG.made 6 hR rfl rfl rfl rfl rfl C.mkMap ?_
      rintro b15
      refine RG.bar 7 hR rfl rfl rfl rfl rfl rfl (X.G.C.mapPut 1 [] ord3_str hM.bs Try.runUnderlying58 keyS rfl rfl rfl rfl) ?_
      rintro _ _ ⟨rfl, rfl⟩
      refine RG.norm rfl ?_
      refine RG.fin hR rfl ?_
      refine J.norm rfl ?_
      refine J.then_n ?_
      refine J.seq ?_
      refine J.region ?_
      refine J.call Try.call24 (status_spec 200) [] rfl rfl rfl rfl ?_
      rintro _ _ ⟨y, rfl, hy, rfl⟩
      refine J.norm rfl ?_
      first | refine J.c0 rfl (C.stA (i := 0) (vs := [_, _, _, _, _]) Try.sizeOf41 rfl rfl rfl rfl rfl rfl) ?_ | refine J.c0 rfl (C.stA (i := 1) (vs := [_, _, _, _, _]) Try.sizeOf41 rfl rfl rfl rfl rfl rfl) ?_ | refine J.c0 rfl (C.stA (i := 2) (vs := [_, _, _, _, _]) Try.sizeOf41 rfl rfl rfl rfl rfl rfl) ?_ | refine J.c0 rfl (C.stA (i := 3) (vs := [_, _, _, _, _]) Try.sizeOf41 rfl rfl rfl rfl rfl rfl) ?_ | refine J.c0 rfl (C.stA (i := 4) (vs := [_, _, _, _, _]) Try.sizeOf41 rfl rfl rfl rfl rfl rfl) ?_ | refine J.c0 rfl (C.stA (i := 5) (vs := [_, _, _, _, _]) Try.sizeOf41 rfl rfl rfl rfl rfl rfl) ?_ | refine J.c0 rfl (C.stA (i := 6) (vs := [_, _, _, _, _]) Try.sizeOf41 rfl rfl rfl rfl rfl rfl) ?_ | refine J.c0 rfl (C.stA (i := 7) (vs := [_, _, _, _, _]) Try.sizeOf41 rfl rfl rfl rfl rfl rfl) ?_ | refine J.c0 rfl (C.stA (i := 8) (vs := [_, _, _, _, _]) Try.sizeOf41 rfl rfl rfl rfl rfl rfl) ?_ | refine J.c0 rfl (C.stA (i := 9) (vs := [_, _, _, _, _]) Try.sizeOf41 rfl rfl rfl rfl rfl rfl) ?_ | refine J.c0 rfl (C.stA (i := 10) (vs := [_, _, _, _, _]) Try.sizeOf41 rfl rfl rfl rfl rfl rfl) ?_ | refine J.c0 rfl (C.stA (i := 11) (vs := [_, _, _, _, _]) Try.sizeOf41 rfl rfl rfl rfl rfl rfl) ?_ | refine J.c0 rfl (C.stA (i := 12) (vs := [_, _, _, _, _]) Try.sizeOf41 rfl rfl rfl rfl rfl rfl) ?_ | refine J.c0 rfl (C.stA (i := 13) (vs := [_, _, _, _, _]) Try.sizeOf41 rfl rfl rfl rfl rfl rfl) ?_ | refine J.c0 rfl (C.stA (i := 14) (vs := [_, _, _, _, _]) Try.sizeOf41 rfl rfl rfl rfl rfl rfl) ?_ | refine J.c0 rfl (C.stA (i := 15) (vs := [_, _, _, _, _]) Try.sizeOf41 rfl rfl rfl rfl rfl rfl) ?_
      rintro _ _ ⟨rfl, rfl⟩
      refine J.nil ?_
      refine J.then_n ?_
      refine J.cret ?_
      refine J.conv (Y := MapAt Value.string datRep b15 []) 9 rfl MapAt.new ?_
      refine J.shut [0] (bRep x.o.bucket [] (.map (some b15))) rfl (fun h s => ⟨b15, rfl, s⟩) ?_
      refine J.mapBack 0 3 [] ord3_str (X.G.srtd_put ord3_str hM.bs _ _) rfl ?_
      rw [X.G.sput_put ord3_str hM.bs]
      refine J.shut [2, 0, 3, 4] (BktAt m { M with buckets := sput ltB x.o.bucket [] M.buckets }) rfl (fun h s => ⟨z, s⟩) ?_
      refine J.retC [0, 1, 4, 5] (vs := [_, _, _, _, _]) rfl rfl Try.isAgg41 Try.sizeOf41 (ReadsN.pt 2 rfl) rfl (B := [_, _, _]) ⟨_, rfl, hy, rfl⟩
theorem make_no (hB : sget x.o.bucket M.buckets = none) : FSpec Try.prog 33 [.pointer (some ⟨m, 0, none⟩), .agg x.cells.toArray] [BktAt m M, G] (ActR m G (st 200, { M with buckets := sput ltB x.o.bucket [] M.buckets })) := by
  refine FSpec.of Try.func33 rfl Try.ntmps33 rfl fun W0 F => ?_
  refine J.seq ?_
  refine J.region ?_
  refine J.c rfl rfl (C.box (l := [_, _, _, _, _, _, _, _, _]) rfl rfl) ?_
  rintro _ _ ⟨b3, rfl, rfl⟩
  refine J.norm rfl ?_
  refine J.c rfl rfl (C.alloc (l := [_, _, _, _, _]) Try.zeroValue41 rfl) ?_
  rintro _ _ ⟨b4, rfl, rfl⟩
  refine J.norm rfl ?_
  refine J.nil ?_
  refine J.then_n ?_
  refine J.seq ?_
  refine J.seq ?_
  refine J.region ?_
  refine J.q rfl rfl (Q.mv rfl) ?_
  refine J.q rfl rfl (Q.ldN (vs := [_, _, _, _, _, _, _, _, _]) Try.isAgg26 Try.sizeOf26 rfl (by first | exact ReadsN.pt 0 rfl | exact ReadsN.pt 1 rfl | exact ReadsN.pt 2 rfl | exact ReadsN.pt 3 rfl | exact ReadsN.pt 4 rfl | exact ReadsN.pt 5 rfl | exact ReadsN.pt 6 rfl | exact ReadsN.pt 7 rfl | exact ReadsN.pt 8 rfl | exact ReadsN.pt 9 rfl | exact ReadsN.pt 10 rfl | exact ReadsN.pt 11 rfl | exact ReadsN.pt 12 rfl | exact ReadsN.pt 13 rfl)) ?_
  refine J.call Try.call46 ((by first | exact known_no m M x hB | exact known_yes m M hM x hB)) [2] rfl rfl rfl rfl ?_
  rintro _ _ ⟨rfl, rfl⟩
  refine J.norm rfl ?_
  refine J.nil ?_
  refine J.then_n ?_
  refine J.cases 7 rfl (fun hc7 => ?_) (fun hc7 => ?_)
  ·
    first | replace hc7 := X.tt_dec hc7 | replace hc7 := X.tt_not hc7 | replace hc7 := X.ff_dec hc7 | replace hc7 := X.ff_not hc7 | skip
    try (first | (cases hc7; done) | (exfalso; simp at hc7; done))
    all_goals
      refine J.cond_t rfl ?_
      refine J.seq ?_
      refine J.region ?_
      refine J.call Try.call24 (status_spec 409) [] rfl rfl rfl rfl ?_
      rintro _ _ ⟨y, rfl, hy, rfl⟩
      refine J.norm rfl ?_
      first | refine J.c0 rfl (C.stA (i := 0) (vs := [_, _, _, _, _]) Try.sizeOf41 rfl rfl rfl rfl rfl rfl) ?_ | refine J.c0 rfl (C.stA (i := 1) (vs := [_, _, _, _, _]) Try.sizeOf41 rfl rfl rfl rfl rfl rfl) ?_ | refine J.c0 rfl (C.stA (i := 2) (vs := [_, _, _, _, _]) Try.sizeOf41 rfl rfl rfl rfl rfl rfl) ?_ | refine J.c0 rfl (C.stA (i := 3) (vs := [_, _, _, _, _]) Try.sizeOf41 rfl rfl rfl rfl rfl rfl) ?_ | refine J.c0 rfl (C.stA (i := 4) (vs := [_, _, _, _, _]) Try.sizeOf41 rfl rfl rfl rfl rfl rfl) ?_ | refine J.c0 rfl (C.stA (i := 5) (vs := [_, _, _, _, _]) Try.sizeOf41 rfl rfl rfl rfl rfl rfl) ?_ | refine J.c0 rfl (C.stA (i := 6) (vs := [_, _, _, _, _]) Try.sizeOf41 rfl rfl rfl rfl rfl rfl) ?_ | refine J.c0 rfl (C.stA (i := 7) (vs := [_, _, _, _, _]) Try.sizeOf41 rfl rfl rfl rfl rfl rfl) ?_ | refine J.c0 rfl (C.stA (i := 8) (vs := [_, _, _, _, _]) Try.sizeOf41 rfl rfl rfl rfl rfl rfl) ?_ | refine J.c0 rfl (C.stA (i := 9) (vs := [_, _, _, _, _]) Try.sizeOf41 rfl rfl rfl rfl rfl rfl) ?_ | refine J.c0 rfl (C.stA (i := 10) (vs := [_, _, _, _, _]) Try.sizeOf41 rfl rfl rfl rfl rfl rfl) ?_ | refine J.c0 rfl (C.stA (i := 11) (vs := [_, _, _, _, _]) Try.sizeOf41 rfl rfl rfl rfl rfl rfl) ?_ | refine J.c0 rfl (C.stA (i := 12) (vs := [_, _, _, _, _]) Try.sizeOf41 rfl rfl rfl rfl rfl rfl) ?_ | refine J.c0 rfl (C.stA (i := 13) (vs := [_, _, _, _, _]) Try.sizeOf41 rfl rfl rfl rfl rfl rfl) ?_ | refine J.c0 rfl (C.stA (i := 14) (vs := [_, _, _, _, _]) Try.sizeOf41 rfl rfl rfl rfl rfl rfl) ?_ | refine J.c0 rfl (C.stA (i := 15) (vs := [_, _, _, _, _]) Try.sizeOf41 rfl rfl rfl rfl rfl rfl) ?_
      rintro _ _ ⟨rfl, rfl⟩
      refine J.nil ?_
      refine J.then_n ?_
      refine J.cret ?_
      refine J.then_r ?_
      refine J.retC [1, 0, 4, 5] (vs := [_, _, _, _, _]) rfl rfl Try.isAgg41 Try.sizeOf41 (ReadsN.pt 2 rfl) rfl (B := [_, _, _]) ⟨_, rfl, hy, rfl⟩
  ·
    first | replace hc7 := X.tt_dec hc7 | replace hc7 := X.tt_not hc7 | replace hc7 := X.ff_dec hc7 | replace hc7 := X.ff_not hc7 | skip
    try (first | (cases hc7; done) | (exfalso; simp at hc7; done))
    all_goals
      refine J.cond_f rfl ?_
      refine J.cskip ?_
      refine J.then_n ?_
      refine J.seq ?_
      refine J.open1 0 rfl (fun _ h => h) fun z => ?_
      refine J.norm rfl ?_
      refine J.draw [6, 7] Try.mixed (by kernel_rfl) fun hR => ?_
      refine RG.q 0 hR rfl rfl rfl rfl rfl rfl (Q.mv rfl) ?_
      refine RG.q 1 hR rfl rfl rfl rfl rfl rfl (Q.nil_ rfl) ?_
      refine RG.q 2 hR rfl rfl rfl rfl rfl rfl (Q.fa (n := 0) Try.runUnderlying62 rfl rfl Try.sizeOf58 rfl) ?_
      refine RG.q 3 hR rfl rfl rfl rfl rfl rfl (Q.ld Try.isAgg58 rfl (by first | exact Reads.pt 0 rfl rfl | exact Reads.pt 1 rfl rfl | exact Reads.pt 2 rfl rfl | exact Reads.pt 3 rfl rfl | exact Reads.pt 4 rfl rfl | exact Reads.pt 5 rfl rfl | exact Reads.pt 6 rfl rfl | exact Reads.pt 7 rfl rfl | exact Reads.pt 8 rfl rfl | exact Reads.pt 9 rfl rfl | exact Reads.pt 10 rfl rfl | exact Reads.pt 11 rfl rfl | exact Reads.pt 12 rfl rfl | exact Reads.pt 13 rfl rfl)) ?_
      refine RG.q 4 hR rfl rfl rfl rfl rfl rfl (Q.fa (n := 2) Try.runUnderlying26 rfl rfl Try.sizeOf9 rfl) ?_
      refine RG.q 5 hR rfl rfl rfl rfl rfl rfl (Q.ld Try.isAgg9 rfl (by first | exact Reads.pt 0 rfl rfl | exact Reads.pt 1 rfl rfl | exact Reads.pt 2 rfl rfl | exact Reads.pt 3 rfl rfl | exact Reads.pt 4 rfl rfl | exact Reads.pt 5 rfl rfl | exact Reads.pt 6 rfl rfl | exact Reads.pt 7 rfl rfl | exact Reads.pt 8 rfl rfl | exact Reads.pt 9 rfl rfl | exact Reads.pt 10 rfl rfl | exact Reads.pt 11 rfl rfl | exact Reads.pt 12 rfl rfl | exact Reads.pt 13 rfl rfl)) ?_
      refine RG.made 6 hR rfl rfl rfl rfl rfl C.mkMap ?_
      rintro b15
      refine RG.bar 7 hR rfl rfl rfl rfl rfl rfl (X.G.C.mapPut 1 [] ord3_str hM.bs Try.runUnderlying58 keyS rfl rfl rfl rfl) ?_
      rintro _ _ ⟨rfl, rfl⟩
      refine RG.norm rfl ?_
      refine RG.fin hR rfl ?_
      refine J.norm rfl ?_
      refine J.then_n ?_
      refine J.seq ?_
      refine J.region ?_
      refine J.call Try.call24 (status_spec 200) [] rfl rfl rfl rfl ?_
      rintro _ _ ⟨y, rfl, hy, rfl⟩
      refine J.norm rfl ?_
      first | refine J.c0 rfl (C.stA (i := 0) (vs := [_, _, _, _, _]) Try.sizeOf41 rfl rfl rfl rfl rfl rfl) ?_ | refine J.c0 rfl (C.stA (i := 1) (vs := [_, _, _, _, _]) Try.sizeOf41 rfl rfl rfl rfl rfl rfl) ?_ | refine J.c0 rfl (C.stA (i := 2) (vs := [_, _, _, _, _]) Try.sizeOf41 rfl rfl rfl rfl rfl rfl) ?_ | refine J.c0 rfl (C.stA (i := 3) (vs := [_, _, _, _, _]) Try.sizeOf41 rfl rfl rfl rfl rfl rfl) ?_ | refine J.c0 rfl (C.stA (i := 4) (vs := [_, _, _, _, _]) Try.sizeOf41 rfl rfl rfl rfl rfl rfl) ?_ | refine J.c0 rfl (C.stA (i := 5) (vs := [_, _, _, _, _]) Try.sizeOf41 rfl rfl rfl rfl rfl rfl) ?_ | refine J.c0 rfl (C.stA (i := 6) (vs := [_, _, _, _, _]) Try.sizeOf41 rfl rfl rfl rfl rfl rfl) ?_ | refine J.c0 rfl (C.stA (i := 7) (vs := [_, _, _, _, _]) Try.sizeOf41 rfl rfl rfl rfl rfl rfl) ?_ | refine J.c0 rfl (C.stA (i := 8) (vs := [_, _, _, _, _]) Try.sizeOf41 rfl rfl rfl rfl rfl rfl) ?_ | refine J.c0 rfl (C.stA (i := 9) (vs := [_, _, _, _, _]) Try.sizeOf41 rfl rfl rfl rfl rfl rfl) ?_ | refine J.c0 rfl (C.stA (i := 10) (vs := [_, _, _, _, _]) Try.sizeOf41 rfl rfl rfl rfl rfl rfl) ?_ | refine J.c0 rfl (C.stA (i := 11) (vs := [_, _, _, _, _]) Try.sizeOf41 rfl rfl rfl rfl rfl rfl) ?_ | refine J.c0 rfl (C.stA (i := 12) (vs := [_, _, _, _, _]) Try.sizeOf41 rfl rfl rfl rfl rfl rfl) ?_ | refine J.c0 rfl (C.stA (i := 13) (vs := [_, _, _, _, _]) Try.sizeOf41 rfl rfl rfl rfl rfl rfl) ?_ | refine J.c0 rfl (C.stA (i := 14) (vs := [_, _, _, _, _]) Try.sizeOf41 rfl rfl rfl rfl rfl rfl) ?_ | refine J.c0 rfl (C.stA (i := 15) (vs := [_, _, _, _, _]) Try.sizeOf41 rfl rfl rfl rfl rfl rfl) ?_
      rintro _ _ ⟨rfl, rfl⟩
      refine J.nil ?_
      refine J.then_n ?_
      refine J.cret ?_
      refine J.conv (Y := MapAt Value.string datRep b15 []) 9 rfl MapAt.new ?_
      refine J.shut [0] (bRep x.o.bucket [] (.map (some b15))) rfl (fun h s => ⟨b15, rfl, s⟩) ?_
      refine J.mapBack 0 3 [] ord3_str (X.G.srtd_put ord3_str hM.bs _ _) rfl ?_
      rw [X.G.sput_put ord3_str hM.bs]
      refine J.shut [2, 0, 3, 4] (BktAt m { M with buckets := sput ltB x.o.bucket [] M.buckets }) rfl (fun h s => ⟨z, s⟩) ?_
      refine J.retC [0, 1, 4, 5] (vs := [_, _, _, _, _]) rfl rfl Try.isAgg41 Try.sizeOf41 (ReadsN.pt 2 rfl) rfl (B := [_, _, _]) ⟨_, rfl, hy, rfl⟩
theorem make_spec : FSpec Try.prog 33 [.pointer (some ⟨m, 0, none⟩), .agg x.cells.toArray] [BktAt m M, G] (ActR m G (M.make x.o)) := by
  unfold BM.make
  split
  · rename_i hB; exact make_yes m M hM x G hx hB
  · rename_i hB; exact make_no m M hM x G hx hB

theorem put_no (hB : sget x.o.bucket M.buckets = none) : FSpec Try.prog 35 [.pointer (some ⟨m, 0, none⟩), .agg x.cells.toArray] [BktAt m M, G] (ActR m G (st 404, M)) := by
  have hsm := hx.small
  refine FSpec.of Try.func35 rfl Try.ntmps35 rfl fun W0 F => ?_
  refine J.seq ?_
  refine J.region ?_
  refine J.c rfl rfl (C.box (l := [_, _, _, _, _, _, _, _, _]) rfl rfl) ?_
  rintro _ _ ⟨b3, rfl, rfl⟩
  refine J.norm rfl ?_
  refine J.c rfl rfl (C.alloc (l := [_, _, _, _, _]) Try.zeroValue41 rfl) ?_
  rintro _ _ ⟨b4, rfl, rfl⟩
  refine J.norm rfl ?_
  refine J.nil ?_
  refine J.then_n ?_
  refine J.seq ?_
  refine J.seq ?_
  refine J.region ?_
  refine J.q rfl rfl (Q.mv rfl) ?_
  refine J.q rfl rfl (Q.ldN (vs := [_, _, _, _, _, _, _, _, _]) Try.isAgg26 Try.sizeOf26 rfl (by first | exact ReadsN.pt 0 rfl | exact ReadsN.pt 1 rfl | exact ReadsN.pt 2 rfl | exact ReadsN.pt 3 rfl | exact ReadsN.pt 4 rfl | exact ReadsN.pt 5 rfl | exact ReadsN.pt 6 rfl | exact ReadsN.pt 7 rfl | exact ReadsN.pt 8 rfl | exact ReadsN.pt 9 rfl | exact ReadsN.pt 10 rfl | exact ReadsN.pt 11 rfl | exact ReadsN.pt 12 rfl | exact ReadsN.pt 13 rfl)) ?_
  refine J.call Try.call46 ((by first | exact known_no m M x hB | exact known_yes m M hM x hB)) [2] rfl rfl rfl rfl ?_
  rintro _ _ ⟨rfl, rfl⟩
  refine J.norm rfl ?_
  refine J.q rfl rfl (Q.not rfl) ?_
  refine J.nil ?_
  refine J.then_n ?_
  refine J.cases 8 rfl (fun hc8 => ?_) (fun hc8 => ?_)
  ·
    first | replace hc8 := X.tt_dec hc8 | replace hc8 := X.tt_not hc8 | replace hc8 := X.ff_dec hc8 | replace hc8 := X.ff_not hc8 | skip
    try (first | (cases hc8; done) | (exfalso; simp at hc8; done))
    all_goals
      refine J.cond_t rfl ?_
      refine J.seq ?_
      refine J.region ?_
      refine J.call Try.call24 (status_spec 404) [] rfl rfl rfl rfl ?_
      rintro _ _ ⟨y, rfl, hy, rfl⟩
      refine J.norm rfl ?_
      first | refine J.c0 rfl (C.stA (i := 0) (vs := [_, _, _, _, _]) Try.sizeOf41 rfl rfl rfl rfl rfl rfl) ?_ | refine J.c0 rfl (C.stA (i := 1) (vs := [_, _, _, _, _]) Try.sizeOf41 rfl rfl rfl rfl rfl rfl) ?_ | refine J.c0 rfl (C.stA (i := 2) (vs := [_, _, _, _, _]) Try.sizeOf41 rfl rfl rfl rfl rfl rfl) ?_ | refine J.c0 rfl (C.stA (i := 3) (vs := [_, _, _, _, _]) Try.sizeOf41 rfl rfl rfl rfl rfl rfl) ?_ | refine J.c0 rfl (C.stA (i := 4) (vs := [_, _, _, _, _]) Try.sizeOf41 rfl rfl rfl rfl rfl rfl) ?_ | refine J.c0 rfl (C.stA (i := 5) (vs := [_, _, _, _, _]) Try.sizeOf41 rfl rfl rfl rfl rfl rfl) ?_ | refine J.c0 rfl (C.stA (i := 6) (vs := [_, _, _, _, _]) Try.sizeOf41 rfl rfl rfl rfl rfl rfl) ?_ | refine J.c0 rfl (C.stA (i := 7) (vs := [_, _, _, _, _]) Try.sizeOf41 rfl rfl rfl rfl rfl rfl) ?_ | refine J.c0 rfl (C.stA (i := 8) (vs := [_, _, _, _, _]) Try.sizeOf41 rfl rfl rfl rfl rfl rfl) ?_ | refine J.c0 rfl (C.stA (i := 9) (vs := [_, _, _, _, _]) Try.sizeOf41 rfl rfl rfl rfl rfl rfl) ?_ | refine J.c0 rfl (C.stA (i := 10) (vs := [_, _, _, _, _]) Try.sizeOf41 rfl rfl rfl rfl rfl rfl) ?_ | refine J.c0 rfl (C.stA (i := 11) (vs := [_, _, _, _, _]) Try.sizeOf41 rfl rfl rfl rfl rfl rfl) ?_ | refine J.c0 rfl (C.stA (i := 12) (vs := [_, _, _, _, _]) Try.sizeOf41 rfl rfl rfl rfl rfl rfl) ?_ | refine J.c0 rfl (C.stA (i := 13) (vs := [_, _, _, _, _]) Try.sizeOf41 rfl rfl rfl rfl rfl rfl) ?_ | refine J.c0 rfl (C.stA (i := 14) (vs := [_, _, _, _, _]) Try.sizeOf41 rfl rfl rfl rfl rfl rfl) ?_ | refine J.c0 rfl (C.stA (i := 15) (vs := [_, _, _, _, _]) Try.sizeOf41 rfl rfl rfl rfl rfl rfl) ?_
      rintro _ _ ⟨rfl, rfl⟩
      refine J.nil ?_
      refine J.then_n ?_
      refine J.cret ?_
      refine J.then_r ?_
      refine J.retC [1, 0, 4, 5] (vs := [_, _, _, _, _]) rfl rfl Try.isAgg41 Try.sizeOf41 (ReadsN.pt 2 rfl) rfl (B := [_, _, _]) ⟨_, rfl, hy, rfl⟩
  ·
    first | replace hc8 := X.tt_dec hc8 | replace hc8 := X.tt_not hc8 | replace hc8 := X.ff_dec hc8 | replace hc8 := X.ff_not hc8 | skip
    try (first | (cases hc8; done) | (exfalso; simp at hc8; done))
    all_goals
      refine J.cond_f rfl ?_
      refine J.cskip ?_
      refine J.then_n ?_
      refine J.seq ?_
      have hO := hM.os _ _ hB
      refine J.open1 0 rfl (fun _ h => h) fun z => ?_
      refine J.norm rfl ?_
      refine J.mapFocus 1 hB rfl fun val => ?_
      refine J.norm rfl ?_
      refine J.open_ 0 rfl rfl (fun _ h => h) fun r hr => ?_
      subst hr
      refine J.norm rfl ?_
      refine J.keep [1, 2, 6, 0, 3, 4, 5, 7, 8] rfl ?_
      refine J.drawE [11, 12] 3 Try.mixed (by kernel_rfl) rfl rfl fun hR => ?_
      refine RG.q 0 hR rfl rfl rfl rfl rfl rfl (Q.mv rfl) ?_
      refine RG.q 1 hR rfl rfl rfl rfl rfl rfl (Q.nil_ rfl) ?_
      refine RG.q 2 hR rfl rfl rfl rfl rfl rfl (Q.fa (n := 0) Try.runUnderlying62 rfl rfl Try.sizeOf58 rfl) ?_
      refine RG.q 3 hR rfl rfl rfl rfl rfl rfl (Q.ld Try.isAgg58 rfl (by first | exact Reads.pt 0 rfl rfl | exact Reads.pt 1 rfl rfl | exact Reads.pt 2 rfl rfl | exact Reads.pt 3 rfl rfl | exact Reads.pt 4 rfl rfl | exact Reads.pt 5 rfl rfl | exact Reads.pt 6 rfl rfl | exact Reads.pt 7 rfl rfl | exact Reads.pt 8 rfl rfl | exact Reads.pt 9 rfl rfl | exact Reads.pt 10 rfl rfl | exact Reads.pt 11 rfl rfl | exact Reads.pt 12 rfl rfl | exact Reads.pt 13 rfl rfl)) ?_
      refine RG.q 4 hR rfl rfl rfl rfl rfl rfl (Q.fa (n := 2) Try.runUnderlying26 rfl rfl Try.sizeOf9 rfl) ?_
      refine RG.q 5 hR rfl rfl rfl rfl rfl rfl (Q.ld Try.isAgg9 rfl (by first | exact Reads.pt 0 rfl rfl | exact Reads.pt 1 rfl rfl | exact Reads.pt 2 rfl rfl | exact Reads.pt 3 rfl rfl | exact Reads.pt 4 rfl rfl | exact Reads.pt 5 rfl rfl | exact Reads.pt 6 rfl rfl | exact Reads.pt 7 rfl rfl | exact Reads.pt 8 rfl rfl | exact Reads.pt 9 rfl rfl | exact Reads.pt 10 rfl rfl | exact Reads.pt 11 rfl rfl | exact Reads.pt 12 rfl rfl | exact Reads.pt 13 rfl rfl)) ?_
      refine RG.q 6 hR rfl rfl rfl rfl rfl rfl (X.G.Q.lkYes (i := 0) Try.runUnderlying58 keyS Try.zeroValue74 rfl rfl rfl) ?_
      refine RG.q 7 hR rfl rfl rfl rfl rfl rfl (Q.fa (n := 3) Try.runUnderlying26 rfl rfl Try.sizeOf9 rfl) ?_
      refine RG.q 8 hR rfl rfl rfl rfl rfl rfl (Q.ld Try.isAgg9 rfl (by first | exact Reads.pt 0 rfl rfl | exact Reads.pt 1 rfl rfl | exact Reads.pt 2 rfl rfl | exact Reads.pt 3 rfl rfl | exact Reads.pt 4 rfl rfl | exact Reads.pt 5 rfl rfl | exact Reads.pt 6 rfl rfl | exact Reads.pt 7 rfl rfl | exact Reads.pt 8 rfl rfl | exact Reads.pt 9 rfl rfl | exact Reads.pt 10 rfl rfl | exact Reads.pt 11 rfl rfl | exact Reads.pt 12 rfl rfl | exact Reads.pt 13 rfl rfl)) ?_
      refine RG.q 9 hR rfl rfl rfl rfl rfl rfl (Q.fa (n := 8) Try.runUnderlying26 rfl rfl Try.sizeOf24 rfl) ?_
      refine RG.q 10 hR rfl rfl rfl rfl rfl rfl (Q.ld Try.isAgg24 rfl (by first | exact Reads.pt 0 rfl rfl | exact Reads.pt 1 rfl rfl | exact Reads.pt 2 rfl rfl | exact Reads.pt 3 rfl rfl | exact Reads.pt 4 rfl rfl | exact Reads.pt 5 rfl rfl | exact Reads.pt 6 rfl rfl | exact Reads.pt 7 rfl rfl | exact Reads.pt 8 rfl rfl | exact Reads.pt 9 rfl rfl | exact Reads.pt 10 rfl rfl | exact Reads.pt 11 rfl rfl | exact Reads.pt 12 rfl rfl | exact Reads.pt 13 rfl rfl)) ?_
      refine RG.callk 11 hR rfl rfl rfl rfl rfl Try.call32 (clone_spec G x.dp x.dc x.o.data hx.data (by omega)) [7] rfl rfl ?_
      rintro _ _ ⟨p21, c21, rfl, rfl⟩
      refine ⟨_, X.pick_perm (is := [2, 3, 4]) rfl, ?_⟩
      refine RG.bar 12 hR rfl rfl rfl rfl rfl rfl (X.G.C.mapPut 5 x.o.data ord3_str hO.1 Try.runUnderlying74 keyS rfl rfl rfl rfl) ?_
      rintro _ _ ⟨rfl, rfl⟩
      refine RG.norm rfl ?_
      refine RG.fin hR rfl ?_
      refine J.norm rfl ?_
      refine J.then_n ?_
      refine J.seq ?_
      refine J.region ?_
      refine J.call Try.call24 (status_spec 200) [] rfl rfl rfl rfl ?_
      rintro _ _ ⟨y, rfl, hy, rfl⟩
      refine J.norm rfl ?_
      first | refine J.c0 rfl (C.stA (i := 0) (vs := [_, _, _, _, _]) Try.sizeOf41 rfl rfl rfl rfl rfl rfl) ?_ | refine J.c0 rfl (C.stA (i := 1) (vs := [_, _, _, _, _]) Try.sizeOf41 rfl rfl rfl rfl rfl rfl) ?_ | refine J.c0 rfl (C.stA (i := 2) (vs := [_, _, _, _, _]) Try.sizeOf41 rfl rfl rfl rfl rfl rfl) ?_ | refine J.c0 rfl (C.stA (i := 3) (vs := [_, _, _, _, _]) Try.sizeOf41 rfl rfl rfl rfl rfl rfl) ?_ | refine J.c0 rfl (C.stA (i := 4) (vs := [_, _, _, _, _]) Try.sizeOf41 rfl rfl rfl rfl rfl rfl) ?_ | refine J.c0 rfl (C.stA (i := 5) (vs := [_, _, _, _, _]) Try.sizeOf41 rfl rfl rfl rfl rfl rfl) ?_ | refine J.c0 rfl (C.stA (i := 6) (vs := [_, _, _, _, _]) Try.sizeOf41 rfl rfl rfl rfl rfl rfl) ?_ | refine J.c0 rfl (C.stA (i := 7) (vs := [_, _, _, _, _]) Try.sizeOf41 rfl rfl rfl rfl rfl rfl) ?_ | refine J.c0 rfl (C.stA (i := 8) (vs := [_, _, _, _, _]) Try.sizeOf41 rfl rfl rfl rfl rfl rfl) ?_ | refine J.c0 rfl (C.stA (i := 9) (vs := [_, _, _, _, _]) Try.sizeOf41 rfl rfl rfl rfl rfl rfl) ?_ | refine J.c0 rfl (C.stA (i := 10) (vs := [_, _, _, _, _]) Try.sizeOf41 rfl rfl rfl rfl rfl rfl) ?_ | refine J.c0 rfl (C.stA (i := 11) (vs := [_, _, _, _, _]) Try.sizeOf41 rfl rfl rfl rfl rfl rfl) ?_ | refine J.c0 rfl (C.stA (i := 12) (vs := [_, _, _, _, _]) Try.sizeOf41 rfl rfl rfl rfl rfl rfl) ?_ | refine J.c0 rfl (C.stA (i := 13) (vs := [_, _, _, _, _]) Try.sizeOf41 rfl rfl rfl rfl rfl rfl) ?_ | refine J.c0 rfl (C.stA (i := 14) (vs := [_, _, _, _, _]) Try.sizeOf41 rfl rfl rfl rfl rfl rfl) ?_ | refine J.c0 rfl (C.stA (i := 15) (vs := [_, _, _, _, _]) Try.sizeOf41 rfl rfl rfl rfl rfl rfl) ?_
      rintro _ _ ⟨rfl, rfl⟩
      refine J.nil ?_
      refine J.then_n ?_
      refine J.cret ?_
      refine J.shut [4] (datRep x.o.key x.o.data (.slice p21 x.o.data.length c21)) rfl (fun h s => ⟨(p21, c21), rfl, s⟩) ?_
      refine J.mapBack 0 6 x.o.data ord3_str (X.G.srtd_put ord3_str hO.1 _ _) rfl ?_
      rw [X.G.sput_put ord3_str hO.1]
      refine J.shut [0] (bRep x.o.bucket (sput ltB x.o.key x.o.data objs) (.map (some r))) rfl (fun h s => ⟨r, rfl, s⟩) ?_
      refine J.mapBack 0 2 (sput ltB x.o.key x.o.data objs) ord3_str hM.bs rfl ?_
      refine J.shut [2, 0, 5, 6] (BktAt m { M with buckets := sput ltB x.o.bucket (sput ltB x.o.key x.o.data objs) M.buckets }) rfl (fun h s => ⟨z, s⟩) ?_
      refine J.retC [0, 1, 3, 5] (vs := [_, _, _, _, _]) rfl rfl Try.isAgg41 Try.sizeOf41 (ReadsN.pt 4 rfl) rfl (B := [_, _, _]) ⟨_, rfl, hy, rfl⟩
theorem put_yes (hdl : x.o.data.length ≤ 16777216) {objs : Objs} (hB : sget x.o.bucket M.buckets = some objs) : FSpec Try.prog 35 [.pointer (some ⟨m, 0, none⟩), .agg x.cells.toArray] [BktAt m M, G] (ActR m G (st 200, { M with buckets := sput ltB x.o.bucket (sput ltB x.o.key x.o.data objs) M.buckets })) := by
  have hsm := hx.small
  refine FSpec.of Try.func35 rfl Try.ntmps35 rfl fun W0 F => ?_
  refine J.seq ?_
  refine J.region ?_
  refine J.c rfl rfl (C.box (l := [_, _, _, _, _, _, _, _, _]) rfl rfl) ?_
  rintro _ _ ⟨b3, rfl, rfl⟩
  refine J.norm rfl ?_
  refine J.c rfl rfl (C.alloc (l := [_, _, _, _, _]) Try.zeroValue41 rfl) ?_
  rintro _ _ ⟨b4, rfl, rfl⟩
  refine J.norm rfl ?_
  refine J.nil ?_
  refine J.then_n ?_
  refine J.seq ?_
  refine J.seq ?_
  refine J.region ?_
  refine J.q rfl rfl (Q.mv rfl) ?_
  refine J.q rfl rfl (Q.ldN (vs := [_, _, _, _, _, _, _, _, _]) Try.isAgg26 Try.sizeOf26 rfl (by first | exact ReadsN.pt 0 rfl | exact ReadsN.pt 1 rfl | exact ReadsN.pt 2 rfl | exact ReadsN.pt 3 rfl | exact ReadsN.pt 4 rfl | exact ReadsN.pt 5 rfl | exact ReadsN.pt 6 rfl | exact ReadsN.pt 7 rfl | exact ReadsN.pt 8 rfl | exact ReadsN.pt 9 rfl | exact ReadsN.pt 10 rfl | exact ReadsN.pt 11 rfl | exact ReadsN.pt 12 rfl | exact ReadsN.pt 13 rfl)) ?_
  refine J.call Try.call46 ((by first | exact known_no m M x hB | exact known_yes m M hM x hB)) [2] rfl rfl rfl rfl ?_
  rintro _ _ ⟨rfl, rfl⟩
  refine J.norm rfl ?_
  refine J.q rfl rfl (Q.not rfl) ?_
  refine J.nil ?_
  refine J.then_n ?_
  refine J.cases 8 rfl (fun hc8 => ?_) (fun hc8 => ?_)
  ·
    first | replace hc8 := X.tt_dec hc8 | replace hc8 := X.tt_not hc8 | replace hc8 := X.ff_dec hc8 | replace hc8 := X.ff_not hc8 | skip
    try (first | (cases hc8; done) | (exfalso; simp at hc8; done))
    all_goals
      refine J.cond_t rfl ?_
      refine J.seq ?_
      refine J.region ?_
      refine J.call Try.call24 (status_spec 404) [] rfl rfl rfl rfl ?_
      rintro _ _ ⟨y, rfl, hy, rfl⟩
      refine J.norm rfl ?_
      first | refine J.c0 rfl (C.stA (i := 0) (vs := [_, _, _, _, _]) Try.sizeOf41 rfl rfl rfl rfl rfl rfl) ?_ | refine J.c0 rfl (C.stA (i := 1) (vs := [_, _, _, _, _]) Try.sizeOf41 rfl rfl rfl rfl rfl rfl) ?_ | refine J.c0 rfl (C.stA (i := 2) (vs := [_, _, _, _, _]) Try.sizeOf41 rfl rfl rfl rfl rfl rfl) ?_ | refine J.c0 rfl (C.stA (i := 3) (vs := [_, _, _, _, _]) Try.sizeOf41 rfl rfl rfl rfl rfl rfl) ?_ | refine J.c0 rfl (C.stA (i := 4) (vs := [_, _, _, _, _]) Try.sizeOf41 rfl rfl rfl rfl rfl rfl) ?_ | refine J.c0 rfl (C.stA (i := 5) (vs := [_, _, _, _, _]) Try.sizeOf41 rfl rfl rfl rfl rfl rfl) ?_ | refine J.c0 rfl (C.stA (i := 6) (vs := [_, _, _, _, _]) Try.sizeOf41 rfl rfl rfl rfl rfl rfl) ?_ | refine J.c0 rfl (C.stA (i := 7) (vs := [_, _, _, _, _]) Try.sizeOf41 rfl rfl rfl rfl rfl rfl) ?_ | refine J.c0 rfl (C.stA (i := 8) (vs := [_, _, _, _, _]) Try.sizeOf41 rfl rfl rfl rfl rfl rfl) ?_ | refine J.c0 rfl (C.stA (i := 9) (vs := [_, _, _, _, _]) Try.sizeOf41 rfl rfl rfl rfl rfl rfl) ?_ | refine J.c0 rfl (C.stA (i := 10) (vs := [_, _, _, _, _]) Try.sizeOf41 rfl rfl rfl rfl rfl rfl) ?_ | refine J.c0 rfl (C.stA (i := 11) (vs := [_, _, _, _, _]) Try.sizeOf41 rfl rfl rfl rfl rfl rfl) ?_ | refine J.c0 rfl (C.stA (i := 12) (vs := [_, _, _, _, _]) Try.sizeOf41 rfl rfl rfl rfl rfl rfl) ?_ | refine J.c0 rfl (C.stA (i := 13) (vs := [_, _, _, _, _]) Try.sizeOf41 rfl rfl rfl rfl rfl rfl) ?_ | refine J.c0 rfl (C.stA (i := 14) (vs := [_, _, _, _, _]) Try.sizeOf41 rfl rfl rfl rfl rfl rfl) ?_ | refine J.c0 rfl (C.stA (i := 15) (vs := [_, _, _, _, _]) Try.sizeOf41 rfl rfl rfl rfl rfl rfl) ?_
      rintro _ _ ⟨rfl, rfl⟩
      refine J.nil ?_
      refine J.then_n ?_
      refine J.cret ?_
      refine J.then_r ?_
      refine J.retC [1, 0, 4, 5] (vs := [_, _, _, _, _]) rfl rfl Try.isAgg41 Try.sizeOf41 (ReadsN.pt 2 rfl) rfl (B := [_, _, _]) ⟨_, rfl, hy, rfl⟩
  ·
    first | replace hc8 := X.tt_dec hc8 | replace hc8 := X.tt_not hc8 | replace hc8 := X.ff_dec hc8 | replace hc8 := X.ff_not hc8 | skip
    try (first | (cases hc8; done) | (exfalso; simp at hc8; done))
    all_goals
      refine J.cond_f rfl ?_
      refine J.cskip ?_
      refine J.then_n ?_
      refine J.seq ?_
      have hO := hM.os _ _ hB
      refine J.open1 0 rfl (fun _ h => h) fun z => ?_
      refine J.norm rfl ?_
      refine J.mapFocus 1 hB rfl fun val => ?_
      refine J.norm rfl ?_
      refine J.open_ 0 rfl rfl (fun _ h => h) fun r hr => ?_
      subst hr
      refine J.norm rfl ?_
      refine J.keep [1, 2, 6, 0, 3, 4, 5, 7, 8] rfl ?_
      refine J.drawE [11, 12] 3 Try.mixed (by kernel_rfl) rfl rfl fun hR => ?_
      refine RG.q 0 hR rfl rfl rfl rfl rfl rfl (Q.mv rfl) ?_
      refine RG.q 1 hR rfl rfl rfl rfl rfl rfl (Q.nil_ rfl) ?_
      refine RG.q 2 hR rfl rfl rfl rfl rfl rfl (Q.fa (n := 0) Try.runUnderlying62 rfl rfl Try.sizeOf58 rfl) ?_
      refine RG.q 3 hR rfl rfl rfl rfl rfl rfl (Q.ld Try.isAgg58 rfl (by first | exact Reads.pt 0 rfl rfl | exact Reads.pt 1 rfl rfl | exact Reads.pt 2 rfl rfl | exact Reads.pt 3 rfl rfl | exact Reads.pt 4 rfl rfl | exact Reads.pt 5 rfl rfl | exact Reads.pt 6 rfl rfl | exact Reads.pt 7 rfl rfl | exact Reads.pt 8 rfl rfl | exact Reads.pt 9 rfl rfl | exact Reads.pt 10 rfl rfl | exact Reads.pt 11 rfl rfl | exact Reads.pt 12 rfl rfl | exact Reads.pt 13 rfl rfl)) ?_
      refine RG.q 4 hR rfl rfl rfl rfl rfl rfl (Q.fa (n := 2) Try.runUnderlying26 rfl rfl Try.sizeOf9 rfl) ?_
      refine RG.q 5 hR rfl rfl rfl rfl rfl rfl (Q.ld Try.isAgg9 rfl (by first | exact Reads.pt 0 rfl rfl | exact Reads.pt 1 rfl rfl | exact Reads.pt 2 rfl rfl | exact Reads.pt 3 rfl rfl | exact Reads.pt 4 rfl rfl | exact Reads.pt 5 rfl rfl | exact Reads.pt 6 rfl rfl | exact Reads.pt 7 rfl rfl | exact Reads.pt 8 rfl rfl | exact Reads.pt 9 rfl rfl | exact Reads.pt 10 rfl rfl | exact Reads.pt 11 rfl rfl | exact Reads.pt 12 rfl rfl | exact Reads.pt 13 rfl rfl)) ?_
      refine RG.q 6 hR rfl rfl rfl rfl rfl rfl (X.G.Q.lkYes (i := 0) Try.runUnderlying58 keyS Try.zeroValue74 rfl rfl rfl) ?_
      refine RG.q 7 hR rfl rfl rfl rfl rfl rfl (Q.fa (n := 3) Try.runUnderlying26 rfl rfl Try.sizeOf9 rfl) ?_
      refine RG.q 8 hR rfl rfl rfl rfl rfl rfl (Q.ld Try.isAgg9 rfl (by first | exact Reads.pt 0 rfl rfl | exact Reads.pt 1 rfl rfl | exact Reads.pt 2 rfl rfl | exact Reads.pt 3 rfl rfl | exact Reads.pt 4 rfl rfl | exact Reads.pt 5 rfl rfl | exact Reads.pt 6 rfl rfl | exact Reads.pt 7 rfl rfl | exact Reads.pt 8 rfl rfl | exact Reads.pt 9 rfl rfl | exact Reads.pt 10 rfl rfl | exact Reads.pt 11 rfl rfl | exact Reads.pt 12 rfl rfl | exact Reads.pt 13 rfl rfl)) ?_
      refine RG.q 9 hR rfl rfl rfl rfl rfl rfl (Q.fa (n := 8) Try.runUnderlying26 rfl rfl Try.sizeOf24 rfl) ?_
      refine RG.q 10 hR rfl rfl rfl rfl rfl rfl (Q.ld Try.isAgg24 rfl (by first | exact Reads.pt 0 rfl rfl | exact Reads.pt 1 rfl rfl | exact Reads.pt 2 rfl rfl | exact Reads.pt 3 rfl rfl | exact Reads.pt 4 rfl rfl | exact Reads.pt 5 rfl rfl | exact Reads.pt 6 rfl rfl | exact Reads.pt 7 rfl rfl | exact Reads.pt 8 rfl rfl | exact Reads.pt 9 rfl rfl | exact Reads.pt 10 rfl rfl | exact Reads.pt 11 rfl rfl | exact Reads.pt 12 rfl rfl | exact Reads.pt 13 rfl rfl)) ?_
      refine RG.callk 11 hR rfl rfl rfl rfl rfl Try.call32 (clone_spec G x.dp x.dc x.o.data hx.data (by omega)) [7] rfl rfl ?_
      rintro _ _ ⟨p21, c21, rfl, rfl⟩
      refine ⟨_, X.pick_perm (is := [2, 3, 4]) rfl, ?_⟩
      refine RG.bar 12 hR rfl rfl rfl rfl rfl rfl (X.G.C.mapPut 5 x.o.data ord3_str hO.1 Try.runUnderlying74 keyS rfl rfl rfl rfl) ?_
      rintro _ _ ⟨rfl, rfl⟩
      refine RG.norm rfl ?_
      refine RG.fin hR rfl ?_
      refine J.norm rfl ?_
      refine J.then_n ?_
      refine J.seq ?_
      refine J.region ?_
      refine J.call Try.call24 (status_spec 200) [] rfl rfl rfl rfl ?_
      rintro _ _ ⟨y, rfl, hy, rfl⟩
      refine J.norm rfl ?_
      first | refine J.c0 rfl (C.stA (i := 0) (vs := [_, _, _, _, _]) Try.sizeOf41 rfl rfl rfl rfl rfl rfl) ?_ | refine J.c0 rfl (C.stA (i := 1) (vs := [_, _, _, _, _]) Try.sizeOf41 rfl rfl rfl rfl rfl rfl) ?_ | refine J.c0 rfl (C.stA (i := 2) (vs := [_, _, _, _, _]) Try.sizeOf41 rfl rfl rfl rfl rfl rfl) ?_ | refine J.c0 rfl (C.stA (i := 3) (vs := [_, _, _, _, _]) Try.sizeOf41 rfl rfl rfl rfl rfl rfl) ?_ | refine J.c0 rfl (C.stA (i := 4) (vs := [_, _, _, _, _]) Try.sizeOf41 rfl rfl rfl rfl rfl rfl) ?_ | refine J.c0 rfl (C.stA (i := 5) (vs := [_, _, _, _, _]) Try.sizeOf41 rfl rfl rfl rfl rfl rfl) ?_ | refine J.c0 rfl (C.stA (i := 6) (vs := [_, _, _, _, _]) Try.sizeOf41 rfl rfl rfl rfl rfl rfl) ?_ | refine J.c0 rfl (C.stA (i := 7) (vs := [_, _, _, _, _]) Try.sizeOf41 rfl rfl rfl rfl rfl rfl) ?_ | refine J.c0 rfl (C.stA (i := 8) (vs := [_, _, _, _, _]) Try.sizeOf41 rfl rfl rfl rfl rfl rfl) ?_ | refine J.c0 rfl (C.stA (i := 9) (vs := [_, _, _, _, _]) Try.sizeOf41 rfl rfl rfl rfl rfl rfl) ?_ | refine J.c0 rfl (C.stA (i := 10) (vs := [_, _, _, _, _]) Try.sizeOf41 rfl rfl rfl rfl rfl rfl) ?_ | refine J.c0 rfl (C.stA (i := 11) (vs := [_, _, _, _, _]) Try.sizeOf41 rfl rfl rfl rfl rfl rfl) ?_ | refine J.c0 rfl (C.stA (i := 12) (vs := [_, _, _, _, _]) Try.sizeOf41 rfl rfl rfl rfl rfl rfl) ?_ | refine J.c0 rfl (C.stA (i := 13) (vs := [_, _, _, _, _]) Try.sizeOf41 rfl rfl rfl rfl rfl rfl) ?_ | refine J.c0 rfl (C.stA (i := 14) (vs := [_, _, _, _, _]) Try.sizeOf41 rfl rfl rfl rfl rfl rfl) ?_ | refine J.c0 rfl (C.stA (i := 15) (vs := [_, _, _, _, _]) Try.sizeOf41 rfl rfl rfl rfl rfl rfl) ?_
      rintro _ _ ⟨rfl, rfl⟩
      refine J.nil ?_
      refine J.then_n ?_
      refine J.cret ?_
      refine J.shut [4] (datRep x.o.key x.o.data (.slice p21 x.o.data.length c21)) rfl (fun h s => ⟨(p21, c21), rfl, s⟩) ?_
      refine J.mapBack 0 6 x.o.data ord3_str (X.G.srtd_put ord3_str hO.1 _ _) rfl ?_
      rw [X.G.sput_put ord3_str hO.1]
      refine J.shut [0] (bRep x.o.bucket (sput ltB x.o.key x.o.data objs) (.map (some r))) rfl (fun h s => ⟨r, rfl, s⟩) ?_
      refine J.mapBack 0 2 (sput ltB x.o.key x.o.data objs) ord3_str hM.bs rfl ?_
      refine J.shut [2, 0, 5, 6] (BktAt m { M with buckets := sput ltB x.o.bucket (sput ltB x.o.key x.o.data objs) M.buckets }) rfl (fun h s => ⟨z, s⟩) ?_
      refine J.retC [0, 1, 3, 5] (vs := [_, _, _, _, _]) rfl rfl Try.isAgg41 Try.sizeOf41 (ReadsN.pt 4 rfl) rfl (B := [_, _, _]) ⟨_, rfl, hy, rfl⟩
theorem put_spec (hdl : x.o.data.length ≤ 16777216) : FSpec Try.prog 35 [.pointer (some ⟨m, 0, none⟩), .agg x.cells.toArray] [BktAt m M, G] (ActR m G (M.put x.o)) := by
  unfold BM.put
  split
  · rename_i hB; exact put_no m M hM x G hx hB
  · rename_i hB; exact put_yes m M hM x G hx hdl hB

theorem get_no (hB : sget x.o.bucket M.buckets = none) : FSpec Try.prog 36 [.pointer (some ⟨m, 0, none⟩), .agg x.cells.toArray] [BktAt m M, G] (ActR m G (st 404, M)) := by
  refine FSpec.of Try.func36 rfl Try.ntmps36 rfl fun W0 F => ?_
  refine J.seq ?_
  refine J.region ?_
  refine J.c rfl rfl (C.box (l := [_, _, _, _, _, _, _, _, _]) rfl rfl) ?_
  rintro _ _ ⟨b3, rfl, rfl⟩
  refine J.norm rfl ?_
  refine J.c rfl rfl (C.alloc (l := [_, _, _, _, _]) Try.zeroValue41 rfl) ?_
  rintro _ _ ⟨b4, rfl, rfl⟩
  refine J.norm rfl ?_
  refine J.nil ?_
  refine J.then_n ?_
  refine J.seq ?_
  try have hO := hM.os _ _ hB
  try have hdl := hO.2.2 _ _ hK
  refine J.open1 2 rfl (fun _ h => h) fun z => ?_
  refine J.norm rfl ?_
  first
    | (refine J.mapFocus 1 hB rfl fun val => ?_
       refine J.norm rfl ?_
       refine J.open_ 0 rfl rfl (fun _ h => h) fun r hr => ?_
       subst hr
       refine J.norm rfl ?_)
    | skip
  first
    | (refine J.mapFocus 0 hK rfl fun val => ?_
       refine J.norm rfl ?_
       refine J.open_ 0 rfl rfl (fun _ h => h) fun z2 hz2 => ?_
       subst hz2
       refine J.norm rfl ?_)
    | skip
  refine J.draw [13, 14] Try.mixed (by kernel_rfl) fun hR => ?_
  refine RG.q 0 hR rfl rfl rfl rfl rfl rfl (Q.mv rfl) ?_
  refine RG.q 1 hR rfl rfl rfl rfl rfl rfl (Q.nil_ rfl) ?_
  refine RG.q 2 hR rfl rfl rfl rfl rfl rfl (Q.fa (n := 0) Try.runUnderlying62 rfl rfl Try.sizeOf58 rfl) ?_
  refine RG.q 3 hR rfl rfl rfl rfl rfl rfl (Q.ld Try.isAgg58 rfl (by first | exact Reads.pt 0 rfl rfl | exact Reads.pt 1 rfl rfl | exact Reads.pt 2 rfl rfl | exact Reads.pt 3 rfl rfl | exact Reads.pt 4 rfl rfl | exact Reads.pt 5 rfl rfl | exact Reads.pt 6 rfl rfl | exact Reads.pt 7 rfl rfl | exact Reads.pt 8 rfl rfl | exact Reads.pt 9 rfl rfl | exact Reads.pt 10 rfl rfl | exact Reads.pt 11 rfl rfl | exact Reads.pt 12 rfl rfl | exact Reads.pt 13 rfl rfl)) ?_
  refine RG.q 4 hR rfl rfl rfl rfl rfl rfl (Q.fa (n := 2) Try.runUnderlying26 rfl rfl Try.sizeOf9 rfl) ?_
  refine RG.q 5 hR rfl rfl rfl rfl rfl rfl (Q.ld Try.isAgg9 rfl (by first | exact Reads.pt 0 rfl rfl | exact Reads.pt 1 rfl rfl | exact Reads.pt 2 rfl rfl | exact Reads.pt 3 rfl rfl | exact Reads.pt 4 rfl rfl | exact Reads.pt 5 rfl rfl | exact Reads.pt 6 rfl rfl | exact Reads.pt 7 rfl rfl | exact Reads.pt 8 rfl rfl | exact Reads.pt 9 rfl rfl | exact Reads.pt 10 rfl rfl | exact Reads.pt 11 rfl rfl | exact Reads.pt 12 rfl rfl | exact Reads.pt 13 rfl rfl)) ?_
  refine RG.q 6 hR rfl rfl rfl rfl rfl rfl (by first | exact X.G.Q.lkNo (i := 1) Try.runUnderlying58 keyS Try.zeroValue74 rfl rfl rfl hB | exact X.G.Q.lkYes (i := 1) Try.runUnderlying58 keyS Try.zeroValue74 rfl rfl rfl | exact X.G.Q.lkYes (i := 2) Try.runUnderlying58 keyS Try.zeroValue74 rfl rfl rfl) ?_
  refine RG.q 7 hR rfl rfl rfl rfl rfl rfl (Q.fa (n := 3) Try.runUnderlying26 rfl rfl Try.sizeOf9 rfl) ?_
  refine RG.q 8 hR rfl rfl rfl rfl rfl rfl (Q.ld Try.isAgg9 rfl (by first | exact Reads.pt 0 rfl rfl | exact Reads.pt 1 rfl rfl | exact Reads.pt 2 rfl rfl | exact Reads.pt 3 rfl rfl | exact Reads.pt 4 rfl rfl | exact Reads.pt 5 rfl rfl | exact Reads.pt 6 rfl rfl | exact Reads.pt 7 rfl rfl | exact Reads.pt 8 rfl rfl | exact Reads.pt 9 rfl rfl | exact Reads.pt 10 rfl rfl | exact Reads.pt 11 rfl rfl | exact Reads.pt 12 rfl rfl | exact Reads.pt 13 rfl rfl)) ?_
  refine RG.q 9 hR rfl rfl rfl rfl rfl rfl (by first | exact X.G.Q.lk2Nil Try.runUnderlying74 keyS Try.zeroValue24 rfl rfl | exact X.G.Q.lk2No (i := 0) Try.runUnderlying74 keyS Try.zeroValue24 rfl rfl rfl hK | exact X.G.Q.lk2Yes (i := 1) Try.runUnderlying74 keyS Try.zeroValue24 rfl rfl rfl) ?_
  refine RG.q 10 hR rfl rfl rfl rfl rfl rfl (Q.mv rfl) ?_
  refine RG.q 11 hR rfl rfl rfl rfl rfl rfl (Q.ext rfl rfl) ?_
  refine RG.q 12 hR rfl rfl rfl rfl rfl rfl (Q.ext rfl rfl) ?_
  refine RG.keep 13 hR rfl rfl rfl rfl rfl (Q.asg rfl) ?_
  refine RG.bar 14 hR rfl rfl rfl rfl rfl rfl (Q.asg rfl).toC ?_
  rintro _ _ ⟨rfl, rfl⟩
  refine RG.norm rfl ?_
  refine RG.fin hR rfl ?_
  refine J.norm rfl ?_
  refine J.then_n ?_
  refine J.seq ?_
  refine J.seq ?_
  refine J.region ?_
  refine J.q rfl rfl (Q.mv rfl) ?_
  refine J.q rfl rfl (Q.not rfl) ?_
  refine J.nil ?_
  refine J.then_n ?_
  refine J.cases 21 rfl (fun hc21 => ?_) (fun hc21 => ?_)
  ·
    first | replace hc21 := X.tt_dec hc21 | replace hc21 := X.tt_not hc21 | replace hc21 := X.ff_dec hc21 | replace hc21 := X.ff_not hc21 | skip
    try (first | (cases hc21; done) | (exfalso; simp at hc21; done))
    all_goals
      refine J.cond_t rfl ?_
      refine J.seq ?_
      refine J.region ?_
      refine J.call Try.call24 (status_spec 404) [] rfl rfl rfl rfl ?_
      rintro _ _ ⟨y, rfl, hy, rfl⟩
      refine J.norm rfl ?_
      first | refine J.c0 rfl (C.stA (i := 0) (vs := [_, _, _, _, _]) Try.sizeOf41 rfl rfl rfl rfl rfl rfl) ?_ | refine J.c0 rfl (C.stA (i := 1) (vs := [_, _, _, _, _]) Try.sizeOf41 rfl rfl rfl rfl rfl rfl) ?_ | refine J.c0 rfl (C.stA (i := 2) (vs := [_, _, _, _, _]) Try.sizeOf41 rfl rfl rfl rfl rfl rfl) ?_ | refine J.c0 rfl (C.stA (i := 3) (vs := [_, _, _, _, _]) Try.sizeOf41 rfl rfl rfl rfl rfl rfl) ?_ | refine J.c0 rfl (C.stA (i := 4) (vs := [_, _, _, _, _]) Try.sizeOf41 rfl rfl rfl rfl rfl rfl) ?_ | refine J.c0 rfl (C.stA (i := 5) (vs := [_, _, _, _, _]) Try.sizeOf41 rfl rfl rfl rfl rfl rfl) ?_ | refine J.c0 rfl (C.stA (i := 6) (vs := [_, _, _, _, _]) Try.sizeOf41 rfl rfl rfl rfl rfl rfl) ?_ | refine J.c0 rfl (C.stA (i := 7) (vs := [_, _, _, _, _]) Try.sizeOf41 rfl rfl rfl rfl rfl rfl) ?_ | refine J.c0 rfl (C.stA (i := 8) (vs := [_, _, _, _, _]) Try.sizeOf41 rfl rfl rfl rfl rfl rfl) ?_ | refine J.c0 rfl (C.stA (i := 9) (vs := [_, _, _, _, _]) Try.sizeOf41 rfl rfl rfl rfl rfl rfl) ?_ | refine J.c0 rfl (C.stA (i := 10) (vs := [_, _, _, _, _]) Try.sizeOf41 rfl rfl rfl rfl rfl rfl) ?_ | refine J.c0 rfl (C.stA (i := 11) (vs := [_, _, _, _, _]) Try.sizeOf41 rfl rfl rfl rfl rfl rfl) ?_ | refine J.c0 rfl (C.stA (i := 12) (vs := [_, _, _, _, _]) Try.sizeOf41 rfl rfl rfl rfl rfl rfl) ?_ | refine J.c0 rfl (C.stA (i := 13) (vs := [_, _, _, _, _]) Try.sizeOf41 rfl rfl rfl rfl rfl rfl) ?_ | refine J.c0 rfl (C.stA (i := 14) (vs := [_, _, _, _, _]) Try.sizeOf41 rfl rfl rfl rfl rfl rfl) ?_ | refine J.c0 rfl (C.stA (i := 15) (vs := [_, _, _, _, _]) Try.sizeOf41 rfl rfl rfl rfl rfl rfl) ?_
      rintro _ _ ⟨rfl, rfl⟩
      refine J.nil ?_
      refine J.then_n ?_
      refine J.cret ?_
      refine J.then_r ?_
      first
        | (refine J.shut [1, 2, 3, 4] (BktAt m M) rfl (fun h s => ⟨z, s⟩) ?_
           refine J.retC [0, 1, 4, 5] (vs := [_, _, _, _, _]) rfl rfl Try.isAgg41 Try.sizeOf41 (ReadsN.pt 2 rfl) rfl (B := [_, _, _]) ⟨_, rfl, hy, rfl⟩)
        | (refine J.shut [1] (bRep x.o.bucket objs (.map (some r))) rfl (fun h s => ⟨r, rfl, s⟩) ?_
           refine J.mapSame 0 2 ord3_str hM.bs hB rfl ?_
           refine J.shut [2, 0, 3, 4] (BktAt m M) rfl (fun h s => ⟨z, s⟩) ?_
           refine J.retC [0, 1, 4, 5] (vs := [_, _, _, _, _]) rfl rfl Try.isAgg41 Try.sizeOf41 (ReadsN.pt 2 rfl) rfl (B := [_, _, _]) ⟨_, rfl, hy, rfl⟩)
  ·
    first | replace hc21 := X.tt_dec hc21 | replace hc21 := X.tt_not hc21 | replace hc21 := X.ff_dec hc21 | replace hc21 := X.ff_not hc21 | skip
    try (first | (cases hc21; done) | (exfalso; simp at hc21; done))
    all_goals
      refine J.cond_f rfl ?_
      refine J.cskip ?_
      refine J.then_n ?_
      refine J.seq ?_
      refine J.region ?_
      refine J.q rfl rfl (Q.mv rfl) ?_
      refine J.slr1 0 rfl fun hs24 => ?_
      refine J.call Try.call32 (clone_spec (own 5 1 (.slice z2.1 d.length z2.2) (bytesV d)) z2.1 z2.2 d hs24 (by omega)) [0] rfl rfl rfl rfl ?_
      rintro _ _ ⟨p24, c24, rfl, rfl⟩
      refine J.norm rfl ?_
      refine J.q rfl rfl (Q.bld (l := [_, _, _, _, _]) Try.runUnderlying41 Try.zeroValue41 Try.places41 rfl rfl) ?_
      first | refine J.c0 rfl (C.stA (i := 0) (vs := [_, _, _, _, _]) Try.sizeOf41 rfl rfl rfl rfl rfl rfl) ?_ | refine J.c0 rfl (C.stA (i := 1) (vs := [_, _, _, _, _]) Try.sizeOf41 rfl rfl rfl rfl rfl rfl) ?_ | refine J.c0 rfl (C.stA (i := 2) (vs := [_, _, _, _, _]) Try.sizeOf41 rfl rfl rfl rfl rfl rfl) ?_ | refine J.c0 rfl (C.stA (i := 3) (vs := [_, _, _, _, _]) Try.sizeOf41 rfl rfl rfl rfl rfl rfl) ?_ | refine J.c0 rfl (C.stA (i := 4) (vs := [_, _, _, _, _]) Try.sizeOf41 rfl rfl rfl rfl rfl rfl) ?_ | refine J.c0 rfl (C.stA (i := 5) (vs := [_, _, _, _, _]) Try.sizeOf41 rfl rfl rfl rfl rfl rfl) ?_ | refine J.c0 rfl (C.stA (i := 6) (vs := [_, _, _, _, _]) Try.sizeOf41 rfl rfl rfl rfl rfl rfl) ?_ | refine J.c0 rfl (C.stA (i := 7) (vs := [_, _, _, _, _]) Try.sizeOf41 rfl rfl rfl rfl rfl rfl) ?_ | refine J.c0 rfl (C.stA (i := 8) (vs := [_, _, _, _, _]) Try.sizeOf41 rfl rfl rfl rfl rfl rfl) ?_ | refine J.c0 rfl (C.stA (i := 9) (vs := [_, _, _, _, _]) Try.sizeOf41 rfl rfl rfl rfl rfl rfl) ?_ | refine J.c0 rfl (C.stA (i := 10) (vs := [_, _, _, _, _]) Try.sizeOf41 rfl rfl rfl rfl rfl rfl) ?_ | refine J.c0 rfl (C.stA (i := 11) (vs := [_, _, _, _, _]) Try.sizeOf41 rfl rfl rfl rfl rfl rfl) ?_ | refine J.c0 rfl (C.stA (i := 12) (vs := [_, _, _, _, _]) Try.sizeOf41 rfl rfl rfl rfl rfl rfl) ?_ | refine J.c0 rfl (C.stA (i := 13) (vs := [_, _, _, _, _]) Try.sizeOf41 rfl rfl rfl rfl rfl rfl) ?_ | refine J.c0 rfl (C.stA (i := 14) (vs := [_, _, _, _, _]) Try.sizeOf41 rfl rfl rfl rfl rfl rfl) ?_ | refine J.c0 rfl (C.stA (i := 15) (vs := [_, _, _, _, _]) Try.sizeOf41 rfl rfl rfl rfl rfl rfl) ?_
      rintro _ _ ⟨rfl, rfl⟩
      refine J.nil ?_
      refine J.then_n ?_
      refine J.cret ?_
      refine J.give (own.nil 9 1 _) ?_
      refine J.pack [0, 1] rfl ?_
      refine J.shut [1] (datRep x.o.key d (.slice z2.1 d.length z2.2)) rfl (fun h s => ⟨z2, rfl, s⟩) ?_
      refine J.mapSame 0 2 ord3_str hO.1 hK rfl ?_
      refine J.shut [0] (bRep x.o.bucket objs (.map (some r))) rfl (fun h s => ⟨r, rfl, s⟩) ?_
      refine J.mapSame 0 2 ord3_str hM.bs hB rfl ?_
      refine J.shut [2, 0, 3, 4] (BktAt m M) rfl (fun h s => ⟨z, s⟩) ?_
      refine J.retC [0, 1, 4, 5] (vs := [_, _, _, _, _]) rfl rfl Try.isAgg41 Try.sizeOf41 (ReadsN.pt 2 rfl) rfl (B := [_, _, _]) ⟨⟨⟨200, 0, [], false, d⟩, none, 0, p24, c24⟩, rfl, rfl, rfl⟩
theorem get_none {objs : Objs} (hB : sget x.o.bucket M.buckets = some objs) (hK : sget x.o.key objs = none) : FSpec Try.prog 36 [.pointer (some ⟨m, 0, none⟩), .agg x.cells.toArray] [BktAt m M, G] (ActR m G (st 404, M)) := by
  refine FSpec.of Try.func36 rfl Try.ntmps36 rfl fun W0 F => ?_
  refine J.seq ?_
  refine J.region ?_
  refine J.c rfl rfl (C.box (l := [_, _, _, _, _, _, _, _, _]) rfl rfl) ?_
  rintro _ _ ⟨b3, rfl, rfl⟩
  refine J.norm rfl ?_
  refine J.c rfl rfl (C.alloc (l := [_, _, _, _, _]) Try.zeroValue41 rfl) ?_
  rintro _ _ ⟨b4, rfl, rfl⟩
  refine J.norm rfl ?_
  refine J.nil ?_
  refine J.then_n ?_
  refine J.seq ?_
  try have hO := hM.os _ _ hB
  try have hdl := hO.2.2 _ _ hK
  refine J.open1 2 rfl (fun _ h => h) fun z => ?_
  refine J.norm rfl ?_
  first
    | (refine J.mapFocus 1 hB rfl fun val => ?_
       refine J.norm rfl ?_
       refine J.open_ 0 rfl rfl (fun _ h => h) fun r hr => ?_
       subst hr
       refine J.norm rfl ?_)
    | skip
  first
    | (refine J.mapFocus 0 hK rfl fun val => ?_
       refine J.norm rfl ?_
       refine J.open_ 0 rfl rfl (fun _ h => h) fun z2 hz2 => ?_
       subst hz2
       refine J.norm rfl ?_)
    | skip
  refine J.draw [13, 14] Try.mixed (by kernel_rfl) fun hR => ?_
  refine RG.q 0 hR rfl rfl rfl rfl rfl rfl (Q.mv rfl) ?_
  refine RG.q 1 hR rfl rfl rfl rfl rfl rfl (Q.nil_ rfl) ?_
  refine RG.q 2 hR rfl rfl rfl rfl rfl rfl (Q.fa (n := 0) Try.runUnderlying62 rfl rfl Try.sizeOf58 rfl) ?_
  refine RG.q 3 hR rfl rfl rfl rfl rfl rfl (Q.ld Try.isAgg58 rfl (by first | exact Reads.pt 0 rfl rfl | exact Reads.pt 1 rfl rfl | exact Reads.pt 2 rfl rfl | exact Reads.pt 3 rfl rfl | exact Reads.pt 4 rfl rfl | exact Reads.pt 5 rfl rfl | exact Reads.pt 6 rfl rfl | exact Reads.pt 7 rfl rfl | exact Reads.pt 8 rfl rfl | exact Reads.pt 9 rfl rfl | exact Reads.pt 10 rfl rfl | exact Reads.pt 11 rfl rfl | exact Reads.pt 12 rfl rfl | exact Reads.pt 13 rfl rfl)) ?_
  refine RG.q 4 hR rfl rfl rfl rfl rfl rfl (Q.fa (n := 2) Try.runUnderlying26 rfl rfl Try.sizeOf9 rfl) ?_
  refine RG.q 5 hR rfl rfl rfl rfl rfl rfl (Q.ld Try.isAgg9 rfl (by first | exact Reads.pt 0 rfl rfl | exact Reads.pt 1 rfl rfl | exact Reads.pt 2 rfl rfl | exact Reads.pt 3 rfl rfl | exact Reads.pt 4 rfl rfl | exact Reads.pt 5 rfl rfl | exact Reads.pt 6 rfl rfl | exact Reads.pt 7 rfl rfl | exact Reads.pt 8 rfl rfl | exact Reads.pt 9 rfl rfl | exact Reads.pt 10 rfl rfl | exact Reads.pt 11 rfl rfl | exact Reads.pt 12 rfl rfl | exact Reads.pt 13 rfl rfl)) ?_
  refine RG.q 6 hR rfl rfl rfl rfl rfl rfl (by first | exact X.G.Q.lkNo (i := 1) Try.runUnderlying58 keyS Try.zeroValue74 rfl rfl rfl hB | exact X.G.Q.lkYes (i := 1) Try.runUnderlying58 keyS Try.zeroValue74 rfl rfl rfl | exact X.G.Q.lkYes (i := 2) Try.runUnderlying58 keyS Try.zeroValue74 rfl rfl rfl) ?_
  refine RG.q 7 hR rfl rfl rfl rfl rfl rfl (Q.fa (n := 3) Try.runUnderlying26 rfl rfl Try.sizeOf9 rfl) ?_
  refine RG.q 8 hR rfl rfl rfl rfl rfl rfl (Q.ld Try.isAgg9 rfl (by first | exact Reads.pt 0 rfl rfl | exact Reads.pt 1 rfl rfl | exact Reads.pt 2 rfl rfl | exact Reads.pt 3 rfl rfl | exact Reads.pt 4 rfl rfl | exact Reads.pt 5 rfl rfl | exact Reads.pt 6 rfl rfl | exact Reads.pt 7 rfl rfl | exact Reads.pt 8 rfl rfl | exact Reads.pt 9 rfl rfl | exact Reads.pt 10 rfl rfl | exact Reads.pt 11 rfl rfl | exact Reads.pt 12 rfl rfl | exact Reads.pt 13 rfl rfl)) ?_
  refine RG.q 9 hR rfl rfl rfl rfl rfl rfl (by first | exact X.G.Q.lk2Nil Try.runUnderlying74 keyS Try.zeroValue24 rfl rfl | exact X.G.Q.lk2No (i := 0) Try.runUnderlying74 keyS Try.zeroValue24 rfl rfl rfl hK | exact X.G.Q.lk2Yes (i := 1) Try.runUnderlying74 keyS Try.zeroValue24 rfl rfl rfl) ?_
  refine RG.q 10 hR rfl rfl rfl rfl rfl rfl (Q.mv rfl) ?_
  refine RG.q 11 hR rfl rfl rfl rfl rfl rfl (Q.ext rfl rfl) ?_
  refine RG.q 12 hR rfl rfl rfl rfl rfl rfl (Q.ext rfl rfl) ?_
  refine RG.keep 13 hR rfl rfl rfl rfl rfl (Q.asg rfl) ?_
  refine RG.bar 14 hR rfl rfl rfl rfl rfl rfl (Q.asg rfl).toC ?_
  rintro _ _ ⟨rfl, rfl⟩
  refine RG.norm rfl ?_
  refine RG.fin hR rfl ?_
  refine J.norm rfl ?_
  refine J.then_n ?_
  refine J.seq ?_
  refine J.seq ?_
  refine J.region ?_
  refine J.q rfl rfl (Q.mv rfl) ?_
  refine J.q rfl rfl (Q.not rfl) ?_
  refine J.nil ?_
  refine J.then_n ?_
  refine J.cases 21 rfl (fun hc21 => ?_) (fun hc21 => ?_)
  ·
    first | replace hc21 := X.tt_dec hc21 | replace hc21 := X.tt_not hc21 | replace hc21 := X.ff_dec hc21 | replace hc21 := X.ff_not hc21 | skip
    try (first | (cases hc21; done) | (exfalso; simp at hc21; done))
    all_goals
      refine J.cond_t rfl ?_
      refine J.seq ?_
      refine J.region ?_
      refine J.call Try.call24 (status_spec 404) [] rfl rfl rfl rfl ?_
      rintro _ _ ⟨y, rfl, hy, rfl⟩
      refine J.norm rfl ?_
      first | refine J.c0 rfl (C.stA (i := 0) (vs := [_, _, _, _, _]) Try.sizeOf41 rfl rfl rfl rfl rfl rfl) ?_ | refine J.c0 rfl (C.stA (i := 1) (vs := [_, _, _, _, _]) Try.sizeOf41 rfl rfl rfl rfl rfl rfl) ?_ | refine J.c0 rfl (C.stA (i := 2) (vs := [_, _, _, _, _]) Try.sizeOf41 rfl rfl rfl rfl rfl rfl) ?_ | refine J.c0 rfl (C.stA (i := 3) (vs := [_, _, _, _, _]) Try.sizeOf41 rfl rfl rfl rfl rfl rfl) ?_ | refine J.c0 rfl (C.stA (i := 4) (vs := [_, _, _, _, _]) Try.sizeOf41 rfl rfl rfl rfl rfl rfl) ?_ | refine J.c0 rfl (C.stA (i := 5) (vs := [_, _, _, _, _]) Try.sizeOf41 rfl rfl rfl rfl rfl rfl) ?_ | refine J.c0 rfl (C.stA (i := 6) (vs := [_, _, _, _, _]) Try.sizeOf41 rfl rfl rfl rfl rfl rfl) ?_ | refine J.c0 rfl (C.stA (i := 7) (vs := [_, _, _, _, _]) Try.sizeOf41 rfl rfl rfl rfl rfl rfl) ?_ | refine J.c0 rfl (C.stA (i := 8) (vs := [_, _, _, _, _]) Try.sizeOf41 rfl rfl rfl rfl rfl rfl) ?_ | refine J.c0 rfl (C.stA (i := 9) (vs := [_, _, _, _, _]) Try.sizeOf41 rfl rfl rfl rfl rfl rfl) ?_ | refine J.c0 rfl (C.stA (i := 10) (vs := [_, _, _, _, _]) Try.sizeOf41 rfl rfl rfl rfl rfl rfl) ?_ | refine J.c0 rfl (C.stA (i := 11) (vs := [_, _, _, _, _]) Try.sizeOf41 rfl rfl rfl rfl rfl rfl) ?_ | refine J.c0 rfl (C.stA (i := 12) (vs := [_, _, _, _, _]) Try.sizeOf41 rfl rfl rfl rfl rfl rfl) ?_ | refine J.c0 rfl (C.stA (i := 13) (vs := [_, _, _, _, _]) Try.sizeOf41 rfl rfl rfl rfl rfl rfl) ?_ | refine J.c0 rfl (C.stA (i := 14) (vs := [_, _, _, _, _]) Try.sizeOf41 rfl rfl rfl rfl rfl rfl) ?_ | refine J.c0 rfl (C.stA (i := 15) (vs := [_, _, _, _, _]) Try.sizeOf41 rfl rfl rfl rfl rfl rfl) ?_
      rintro _ _ ⟨rfl, rfl⟩
      refine J.nil ?_
      refine J.then_n ?_
      refine J.cret ?_
      refine J.then_r ?_
      first
        | (refine J.shut [1, 2, 3, 4] (BktAt m M) rfl (fun h s => ⟨z, s⟩) ?_
           refine J.retC [0, 1, 4, 5] (vs := [_, _, _, _, _]) rfl rfl Try.isAgg41 Try.sizeOf41 (ReadsN.pt 2 rfl) rfl (B := [_, _, _]) ⟨_, rfl, hy, rfl⟩)
        | (refine J.shut [1] (bRep x.o.bucket objs (.map (some r))) rfl (fun h s => ⟨r, rfl, s⟩) ?_
           refine J.mapSame 0 2 ord3_str hM.bs hB rfl ?_
           refine J.shut [2, 0, 3, 4] (BktAt m M) rfl (fun h s => ⟨z, s⟩) ?_
           refine J.retC [0, 1, 4, 5] (vs := [_, _, _, _, _]) rfl rfl Try.isAgg41 Try.sizeOf41 (ReadsN.pt 2 rfl) rfl (B := [_, _, _]) ⟨_, rfl, hy, rfl⟩)
  ·
    first | replace hc21 := X.tt_dec hc21 | replace hc21 := X.tt_not hc21 | replace hc21 := X.ff_dec hc21 | replace hc21 := X.ff_not hc21 | skip
    try (first | (cases hc21; done) | (exfalso; simp at hc21; done))
    all_goals
      refine J.cond_f rfl ?_
      refine J.cskip ?_
      refine J.then_n ?_
      refine J.seq ?_
      refine J.region ?_
      refine J.q rfl rfl (Q.mv rfl) ?_
      refine J.slr1 0 rfl fun hs24 => ?_
      refine J.call Try.call32 (clone_spec (own 5 1 (.slice z2.1 d.length z2.2) (bytesV d)) z2.1 z2.2 d hs24 (by omega)) [0] rfl rfl rfl rfl ?_
      rintro _ _ ⟨p24, c24, rfl, rfl⟩
      refine J.norm rfl ?_
      refine J.q rfl rfl (Q.bld (l := [_, _, _, _, _]) Try.runUnderlying41 Try.zeroValue41 Try.places41 rfl rfl) ?_
      first | refine J.c0 rfl (C.stA (i := 0) (vs := [_, _, _, _, _]) Try.sizeOf41 rfl rfl rfl rfl rfl rfl) ?_ | refine J.c0 rfl (C.stA (i := 1) (vs := [_, _, _, _, _]) Try.sizeOf41 rfl rfl rfl rfl rfl rfl) ?_ | refine J.c0 rfl (C.stA (i := 2) (vs := [_, _, _, _, _]) Try.sizeOf41 rfl rfl rfl rfl rfl rfl) ?_ | refine J.c0 rfl (C.stA (i := 3) (vs := [_, _, _, _, _]) Try.sizeOf41 rfl rfl rfl rfl rfl rfl) ?_ | refine J.c0 rfl (C.stA (i := 4) (vs := [_, _, _, _, _]) Try.sizeOf41 rfl rfl rfl rfl rfl rfl) ?_ | refine J.c0 rfl (C.stA (i := 5) (vs := [_, _, _, _, _]) Try.sizeOf41 rfl rfl rfl rfl rfl rfl) ?_ | refine J.c0 rfl (C.stA (i := 6) (vs := [_, _, _, _, _]) Try.sizeOf41 rfl rfl rfl rfl rfl rfl) ?_ | refine J.c0 rfl (C.stA (i := 7) (vs := [_, _, _, _, _]) Try.sizeOf41 rfl rfl rfl rfl rfl rfl) ?_ | refine J.c0 rfl (C.stA (i := 8) (vs := [_, _, _, _, _]) Try.sizeOf41 rfl rfl rfl rfl rfl rfl) ?_ | refine J.c0 rfl (C.stA (i := 9) (vs := [_, _, _, _, _]) Try.sizeOf41 rfl rfl rfl rfl rfl rfl) ?_ | refine J.c0 rfl (C.stA (i := 10) (vs := [_, _, _, _, _]) Try.sizeOf41 rfl rfl rfl rfl rfl rfl) ?_ | refine J.c0 rfl (C.stA (i := 11) (vs := [_, _, _, _, _]) Try.sizeOf41 rfl rfl rfl rfl rfl rfl) ?_ | refine J.c0 rfl (C.stA (i := 12) (vs := [_, _, _, _, _]) Try.sizeOf41 rfl rfl rfl rfl rfl rfl) ?_ | refine J.c0 rfl (C.stA (i := 13) (vs := [_, _, _, _, _]) Try.sizeOf41 rfl rfl rfl rfl rfl rfl) ?_ | refine J.c0 rfl (C.stA (i := 14) (vs := [_, _, _, _, _]) Try.sizeOf41 rfl rfl rfl rfl rfl rfl) ?_ | refine J.c0 rfl (C.stA (i := 15) (vs := [_, _, _, _, _]) Try.sizeOf41 rfl rfl rfl rfl rfl rfl) ?_
      rintro _ _ ⟨rfl, rfl⟩
      refine J.nil ?_
      refine J.then_n ?_
      refine J.cret ?_
      refine J.give (own.nil 9 1 _) ?_
      refine J.pack [0, 1] rfl ?_
      refine J.shut [1] (datRep x.o.key d (.slice z2.1 d.length z2.2)) rfl (fun h s => ⟨z2, rfl, s⟩) ?_
      refine J.mapSame 0 2 ord3_str hO.1 hK rfl ?_
      refine J.shut [0] (bRep x.o.bucket objs (.map (some r))) rfl (fun h s => ⟨r, rfl, s⟩) ?_
      refine J.mapSame 0 2 ord3_str hM.bs hB rfl ?_
      refine J.shut [2, 0, 3, 4] (BktAt m M) rfl (fun h s => ⟨z, s⟩) ?_
      refine J.retC [0, 1, 4, 5] (vs := [_, _, _, _, _]) rfl rfl Try.isAgg41 Try.sizeOf41 (ReadsN.pt 2 rfl) rfl (B := [_, _, _]) ⟨⟨⟨200, 0, [], false, d⟩, none, 0, p24, c24⟩, rfl, rfl, rfl⟩
theorem get_yes {objs : Objs} (hB : sget x.o.bucket M.buckets = some objs) {d : List UInt8} (hK : sget x.o.key objs = some d) : FSpec Try.prog 36 [.pointer (some ⟨m, 0, none⟩), .agg x.cells.toArray] [BktAt m M, G] (ActR m G (⟨200, 0, [], false, d⟩, M)) := by
  refine FSpec.of Try.func36 rfl Try.ntmps36 rfl fun W0 F => ?_
  refine J.seq ?_
  refine J.region ?_
  refine J.c rfl rfl (C.box (l := [_, _, _, _, _, _, _, _, _]) rfl rfl) ?_
  rintro _ _ ⟨b3, rfl, rfl⟩
  refine J.norm rfl ?_
  refine J.c rfl rfl (C.alloc (l := [_, _, _, _, _]) Try.zeroValue41 rfl) ?_
  rintro _ _ ⟨b4, rfl, rfl⟩
  refine J.norm rfl ?_
  refine J.nil ?_
  refine J.then_n ?_
  refine J.seq ?_
  try have hO := hM.os _ _ hB
  try have hdl := hO.2.2 _ _ hK
  refine J.open1 2 rfl (fun _ h => h) fun z => ?_
  refine J.norm rfl ?_
  first
    | (refine J.mapFocus 1 hB rfl fun val => ?_
       refine J.norm rfl ?_
       refine J.open_ 0 rfl rfl (fun _ h => h) fun r hr => ?_
       subst hr
       refine J.norm rfl ?_)
    | skip
  first
    | (refine J.mapFocus 0 hK rfl fun val => ?_
       refine J.norm rfl ?_
       refine J.open_ 0 rfl rfl (fun _ h => h) fun z2 hz2 => ?_
       subst hz2
       refine J.norm rfl ?_)
    | skip
  refine J.draw [13, 14] Try.mixed (by kernel_rfl) fun hR => ?_
  refine RG.q 0 hR rfl rfl rfl rfl rfl rfl (Q.mv rfl) ?_
  refine RG.q 1 hR rfl rfl rfl rfl rfl rfl (Q.nil_ rfl) ?_
  refine RG.q 2 hR rfl rfl rfl rfl rfl rfl (Q.fa (n := 0) Try.runUnderlying62 rfl rfl Try.sizeOf58 rfl) ?_
  refine RG.q 3 hR rfl rfl rfl rfl rfl rfl (Q.ld Try.isAgg58 rfl (by first | exact Reads.pt 0 rfl rfl | exact Reads.pt 1 rfl rfl | exact Reads.pt 2 rfl rfl | exact Reads.pt 3 rfl rfl | exact Reads.pt 4 rfl rfl | exact Reads.pt 5 rfl rfl | exact Reads.pt 6 rfl rfl | exact Reads.pt 7 rfl rfl | exact Reads.pt 8 rfl rfl | exact Reads.pt 9 rfl rfl | exact Reads.pt 10 rfl rfl | exact Reads.pt 11 rfl rfl | exact Reads.pt 12 rfl rfl | exact Reads.pt 13 rfl rfl)) ?_
  refine RG.q 4 hR rfl rfl rfl rfl rfl rfl (Q.fa (n := 2) Try.runUnderlying26 rfl rfl Try.sizeOf9 rfl) ?_
  refine RG.q 5 hR rfl rfl rfl rfl rfl rfl (Q.ld Try.isAgg9 rfl (by first | exact Reads.pt 0 rfl rfl | exact Reads.pt 1 rfl rfl | exact Reads.pt 2 rfl rfl | exact Reads.pt 3 rfl rfl | exact Reads.pt 4 rfl rfl | exact Reads.pt 5 rfl rfl | exact Reads.pt 6 rfl rfl | exact Reads.pt 7 rfl rfl | exact Reads.pt 8 rfl rfl | exact Reads.pt 9 rfl rfl | exact Reads.pt 10 rfl rfl | exact Reads.pt 11 rfl rfl | exact Reads.pt 12 rfl rfl | exact Reads.pt 13 rfl rfl)) ?_
  refine RG.q 6 hR rfl rfl rfl rfl rfl rfl (by first | exact X.G.Q.lkNo (i := 1) Try.runUnderlying58 keyS Try.zeroValue74 rfl rfl rfl hB | exact X.G.Q.lkYes (i := 1) Try.runUnderlying58 keyS Try.zeroValue74 rfl rfl rfl | exact X.G.Q.lkYes (i := 2) Try.runUnderlying58 keyS Try.zeroValue74 rfl rfl rfl) ?_
  refine RG.q 7 hR rfl rfl rfl rfl rfl rfl (Q.fa (n := 3) Try.runUnderlying26 rfl rfl Try.sizeOf9 rfl) ?_
  refine RG.q 8 hR rfl rfl rfl rfl rfl rfl (Q.ld Try.isAgg9 rfl (by first | exact Reads.pt 0 rfl rfl | exact Reads.pt 1 rfl rfl | exact Reads.pt 2 rfl rfl | exact Reads.pt 3 rfl rfl | exact Reads.pt 4 rfl rfl | exact Reads.pt 5 rfl rfl | exact Reads.pt 6 rfl rfl | exact Reads.pt 7 rfl rfl | exact Reads.pt 8 rfl rfl | exact Reads.pt 9 rfl rfl | exact Reads.pt 10 rfl rfl | exact Reads.pt 11 rfl rfl | exact Reads.pt 12 rfl rfl | exact Reads.pt 13 rfl rfl)) ?_
  refine RG.q 9 hR rfl rfl rfl rfl rfl rfl (by first | exact X.G.Q.lk2Nil Try.runUnderlying74 keyS Try.zeroValue24 rfl rfl | exact X.G.Q.lk2No (i := 0) Try.runUnderlying74 keyS Try.zeroValue24 rfl rfl rfl hK | exact X.G.Q.lk2Yes (i := 1) Try.runUnderlying74 keyS Try.zeroValue24 rfl rfl rfl) ?_
  refine RG.q 10 hR rfl rfl rfl rfl rfl rfl (Q.mv rfl) ?_
  refine RG.q 11 hR rfl rfl rfl rfl rfl rfl (Q.ext rfl rfl) ?_
  refine RG.q 12 hR rfl rfl rfl rfl rfl rfl (Q.ext rfl rfl) ?_
  refine RG.keep 13 hR rfl rfl rfl rfl rfl (Q.asg rfl) ?_
  refine RG.bar 14 hR rfl rfl rfl rfl rfl rfl (Q.asg rfl).toC ?_
  rintro _ _ ⟨rfl, rfl⟩
  refine RG.norm rfl ?_
  refine RG.fin hR rfl ?_
  refine J.norm rfl ?_
  refine J.then_n ?_
  refine J.seq ?_
  refine J.seq ?_
  refine J.region ?_
  refine J.q rfl rfl (Q.mv rfl) ?_
  refine J.q rfl rfl (Q.not rfl) ?_
  refine J.nil ?_
  refine J.then_n ?_
  refine J.cases 21 rfl (fun hc21 => ?_) (fun hc21 => ?_)
  ·
    first | replace hc21 := X.tt_dec hc21 | replace hc21 := X.tt_not hc21 | replace hc21 := X.ff_dec hc21 | replace hc21 := X.ff_not hc21 | skip
    try (first | (cases hc21; done) | (exfalso; simp at hc21; done))
    all_goals
      refine J.cond_t rfl ?_
      refine J.seq ?_
      refine J.region ?_
      refine J.call Try.call24 (status_spec 404) [] rfl rfl rfl rfl ?_
      rintro _ _ ⟨y, rfl, hy, rfl⟩
      refine J.norm rfl ?_
      first | refine J.c0 rfl (C.stA (i := 0) (vs := [_, _, _, _, _]) Try.sizeOf41 rfl rfl rfl rfl rfl rfl) ?_ | refine J.c0 rfl (C.stA (i := 1) (vs := [_, _, _, _, _]) Try.sizeOf41 rfl rfl rfl rfl rfl rfl) ?_ | refine J.c0 rfl (C.stA (i := 2) (vs := [_, _, _, _, _]) Try.sizeOf41 rfl rfl rfl rfl rfl rfl) ?_ | refine J.c0 rfl (C.stA (i := 3) (vs := [_, _, _, _, _]) Try.sizeOf41 rfl rfl rfl rfl rfl rfl) ?_ | refine J.c0 rfl (C.stA (i := 4) (vs := [_, _, _, _, _]) Try.sizeOf41 rfl rfl rfl rfl rfl rfl) ?_ | refine J.c0 rfl (C.stA (i := 5) (vs := [_, _, _, _, _]) Try.sizeOf41 rfl rfl rfl rfl rfl rfl) ?_ | refine J.c0 rfl (C.stA (i := 6) (vs := [_, _, _, _, _]) Try.sizeOf41 rfl rfl rfl rfl rfl rfl) ?_ | refine J.c0 rfl (C.stA (i := 7) (vs := [_, _, _, _, _]) Try.sizeOf41 rfl rfl rfl rfl rfl rfl) ?_ | refine J.c0 rfl (C.stA (i := 8) (vs := [_, _, _, _, _]) Try.sizeOf41 rfl rfl rfl rfl rfl rfl) ?_ | refine J.c0 rfl (C.stA (i := 9) (vs := [_, _, _, _, _]) Try.sizeOf41 rfl rfl rfl rfl rfl rfl) ?_ | refine J.c0 rfl (C.stA (i := 10) (vs := [_, _, _, _, _]) Try.sizeOf41 rfl rfl rfl rfl rfl rfl) ?_ | refine J.c0 rfl (C.stA (i := 11) (vs := [_, _, _, _, _]) Try.sizeOf41 rfl rfl rfl rfl rfl rfl) ?_ | refine J.c0 rfl (C.stA (i := 12) (vs := [_, _, _, _, _]) Try.sizeOf41 rfl rfl rfl rfl rfl rfl) ?_ | refine J.c0 rfl (C.stA (i := 13) (vs := [_, _, _, _, _]) Try.sizeOf41 rfl rfl rfl rfl rfl rfl) ?_ | refine J.c0 rfl (C.stA (i := 14) (vs := [_, _, _, _, _]) Try.sizeOf41 rfl rfl rfl rfl rfl rfl) ?_ | refine J.c0 rfl (C.stA (i := 15) (vs := [_, _, _, _, _]) Try.sizeOf41 rfl rfl rfl rfl rfl rfl) ?_
      rintro _ _ ⟨rfl, rfl⟩
      refine J.nil ?_
      refine J.then_n ?_
      refine J.cret ?_
      refine J.then_r ?_
      first
        | (refine J.shut [1, 2, 3, 4] (BktAt m M) rfl (fun h s => ⟨z, s⟩) ?_
           refine J.retC [0, 1, 4, 5] (vs := [_, _, _, _, _]) rfl rfl Try.isAgg41 Try.sizeOf41 (ReadsN.pt 2 rfl) rfl (B := [_, _, _]) ⟨_, rfl, hy, rfl⟩)
        | (refine J.shut [1] (bRep x.o.bucket objs (.map (some r))) rfl (fun h s => ⟨r, rfl, s⟩) ?_
           refine J.mapSame 0 2 ord3_str hM.bs hB rfl ?_
           refine J.shut [2, 0, 3, 4] (BktAt m M) rfl (fun h s => ⟨z, s⟩) ?_
           refine J.retC [0, 1, 4, 5] (vs := [_, _, _, _, _]) rfl rfl Try.isAgg41 Try.sizeOf41 (ReadsN.pt 2 rfl) rfl (B := [_, _, _]) ⟨_, rfl, hy, rfl⟩)
  ·
    first | replace hc21 := X.tt_dec hc21 | replace hc21 := X.tt_not hc21 | replace hc21 := X.ff_dec hc21 | replace hc21 := X.ff_not hc21 | skip
    try (first | (cases hc21; done) | (exfalso; simp at hc21; done))
    all_goals
      refine J.cond_f rfl ?_
      refine J.cskip ?_
      refine J.then_n ?_
      refine J.seq ?_
      refine J.region ?_
      refine J.q rfl rfl (Q.mv rfl) ?_
      refine J.slr1 0 rfl fun hs24 => ?_
      refine J.call Try.call32 (clone_spec (own 5 1 (.slice z2.1 d.length z2.2) (bytesV d)) z2.1 z2.2 d hs24 (by omega)) [0] rfl rfl rfl rfl ?_
      rintro _ _ ⟨p24, c24, rfl, rfl⟩
      refine J.norm rfl ?_
      refine J.q rfl rfl (Q.bld (l := [_, _, _, _, _]) Try.runUnderlying41 Try.zeroValue41 Try.places41 rfl rfl) ?_
      first | refine J.c0 rfl (C.stA (i := 0) (vs := [_, _, _, _, _]) Try.sizeOf41 rfl rfl rfl rfl rfl rfl) ?_ | refine J.c0 rfl (C.stA (i := 1) (vs := [_, _, _, _, _]) Try.sizeOf41 rfl rfl rfl rfl rfl rfl) ?_ | refine J.c0 rfl (C.stA (i := 2) (vs := [_, _, _, _, _]) Try.sizeOf41 rfl rfl rfl rfl rfl rfl) ?_ | refine J.c0 rfl (C.stA (i := 3) (vs := [_, _, _, _, _]) Try.sizeOf41 rfl rfl rfl rfl rfl rfl) ?_ | refine J.c0 rfl (C.stA (i := 4) (vs := [_, _, _, _, _]) Try.sizeOf41 rfl rfl rfl rfl rfl rfl) ?_ | refine J.c0 rfl (C.stA (i := 5) (vs := [_, _, _, _, _]) Try.sizeOf41 rfl rfl rfl rfl rfl rfl) ?_ | refine J.c0 rfl (C.stA (i := 6) (vs := [_, _, _, _, _]) Try.sizeOf41 rfl rfl rfl rfl rfl rfl) ?_ | refine J.c0 rfl (C.stA (i := 7) (vs := [_, _, _, _, _]) Try.sizeOf41 rfl rfl rfl rfl rfl rfl) ?_ | refine J.c0 rfl (C.stA (i := 8) (vs := [_, _, _, _, _]) Try.sizeOf41 rfl rfl rfl rfl rfl rfl) ?_ | refine J.c0 rfl (C.stA (i := 9) (vs := [_, _, _, _, _]) Try.sizeOf41 rfl rfl rfl rfl rfl rfl) ?_ | refine J.c0 rfl (C.stA (i := 10) (vs := [_, _, _, _, _]) Try.sizeOf41 rfl rfl rfl rfl rfl rfl) ?_ | refine J.c0 rfl (C.stA (i := 11) (vs := [_, _, _, _, _]) Try.sizeOf41 rfl rfl rfl rfl rfl rfl) ?_ | refine J.c0 rfl (C.stA (i := 12) (vs := [_, _, _, _, _]) Try.sizeOf41 rfl rfl rfl rfl rfl rfl) ?_ | refine J.c0 rfl (C.stA (i := 13) (vs := [_, _, _, _, _]) Try.sizeOf41 rfl rfl rfl rfl rfl rfl) ?_ | refine J.c0 rfl (C.stA (i := 14) (vs := [_, _, _, _, _]) Try.sizeOf41 rfl rfl rfl rfl rfl rfl) ?_ | refine J.c0 rfl (C.stA (i := 15) (vs := [_, _, _, _, _]) Try.sizeOf41 rfl rfl rfl rfl rfl rfl) ?_
      rintro _ _ ⟨rfl, rfl⟩
      refine J.nil ?_
      refine J.then_n ?_
      refine J.cret ?_
      refine J.give (own.nil 9 1 _) ?_
      refine J.pack [0, 1] rfl ?_
      refine J.shut [1] (datRep x.o.key d (.slice z2.1 d.length z2.2)) rfl (fun h s => ⟨z2, rfl, s⟩) ?_
      refine J.mapSame 0 2 ord3_str hO.1 hK rfl ?_
      refine J.shut [0] (bRep x.o.bucket objs (.map (some r))) rfl (fun h s => ⟨r, rfl, s⟩) ?_
      refine J.mapSame 0 2 ord3_str hM.bs hB rfl ?_
      refine J.shut [2, 0, 3, 4] (BktAt m M) rfl (fun h s => ⟨z, s⟩) ?_
      refine J.retC [0, 1, 4, 5] (vs := [_, _, _, _, _]) rfl rfl Try.isAgg41 Try.sizeOf41 (ReadsN.pt 2 rfl) rfl (B := [_, _, _]) ⟨⟨⟨200, 0, [], false, d⟩, none, 0, p24, c24⟩, rfl, rfl, rfl⟩
theorem get_spec : FSpec Try.prog 36 [.pointer (some ⟨m, 0, none⟩), .agg x.cells.toArray] [BktAt m M, G] (ActR m G (M.get x.o)) := by
  unfold BM.get
  split
  · rename_i hB; exact get_no m M hM x G hx hB
  · rename_i hB
    split
    · rename_i hK; exact get_none m M hM x G hx hB hK
    · rename_i hK; exact get_yes m M hM x G hx hB hK

theorem delete_no (hB : sget x.o.bucket M.buckets = none) : FSpec Try.prog 37 [.pointer (some ⟨m, 0, none⟩), .agg x.cells.toArray] [BktAt m M, G] (ActR m G (st 404, M)) := by
  refine FSpec.of Try.func37 rfl Try.ntmps37 rfl fun W0 F => ?_
  refine J.seq ?_
  refine J.region ?_
  refine J.c rfl rfl (C.box (l := [_, _, _, _, _, _, _, _, _]) rfl rfl) ?_
  rintro _ _ ⟨b3, rfl, rfl⟩
  refine J.norm rfl ?_
  refine J.c rfl rfl (C.alloc (l := [_, _, _, _, _]) Try.zeroValue41 rfl) ?_
  rintro _ _ ⟨b4, rfl, rfl⟩
  refine J.norm rfl ?_
  refine J.nil ?_
  refine J.then_n ?_
  refine J.seq ?_
  refine J.seq ?_
  try have hO := hM.os _ _ hB
  try have hdl := hO.2.2 _ _ hK
  refine J.open1 2 rfl (fun _ h => h) fun z => ?_
  refine J.norm rfl ?_
  first
    | (refine J.mapFocus 1 hB rfl fun val => ?_
       refine J.norm rfl ?_
       refine J.open_ 0 rfl rfl (fun _ h => h) fun r hr => ?_
       subst hr
       refine J.norm rfl ?_)
    | skip
  first
    | (refine J.mapFocus 0 hK rfl fun val => ?_
       refine J.norm rfl ?_
       refine J.open_ 0 rfl rfl (fun _ h => h) fun z2 hz2 => ?_
       subst hz2
       refine J.norm rfl ?_)
    | skip
  refine J.draw [13, 14] Try.mixed (by kernel_rfl) fun hR => ?_
  refine RG.q 0 hR rfl rfl rfl rfl rfl rfl (Q.mv rfl) ?_
  refine RG.q 1 hR rfl rfl rfl rfl rfl rfl (Q.nil_ rfl) ?_
  refine RG.q 2 hR rfl rfl rfl rfl rfl rfl (Q.fa (n := 0) Try.runUnderlying62 rfl rfl Try.sizeOf58 rfl) ?_
  refine RG.q 3 hR rfl rfl rfl rfl rfl rfl (Q.ld Try.isAgg58 rfl (by first | exact Reads.pt 0 rfl rfl | exact Reads.pt 1 rfl rfl | exact Reads.pt 2 rfl rfl | exact Reads.pt 3 rfl rfl | exact Reads.pt 4 rfl rfl | exact Reads.pt 5 rfl rfl | exact Reads.pt 6 rfl rfl | exact Reads.pt 7 rfl rfl | exact Reads.pt 8 rfl rfl | exact Reads.pt 9 rfl rfl | exact Reads.pt 10 rfl rfl | exact Reads.pt 11 rfl rfl | exact Reads.pt 12 rfl rfl | exact Reads.pt 13 rfl rfl)) ?_
  refine RG.q 4 hR rfl rfl rfl rfl rfl rfl (Q.fa (n := 2) Try.runUnderlying26 rfl rfl Try.sizeOf9 rfl) ?_
  refine RG.q 5 hR rfl rfl rfl rfl rfl rfl (Q.ld Try.isAgg9 rfl (by first | exact Reads.pt 0 rfl rfl | exact Reads.pt 1 rfl rfl | exact Reads.pt 2 rfl rfl | exact Reads.pt 3 rfl rfl | exact Reads.pt 4 rfl rfl | exact Reads.pt 5 rfl rfl | exact Reads.pt 6 rfl rfl | exact Reads.pt 7 rfl rfl | exact Reads.pt 8 rfl rfl | exact Reads.pt 9 rfl rfl | exact Reads.pt 10 rfl rfl | exact Reads.pt 11 rfl rfl | exact Reads.pt 12 rfl rfl | exact Reads.pt 13 rfl rfl)) ?_
  refine RG.q 6 hR rfl rfl rfl rfl rfl rfl (by first | exact X.G.Q.lkNo (i := 1) Try.runUnderlying58 keyS Try.zeroValue74 rfl rfl rfl hB | exact X.G.Q.lkYes (i := 1) Try.runUnderlying58 keyS Try.zeroValue74 rfl rfl rfl | exact X.G.Q.lkYes (i := 2) Try.runUnderlying58 keyS Try.zeroValue74 rfl rfl rfl) ?_
  refine RG.q 7 hR rfl rfl rfl rfl rfl rfl (Q.fa (n := 3) Try.runUnderlying26 rfl rfl Try.sizeOf9 rfl) ?_
  refine RG.q 8 hR rfl rfl rfl rfl rfl rfl (Q.ld Try.isAgg9 rfl (by first | exact Reads.pt 0 rfl rfl | exact Reads.pt 1 rfl rfl | exact Reads.pt 2 rfl rfl | exact Reads.pt 3 rfl rfl | exact Reads.pt 4 rfl rfl | exact Reads.pt 5 rfl rfl | exact Reads.pt 6 rfl rfl | exact Reads.pt 7 rfl rfl | exact Reads.pt 8 rfl rfl | exact Reads.pt 9 rfl rfl | exact Reads.pt 10 rfl rfl | exact Reads.pt 11 rfl rfl | exact Reads.pt 12 rfl rfl | exact Reads.pt 13 rfl rfl)) ?_
  refine RG.q 9 hR rfl rfl rfl rfl rfl rfl (by first | exact X.G.Q.lk2Nil Try.runUnderlying74 keyS Try.zeroValue24 rfl rfl | exact X.G.Q.lk2No (i := 0) Try.runUnderlying74 keyS Try.zeroValue24 rfl rfl rfl hK | exact X.G.Q.lk2Yes (i := 1) Try.runUnderlying74 keyS Try.zeroValue24 rfl rfl rfl) ?_
  refine RG.q 10 hR rfl rfl rfl rfl rfl rfl (Q.mv rfl) ?_
  refine RG.q 11 hR rfl rfl rfl rfl rfl rfl (Q.ext rfl rfl) ?_
  refine RG.q 12 hR rfl rfl rfl rfl rfl rfl (Q.ext rfl rfl) ?_
  refine RG.keep 13 hR rfl rfl rfl rfl rfl (Q.asg rfl) ?_
  refine RG.bar 14 hR rfl rfl rfl rfl rfl rfl (Q.asg rfl).toC ?_
  rintro _ _ ⟨rfl, rfl⟩
  refine RG.norm rfl ?_
  refine RG.fin hR rfl ?_
  refine J.norm rfl ?_
  refine J.then_n ?_
  refine J.seq ?_
  refine J.region ?_
  refine J.q rfl rfl (Q.mv rfl) ?_
  refine J.q rfl rfl (Q.not rfl) ?_
  refine J.nil ?_
  refine J.then_n ?_
  refine J.cases 21 rfl (fun hc21 => ?_) (fun hc21 => ?_)
  ·
    first | replace hc21 := X.tt_dec hc21 | replace hc21 := X.tt_not hc21 | replace hc21 := X.ff_dec hc21 | replace hc21 := X.ff_not hc21 | skip
    try (first | (cases hc21; done) | (exfalso; simp at hc21; done))
    all_goals
      refine J.cond_t rfl ?_
      refine J.seq ?_
      refine J.region ?_
      refine J.call Try.call24 (status_spec 404) [] rfl rfl rfl rfl ?_
      rintro _ _ ⟨y, rfl, hy, rfl⟩
      refine J.norm rfl ?_
      first | refine J.c0 rfl (C.stA (i := 0) (vs := [_, _, _, _, _]) Try.sizeOf41 rfl rfl rfl rfl rfl rfl) ?_ | refine J.c0 rfl (C.stA (i := 1) (vs := [_, _, _, _, _]) Try.sizeOf41 rfl rfl rfl rfl rfl rfl) ?_ | refine J.c0 rfl (C.stA (i := 2) (vs := [_, _, _, _, _]) Try.sizeOf41 rfl rfl rfl rfl rfl rfl) ?_ | refine J.c0 rfl (C.stA (i := 3) (vs := [_, _, _, _, _]) Try.sizeOf41 rfl rfl rfl rfl rfl rfl) ?_ | refine J.c0 rfl (C.stA (i := 4) (vs := [_, _, _, _, _]) Try.sizeOf41 rfl rfl rfl rfl rfl rfl) ?_ | refine J.c0 rfl (C.stA (i := 5) (vs := [_, _, _, _, _]) Try.sizeOf41 rfl rfl rfl rfl rfl rfl) ?_ | refine J.c0 rfl (C.stA (i := 6) (vs := [_, _, _, _, _]) Try.sizeOf41 rfl rfl rfl rfl rfl rfl) ?_ | refine J.c0 rfl (C.stA (i := 7) (vs := [_, _, _, _, _]) Try.sizeOf41 rfl rfl rfl rfl rfl rfl) ?_ | refine J.c0 rfl (C.stA (i := 8) (vs := [_, _, _, _, _]) Try.sizeOf41 rfl rfl rfl rfl rfl rfl) ?_ | refine J.c0 rfl (C.stA (i := 9) (vs := [_, _, _, _, _]) Try.sizeOf41 rfl rfl rfl rfl rfl rfl) ?_ | refine J.c0 rfl (C.stA (i := 10) (vs := [_, _, _, _, _]) Try.sizeOf41 rfl rfl rfl rfl rfl rfl) ?_ | refine J.c0 rfl (C.stA (i := 11) (vs := [_, _, _, _, _]) Try.sizeOf41 rfl rfl rfl rfl rfl rfl) ?_ | refine J.c0 rfl (C.stA (i := 12) (vs := [_, _, _, _, _]) Try.sizeOf41 rfl rfl rfl rfl rfl rfl) ?_ | refine J.c0 rfl (C.stA (i := 13) (vs := [_, _, _, _, _]) Try.sizeOf41 rfl rfl rfl rfl rfl rfl) ?_ | refine J.c0 rfl (C.stA (i := 14) (vs := [_, _, _, _, _]) Try.sizeOf41 rfl rfl rfl rfl rfl rfl) ?_ | refine J.c0 rfl (C.stA (i := 15) (vs := [_, _, _, _, _]) Try.sizeOf41 rfl rfl rfl rfl rfl rfl) ?_
      rintro _ _ ⟨rfl, rfl⟩
      refine J.nil ?_
      refine J.then_n ?_
      refine J.cret ?_
      refine J.then_r ?_
      first
        | (refine J.shut [1, 2, 3, 4] (BktAt m M) rfl (fun h s => ⟨z, s⟩) ?_
           refine J.retC [0, 1, 4, 5] (vs := [_, _, _, _, _]) rfl rfl Try.isAgg41 Try.sizeOf41 (ReadsN.pt 2 rfl) rfl (B := [_, _, _]) ⟨_, rfl, hy, rfl⟩)
        | (refine J.shut [1] (bRep x.o.bucket objs (.map (some r))) rfl (fun h s => ⟨r, rfl, s⟩) ?_
           refine J.mapSame 0 2 ord3_str hM.bs hB rfl ?_
           refine J.shut [2, 0, 3, 4] (BktAt m M) rfl (fun h s => ⟨z, s⟩) ?_
           refine J.retC [0, 1, 4, 5] (vs := [_, _, _, _, _]) rfl rfl Try.isAgg41 Try.sizeOf41 (ReadsN.pt 2 rfl) rfl (B := [_, _, _]) ⟨_, rfl, hy, rfl⟩)
  ·
    first | replace hc21 := X.tt_dec hc21 | replace hc21 := X.tt_not hc21 | replace hc21 := X.ff_dec hc21 | replace hc21 := X.ff_not hc21 | skip
    try (first | (cases hc21; done) | (exfalso; simp at hc21; done))
    all_goals
      refine J.cond_f rfl ?_
      refine J.cskip ?_
      refine J.then_n ?_
      refine J.seq ?_
      refine J.shut [0] (datRep x.o.key d (.slice z2.1 d.length z2.2)) rfl (fun h s => ⟨z2, rfl, s⟩) ?_
      refine J.mapSame 0 1 ord3_str hO.1 hK rfl ?_
      refine J.draw [9] Try.mixed (by kernel_rfl) fun hR => ?_
      refine RG.q 0 hR rfl rfl rfl rfl rfl rfl (Q.mv rfl) ?_
      refine RG.q 1 hR rfl rfl rfl rfl rfl rfl (Q.nil_ rfl) ?_
      refine RG.q 2 hR rfl rfl rfl rfl rfl rfl (Q.fa (n := 0) Try.runUnderlying62 rfl rfl Try.sizeOf58 rfl) ?_
      refine RG.q 3 hR rfl rfl rfl rfl rfl rfl (Q.ld Try.isAgg58 rfl (by first | exact Reads.pt 0 rfl rfl | exact Reads.pt 1 rfl rfl | exact Reads.pt 2 rfl rfl | exact Reads.pt 3 rfl rfl | exact Reads.pt 4 rfl rfl | exact Reads.pt 5 rfl rfl | exact Reads.pt 6 rfl rfl | exact Reads.pt 7 rfl rfl | exact Reads.pt 8 rfl rfl | exact Reads.pt 9 rfl rfl | exact Reads.pt 10 rfl rfl | exact Reads.pt 11 rfl rfl | exact Reads.pt 12 rfl rfl | exact Reads.pt 13 rfl rfl)) ?_
      refine RG.q 4 hR rfl rfl rfl rfl rfl rfl (Q.fa (n := 2) Try.runUnderlying26 rfl rfl Try.sizeOf9 rfl) ?_
      refine RG.q 5 hR rfl rfl rfl rfl rfl rfl (Q.ld Try.isAgg9 rfl (by first | exact Reads.pt 0 rfl rfl | exact Reads.pt 1 rfl rfl | exact Reads.pt 2 rfl rfl | exact Reads.pt 3 rfl rfl | exact Reads.pt 4 rfl rfl | exact Reads.pt 5 rfl rfl | exact Reads.pt 6 rfl rfl | exact Reads.pt 7 rfl rfl | exact Reads.pt 8 rfl rfl | exact Reads.pt 9 rfl rfl | exact Reads.pt 10 rfl rfl | exact Reads.pt 11 rfl rfl | exact Reads.pt 12 rfl rfl | exact Reads.pt 13 rfl rfl)) ?_
      refine RG.q 6 hR rfl rfl rfl rfl rfl rfl (X.G.Q.lkYes (i := 1) Try.runUnderlying58 keyS Try.zeroValue74 rfl rfl rfl) ?_
      refine RG.q 7 hR rfl rfl rfl rfl rfl rfl (Q.fa (n := 3) Try.runUnderlying26 rfl rfl Try.sizeOf9 rfl) ?_
      refine RG.q 8 hR rfl rfl rfl rfl rfl rfl (Q.ld Try.isAgg9 rfl (by first | exact Reads.pt 0 rfl rfl | exact Reads.pt 1 rfl rfl | exact Reads.pt 2 rfl rfl | exact Reads.pt 3 rfl rfl | exact Reads.pt 4 rfl rfl | exact Reads.pt 5 rfl rfl | exact Reads.pt 6 rfl rfl | exact Reads.pt 7 rfl rfl | exact Reads.pt 8 rfl rfl | exact Reads.pt 9 rfl rfl | exact Reads.pt 10 rfl rfl | exact Reads.pt 11 rfl rfl | exact Reads.pt 12 rfl rfl | exact Reads.pt 13 rfl rfl)) ?_
      refine RG.bar 9 hR rfl rfl rfl rfl rfl rfl (X.G.C.mapDel 0 Try.runUnderlying74 keyS rfl rfl) ?_
      rintro _ _ ⟨rfl, rfl⟩
      refine RG.norm rfl ?_
      refine RG.fin hR rfl ?_
      refine J.norm rfl ?_
      refine J.then_n ?_
      refine J.seq ?_
      refine J.region ?_
      refine J.call Try.call24 (status_spec 200) [] rfl rfl rfl rfl ?_
      rintro _ _ ⟨y, rfl, hy, rfl⟩
      refine J.norm rfl ?_
      first | refine J.c0 rfl (C.stA (i := 0) (vs := [_, _, _, _, _]) Try.sizeOf41 rfl rfl rfl rfl rfl rfl) ?_ | refine J.c0 rfl (C.stA (i := 1) (vs := [_, _, _, _, _]) Try.sizeOf41 rfl rfl rfl rfl rfl rfl) ?_ | refine J.c0 rfl (C.stA (i := 2) (vs := [_, _, _, _, _]) Try.sizeOf41 rfl rfl rfl rfl rfl rfl) ?_ | refine J.c0 rfl (C.stA (i := 3) (vs := [_, _, _, _, _]) Try.sizeOf41 rfl rfl rfl rfl rfl rfl) ?_ | refine J.c0 rfl (C.stA (i := 4) (vs := [_, _, _, _, _]) Try.sizeOf41 rfl rfl rfl rfl rfl rfl) ?_ | refine J.c0 rfl (C.stA (i := 5) (vs := [_, _, _, _, _]) Try.sizeOf41 rfl rfl rfl rfl rfl rfl) ?_ | refine J.c0 rfl (C.stA (i := 6) (vs := [_, _, _, _, _]) Try.sizeOf41 rfl rfl rfl rfl rfl rfl) ?_ | refine J.c0 rfl (C.stA (i := 7) (vs := [_, _, _, _, _]) Try.sizeOf41 rfl rfl rfl rfl rfl rfl) ?_ | refine J.c0 rfl (C.stA (i := 8) (vs := [_, _, _, _, _]) Try.sizeOf41 rfl rfl rfl rfl rfl rfl) ?_ | refine J.c0 rfl (C.stA (i := 9) (vs := [_, _, _, _, _]) Try.sizeOf41 rfl rfl rfl rfl rfl rfl) ?_ | refine J.c0 rfl (C.stA (i := 10) (vs := [_, _, _, _, _]) Try.sizeOf41 rfl rfl rfl rfl rfl rfl) ?_ | refine J.c0 rfl (C.stA (i := 11) (vs := [_, _, _, _, _]) Try.sizeOf41 rfl rfl rfl rfl rfl rfl) ?_ | refine J.c0 rfl (C.stA (i := 12) (vs := [_, _, _, _, _]) Try.sizeOf41 rfl rfl rfl rfl rfl rfl) ?_ | refine J.c0 rfl (C.stA (i := 13) (vs := [_, _, _, _, _]) Try.sizeOf41 rfl rfl rfl rfl rfl rfl) ?_ | refine J.c0 rfl (C.stA (i := 14) (vs := [_, _, _, _, _]) Try.sizeOf41 rfl rfl rfl rfl rfl rfl) ?_ | refine J.c0 rfl (C.stA (i := 15) (vs := [_, _, _, _, _]) Try.sizeOf41 rfl rfl rfl rfl rfl rfl) ?_
      rintro _ _ ⟨rfl, rfl⟩
      refine J.nil ?_
      refine J.then_n ?_
      refine J.cret ?_
      refine J.shut [1] (bRep x.o.bucket (sdel x.o.key objs) (.map (some r))) rfl (fun h s => ⟨r, rfl, s⟩) ?_
      refine J.mapBack 0 2 (sdel x.o.key objs) ord3_str hM.bs rfl ?_
      refine J.shut [2, 0, 3, 4] (BktAt m { M with buckets := sput ltB x.o.bucket (sdel x.o.key objs) M.buckets }) rfl (fun h s => ⟨z, s⟩) ?_
      refine J.retC [0, 1, 4, 5] (vs := [_, _, _, _, _]) rfl rfl Try.isAgg41 Try.sizeOf41 (ReadsN.pt 2 rfl) rfl (B := [_, _, _]) ⟨_, rfl, hy, rfl⟩
theorem delete_none {objs : Objs} (hB : sget x.o.bucket M.buckets = some objs) (hK : sget x.o.key objs = none) : FSpec Try.prog 37 [.pointer (some ⟨m, 0, none⟩), .agg x.cells.toArray] [BktAt m M, G] (ActR m G (st 404, M)) := by
  refine FSpec.of Try.func37 rfl Try.ntmps37 rfl fun W0 F => ?_
  refine J.seq ?_
  refine J.region ?_
  refine J.c rfl rfl (C.box (l := [_, _, _, _, _, _, _, _, _]) rfl rfl) ?_
  rintro _ _ ⟨b3, rfl, rfl⟩
  refine J.norm rfl ?_
  refine J.c rfl rfl (C.alloc (l := [_, _, _, _, _]) Try.zeroValue41 rfl) ?_
  rintro _ _ ⟨b4, rfl, rfl⟩
  refine J.norm rfl ?_
  refine J.nil ?_
  refine J.then_n ?_
  refine J.seq ?_
  refine J.seq ?_
  try have hO := hM.os _ _ hB
  try have hdl := hO.2.2 _ _ hK
  refine J.open1 2 rfl (fun _ h => h) fun z => ?_
  refine J.norm rfl ?_
  first
    | (refine J.mapFocus 1 hB rfl fun val => ?_
       refine J.norm rfl ?_
       refine J.open_ 0 rfl rfl (fun _ h => h) fun r hr => ?_
       subst hr
       refine J.norm rfl ?_)
    | skip
  first
    | (refine J.mapFocus 0 hK rfl fun val => ?_
       refine J.norm rfl ?_
       refine J.open_ 0 rfl rfl (fun _ h => h) fun z2 hz2 => ?_
       subst hz2
       refine J.norm rfl ?_)
    | skip
  refine J.draw [13, 14] Try.mixed (by kernel_rfl) fun hR => ?_
  refine RG.q 0 hR rfl rfl rfl rfl rfl rfl (Q.mv rfl) ?_
  refine RG.q 1 hR rfl rfl rfl rfl rfl rfl (Q.nil_ rfl) ?_
  refine RG.q 2 hR rfl rfl rfl rfl rfl rfl (Q.fa (n := 0) Try.runUnderlying62 rfl rfl Try.sizeOf58 rfl) ?_
  refine RG.q 3 hR rfl rfl rfl rfl rfl rfl (Q.ld Try.isAgg58 rfl (by first | exact Reads.pt 0 rfl rfl | exact Reads.pt 1 rfl rfl | exact Reads.pt 2 rfl rfl | exact Reads.pt 3 rfl rfl | exact Reads.pt 4 rfl rfl | exact Reads.pt 5 rfl rfl | exact Reads.pt 6 rfl rfl | exact Reads.pt 7 rfl rfl | exact Reads.pt 8 rfl rfl | exact Reads.pt 9 rfl rfl | exact Reads.pt 10 rfl rfl | exact Reads.pt 11 rfl rfl | exact Reads.pt 12 rfl rfl | exact Reads.pt 13 rfl rfl)) ?_
  refine RG.q 4 hR rfl rfl rfl rfl rfl rfl (Q.fa (n := 2) Try.runUnderlying26 rfl rfl Try.sizeOf9 rfl) ?_
  refine RG.q 5 hR rfl rfl rfl rfl rfl rfl (Q.ld Try.isAgg9 rfl (by first | exact Reads.pt 0 rfl rfl | exact Reads.pt 1 rfl rfl | exact Reads.pt 2 rfl rfl | exact Reads.pt 3 rfl rfl | exact Reads.pt 4 rfl rfl | exact Reads.pt 5 rfl rfl | exact Reads.pt 6 rfl rfl | exact Reads.pt 7 rfl rfl | exact Reads.pt 8 rfl rfl | exact Reads.pt 9 rfl rfl | exact Reads.pt 10 rfl rfl | exact Reads.pt 11 rfl rfl | exact Reads.pt 12 rfl rfl | exact Reads.pt 13 rfl rfl)) ?_
  refine RG.q 6 hR rfl rfl rfl rfl rfl rfl (by first | exact X.G.Q.lkNo (i := 1) Try.runUnderlying58 keyS Try.zeroValue74 rfl rfl rfl hB | exact X.G.Q.lkYes (i := 1) Try.runUnderlying58 keyS Try.zeroValue74 rfl rfl rfl | exact X.G.Q.lkYes (i := 2) Try.runUnderlying58 keyS Try.zeroValue74 rfl rfl rfl) ?_
  refine RG.q 7 hR rfl rfl rfl rfl rfl rfl (Q.fa (n := 3) Try.runUnderlying26 rfl rfl Try.sizeOf9 rfl) ?_
  refine RG.q 8 hR rfl rfl rfl rfl rfl rfl (Q.ld Try.isAgg9 rfl (by first | exact Reads.pt 0 rfl rfl | exact Reads.pt 1 rfl rfl | exact Reads.pt 2 rfl rfl | exact Reads.pt 3 rfl rfl | exact Reads.pt 4 rfl rfl | exact Reads.pt 5 rfl rfl | exact Reads.pt 6 rfl rfl | exact Reads.pt 7 rfl rfl | exact Reads.pt 8 rfl rfl | exact Reads.pt 9 rfl rfl | exact Reads.pt 10 rfl rfl | exact Reads.pt 11 rfl rfl | exact Reads.pt 12 rfl rfl | exact Reads.pt 13 rfl rfl)) ?_
  refine RG.q 9 hR rfl rfl rfl rfl rfl rfl (by first | exact X.G.Q.lk2Nil Try.runUnderlying74 keyS Try.zeroValue24 rfl rfl | exact X.G.Q.lk2No (i := 0) Try.runUnderlying74 keyS Try.zeroValue24 rfl rfl rfl hK | exact X.G.Q.lk2Yes (i := 1) Try.runUnderlying74 keyS Try.zeroValue24 rfl rfl rfl) ?_
  refine RG.q 10 hR rfl rfl rfl rfl rfl rfl (Q.mv rfl) ?_
  refine RG.q 11 hR rfl rfl rfl rfl rfl rfl (Q.ext rfl rfl) ?_
  refine RG.q 12 hR rfl rfl rfl rfl rfl rfl (Q.ext rfl rfl) ?_
  refine RG.keep 13 hR rfl rfl rfl rfl rfl (Q.asg rfl) ?_
  refine RG.bar 14 hR rfl rfl rfl rfl rfl rfl (Q.asg rfl).toC ?_
  rintro _ _ ⟨rfl, rfl⟩
  refine RG.norm rfl ?_
  refine RG.fin hR rfl ?_
  refine J.norm rfl ?_
  refine J.then_n ?_
  refine J.seq ?_
  refine J.region ?_
  refine J.q rfl rfl (Q.mv rfl) ?_
  refine J.q rfl rfl (Q.not rfl) ?_
  refine J.nil ?_
  refine J.then_n ?_
  refine J.cases 21 rfl (fun hc21 => ?_) (fun hc21 => ?_)
  ·
    first | replace hc21 := X.tt_dec hc21 | replace hc21 := X.tt_not hc21 | replace hc21 := X.ff_dec hc21 | replace hc21 := X.ff_not hc21 | skip
    try (first | (cases hc21; done) | (exfalso; simp at hc21; done))
    all_goals
      refine J.cond_t rfl ?_
      refine J.seq ?_
      refine J.region ?_
      refine J.call Try.call24 (status_spec 404) [] rfl rfl rfl rfl ?_
      rintro _ _ ⟨y, rfl, hy, rfl⟩
      refine J.norm rfl ?_
      first | refine J.c0 rfl (C.stA (i := 0) (vs := [_, _, _, _, _]) Try.sizeOf41 rfl rfl rfl rfl rfl rfl) ?_ | refine J.c0 rfl (C.stA (i := 1) (vs := [_, _, _, _, _]) Try.sizeOf41 rfl rfl rfl rfl rfl rfl) ?_ | refine J.c0 rfl (C.stA (i := 2) (vs := [_, _, _, _, _]) Try.sizeOf41 rfl rfl rfl rfl rfl rfl) ?_ | refine J.c0 rfl (C.stA (i := 3) (vs := [_, _, _, _, _]) Try.sizeOf41 rfl rfl rfl rfl rfl rfl) ?_ | refine J.c0 rfl (C.stA (i := 4) (vs := [_, _, _, _, _]) Try.sizeOf41 rfl rfl rfl rfl rfl rfl) ?_ | refine J.c0 rfl (C.stA (i := 5) (vs := [_, _, _, _, _]) Try.sizeOf41 rfl rfl rfl rfl rfl rfl) ?_ | refine J.c0 rfl (C.stA (i := 6) (vs := [_, _, _, _, _]) Try.sizeOf41 rfl rfl rfl rfl rfl rfl) ?_ | refine J.c0 rfl (C.stA (i := 7) (vs := [_, _, _, _, _]) Try.sizeOf41 rfl rfl rfl rfl rfl rfl) ?_ | refine J.c0 rfl (C.stA (i := 8) (vs := [_, _, _, _, _]) Try.sizeOf41 rfl rfl rfl rfl rfl rfl) ?_ | refine J.c0 rfl (C.stA (i := 9) (vs := [_, _, _, _, _]) Try.sizeOf41 rfl rfl rfl rfl rfl rfl) ?_ | refine J.c0 rfl (C.stA (i := 10) (vs := [_, _, _, _, _]) Try.sizeOf41 rfl rfl rfl rfl rfl rfl) ?_ | refine J.c0 rfl (C.stA (i := 11) (vs := [_, _, _, _, _]) Try.sizeOf41 rfl rfl rfl rfl rfl rfl) ?_ | refine J.c0 rfl (C.stA (i := 12) (vs := [_, _, _, _, _]) Try.sizeOf41 rfl rfl rfl rfl rfl rfl) ?_ | refine J.c0 rfl (C.stA (i := 13) (vs := [_, _, _, _, _]) Try.sizeOf41 rfl rfl rfl rfl rfl rfl) ?_ | refine J.c0 rfl (C.stA (i := 14) (vs := [_, _, _, _, _]) Try.sizeOf41 rfl rfl rfl rfl rfl rfl) ?_ | refine J.c0 rfl (C.stA (i := 15) (vs := [_, _, _, _, _]) Try.sizeOf41 rfl rfl rfl rfl rfl rfl) ?_
      rintro _ _ ⟨rfl, rfl⟩
      refine J.nil ?_
      refine J.then_n ?_
      refine J.cret ?_
      refine J.then_r ?_
      first
        | (refine J.shut [1, 2, 3, 4] (BktAt m M) rfl (fun h s => ⟨z, s⟩) ?_
           refine J.retC [0, 1, 4, 5] (vs := [_, _, _, _, _]) rfl rfl Try.isAgg41 Try.sizeOf41 (ReadsN.pt 2 rfl) rfl (B := [_, _, _]) ⟨_, rfl, hy, rfl⟩)
        | (refine J.shut [1] (bRep x.o.bucket objs (.map (some r))) rfl (fun h s => ⟨r, rfl, s⟩) ?_
           refine J.mapSame 0 2 ord3_str hM.bs hB rfl ?_
           refine J.shut [2, 0, 3, 4] (BktAt m M) rfl (fun h s => ⟨z, s⟩) ?_
           refine J.retC [0, 1, 4, 5] (vs := [_, _, _, _, _]) rfl rfl Try.isAgg41 Try.sizeOf41 (ReadsN.pt 2 rfl) rfl (B := [_, _, _]) ⟨_, rfl, hy, rfl⟩)
  ·
    first | replace hc21 := X.tt_dec hc21 | replace hc21 := X.tt_not hc21 | replace hc21 := X.ff_dec hc21 | replace hc21 := X.ff_not hc21 | skip
    try (first | (cases hc21; done) | (exfalso; simp at hc21; done))
    all_goals
      refine J.cond_f rfl ?_
      refine J.cskip ?_
      refine J.then_n ?_
      refine J.seq ?_
      refine J.shut [0] (datRep x.o.key d (.slice z2.1 d.length z2.2)) rfl (fun h s => ⟨z2, rfl, s⟩) ?_
      refine J.mapSame 0 1 ord3_str hO.1 hK rfl ?_
      refine J.draw [9] Try.mixed (by kernel_rfl) fun hR => ?_
      refine RG.q 0 hR rfl rfl rfl rfl rfl rfl (Q.mv rfl) ?_
      refine RG.q 1 hR rfl rfl rfl rfl rfl rfl (Q.nil_ rfl) ?_
      refine RG.q 2 hR rfl rfl rfl rfl rfl rfl (Q.fa (n := 0) Try.runUnderlying62 rfl rfl Try.sizeOf58 rfl) ?_
      refine RG.q 3 hR rfl rfl rfl rfl rfl rfl (Q.ld Try.isAgg58 rfl (by first | exact Reads.pt 0 rfl rfl | exact Reads.pt 1 rfl rfl | exact Reads.pt 2 rfl rfl | exact Reads.pt 3 rfl rfl | exact Reads.pt 4 rfl rfl | exact Reads.pt 5 rfl rfl | exact Reads.pt 6 rfl rfl | exact Reads.pt 7 rfl rfl | exact Reads.pt 8 rfl rfl | exact Reads.pt 9 rfl rfl | exact Reads.pt 10 rfl rfl | exact Reads.pt 11 rfl rfl | exact Reads.pt 12 rfl rfl | exact Reads.pt 13 rfl rfl)) ?_
      refine RG.q 4 hR rfl rfl rfl rfl rfl rfl (Q.fa (n := 2) Try.runUnderlying26 rfl rfl Try.sizeOf9 rfl) ?_
      refine RG.q 5 hR rfl rfl rfl rfl rfl rfl (Q.ld Try.isAgg9 rfl (by first | exact Reads.pt 0 rfl rfl | exact Reads.pt 1 rfl rfl | exact Reads.pt 2 rfl rfl | exact Reads.pt 3 rfl rfl | exact Reads.pt 4 rfl rfl | exact Reads.pt 5 rfl rfl | exact Reads.pt 6 rfl rfl | exact Reads.pt 7 rfl rfl | exact Reads.pt 8 rfl rfl | exact Reads.pt 9 rfl rfl | exact Reads.pt 10 rfl rfl | exact Reads.pt 11 rfl rfl | exact Reads.pt 12 rfl rfl | exact Reads.pt 13 rfl rfl)) ?_
      refine RG.q 6 hR rfl rfl rfl rfl rfl rfl (X.G.Q.lkYes (i := 1) Try.runUnderlying58 keyS Try.zeroValue74 rfl rfl rfl) ?_
      refine RG.q 7 hR rfl rfl rfl rfl rfl rfl (Q.fa (n := 3) Try.runUnderlying26 rfl rfl Try.sizeOf9 rfl) ?_
      refine RG.q 8 hR rfl rfl rfl rfl rfl rfl (Q.ld Try.isAgg9 rfl (by first | exact Reads.pt 0 rfl rfl | exact Reads.pt 1 rfl rfl | exact Reads.pt 2 rfl rfl | exact Reads.pt 3 rfl rfl | exact Reads.pt 4 rfl rfl | exact Reads.pt 5 rfl rfl | exact Reads.pt 6 rfl rfl | exact Reads.pt 7 rfl rfl | exact Reads.pt 8 rfl rfl | exact Reads.pt 9 rfl rfl | exact Reads.pt 10 rfl rfl | exact Reads.pt 11 rfl rfl | exact Reads.pt 12 rfl rfl | exact Reads.pt 13 rfl rfl)) ?_
      refine RG.bar 9 hR rfl rfl rfl rfl rfl rfl (X.G.C.mapDel 0 Try.runUnderlying74 keyS rfl rfl) ?_
      rintro _ _ ⟨rfl, rfl⟩
      refine RG.norm rfl ?_
      refine RG.fin hR rfl ?_
      refine J.norm rfl ?_
      refine J.then_n ?_
      refine J.seq ?_
      refine J.region ?_
      refine J.call Try.call24 (status_spec 200) [] rfl rfl rfl rfl ?_
      rintro _ _ ⟨y, rfl, hy, rfl⟩
      refine J.norm rfl ?_
      first | refine J.c0 rfl (C.stA (i := 0) (vs := [_, _, _, _, _]) Try.sizeOf41 rfl rfl rfl rfl rfl rfl) ?_ | refine J.c0 rfl (C.stA (i := 1) (vs := [_, _, _, _, _]) Try.sizeOf41 rfl rfl rfl rfl rfl rfl) ?_ | refine J.c0 rfl (C.stA (i := 2) (vs := [_, _, _, _, _]) Try.sizeOf41 rfl rfl rfl rfl rfl rfl) ?_ | refine J.c0 rfl (C.stA (i := 3) (vs := [_, _, _, _, _]) Try.sizeOf41 rfl rfl rfl rfl rfl rfl) ?_ | refine J.c0 rfl (C.stA (i := 4) (vs := [_, _, _, _, _]) Try.sizeOf41 rfl rfl rfl rfl rfl rfl) ?_ | refine J.c0 rfl (C.stA (i := 5) (vs := [_, _, _, _, _]) Try.sizeOf41 rfl rfl rfl rfl rfl rfl) ?_ | refine J.c0 rfl (C.stA (i := 6) (vs := [_, _, _, _, _]) Try.sizeOf41 rfl rfl rfl rfl rfl rfl) ?_ | refine J.c0 rfl (C.stA (i := 7) (vs := [_, _, _, _, _]) Try.sizeOf41 rfl rfl rfl rfl rfl rfl) ?_ | refine J.c0 rfl (C.stA (i := 8) (vs := [_, _, _, _, _]) Try.sizeOf41 rfl rfl rfl rfl rfl rfl) ?_ | refine J.c0 rfl (C.stA (i := 9) (vs := [_, _, _, _, _]) Try.sizeOf41 rfl rfl rfl rfl rfl rfl) ?_ | refine J.c0 rfl (C.stA (i := 10) (vs := [_, _, _, _, _]) Try.sizeOf41 rfl rfl rfl rfl rfl rfl) ?_ | refine J.c0 rfl (C.stA (i := 11) (vs := [_, _, _, _, _]) Try.sizeOf41 rfl rfl rfl rfl rfl rfl) ?_ | refine J.c0 rfl (C.stA (i := 12) (vs := [_, _, _, _, _]) Try.sizeOf41 rfl rfl rfl rfl rfl rfl) ?_ | refine J.c0 rfl (C.stA (i := 13) (vs := [_, _, _, _, _]) Try.sizeOf41 rfl rfl rfl rfl rfl rfl) ?_ | refine J.c0 rfl (C.stA (i := 14) (vs := [_, _, _, _, _]) Try.sizeOf41 rfl rfl rfl rfl rfl rfl) ?_ | refine J.c0 rfl (C.stA (i := 15) (vs := [_, _, _, _, _]) Try.sizeOf41 rfl rfl rfl rfl rfl rfl) ?_
      rintro _ _ ⟨rfl, rfl⟩
      refine J.nil ?_
      refine J.then_n ?_
      refine J.cret ?_
      refine J.shut [1] (bRep x.o.bucket (sdel x.o.key objs) (.map (some r))) rfl (fun h s => ⟨r, rfl, s⟩) ?_
      refine J.mapBack 0 2 (sdel x.o.key objs) ord3_str hM.bs rfl ?_
      refine J.shut [2, 0, 3, 4] (BktAt m { M with buckets := sput ltB x.o.bucket (sdel x.o.key objs) M.buckets }) rfl (fun h s => ⟨z, s⟩) ?_
      refine J.retC [0, 1, 4, 5] (vs := [_, _, _, _, _]) rfl rfl Try.isAgg41 Try.sizeOf41 (ReadsN.pt 2 rfl) rfl (B := [_, _, _]) ⟨_, rfl, hy, rfl⟩
theorem delete_yes {objs : Objs} (hB : sget x.o.bucket M.buckets = some objs) {d : List UInt8} (hK : sget x.o.key objs = some d) : FSpec Try.prog 37 [.pointer (some ⟨m, 0, none⟩), .agg x.cells.toArray] [BktAt m M, G] (ActR m G (st 200, { M with buckets := sput ltB x.o.bucket (sdel x.o.key objs) M.buckets })) := by
  refine FSpec.of Try.func37 rfl Try.ntmps37 rfl fun W0 F => ?_
  refine J.seq ?_
  refine J.region ?_
  refine J.c rfl rfl (C.box (l := [_, _, _, _, _, _, _, _, _]) rfl rfl) ?_
  rintro _ _ ⟨b3, rfl, rfl⟩
  refine J.norm rfl ?_
  refine J.c rfl rfl (C.alloc (l := [_, _, _, _, _]) Try.zeroValue41 rfl) ?_
  rintro _ _ ⟨b4, rfl, rfl⟩
  refine J.norm rfl ?_
  refine J.nil ?_
  refine J.then_n ?_
  refine J.seq ?_
  refine J.seq ?_
  try have hO := hM.os _ _ hB
  try have hdl := hO.2.2 _ _ hK
  refine J.open1 2 rfl (fun _ h => h) fun z => ?_
  refine J.norm rfl ?_
  first
    | (refine J.mapFocus 1 hB rfl fun val => ?_
       refine J.norm rfl ?_
       refine J.open_ 0 rfl rfl (fun _ h => h) fun r hr => ?_
       subst hr
       refine J.norm rfl ?_)
    | skip
  first
    | (refine J.mapFocus 0 hK rfl fun val => ?_
       refine J.norm rfl ?_
       refine J.open_ 0 rfl rfl (fun _ h => h) fun z2 hz2 => ?_
       subst hz2
       refine J.norm rfl ?_)
    | skip
  refine J.draw [13, 14] Try.mixed (by kernel_rfl) fun hR => ?_
  refine RG.q 0 hR rfl rfl rfl rfl rfl rfl (Q.mv rfl) ?_
  refine RG.q 1 hR rfl rfl rfl rfl rfl rfl (Q.nil_ rfl) ?_
  refine RG.q 2 hR rfl rfl rfl rfl rfl rfl (Q.fa (n := 0) Try.runUnderlying62 rfl rfl Try.sizeOf58 rfl) ?_
  refine RG.q 3 hR rfl rfl rfl rfl rfl rfl (Q.ld Try.isAgg58 rfl (by first | exact Reads.pt 0 rfl rfl | exact Reads.pt 1 rfl rfl | exact Reads.pt 2 rfl rfl | exact Reads.pt 3 rfl rfl | exact Reads.pt 4 rfl rfl | exact Reads.pt 5 rfl rfl | exact Reads.pt 6 rfl rfl | exact Reads.pt 7 rfl rfl | exact Reads.pt 8 rfl rfl | exact Reads.pt 9 rfl rfl | exact Reads.pt 10 rfl rfl | exact Reads.pt 11 rfl rfl | exact Reads.pt 12 rfl rfl | exact Reads.pt 13 rfl rfl)) ?_
  refine RG.q 4 hR rfl rfl rfl rfl rfl rfl (Q.fa (n := 2) Try.runUnderlying26 rfl rfl Try.sizeOf9 rfl) ?_
  refine RG.q 5 hR rfl rfl rfl rfl rfl rfl (Q.ld Try.isAgg9 rfl (by first | exact Reads.pt 0 rfl rfl | exact Reads.pt 1 rfl rfl | exact Reads.pt 2 rfl rfl | exact Reads.pt 3 rfl rfl | exact Reads.pt 4 rfl rfl | exact Reads.pt 5 rfl rfl | exact Reads.pt 6 rfl rfl | exact Reads.pt 7 rfl rfl | exact Reads.pt 8 rfl rfl | exact Reads.pt 9 rfl rfl | exact Reads.pt 10 rfl rfl | exact Reads.pt 11 rfl rfl | exact Reads.pt 12 rfl rfl | exact Reads.pt 13 rfl rfl)) ?_
  refine RG.q 6 hR rfl rfl rfl rfl rfl rfl (by first | exact X.G.Q.lkNo (i := 1) Try.runUnderlying58 keyS Try.zeroValue74 rfl rfl rfl hB | exact X.G.Q.lkYes (i := 1) Try.runUnderlying58 keyS Try.zeroValue74 rfl rfl rfl | exact X.G.Q.lkYes (i := 2) Try.runUnderlying58 keyS Try.zeroValue74 rfl rfl rfl) ?_
  refine RG.q 7 hR rfl rfl rfl rfl rfl rfl (Q.fa (n := 3) Try.runUnderlying26 rfl rfl Try.sizeOf9 rfl) ?_
  refine RG.q 8 hR rfl rfl rfl rfl rfl rfl (Q.ld Try.isAgg9 rfl (by first | exact Reads.pt 0 rfl rfl | exact Reads.pt 1 rfl rfl | exact Reads.pt 2 rfl rfl | exact Reads.pt 3 rfl rfl | exact Reads.pt 4 rfl rfl | exact Reads.pt 5 rfl rfl | exact Reads.pt 6 rfl rfl | exact Reads.pt 7 rfl rfl | exact Reads.pt 8 rfl rfl | exact Reads.pt 9 rfl rfl | exact Reads.pt 10 rfl rfl | exact Reads.pt 11 rfl rfl | exact Reads.pt 12 rfl rfl | exact Reads.pt 13 rfl rfl)) ?_
  refine RG.q 9 hR rfl rfl rfl rfl rfl rfl (by first | exact X.G.Q.lk2Nil Try.runUnderlying74 keyS Try.zeroValue24 rfl rfl | exact X.G.Q.lk2No (i := 0) Try.runUnderlying74 keyS Try.zeroValue24 rfl rfl rfl hK | exact X.G.Q.lk2Yes (i := 1) Try.runUnderlying74 keyS Try.zeroValue24 rfl rfl rfl) ?_
  refine RG.q 10 hR rfl rfl rfl rfl rfl rfl (Q.mv rfl) ?_
  refine RG.q 11 hR rfl rfl rfl rfl rfl rfl (Q.ext rfl rfl) ?_
  refine RG.q 12 hR rfl rfl rfl rfl rfl rfl (Q.ext rfl rfl) ?_
  refine RG.keep 13 hR rfl rfl rfl rfl rfl (Q.asg rfl) ?_
  refine RG.bar 14 hR rfl rfl rfl rfl rfl rfl (Q.asg rfl).toC ?_
  rintro _ _ ⟨rfl, rfl⟩
  refine RG.norm rfl ?_
  refine RG.fin hR rfl ?_
  refine J.norm rfl ?_
  refine J.then_n ?_
  refine J.seq ?_
  refine J.region ?_
  refine J.q rfl rfl (Q.mv rfl) ?_
  refine J.q rfl rfl (Q.not rfl) ?_
  refine J.nil ?_
  refine J.then_n ?_
  refine J.cases 21 rfl (fun hc21 => ?_) (fun hc21 => ?_)
  ·
    first | replace hc21 := X.tt_dec hc21 | replace hc21 := X.tt_not hc21 | replace hc21 := X.ff_dec hc21 | replace hc21 := X.ff_not hc21 | skip
    try (first | (cases hc21; done) | (exfalso; simp at hc21; done))
    all_goals
      refine J.cond_t rfl ?_
      refine J.seq ?_
      refine J.region ?_
      refine J.call Try.call24 (status_spec 404) [] rfl rfl rfl rfl ?_
      rintro _ _ ⟨y, rfl, hy, rfl⟩
      refine J.norm rfl ?_
      first | refine J.c0 rfl (C.stA (i := 0) (vs := [_, _, _, _, _]) Try.sizeOf41 rfl rfl rfl rfl rfl rfl) ?_ | refine J.c0 rfl (C.stA (i := 1) (vs := [_, _, _, _, _]) Try.sizeOf41 rfl rfl rfl rfl rfl rfl) ?_ | refine J.c0 rfl (C.stA (i := 2) (vs := [_, _, _, _, _]) Try.sizeOf41 rfl rfl rfl rfl rfl rfl) ?_ | refine J.c0 rfl (C.stA (i := 3) (vs := [_, _, _, _, _]) Try.sizeOf41 rfl rfl rfl rfl rfl rfl) ?_ | refine J.c0 rfl (C.stA (i := 4) (vs := [_, _, _, _, _]) Try.sizeOf41 rfl rfl rfl rfl rfl rfl) ?_ | refine J.c0 rfl (C.stA (i := 5) (vs := [_, _, _, _, _]) Try.sizeOf41 rfl rfl rfl rfl rfl rfl) ?_ | refine J.c0 rfl (C.stA (i := 6) (vs := [_, _, _, _, _]) Try.sizeOf41 rfl rfl rfl rfl rfl rfl) ?_ | refine J.c0 rfl (C.stA (i := 7) (vs := [_, _, _, _, _]) Try.sizeOf41 rfl rfl rfl rfl rfl rfl) ?_ | refine J.c0 rfl (C.stA (i := 8) (vs := [_, _, _, _, _]) Try.sizeOf41 rfl rfl rfl rfl rfl rfl) ?_ | refine J.c0 rfl (C.stA (i := 9) (vs := [_, _, _, _, _]) Try.sizeOf41 rfl rfl rfl rfl rfl rfl) ?_ | refine J.c0 rfl (C.stA (i := 10) (vs := [_, _, _, _, _]) Try.sizeOf41 rfl rfl rfl rfl rfl rfl) ?_ | refine J.c0 rfl (C.stA (i := 11) (vs := [_, _, _, _, _]) Try.sizeOf41 rfl rfl rfl rfl rfl rfl) ?_ | refine J.c0 rfl (C.stA (i := 12) (vs := [_, _, _, _, _]) Try.sizeOf41 rfl rfl rfl rfl rfl rfl) ?_ | refine J.c0 rfl (C.stA (i := 13) (vs := [_, _, _, _, _]) Try.sizeOf41 rfl rfl rfl rfl rfl rfl) ?_ | refine J.c0 rfl (C.stA (i := 14) (vs := [_, _, _, _, _]) Try.sizeOf41 rfl rfl rfl rfl rfl rfl) ?_ | refine J.c0 rfl (C.stA (i := 15) (vs := [_, _, _, _, _]) Try.sizeOf41 rfl rfl rfl rfl rfl rfl) ?_
      rintro _ _ ⟨rfl, rfl⟩
      refine J.nil ?_
      refine J.then_n ?_
      refine J.cret ?_
      refine J.then_r ?_
      first
        | (refine J.shut [1, 2, 3, 4] (BktAt m M) rfl (fun h s => ⟨z, s⟩) ?_
           refine J.retC [0, 1, 4, 5] (vs := [_, _, _, _, _]) rfl rfl Try.isAgg41 Try.sizeOf41 (ReadsN.pt 2 rfl) rfl (B := [_, _, _]) ⟨_, rfl, hy, rfl⟩)
        | (refine J.shut [1] (bRep x.o.bucket objs (.map (some r))) rfl (fun h s => ⟨r, rfl, s⟩) ?_
           refine J.mapSame 0 2 ord3_str hM.bs hB rfl ?_
           refine J.shut [2, 0, 3, 4] (BktAt m M) rfl (fun h s => ⟨z, s⟩) ?_
           refine J.retC [0, 1, 4, 5] (vs := [_, _, _, _, _]) rfl rfl Try.isAgg41 Try.sizeOf41 (ReadsN.pt 2 rfl) rfl (B := [_, _, _]) ⟨_, rfl, hy, rfl⟩)
  ·
    first | replace hc21 := X.tt_dec hc21 | replace hc21 := X.tt_not hc21 | replace hc21 := X.ff_dec hc21 | replace hc21 := X.ff_not hc21 | skip
    try (first | (cases hc21; done) | (exfalso; simp at hc21; done))
    all_goals
      refine J.cond_f rfl ?_
      refine J.cskip ?_
      refine J.then_n ?_
      refine J.seq ?_
      refine J.shut [0] (datRep x.o.key d (.slice z2.1 d.length z2.2)) rfl (fun h s => ⟨z2, rfl, s⟩) ?_
      refine J.mapSame 0 1 ord3_str hO.1 hK rfl ?_
      refine J.draw [9] Try.mixed (by kernel_rfl) fun hR => ?_
      refine RG.q 0 hR rfl rfl rfl rfl rfl rfl (Q.mv rfl) ?_
      refine RG.q 1 hR rfl rfl rfl rfl rfl rfl (Q.nil_ rfl) ?_
      refine RG.q 2 hR rfl rfl rfl rfl rfl rfl (Q.fa (n := 0) Try.runUnderlying62 rfl rfl Try.sizeOf58 rfl) ?_
      refine RG.q 3 hR rfl rfl rfl rfl rfl rfl (Q.ld Try.isAgg58 rfl (by first | exact Reads.pt 0 rfl rfl | exact Reads.pt 1 rfl rfl | exact Reads.pt 2 rfl rfl | exact Reads.pt 3 rfl rfl | exact Reads.pt 4 rfl rfl | exact Reads.pt 5 rfl rfl | exact Reads.pt 6 rfl rfl | exact Reads.pt 7 rfl rfl | exact Reads.pt 8 rfl rfl | exact Reads.pt 9 rfl rfl | exact Reads.pt 10 rfl rfl | exact Reads.pt 11 rfl rfl | exact Reads.pt 12 rfl rfl | exact Reads.pt 13 rfl rfl)) ?_
      refine RG.q 4 hR rfl rfl rfl rfl rfl rfl (Q.fa (n := 2) Try.runUnderlying26 rfl rfl Try.sizeOf9 rfl) ?_
      refine RG.q 5 hR rfl rfl rfl rfl rfl rfl (Q.ld Try.isAgg9 rfl (by first | exact Reads.pt 0 rfl rfl | exact Reads.pt 1 rfl rfl | exact Reads.pt 2 rfl rfl | exact Reads.pt 3 rfl rfl | exact Reads.pt 4 rfl rfl | exact Reads.pt 5 rfl rfl | exact Reads.pt 6 rfl rfl | exact Reads.pt 7 rfl rfl | exact Reads.pt 8 rfl rfl | exact Reads.pt 9 rfl rfl | exact Reads.pt 10 rfl rfl | exact Reads.pt 11 rfl rfl | exact Reads.pt 12 rfl rfl | exact Reads.pt 13 rfl rfl)) ?_
      refine RG.q 6 hR rfl rfl rfl rfl rfl rfl (X.G.Q.lkYes (i := 1) Try.runUnderlying58 keyS Try.zeroValue74 rfl rfl rfl) ?_
      refine RG.q 7 hR rfl rfl rfl rfl rfl rfl (Q.fa (n := 3) Try.runUnderlying26 rfl rfl Try.sizeOf9 rfl) ?_
      refine RG.q 8 hR rfl rfl rfl rfl rfl rfl (Q.ld Try.isAgg9 rfl (by first | exact Reads.pt 0 rfl rfl | exact Reads.pt 1 rfl rfl | exact Reads.pt 2 rfl rfl | exact Reads.pt 3 rfl rfl | exact Reads.pt 4 rfl rfl | exact Reads.pt 5 rfl rfl | exact Reads.pt 6 rfl rfl | exact Reads.pt 7 rfl rfl | exact Reads.pt 8 rfl rfl | exact Reads.pt 9 rfl rfl | exact Reads.pt 10 rfl rfl | exact Reads.pt 11 rfl rfl | exact Reads.pt 12 rfl rfl | exact Reads.pt 13 rfl rfl)) ?_
      refine RG.bar 9 hR rfl rfl rfl rfl rfl rfl (X.G.C.mapDel 0 Try.runUnderlying74 keyS rfl rfl) ?_
      rintro _ _ ⟨rfl, rfl⟩
      refine RG.norm rfl ?_
      refine RG.fin hR rfl ?_
      refine J.norm rfl ?_
      refine J.then_n ?_
      refine J.seq ?_
      refine J.region ?_
      refine J.call Try.call24 (status_spec 200) [] rfl rfl rfl rfl ?_
      rintro _ _ ⟨y, rfl, hy, rfl⟩
      refine J.norm rfl ?_
      first | refine J.c0 rfl (C.stA (i := 0) (vs := [_, _, _, _, _]) Try.sizeOf41 rfl rfl rfl rfl rfl rfl) ?_ | refine J.c0 rfl (C.stA (i := 1) (vs := [_, _, _, _, _]) Try.sizeOf41 rfl rfl rfl rfl rfl rfl) ?_ | refine J.c0 rfl (C.stA (i := 2) (vs := [_, _, _, _, _]) Try.sizeOf41 rfl rfl rfl rfl rfl rfl) ?_ | refine J.c0 rfl (C.stA (i := 3) (vs := [_, _, _, _, _]) Try.sizeOf41 rfl rfl rfl rfl rfl rfl) ?_ | refine J.c0 rfl (C.stA (i := 4) (vs := [_, _, _, _, _]) Try.sizeOf41 rfl rfl rfl rfl rfl rfl) ?_ | refine J.c0 rfl (C.stA (i := 5) (vs := [_, _, _, _, _]) Try.sizeOf41 rfl rfl rfl rfl rfl rfl) ?_ | refine J.c0 rfl (C.stA (i := 6) (vs := [_, _, _, _, _]) Try.sizeOf41 rfl rfl rfl rfl rfl rfl) ?_ | refine J.c0 rfl (C.stA (i := 7) (vs := [_, _, _, _, _]) Try.sizeOf41 rfl rfl rfl rfl rfl rfl) ?_ | refine J.c0 rfl (C.stA (i := 8) (vs := [_, _, _, _, _]) Try.sizeOf41 rfl rfl rfl rfl rfl rfl) ?_ | refine J.c0 rfl (C.stA (i := 9) (vs := [_, _, _, _, _]) Try.sizeOf41 rfl rfl rfl rfl rfl rfl) ?_ | refine J.c0 rfl (C.stA (i := 10) (vs := [_, _, _, _, _]) Try.sizeOf41 rfl rfl rfl rfl rfl rfl) ?_ | refine J.c0 rfl (C.stA (i := 11) (vs := [_, _, _, _, _]) Try.sizeOf41 rfl rfl rfl rfl rfl rfl) ?_ | refine J.c0 rfl (C.stA (i := 12) (vs := [_, _, _, _, _]) Try.sizeOf41 rfl rfl rfl rfl rfl rfl) ?_ | refine J.c0 rfl (C.stA (i := 13) (vs := [_, _, _, _, _]) Try.sizeOf41 rfl rfl rfl rfl rfl rfl) ?_ | refine J.c0 rfl (C.stA (i := 14) (vs := [_, _, _, _, _]) Try.sizeOf41 rfl rfl rfl rfl rfl rfl) ?_ | refine J.c0 rfl (C.stA (i := 15) (vs := [_, _, _, _, _]) Try.sizeOf41 rfl rfl rfl rfl rfl rfl) ?_
      rintro _ _ ⟨rfl, rfl⟩
      refine J.nil ?_
      refine J.then_n ?_
      refine J.cret ?_
      refine J.shut [1] (bRep x.o.bucket (sdel x.o.key objs) (.map (some r))) rfl (fun h s => ⟨r, rfl, s⟩) ?_
      refine J.mapBack 0 2 (sdel x.o.key objs) ord3_str hM.bs rfl ?_
      refine J.shut [2, 0, 3, 4] (BktAt m { M with buckets := sput ltB x.o.bucket (sdel x.o.key objs) M.buckets }) rfl (fun h s => ⟨z, s⟩) ?_
      refine J.retC [0, 1, 4, 5] (vs := [_, _, _, _, _]) rfl rfl Try.isAgg41 Try.sizeOf41 (ReadsN.pt 2 rfl) rfl (B := [_, _, _]) ⟨_, rfl, hy, rfl⟩
theorem delete_spec : FSpec Try.prog 37 [.pointer (some ⟨m, 0, none⟩), .agg x.cells.toArray] [BktAt m M, G] (ActR m G (M.delete x.o)) := by
  unfold BM.delete
  split
  · rename_i hB; exact delete_no m M hM x G hx hB
  · rename_i hB
    split
    · rename_i hK; exact delete_none m M hM x G hx hB hK
    · rename_i hK; exact delete_yes m M hM x G hx hB hK

theorem begin_no (hB : sget x.o.bucket M.buckets = none) : FSpec Try.prog 39 [.pointer (some ⟨m, 0, none⟩), .agg x.cells.toArray] [BktAt m M, G] (ActR m G (st 404, M)) := by
  refine FSpec.of Try.func39 rfl Try.ntmps39 rfl fun W0 F => ?_
  refine J.seq ?_
  refine J.region ?_
  refine J.c rfl rfl (C.box (l := [_, _, _, _, _, _, _, _, _]) rfl rfl) ?_
  rintro _ _ ⟨b3, rfl, rfl⟩
  refine J.norm rfl ?_
  refine J.c rfl rfl (C.alloc (l := [_, _, _, _, _]) Try.zeroValue41 rfl) ?_
  rintro _ _ ⟨b4, rfl, rfl⟩
  refine J.norm rfl ?_
  refine J.nil ?_
  refine J.then_n ?_
  refine J.seq ?_
  refine J.seq ?_
  refine J.region ?_
  refine J.q rfl rfl (Q.mv rfl) ?_
  refine J.q rfl rfl (Q.ldN (vs := [_, _, _, _, _, _, _, _, _]) Try.isAgg26 Try.sizeOf26 rfl (by first | exact ReadsN.pt 0 rfl | exact ReadsN.pt 1 rfl | exact ReadsN.pt 2 rfl | exact ReadsN.pt 3 rfl | exact ReadsN.pt 4 rfl | exact ReadsN.pt 5 rfl | exact ReadsN.pt 6 rfl | exact ReadsN.pt 7 rfl | exact ReadsN.pt 8 rfl | exact ReadsN.pt 9 rfl | exact ReadsN.pt 10 rfl | exact ReadsN.pt 11 rfl | exact ReadsN.pt 12 rfl | exact ReadsN.pt 13 rfl)) ?_
  refine J.call Try.call46 ((by first | exact known_no m M x hB | exact known_yes m M hM x hB)) [2] rfl rfl rfl rfl ?_
  rintro _ _ ⟨rfl, rfl⟩
  refine J.norm rfl ?_
  refine J.q rfl rfl (Q.not rfl) ?_
  refine J.nil ?_
  refine J.then_n ?_
  refine J.cases 8 rfl (fun hc8 => ?_) (fun hc8 => ?_)
  ·
    first | replace hc8 := X.tt_dec hc8 | replace hc8 := X.tt_not hc8 | replace hc8 := X.ff_dec hc8 | replace hc8 := X.ff_not hc8 | skip
    try (first | (cases hc8; done) | (exfalso; simp at hc8; done))
    all_goals
      refine J.cond_t rfl ?_
      refine J.seq ?_
      refine J.region ?_
      refine J.call Try.call24 (status_spec 404) [] rfl rfl rfl rfl ?_
      rintro _ _ ⟨y, rfl, hy, rfl⟩
      refine J.norm rfl ?_
      first | refine J.c0 rfl (C.stA (i := 0) (vs := [_, _, _, _, _]) Try.sizeOf41 rfl rfl rfl rfl rfl rfl) ?_ | refine J.c0 rfl (C.stA (i := 1) (vs := [_, _, _, _, _]) Try.sizeOf41 rfl rfl rfl rfl rfl rfl) ?_ | refine J.c0 rfl (C.stA (i := 2) (vs := [_, _, _, _, _]) Try.sizeOf41 rfl rfl rfl rfl rfl rfl) ?_ | refine J.c0 rfl (C.stA (i := 3) (vs := [_, _, _, _, _]) Try.sizeOf41 rfl rfl rfl rfl rfl rfl) ?_ | refine J.c0 rfl (C.stA (i := 4) (vs := [_, _, _, _, _]) Try.sizeOf41 rfl rfl rfl rfl rfl rfl) ?_ | refine J.c0 rfl (C.stA (i := 5) (vs := [_, _, _, _, _]) Try.sizeOf41 rfl rfl rfl rfl rfl rfl) ?_ | refine J.c0 rfl (C.stA (i := 6) (vs := [_, _, _, _, _]) Try.sizeOf41 rfl rfl rfl rfl rfl rfl) ?_ | refine J.c0 rfl (C.stA (i := 7) (vs := [_, _, _, _, _]) Try.sizeOf41 rfl rfl rfl rfl rfl rfl) ?_ | refine J.c0 rfl (C.stA (i := 8) (vs := [_, _, _, _, _]) Try.sizeOf41 rfl rfl rfl rfl rfl rfl) ?_ | refine J.c0 rfl (C.stA (i := 9) (vs := [_, _, _, _, _]) Try.sizeOf41 rfl rfl rfl rfl rfl rfl) ?_ | refine J.c0 rfl (C.stA (i := 10) (vs := [_, _, _, _, _]) Try.sizeOf41 rfl rfl rfl rfl rfl rfl) ?_ | refine J.c0 rfl (C.stA (i := 11) (vs := [_, _, _, _, _]) Try.sizeOf41 rfl rfl rfl rfl rfl rfl) ?_ | refine J.c0 rfl (C.stA (i := 12) (vs := [_, _, _, _, _]) Try.sizeOf41 rfl rfl rfl rfl rfl rfl) ?_ | refine J.c0 rfl (C.stA (i := 13) (vs := [_, _, _, _, _]) Try.sizeOf41 rfl rfl rfl rfl rfl rfl) ?_ | refine J.c0 rfl (C.stA (i := 14) (vs := [_, _, _, _, _]) Try.sizeOf41 rfl rfl rfl rfl rfl rfl) ?_ | refine J.c0 rfl (C.stA (i := 15) (vs := [_, _, _, _, _]) Try.sizeOf41 rfl rfl rfl rfl rfl rfl) ?_
      rintro _ _ ⟨rfl, rfl⟩
      refine J.nil ?_
      refine J.then_n ?_
      refine J.cret ?_
      refine J.then_r ?_
      refine J.retC [1, 0, 4, 5] (vs := [_, _, _, _, _]) rfl rfl Try.isAgg41 Try.sizeOf41 (ReadsN.pt 2 rfl) rfl (B := [_, _, _]) ⟨_, rfl, hy, rfl⟩
  ·
    first | replace hc8 := X.tt_dec hc8 | replace hc8 := X.tt_not hc8 | replace hc8 := X.ff_dec hc8 | replace hc8 := X.ff_not hc8 | skip
    try (first | (cases hc8; done) | (exfalso; simp at hc8; done))
    all_goals
      refine J.cond_f rfl ?_
      refine J.cskip ?_
      refine J.then_n ?_
      refine J.seq ?_
      refine J.open1 0 rfl (fun _ h => h) fun z => ?_
      refine J.norm rfl ?_
      refine J.draw [10, 12, 13] Try.mixed (by kernel_rfl) fun hR => ?_
      refine RG.q 0 hR rfl rfl rfl rfl rfl rfl (Q.mv rfl) ?_
      refine RG.q 1 hR rfl rfl rfl rfl rfl rfl (Q.nil_ rfl) ?_
      refine RG.q 2 hR rfl rfl rfl rfl rfl rfl (Q.fa (n := 1) Try.runUnderlying62 rfl rfl Try.sizeOf59 rfl) ?_
      refine RG.q 3 hR rfl rfl rfl rfl rfl rfl (Q.ld Try.isAgg59 rfl (by first | exact Reads.pt 0 rfl rfl | exact Reads.pt 1 rfl rfl | exact Reads.pt 2 rfl rfl | exact Reads.pt 3 rfl rfl | exact Reads.pt 4 rfl rfl | exact Reads.pt 5 rfl rfl | exact Reads.pt 6 rfl rfl | exact Reads.pt 7 rfl rfl | exact Reads.pt 8 rfl rfl | exact Reads.pt 9 rfl rfl | exact Reads.pt 10 rfl rfl | exact Reads.pt 11 rfl rfl | exact Reads.pt 12 rfl rfl | exact Reads.pt 13 rfl rfl)) ?_
      refine RG.q 4 hR rfl rfl rfl rfl rfl rfl (Q.fa (n := 0) Try.runUnderlying26 rfl rfl Try.sizeOf22 rfl) ?_
      refine RG.q 5 hR rfl rfl rfl rfl rfl rfl (Q.ld Try.isAgg22 rfl (by first | exact Reads.pt 0 rfl rfl | exact Reads.pt 1 rfl rfl | exact Reads.pt 2 rfl rfl | exact Reads.pt 3 rfl rfl | exact Reads.pt 4 rfl rfl | exact Reads.pt 5 rfl rfl | exact Reads.pt 6 rfl rfl | exact Reads.pt 7 rfl rfl | exact Reads.pt 8 rfl rfl | exact Reads.pt 9 rfl rfl | exact Reads.pt 10 rfl rfl | exact Reads.pt 11 rfl rfl | exact Reads.pt 12 rfl rfl | exact Reads.pt 13 rfl rfl)) ?_
      refine RG.q 6 hR rfl rfl rfl rfl rfl rfl (Q.fa (n := 2) Try.runUnderlying26 rfl rfl Try.sizeOf9 rfl) ?_
      refine RG.q 7 hR rfl rfl rfl rfl rfl rfl (Q.ld Try.isAgg9 rfl (by first | exact Reads.pt 0 rfl rfl | exact Reads.pt 1 rfl rfl | exact Reads.pt 2 rfl rfl | exact Reads.pt 3 rfl rfl | exact Reads.pt 4 rfl rfl | exact Reads.pt 5 rfl rfl | exact Reads.pt 6 rfl rfl | exact Reads.pt 7 rfl rfl | exact Reads.pt 8 rfl rfl | exact Reads.pt 9 rfl rfl | exact Reads.pt 10 rfl rfl | exact Reads.pt 11 rfl rfl | exact Reads.pt 12 rfl rfl | exact Reads.pt 13 rfl rfl)) ?_
      refine RG.q 8 hR rfl rfl rfl rfl rfl rfl (Q.fa (n := 3) Try.runUnderlying26 rfl rfl Try.sizeOf9 rfl) ?_
      refine RG.q 9 hR rfl rfl rfl rfl rfl rfl (Q.ld Try.isAgg9 rfl (by first | exact Reads.pt 0 rfl rfl | exact Reads.pt 1 rfl rfl | exact Reads.pt 2 rfl rfl | exact Reads.pt 3 rfl rfl | exact Reads.pt 4 rfl rfl | exact Reads.pt 5 rfl rfl | exact Reads.pt 6 rfl rfl | exact Reads.pt 7 rfl rfl | exact Reads.pt 8 rfl rfl | exact Reads.pt 9 rfl rfl | exact Reads.pt 10 rfl rfl | exact Reads.pt 11 rfl rfl | exact Reads.pt 12 rfl rfl | exact Reads.pt 13 rfl rfl)) ?_
      refine RG.made 10 hR rfl rfl rfl rfl rfl C.mkMap ?_
      rintro b20
      refine RG.q 11 hR rfl rfl rfl rfl rfl rfl (Q.bld (l := [_, _, _]) Try.runUnderlying80 Try.zeroValue80 Try.places80 rfl rfl) ?_
      refine RG.made 12 hR rfl rfl rfl rfl rfl (C.box (l := [_, _, _]) rfl rfl) ?_
      rintro b22
      refine RG.bar 13 hR rfl rfl rfl rfl rfl rfl (X.G.C.mapPut (rep := uRep) 2 ⟨x.o.bucket, x.o.key, []⟩ ord3_nat hM.us Try.runUnderlying59 keyU rfl rfl rfl rfl) ?_
      rintro _ _ ⟨rfl, rfl⟩
      refine RG.norm rfl ?_
      refine RG.fin hR rfl ?_
      refine J.norm rfl ?_
      refine J.then_n ?_
      refine J.seq ?_
      refine J.region ?_
      refine J.q rfl rfl (Q.fa (n := 0) Try.runUnderlying26 rfl rfl Try.sizeOf22 rfl) ?_
      refine J.q rfl rfl (Q.ld Try.isAgg22 rfl (by first | exact Reads.pt 0 rfl rfl | exact Reads.pt 1 rfl rfl | exact Reads.pt 2 rfl rfl | exact Reads.pt 3 rfl rfl | exact Reads.pt 4 rfl rfl | exact Reads.pt 5 rfl rfl | exact Reads.pt 6 rfl rfl | exact Reads.pt 7 rfl rfl | exact Reads.pt 8 rfl rfl | exact Reads.pt 9 rfl rfl | exact Reads.pt 10 rfl rfl | exact Reads.pt 11 rfl rfl | exact Reads.pt 12 rfl rfl | exact Reads.pt 13 rfl rfl)) ?_
      refine J.q rfl rfl (Q.bld (l := [_, _, _, _, _]) Try.runUnderlying41 Try.zeroValue41 Try.places41 rfl rfl) ?_
      first | refine J.c0 rfl (C.stA (i := 0) (vs := [_, _, _, _, _]) Try.sizeOf41 rfl rfl rfl rfl rfl rfl) ?_ | refine J.c0 rfl (C.stA (i := 1) (vs := [_, _, _, _, _]) Try.sizeOf41 rfl rfl rfl rfl rfl rfl) ?_ | refine J.c0 rfl (C.stA (i := 2) (vs := [_, _, _, _, _]) Try.sizeOf41 rfl rfl rfl rfl rfl rfl) ?_ | refine J.c0 rfl (C.stA (i := 3) (vs := [_, _, _, _, _]) Try.sizeOf41 rfl rfl rfl rfl rfl rfl) ?_ | refine J.c0 rfl (C.stA (i := 4) (vs := [_, _, _, _, _]) Try.sizeOf41 rfl rfl rfl rfl rfl rfl) ?_ | refine J.c0 rfl (C.stA (i := 5) (vs := [_, _, _, _, _]) Try.sizeOf41 rfl rfl rfl rfl rfl rfl) ?_ | refine J.c0 rfl (C.stA (i := 6) (vs := [_, _, _, _, _]) Try.sizeOf41 rfl rfl rfl rfl rfl rfl) ?_ | refine J.c0 rfl (C.stA (i := 7) (vs := [_, _, _, _, _]) Try.sizeOf41 rfl rfl rfl rfl rfl rfl) ?_ | refine J.c0 rfl (C.stA (i := 8) (vs := [_, _, _, _, _]) Try.sizeOf41 rfl rfl rfl rfl rfl rfl) ?_ | refine J.c0 rfl (C.stA (i := 9) (vs := [_, _, _, _, _]) Try.sizeOf41 rfl rfl rfl rfl rfl rfl) ?_ | refine J.c0 rfl (C.stA (i := 10) (vs := [_, _, _, _, _]) Try.sizeOf41 rfl rfl rfl rfl rfl rfl) ?_ | refine J.c0 rfl (C.stA (i := 11) (vs := [_, _, _, _, _]) Try.sizeOf41 rfl rfl rfl rfl rfl rfl) ?_ | refine J.c0 rfl (C.stA (i := 12) (vs := [_, _, _, _, _]) Try.sizeOf41 rfl rfl rfl rfl rfl rfl) ?_ | refine J.c0 rfl (C.stA (i := 13) (vs := [_, _, _, _, _]) Try.sizeOf41 rfl rfl rfl rfl rfl rfl) ?_ | refine J.c0 rfl (C.stA (i := 14) (vs := [_, _, _, _, _]) Try.sizeOf41 rfl rfl rfl rfl rfl rfl) ?_ | refine J.c0 rfl (C.stA (i := 15) (vs := [_, _, _, _, _]) Try.sizeOf41 rfl rfl rfl rfl rfl rfl) ?_
      rintro _ _ ⟨rfl, rfl⟩
      refine J.nil ?_
      refine J.then_n ?_
      refine J.cret ?_
      refine J.give empty_asn ?_
      refine J.conv (Y := MapAt (Value.int .i64) datRep b20 []) 10 rfl MapAt.new ?_
      refine J.shut [10, 0] (uRep x.o.id ⟨x.o.bucket, x.o.key, []⟩ (.pointer (some ⟨b22, 0, none⟩))) rfl (fun h s => ⟨(b22, b20), rfl, s⟩) ?_
      refine J.mapBack 0 4 ⟨x.o.bucket, x.o.key, []⟩ ord3_nat (X.G.srtd_put ord3_nat hM.us _ _) rfl ?_
      rw [X.G.sput_put ord3_nat hM.us]
      refine J.shut [2, 3, 0, 4] (BktAt m { M with uploads := sput ltN x.o.id ⟨x.o.bucket, x.o.key, []⟩ M.uploads }) rfl (fun h s => ⟨z, s⟩) ?_
      refine J.retC [0, 1, 4, 5] (vs := [_, _, _, _, _]) rfl rfl Try.isAgg41 Try.sizeOf41 (ReadsN.pt 2 rfl) rfl (B := [_, _, _]) ⟨⟨⟨200, x.o.id, [], false, []⟩, none, 0, none, 0⟩, rfl, rfl, rfl⟩
theorem begin_yes {objs : Objs} (hB : sget x.o.bucket M.buckets = some objs) : FSpec Try.prog 39 [.pointer (some ⟨m, 0, none⟩), .agg x.cells.toArray] [BktAt m M, G] (ActR m G (⟨200, x.o.id, [], false, []⟩, { M with uploads := sput ltN x.o.id ⟨x.o.bucket, x.o.key, []⟩ M.uploads })) := by
  refine FSpec.of Try.func39 rfl Try.ntmps39 rfl fun W0 F => ?_
  refine J.seq ?_
  refine J.region ?_
  refine J.c rfl rfl (C.box (l := [_, _, _, _, _, _, _, _, _]) rfl rfl) ?_
  rintro _ _ ⟨b3, rfl, rfl⟩
  refine J.norm rfl ?_
  refine J.c rfl rfl (C.alloc (l := [_, _, _, _, _]) Try.zeroValue41 rfl) ?_
  rintro _ _ ⟨b4, rfl, rfl⟩
  refine J.norm rfl ?_
  refine J.nil ?_
  refine J.then_n ?_
  refine J.seq ?_
  refine J.seq ?_
  refine J.region ?_
  refine J.q rfl rfl (Q.mv rfl) ?_
  refine J.q rfl rfl (Q.ldN (vs := [_, _, _, _, _, _, _, _, _]) Try.isAgg26 Try.sizeOf26 rfl (by first | exact ReadsN.pt 0 rfl | exact ReadsN.pt 1 rfl | exact ReadsN.pt 2 rfl | exact ReadsN.pt 3 rfl | exact ReadsN.pt 4 rfl | exact ReadsN.pt 5 rfl | exact ReadsN.pt 6 rfl | exact ReadsN.pt 7 rfl | exact ReadsN.pt 8 rfl | exact ReadsN.pt 9 rfl | exact ReadsN.pt 10 rfl | exact ReadsN.pt 11 rfl | exact ReadsN.pt 12 rfl | exact ReadsN.pt 13 rfl)) ?_
  refine J.call Try.call46 ((by first | exact known_no m M x hB | exact known_yes m M hM x hB)) [2] rfl rfl rfl rfl ?_
  rintro _ _ ⟨rfl, rfl⟩
  refine J.norm rfl ?_
  refine J.q rfl rfl (Q.not rfl) ?_
  refine J.nil ?_
  refine J.then_n ?_
  refine J.cases 8 rfl (fun hc8 => ?_) (fun hc8 => ?_)
  ·
    first | replace hc8 := X.tt_dec hc8 | replace hc8 := X.tt_not hc8 | replace hc8 := X.ff_dec hc8 | replace hc8 := X.ff_not hc8 | skip
    try (first | (cases hc8; done) | (exfalso; simp at hc8; done))
    all_goals
      refine J.cond_t rfl ?_
      refine J.seq ?_
      refine J.region ?_
      refine J.call Try.call24 (status_spec 404) [] rfl rfl rfl rfl ?_
      rintro _ _ ⟨y, rfl, hy, rfl⟩
      refine J.norm rfl ?_
      first | refine J.c0 rfl (C.stA (i := 0) (vs := [_, _, _, _, _]) Try.sizeOf41 rfl rfl rfl rfl rfl rfl) ?_ | refine J.c0 rfl (C.stA (i := 1) (vs := [_, _, _, _, _]) Try.sizeOf41 rfl rfl rfl rfl rfl rfl) ?_ | refine J.c0 rfl (C.stA (i := 2) (vs := [_, _, _, _, _]) Try.sizeOf41 rfl rfl rfl rfl rfl rfl) ?_ | refine J.c0 rfl (C.stA (i := 3) (vs := [_, _, _, _, _]) Try.sizeOf41 rfl rfl rfl rfl rfl rfl) ?_ | refine J.c0 rfl (C.stA (i := 4) (vs := [_, _, _, _, _]) Try.sizeOf41 rfl rfl rfl rfl rfl rfl) ?_ | refine J.c0 rfl (C.stA (i := 5) (vs := [_, _, _, _, _]) Try.sizeOf41 rfl rfl rfl rfl rfl rfl) ?_ | refine J.c0 rfl (C.stA (i := 6) (vs := [_, _, _, _, _]) Try.sizeOf41 rfl rfl rfl rfl rfl rfl) ?_ | refine J.c0 rfl (C.stA (i := 7) (vs := [_, _, _, _, _]) Try.sizeOf41 rfl rfl rfl rfl rfl rfl) ?_ | refine J.c0 rfl (C.stA (i := 8) (vs := [_, _, _, _, _]) Try.sizeOf41 rfl rfl rfl rfl rfl rfl) ?_ | refine J.c0 rfl (C.stA (i := 9) (vs := [_, _, _, _, _]) Try.sizeOf41 rfl rfl rfl rfl rfl rfl) ?_ | refine J.c0 rfl (C.stA (i := 10) (vs := [_, _, _, _, _]) Try.sizeOf41 rfl rfl rfl rfl rfl rfl) ?_ | refine J.c0 rfl (C.stA (i := 11) (vs := [_, _, _, _, _]) Try.sizeOf41 rfl rfl rfl rfl rfl rfl) ?_ | refine J.c0 rfl (C.stA (i := 12) (vs := [_, _, _, _, _]) Try.sizeOf41 rfl rfl rfl rfl rfl rfl) ?_ | refine J.c0 rfl (C.stA (i := 13) (vs := [_, _, _, _, _]) Try.sizeOf41 rfl rfl rfl rfl rfl rfl) ?_ | refine J.c0 rfl (C.stA (i := 14) (vs := [_, _, _, _, _]) Try.sizeOf41 rfl rfl rfl rfl rfl rfl) ?_ | refine J.c0 rfl (C.stA (i := 15) (vs := [_, _, _, _, _]) Try.sizeOf41 rfl rfl rfl rfl rfl rfl) ?_
      rintro _ _ ⟨rfl, rfl⟩
      refine J.nil ?_
      refine J.then_n ?_
      refine J.cret ?_
      refine J.then_r ?_
      refine J.retC [1, 0, 4, 5] (vs := [_, _, _, _, _]) rfl rfl Try.isAgg41 Try.sizeOf41 (ReadsN.pt 2 rfl) rfl (B := [_, _, _]) ⟨_, rfl, hy, rfl⟩
  ·
    first | replace hc8 := X.tt_dec hc8 | replace hc8 := X.tt_not hc8 | replace hc8 := X.ff_dec hc8 | replace hc8 := X.ff_not hc8 | skip
    try (first | (cases hc8; done) | (exfalso; simp at hc8; done))
    all_goals
      refine J.cond_f rfl ?_
      refine J.cskip ?_
      refine J.then_n ?_
      refine J.seq ?_
      refine J.open1 0 rfl (fun _ h => h) fun z => ?_
      refine J.norm rfl ?_
      refine J.draw [10, 12, 13] Try.mixed (by kernel_rfl) fun hR => ?_
      refine RG.q 0 hR rfl rfl rfl rfl rfl rfl (Q.mv rfl) ?_
      refine RG.q 1 hR rfl rfl rfl rfl rfl rfl (Q.nil_ rfl) ?_
      refine RG.q 2 hR rfl rfl rfl rfl rfl rfl (Q.fa (n := 1) Try.runUnderlying62 rfl rfl Try.sizeOf59 rfl) ?_
      refine RG.q 3 hR rfl rfl rfl rfl rfl rfl (Q.ld Try.isAgg59 rfl (by first | exact Reads.pt 0 rfl rfl | exact Reads.pt 1 rfl rfl | exact Reads.pt 2 rfl rfl | exact Reads.pt 3 rfl rfl | exact Reads.pt 4 rfl rfl | exact Reads.pt 5 rfl rfl | exact Reads.pt 6 rfl rfl | exact Reads.pt 7 rfl rfl | exact Reads.pt 8 rfl rfl | exact Reads.pt 9 rfl rfl | exact Reads.pt 10 rfl rfl | exact Reads.pt 11 rfl rfl | exact Reads.pt 12 rfl rfl | exact Reads.pt 13 rfl rfl)) ?_
      refine RG.q 4 hR rfl rfl rfl rfl rfl rfl (Q.fa (n := 0) Try.runUnderlying26 rfl rfl Try.sizeOf22 rfl) ?_
      refine RG.q 5 hR rfl rfl rfl rfl rfl rfl (Q.ld Try.isAgg22 rfl (by first | exact Reads.pt 0 rfl rfl | exact Reads.pt 1 rfl rfl | exact Reads.pt 2 rfl rfl | exact Reads.pt 3 rfl rfl | exact Reads.pt 4 rfl rfl | exact Reads.pt 5 rfl rfl | exact Reads.pt 6 rfl rfl | exact Reads.pt 7 rfl rfl | exact Reads.pt 8 rfl rfl | exact Reads.pt 9 rfl rfl | exact Reads.pt 10 rfl rfl | exact Reads.pt 11 rfl rfl | exact Reads.pt 12 rfl rfl | exact Reads.pt 13 rfl rfl)) ?_
      refine RG.q 6 hR rfl rfl rfl rfl rfl rfl (Q.fa (n := 2) Try.runUnderlying26 rfl rfl Try.sizeOf9 rfl) ?_
      refine RG.q 7 hR rfl rfl rfl rfl rfl rfl (Q.ld Try.isAgg9 rfl (by first | exact Reads.pt 0 rfl rfl | exact Reads.pt 1 rfl rfl | exact Reads.pt 2 rfl rfl | exact Reads.pt 3 rfl rfl | exact Reads.pt 4 rfl rfl | exact Reads.pt 5 rfl rfl | exact Reads.pt 6 rfl rfl | exact Reads.pt 7 rfl rfl | exact Reads.pt 8 rfl rfl | exact Reads.pt 9 rfl rfl | exact Reads.pt 10 rfl rfl | exact Reads.pt 11 rfl rfl | exact Reads.pt 12 rfl rfl | exact Reads.pt 13 rfl rfl)) ?_
      refine RG.q 8 hR rfl rfl rfl rfl rfl rfl (Q.fa (n := 3) Try.runUnderlying26 rfl rfl Try.sizeOf9 rfl) ?_
      refine RG.q 9 hR rfl rfl rfl rfl rfl rfl (Q.ld Try.isAgg9 rfl (by first | exact Reads.pt 0 rfl rfl | exact Reads.pt 1 rfl rfl | exact Reads.pt 2 rfl rfl | exact Reads.pt 3 rfl rfl | exact Reads.pt 4 rfl rfl | exact Reads.pt 5 rfl rfl | exact Reads.pt 6 rfl rfl | exact Reads.pt 7 rfl rfl | exact Reads.pt 8 rfl rfl | exact Reads.pt 9 rfl rfl | exact Reads.pt 10 rfl rfl | exact Reads.pt 11 rfl rfl | exact Reads.pt 12 rfl rfl | exact Reads.pt 13 rfl rfl)) ?_
      refine RG.made 10 hR rfl rfl rfl rfl rfl C.mkMap ?_
      rintro b20
      refine RG.q 11 hR rfl rfl rfl rfl rfl rfl (Q.bld (l := [_, _, _]) Try.runUnderlying80 Try.zeroValue80 Try.places80 rfl rfl) ?_
      refine RG.made 12 hR rfl rfl rfl rfl rfl (C.box (l := [_, _, _]) rfl rfl) ?_
      rintro b22
      refine RG.bar 13 hR rfl rfl rfl rfl rfl rfl (X.G.C.mapPut (rep := uRep) 2 ⟨x.o.bucket, x.o.key, []⟩ ord3_nat hM.us Try.runUnderlying59 keyU rfl rfl rfl rfl) ?_
      rintro _ _ ⟨rfl, rfl⟩
      refine RG.norm rfl ?_
      refine RG.fin hR rfl ?_
      refine J.norm rfl ?_
      refine J.then_n ?_
      refine J.seq ?_
      refine J.region ?_
      refine J.q rfl rfl (Q.fa (n := 0) Try.runUnderlying26 rfl rfl Try.sizeOf22 rfl) ?_
      refine J.q rfl rfl (Q.ld Try.isAgg22 rfl (by first | exact Reads.pt 0 rfl rfl | exact Reads.pt 1 rfl rfl | exact Reads.pt 2 rfl rfl | exact Reads.pt 3 rfl rfl | exact Reads.pt 4 rfl rfl | exact Reads.pt 5 rfl rfl | exact Reads.pt 6 rfl rfl | exact Reads.pt 7 rfl rfl | exact Reads.pt 8 rfl rfl | exact Reads.pt 9 rfl rfl | exact Reads.pt 10 rfl rfl | exact Reads.pt 11 rfl rfl | exact Reads.pt 12 rfl rfl | exact Reads.pt 13 rfl rfl)) ?_
      refine J.q rfl rfl (Q.bld (l := [_, _, _, _, _]) Try.runUnderlying41 Try.zeroValue41 Try.places41 rfl rfl) ?_
      first | refine J.c0 rfl (C.stA (i := 0) (vs := [_, _, _, _, _]) Try.sizeOf41 rfl rfl rfl rfl rfl rfl) ?_ | refine J.c0 rfl (C.stA (i := 1) (vs := [_, _, _, _, _]) Try.sizeOf41 rfl rfl rfl rfl rfl rfl) ?_ | refine J.c0 rfl (C.stA (i := 2) (vs := [_, _, _, _, _]) Try.sizeOf41 rfl rfl rfl rfl rfl rfl) ?_ | refine J.c0 rfl (C.stA (i := 3) (vs := [_, _, _, _, _]) Try.sizeOf41 rfl rfl rfl rfl rfl rfl) ?_ | refine J.c0 rfl (C.stA (i := 4) (vs := [_, _, _, _, _]) Try.sizeOf41 rfl rfl rfl rfl rfl rfl) ?_ | refine J.c0 rfl (C.stA (i := 5) (vs := [_, _, _, _, _]) Try.sizeOf41 rfl rfl rfl rfl rfl rfl) ?_ | refine J.c0 rfl (C.stA (i := 6) (vs := [_, _, _, _, _]) Try.sizeOf41 rfl rfl rfl rfl rfl rfl) ?_ | refine J.c0 rfl (C.stA (i := 7) (vs := [_, _, _, _, _]) Try.sizeOf41 rfl rfl rfl rfl rfl rfl) ?_ | refine J.c0 rfl (C.stA (i := 8) (vs := [_, _, _, _, _]) Try.sizeOf41 rfl rfl rfl rfl rfl rfl) ?_ | refine J.c0 rfl (C.stA (i := 9) (vs := [_, _, _, _, _]) Try.sizeOf41 rfl rfl rfl rfl rfl rfl) ?_ | refine J.c0 rfl (C.stA (i := 10) (vs := [_, _, _, _, _]) Try.sizeOf41 rfl rfl rfl rfl rfl rfl) ?_ | refine J.c0 rfl (C.stA (i := 11) (vs := [_, _, _, _, _]) Try.sizeOf41 rfl rfl rfl rfl rfl rfl) ?_ | refine J.c0 rfl (C.stA (i := 12) (vs := [_, _, _, _, _]) Try.sizeOf41 rfl rfl rfl rfl rfl rfl) ?_ | refine J.c0 rfl (C.stA (i := 13) (vs := [_, _, _, _, _]) Try.sizeOf41 rfl rfl rfl rfl rfl rfl) ?_ | refine J.c0 rfl (C.stA (i := 14) (vs := [_, _, _, _, _]) Try.sizeOf41 rfl rfl rfl rfl rfl rfl) ?_ | refine J.c0 rfl (C.stA (i := 15) (vs := [_, _, _, _, _]) Try.sizeOf41 rfl rfl rfl rfl rfl rfl) ?_
      rintro _ _ ⟨rfl, rfl⟩
      refine J.nil ?_
      refine J.then_n ?_
      refine J.cret ?_
      refine J.give empty_asn ?_
      refine J.conv (Y := MapAt (Value.int .i64) datRep b20 []) 10 rfl MapAt.new ?_
      refine J.shut [10, 0] (uRep x.o.id ⟨x.o.bucket, x.o.key, []⟩ (.pointer (some ⟨b22, 0, none⟩))) rfl (fun h s => ⟨(b22, b20), rfl, s⟩) ?_
      refine J.mapBack 0 4 ⟨x.o.bucket, x.o.key, []⟩ ord3_nat (X.G.srtd_put ord3_nat hM.us _ _) rfl ?_
      rw [X.G.sput_put ord3_nat hM.us]
      refine J.shut [2, 3, 0, 4] (BktAt m { M with uploads := sput ltN x.o.id ⟨x.o.bucket, x.o.key, []⟩ M.uploads }) rfl (fun h s => ⟨z, s⟩) ?_
      refine J.retC [0, 1, 4, 5] (vs := [_, _, _, _, _]) rfl rfl Try.isAgg41 Try.sizeOf41 (ReadsN.pt 2 rfl) rfl (B := [_, _, _]) ⟨⟨⟨200, x.o.id, [], false, []⟩, none, 0, none, 0⟩, rfl, rfl, rfl⟩
theorem begin_spec : FSpec Try.prog 39 [.pointer (some ⟨m, 0, none⟩), .agg x.cells.toArray] [BktAt m M, G] (ActR m G (M.begin x.o)) := by
  unfold BM.begin
  split
  · rename_i hB; exact begin_no m M hM x G hx hB
  · rename_i hB; exact begin_yes m M hM x G hx hB

theorem part_no (hU : sget x.o.upload M.uploads = none) : FSpec Try.prog 40 [.pointer (some ⟨m, 0, none⟩), .agg x.cells.toArray] [BktAt m M, G] (ActR m G (st 404, M)) := by
  have hsm := hx.small
  refine FSpec.of Try.func40 rfl Try.ntmps40 rfl fun W0 F => ?_
  refine J.seq ?_
  refine J.region ?_
  refine J.c rfl rfl (C.box (l := [_, _, _, _, _, _, _, _, _]) rfl rfl) ?_
  rintro _ _ ⟨b3, rfl, rfl⟩
  refine J.norm rfl ?_
  refine J.c rfl rfl (C.alloc (l := [_, _, _, _, _]) Try.zeroValue41 rfl) ?_
  rintro _ _ ⟨b4, rfl, rfl⟩
  refine J.norm rfl ?_
  refine J.nil ?_
  refine J.then_n ?_
  refine J.seq ?_
  try have hP := hM.ps _ _ hU
  refine J.open1 2 rfl (fun _ h => h) fun z => ?_
  refine J.norm rfl ?_
  first
    | (refine J.mapFocus 2 hU rfl fun val => ?_
       refine J.norm rfl ?_
       refine J.open_ 0 rfl rfl (fun _ h => h) fun z2 hz2 => ?_
       subst hz2
       refine J.norm rfl ?_)
    | skip
  refine J.draw [7] Try.mixed (by kernel_rfl) fun hR => ?_
  refine RG.q 0 hR rfl rfl rfl rfl rfl rfl (Q.mv rfl) ?_
  refine RG.q 1 hR rfl rfl rfl rfl rfl rfl (Q.nil_ rfl) ?_
  refine RG.q 2 hR rfl rfl rfl rfl rfl rfl (Q.fa (n := 1) Try.runUnderlying62 rfl rfl Try.sizeOf59 rfl) ?_
  refine RG.q 3 hR rfl rfl rfl rfl rfl rfl (Q.ld Try.isAgg59 rfl (by first | exact Reads.pt 0 rfl rfl | exact Reads.pt 1 rfl rfl | exact Reads.pt 2 rfl rfl | exact Reads.pt 3 rfl rfl | exact Reads.pt 4 rfl rfl | exact Reads.pt 5 rfl rfl | exact Reads.pt 6 rfl rfl | exact Reads.pt 7 rfl rfl | exact Reads.pt 8 rfl rfl | exact Reads.pt 9 rfl rfl | exact Reads.pt 10 rfl rfl | exact Reads.pt 11 rfl rfl | exact Reads.pt 12 rfl rfl | exact Reads.pt 13 rfl rfl)) ?_
  refine RG.q 4 hR rfl rfl rfl rfl rfl rfl (Q.fa (n := 6) Try.runUnderlying26 rfl rfl Try.sizeOf22 rfl) ?_
  refine RG.q 5 hR rfl rfl rfl rfl rfl rfl (Q.ld Try.isAgg22 rfl (by first | exact Reads.pt 0 rfl rfl | exact Reads.pt 1 rfl rfl | exact Reads.pt 2 rfl rfl | exact Reads.pt 3 rfl rfl | exact Reads.pt 4 rfl rfl | exact Reads.pt 5 rfl rfl | exact Reads.pt 6 rfl rfl | exact Reads.pt 7 rfl rfl | exact Reads.pt 8 rfl rfl | exact Reads.pt 9 rfl rfl | exact Reads.pt 10 rfl rfl | exact Reads.pt 11 rfl rfl | exact Reads.pt 12 rfl rfl | exact Reads.pt 13 rfl rfl)) ?_
  refine RG.q 6 hR rfl rfl rfl rfl rfl rfl (by first | exact X.G.Q.lkNo (i := 2) Try.runUnderlying59 keyU Try.zeroValue78 rfl rfl rfl hU | exact X.G.Q.lkYes (i := 2) Try.runUnderlying59 keyU Try.zeroValue78 rfl rfl rfl) ?_
  refine RG.bar 7 hR rfl rfl rfl rfl rfl rfl (Q.asg rfl).toC ?_
  rintro _ _ ⟨rfl, rfl⟩
  refine RG.norm rfl ?_
  refine RG.fin hR rfl ?_
  refine J.norm rfl ?_
  refine J.then_n ?_
  refine J.seq ?_
  refine J.seq ?_
  refine J.region ?_
  refine J.q rfl rfl (Q.mv rfl) ?_
  refine J.q rfl rfl (Q.eqlp Try.runUnderlying78 rfl rfl) ?_
  refine J.nil ?_
  refine J.then_n ?_
  refine J.cases 14 rfl (fun hc14 => ?_) (fun hc14 => ?_)
  ·
    first | replace hc14 := X.tt_dec hc14 | replace hc14 := X.tt_not hc14 | replace hc14 := X.ff_dec hc14 | replace hc14 := X.ff_not hc14 | skip
    try (first | (cases hc14; done) | (exfalso; simp at hc14; done))
    all_goals
      refine J.cond_t rfl ?_
      refine J.seq ?_
      refine J.region ?_
      refine J.call Try.call24 (status_spec 404) [] rfl rfl rfl rfl ?_
      rintro _ _ ⟨y, rfl, hy, rfl⟩
      refine J.norm rfl ?_
      first | refine J.c0 rfl (C.stA (i := 0) (vs := [_, _, _, _, _]) Try.sizeOf41 rfl rfl rfl rfl rfl rfl) ?_ | refine J.c0 rfl (C.stA (i := 1) (vs := [_, _, _, _, _]) Try.sizeOf41 rfl rfl rfl rfl rfl rfl) ?_ | refine J.c0 rfl (C.stA (i := 2) (vs := [_, _, _, _, _]) Try.sizeOf41 rfl rfl rfl rfl rfl rfl) ?_ | refine J.c0 rfl (C.stA (i := 3) (vs := [_, _, _, _, _]) Try.sizeOf41 rfl rfl rfl rfl rfl rfl) ?_ | refine J.c0 rfl (C.stA (i := 4) (vs := [_, _, _, _, _]) Try.sizeOf41 rfl rfl rfl rfl rfl rfl) ?_ | refine J.c0 rfl (C.stA (i := 5) (vs := [_, _, _, _, _]) Try.sizeOf41 rfl rfl rfl rfl rfl rfl) ?_ | refine J.c0 rfl (C.stA (i := 6) (vs := [_, _, _, _, _]) Try.sizeOf41 rfl rfl rfl rfl rfl rfl) ?_ | refine J.c0 rfl (C.stA (i := 7) (vs := [_, _, _, _, _]) Try.sizeOf41 rfl rfl rfl rfl rfl rfl) ?_ | refine J.c0 rfl (C.stA (i := 8) (vs := [_, _, _, _, _]) Try.sizeOf41 rfl rfl rfl rfl rfl rfl) ?_ | refine J.c0 rfl (C.stA (i := 9) (vs := [_, _, _, _, _]) Try.sizeOf41 rfl rfl rfl rfl rfl rfl) ?_ | refine J.c0 rfl (C.stA (i := 10) (vs := [_, _, _, _, _]) Try.sizeOf41 rfl rfl rfl rfl rfl rfl) ?_ | refine J.c0 rfl (C.stA (i := 11) (vs := [_, _, _, _, _]) Try.sizeOf41 rfl rfl rfl rfl rfl rfl) ?_ | refine J.c0 rfl (C.stA (i := 12) (vs := [_, _, _, _, _]) Try.sizeOf41 rfl rfl rfl rfl rfl rfl) ?_ | refine J.c0 rfl (C.stA (i := 13) (vs := [_, _, _, _, _]) Try.sizeOf41 rfl rfl rfl rfl rfl rfl) ?_ | refine J.c0 rfl (C.stA (i := 14) (vs := [_, _, _, _, _]) Try.sizeOf41 rfl rfl rfl rfl rfl rfl) ?_ | refine J.c0 rfl (C.stA (i := 15) (vs := [_, _, _, _, _]) Try.sizeOf41 rfl rfl rfl rfl rfl rfl) ?_
      rintro _ _ ⟨rfl, rfl⟩
      refine J.nil ?_
      refine J.then_n ?_
      refine J.cret ?_
      refine J.then_r ?_
      refine J.shut [1, 2, 3, 4] (BktAt m M) rfl (fun h s => ⟨z, s⟩) ?_
      refine J.retC [0, 1, 4, 5] (vs := [_, _, _, _, _]) rfl rfl Try.isAgg41 Try.sizeOf41 (ReadsN.pt 2 rfl) rfl (B := [_, _, _]) ⟨_, rfl, hy, rfl⟩
  ·
    first | replace hc14 := X.tt_dec hc14 | replace hc14 := X.tt_not hc14 | replace hc14 := X.ff_dec hc14 | replace hc14 := X.ff_not hc14 | skip
    try (first | (cases hc14; done) | (exfalso; simp at hc14; done))
    all_goals
      refine J.cond_f rfl ?_
      refine J.cskip ?_
      refine J.then_n ?_
      refine J.seq ?_
      refine J.keep [0, 7, 1, 2, 3, 4, 5, 6, 8, 9] rfl ?_
      refine J.drawE [8, 9] 2 Try.mixed (by kernel_rfl) rfl rfl fun hR => ?_
      refine RG.q 0 hR rfl rfl rfl rfl rfl rfl (Q.mv rfl) ?_
      refine RG.q 1 hR rfl rfl rfl rfl rfl rfl (Q.nil_ rfl) ?_
      refine RG.q 2 hR rfl rfl rfl rfl rfl rfl (Q.fa (n := 2) Try.runUnderlying80 rfl rfl Try.sizeOf38 rfl) ?_
      refine RG.q 3 hR rfl rfl rfl rfl rfl rfl (Q.ld Try.isAgg38 rfl (by first | exact Reads.pt 0 rfl rfl | exact Reads.pt 1 rfl rfl | exact Reads.pt 2 rfl rfl | exact Reads.pt 3 rfl rfl | exact Reads.pt 4 rfl rfl | exact Reads.pt 5 rfl rfl | exact Reads.pt 6 rfl rfl | exact Reads.pt 7 rfl rfl | exact Reads.pt 8 rfl rfl | exact Reads.pt 9 rfl rfl | exact Reads.pt 10 rfl rfl | exact Reads.pt 11 rfl rfl | exact Reads.pt 12 rfl rfl | exact Reads.pt 13 rfl rfl)) ?_
      refine RG.q 4 hR rfl rfl rfl rfl rfl rfl (Q.fa (n := 5) Try.runUnderlying26 rfl rfl Try.sizeOf3 rfl) ?_
      refine RG.q 5 hR rfl rfl rfl rfl rfl rfl (Q.ld Try.isAgg3 rfl (by first | exact Reads.pt 0 rfl rfl | exact Reads.pt 1 rfl rfl | exact Reads.pt 2 rfl rfl | exact Reads.pt 3 rfl rfl | exact Reads.pt 4 rfl rfl | exact Reads.pt 5 rfl rfl | exact Reads.pt 6 rfl rfl | exact Reads.pt 7 rfl rfl | exact Reads.pt 8 rfl rfl | exact Reads.pt 9 rfl rfl | exact Reads.pt 10 rfl rfl | exact Reads.pt 11 rfl rfl | exact Reads.pt 12 rfl rfl | exact Reads.pt 13 rfl rfl)) ?_
      refine RG.q 6 hR rfl rfl rfl rfl rfl rfl (Q.fa (n := 8) Try.runUnderlying26 rfl rfl Try.sizeOf24 rfl) ?_
      refine RG.q 7 hR rfl rfl rfl rfl rfl rfl (Q.ld Try.isAgg24 rfl (by first | exact Reads.pt 0 rfl rfl | exact Reads.pt 1 rfl rfl | exact Reads.pt 2 rfl rfl | exact Reads.pt 3 rfl rfl | exact Reads.pt 4 rfl rfl | exact Reads.pt 5 rfl rfl | exact Reads.pt 6 rfl rfl | exact Reads.pt 7 rfl rfl | exact Reads.pt 8 rfl rfl | exact Reads.pt 9 rfl rfl | exact Reads.pt 10 rfl rfl | exact Reads.pt 11 rfl rfl | exact Reads.pt 12 rfl rfl | exact Reads.pt 13 rfl rfl)) ?_
      refine RG.callk 8 hR rfl rfl rfl rfl rfl Try.call32 (clone_spec G x.dp x.dc x.o.data hx.data (by omega)) [8] rfl rfl ?_
      rintro _ _ ⟨p24, c24, rfl, rfl⟩
      refine ⟨_, X.pick_perm (is := [2, 3]) rfl, ?_⟩
      refine RG.bar 9 hR rfl rfl rfl rfl rfl rfl (X.G.C.mapPut 4 x.o.data ord3_int hP.1 Try.runUnderlying38 keyI rfl rfl rfl rfl) ?_
      rintro _ _ ⟨rfl, rfl⟩
      refine RG.norm rfl ?_
      refine RG.fin hR rfl ?_
      refine J.norm rfl ?_
      refine J.then_n ?_
      refine J.seq ?_
      refine J.region ?_
      refine J.call Try.call24 (status_spec 200) [] rfl rfl rfl rfl ?_
      rintro _ _ ⟨y, rfl, hy, rfl⟩
      refine J.norm rfl ?_
      first | refine J.c0 rfl (C.stA (i := 0) (vs := [_, _, _, _, _]) Try.sizeOf41 rfl rfl rfl rfl rfl rfl) ?_ | refine J.c0 rfl (C.stA (i := 1) (vs := [_, _, _, _, _]) Try.sizeOf41 rfl rfl rfl rfl rfl rfl) ?_ | refine J.c0 rfl (C.stA (i := 2) (vs := [_, _, _, _, _]) Try.sizeOf41 rfl rfl rfl rfl rfl rfl) ?_ | refine J.c0 rfl (C.stA (i := 3) (vs := [_, _, _, _, _]) Try.sizeOf41 rfl rfl rfl rfl rfl rfl) ?_ | refine J.c0 rfl (C.stA (i := 4) (vs := [_, _, _, _, _]) Try.sizeOf41 rfl rfl rfl rfl rfl rfl) ?_ | refine J.c0 rfl (C.stA (i := 5) (vs := [_, _, _, _, _]) Try.sizeOf41 rfl rfl rfl rfl rfl rfl) ?_ | refine J.c0 rfl (C.stA (i := 6) (vs := [_, _, _, _, _]) Try.sizeOf41 rfl rfl rfl rfl rfl rfl) ?_ | refine J.c0 rfl (C.stA (i := 7) (vs := [_, _, _, _, _]) Try.sizeOf41 rfl rfl rfl rfl rfl rfl) ?_ | refine J.c0 rfl (C.stA (i := 8) (vs := [_, _, _, _, _]) Try.sizeOf41 rfl rfl rfl rfl rfl rfl) ?_ | refine J.c0 rfl (C.stA (i := 9) (vs := [_, _, _, _, _]) Try.sizeOf41 rfl rfl rfl rfl rfl rfl) ?_ | refine J.c0 rfl (C.stA (i := 10) (vs := [_, _, _, _, _]) Try.sizeOf41 rfl rfl rfl rfl rfl rfl) ?_ | refine J.c0 rfl (C.stA (i := 11) (vs := [_, _, _, _, _]) Try.sizeOf41 rfl rfl rfl rfl rfl rfl) ?_ | refine J.c0 rfl (C.stA (i := 12) (vs := [_, _, _, _, _]) Try.sizeOf41 rfl rfl rfl rfl rfl rfl) ?_ | refine J.c0 rfl (C.stA (i := 13) (vs := [_, _, _, _, _]) Try.sizeOf41 rfl rfl rfl rfl rfl rfl) ?_ | refine J.c0 rfl (C.stA (i := 14) (vs := [_, _, _, _, _]) Try.sizeOf41 rfl rfl rfl rfl rfl rfl) ?_ | refine J.c0 rfl (C.stA (i := 15) (vs := [_, _, _, _, _]) Try.sizeOf41 rfl rfl rfl rfl rfl rfl) ?_
      rintro _ _ ⟨rfl, rfl⟩
      refine J.nil ?_
      refine J.then_n ?_
      refine J.cret ?_
      refine J.shut [3] (datRep x.o.n x.o.data (.slice p24 x.o.data.length c24)) rfl (fun h s => ⟨(p24, c24), rfl, s⟩) ?_
      refine J.mapBack 0 5 x.o.data ord3_int (X.G.srtd_put ord3_int hP.1 _ _) rfl ?_
      rw [X.G.sput_put ord3_int hP.1]
      refine J.shut [2, 0] (uRep x.o.upload ⟨u.bucket, u.key, sput ltI x.o.n x.o.data u.parts⟩ (.pointer (some ⟨z2.1, 0, none⟩))) rfl (fun h s => ⟨z2, rfl, s⟩) ?_
      refine J.mapBack 0 4 ⟨u.bucket, u.key, sput ltI x.o.n x.o.data u.parts⟩ ord3_nat hM.us rfl ?_
      refine J.shut [4, 5, 0, 6] (BktAt m { M with uploads := sput ltN x.o.upload ⟨u.bucket, u.key, sput ltI x.o.n x.o.data u.parts⟩ M.uploads }) rfl (fun h s => ⟨z, s⟩) ?_
      refine J.retC [0, 1, 3, 5] (vs := [_, _, _, _, _]) rfl rfl Try.isAgg41 Try.sizeOf41 (ReadsN.pt 4 rfl) rfl (B := [_, _, _]) ⟨_, rfl, hy, rfl⟩
theorem part_yes (hdl : x.o.data.length ≤ 16777216) {u : UM} (hU : sget x.o.upload M.uploads = some u) : FSpec Try.prog 40 [.pointer (some ⟨m, 0, none⟩), .agg x.cells.toArray] [BktAt m M, G] (ActR m G (st 200, { M with uploads := sput ltN x.o.upload ⟨u.bucket, u.key, sput ltI x.o.n x.o.data u.parts⟩ M.uploads })) := by
  have hsm := hx.small
  refine FSpec.of Try.func40 rfl Try.ntmps40 rfl fun W0 F => ?_
  refine J.seq ?_
  refine J.region ?_
  refine J.c rfl rfl (C.box (l := [_, _, _, _, _, _, _, _, _]) rfl rfl) ?_
  rintro _ _ ⟨b3, rfl, rfl⟩
  refine J.norm rfl ?_
  refine J.c rfl rfl (C.alloc (l := [_, _, _, _, _]) Try.zeroValue41 rfl) ?_
  rintro _ _ ⟨b4, rfl, rfl⟩
  refine J.norm rfl ?_
  refine J.nil ?_
  refine J.then_n ?_
  refine J.seq ?_
  try have hP := hM.ps _ _ hU
  refine J.open1 2 rfl (fun _ h => h) fun z => ?_
  refine J.norm rfl ?_
  first
    | (refine J.mapFocus 2 hU rfl fun val => ?_
       refine J.norm rfl ?_
       refine J.open_ 0 rfl rfl (fun _ h => h) fun z2 hz2 => ?_
       subst hz2
       refine J.norm rfl ?_)
    | skip
  refine J.draw [7] Try.mixed (by kernel_rfl) fun hR => ?_
  refine RG.q 0 hR rfl rfl rfl rfl rfl rfl (Q.mv rfl) ?_
  refine RG.q 1 hR rfl rfl rfl rfl rfl rfl (Q.nil_ rfl) ?_
  refine RG.q 2 hR rfl rfl rfl rfl rfl rfl (Q.fa (n := 1) Try.runUnderlying62 rfl rfl Try.sizeOf59 rfl) ?_
  refine RG.q 3 hR rfl rfl rfl rfl rfl rfl (Q.ld Try.isAgg59 rfl (by first | exact Reads.pt 0 rfl rfl | exact Reads.pt 1 rfl rfl | exact Reads.pt 2 rfl rfl | exact Reads.pt 3 rfl rfl | exact Reads.pt 4 rfl rfl | exact Reads.pt 5 rfl rfl | exact Reads.pt 6 rfl rfl | exact Reads.pt 7 rfl rfl | exact Reads.pt 8 rfl rfl | exact Reads.pt 9 rfl rfl | exact Reads.pt 10 rfl rfl | exact Reads.pt 11 rfl rfl | exact Reads.pt 12 rfl rfl | exact Reads.pt 13 rfl rfl)) ?_
  refine RG.q 4 hR rfl rfl rfl rfl rfl rfl (Q.fa (n := 6) Try.runUnderlying26 rfl rfl Try.sizeOf22 rfl) ?_
  refine RG.q 5 hR rfl rfl rfl rfl rfl rfl (Q.ld Try.isAgg22 rfl (by first | exact Reads.pt 0 rfl rfl | exact Reads.pt 1 rfl rfl | exact Reads.pt 2 rfl rfl | exact Reads.pt 3 rfl rfl | exact Reads.pt 4 rfl rfl | exact Reads.pt 5 rfl rfl | exact Reads.pt 6 rfl rfl | exact Reads.pt 7 rfl rfl | exact Reads.pt 8 rfl rfl | exact Reads.pt 9 rfl rfl | exact Reads.pt 10 rfl rfl | exact Reads.pt 11 rfl rfl | exact Reads.pt 12 rfl rfl | exact Reads.pt 13 rfl rfl)) ?_
  refine RG.q 6 hR rfl rfl rfl rfl rfl rfl (by first | exact X.G.Q.lkNo (i := 2) Try.runUnderlying59 keyU Try.zeroValue78 rfl rfl rfl hU | exact X.G.Q.lkYes (i := 2) Try.runUnderlying59 keyU Try.zeroValue78 rfl rfl rfl) ?_
  refine RG.bar 7 hR rfl rfl rfl rfl rfl rfl (Q.asg rfl).toC ?_
  rintro _ _ ⟨rfl, rfl⟩
  refine RG.norm rfl ?_
  refine RG.fin hR rfl ?_
  refine J.norm rfl ?_
  refine J.then_n ?_
  refine J.seq ?_
  refine J.seq ?_
  refine J.region ?_
  refine J.q rfl rfl (Q.mv rfl) ?_
  refine J.q rfl rfl (Q.eqlp Try.runUnderlying78 rfl rfl) ?_
  refine J.nil ?_
  refine J.then_n ?_
  refine J.cases 14 rfl (fun hc14 => ?_) (fun hc14 => ?_)
  ·
    first | replace hc14 := X.tt_dec hc14 | replace hc14 := X.tt_not hc14 | replace hc14 := X.ff_dec hc14 | replace hc14 := X.ff_not hc14 | skip
    try (first | (cases hc14; done) | (exfalso; simp at hc14; done))
    all_goals
      refine J.cond_t rfl ?_
      refine J.seq ?_
      refine J.region ?_
      refine J.call Try.call24 (status_spec 404) [] rfl rfl rfl rfl ?_
      rintro _ _ ⟨y, rfl, hy, rfl⟩
      refine J.norm rfl ?_
      first | refine J.c0 rfl (C.stA (i := 0) (vs := [_, _, _, _, _]) Try.sizeOf41 rfl rfl rfl rfl rfl rfl) ?_ | refine J.c0 rfl (C.stA (i := 1) (vs := [_, _, _, _, _]) Try.sizeOf41 rfl rfl rfl rfl rfl rfl) ?_ | refine J.c0 rfl (C.stA (i := 2) (vs := [_, _, _, _, _]) Try.sizeOf41 rfl rfl rfl rfl rfl rfl) ?_ | refine J.c0 rfl (C.stA (i := 3) (vs := [_, _, _, _, _]) Try.sizeOf41 rfl rfl rfl rfl rfl rfl) ?_ | refine J.c0 rfl (C.stA (i := 4) (vs := [_, _, _, _, _]) Try.sizeOf41 rfl rfl rfl rfl rfl rfl) ?_ | refine J.c0 rfl (C.stA (i := 5) (vs := [_, _, _, _, _]) Try.sizeOf41 rfl rfl rfl rfl rfl rfl) ?_ | refine J.c0 rfl (C.stA (i := 6) (vs := [_, _, _, _, _]) Try.sizeOf41 rfl rfl rfl rfl rfl rfl) ?_ | refine J.c0 rfl (C.stA (i := 7) (vs := [_, _, _, _, _]) Try.sizeOf41 rfl rfl rfl rfl rfl rfl) ?_ | refine J.c0 rfl (C.stA (i := 8) (vs := [_, _, _, _, _]) Try.sizeOf41 rfl rfl rfl rfl rfl rfl) ?_ | refine J.c0 rfl (C.stA (i := 9) (vs := [_, _, _, _, _]) Try.sizeOf41 rfl rfl rfl rfl rfl rfl) ?_ | refine J.c0 rfl (C.stA (i := 10) (vs := [_, _, _, _, _]) Try.sizeOf41 rfl rfl rfl rfl rfl rfl) ?_ | refine J.c0 rfl (C.stA (i := 11) (vs := [_, _, _, _, _]) Try.sizeOf41 rfl rfl rfl rfl rfl rfl) ?_ | refine J.c0 rfl (C.stA (i := 12) (vs := [_, _, _, _, _]) Try.sizeOf41 rfl rfl rfl rfl rfl rfl) ?_ | refine J.c0 rfl (C.stA (i := 13) (vs := [_, _, _, _, _]) Try.sizeOf41 rfl rfl rfl rfl rfl rfl) ?_ | refine J.c0 rfl (C.stA (i := 14) (vs := [_, _, _, _, _]) Try.sizeOf41 rfl rfl rfl rfl rfl rfl) ?_ | refine J.c0 rfl (C.stA (i := 15) (vs := [_, _, _, _, _]) Try.sizeOf41 rfl rfl rfl rfl rfl rfl) ?_
      rintro _ _ ⟨rfl, rfl⟩
      refine J.nil ?_
      refine J.then_n ?_
      refine J.cret ?_
      refine J.then_r ?_
      refine J.shut [1, 2, 3, 4] (BktAt m M) rfl (fun h s => ⟨z, s⟩) ?_
      refine J.retC [0, 1, 4, 5] (vs := [_, _, _, _, _]) rfl rfl Try.isAgg41 Try.sizeOf41 (ReadsN.pt 2 rfl) rfl (B := [_, _, _]) ⟨_, rfl, hy, rfl⟩
  ·
    first | replace hc14 := X.tt_dec hc14 | replace hc14 := X.tt_not hc14 | replace hc14 := X.ff_dec hc14 | replace hc14 := X.ff_not hc14 | skip
    try (first | (cases hc14; done) | (exfalso; simp at hc14; done))
    all_goals
      refine J.cond_f rfl ?_
      refine J.cskip ?_
      refine J.then_n ?_
      refine J.seq ?_
      refine J.keep [0, 7, 1, 2, 3, 4, 5, 6, 8, 9] rfl ?_
      refine J.drawE [8, 9] 2 Try.mixed (by kernel_rfl) rfl rfl fun hR => ?_
      refine RG.q 0 hR rfl rfl rfl rfl rfl rfl (Q.mv rfl) ?_
      refine RG.q 1 hR rfl rfl rfl rfl rfl rfl (Q.nil_ rfl) ?_
      refine RG.q 2 hR rfl rfl rfl rfl rfl rfl (Q.fa (n := 2) Try.runUnderlying80 rfl rfl Try.sizeOf38 rfl) ?_
      refine RG.q 3 hR rfl rfl rfl rfl rfl rfl (Q.ld Try.isAgg38 rfl (by first | exact Reads.pt 0 rfl rfl | exact Reads.pt 1 rfl rfl | exact Reads.pt 2 rfl rfl | exact Reads.pt 3 rfl rfl | exact Reads.pt 4 rfl rfl | exact Reads.pt 5 rfl rfl | exact Reads.pt 6 rfl rfl | exact Reads.pt 7 rfl rfl | exact Reads.pt 8 rfl rfl | exact Reads.pt 9 rfl rfl | exact Reads.pt 10 rfl rfl | exact Reads.pt 11 rfl rfl | exact Reads.pt 12 rfl rfl | exact Reads.pt 13 rfl rfl)) ?_
      refine RG.q 4 hR rfl rfl rfl rfl rfl rfl (Q.fa (n := 5) Try.runUnderlying26 rfl rfl Try.sizeOf3 rfl) ?_
      refine RG.q 5 hR rfl rfl rfl rfl rfl rfl (Q.ld Try.isAgg3 rfl (by first | exact Reads.pt 0 rfl rfl | exact Reads.pt 1 rfl rfl | exact Reads.pt 2 rfl rfl | exact Reads.pt 3 rfl rfl | exact Reads.pt 4 rfl rfl | exact Reads.pt 5 rfl rfl | exact Reads.pt 6 rfl rfl | exact Reads.pt 7 rfl rfl | exact Reads.pt 8 rfl rfl | exact Reads.pt 9 rfl rfl | exact Reads.pt 10 rfl rfl | exact Reads.pt 11 rfl rfl | exact Reads.pt 12 rfl rfl | exact Reads.pt 13 rfl rfl)) ?_
      refine RG.q 6 hR rfl rfl rfl rfl rfl rfl (Q.fa (n := 8) Try.runUnderlying26 rfl rfl Try.sizeOf24 rfl) ?_
      refine RG.q 7 hR rfl rfl rfl rfl rfl rfl (Q.ld Try.isAgg24 rfl (by first | exact Reads.pt 0 rfl rfl | exact Reads.pt 1 rfl rfl | exact Reads.pt 2 rfl rfl | exact Reads.pt 3 rfl rfl | exact Reads.pt 4 rfl rfl | exact Reads.pt 5 rfl rfl | exact Reads.pt 6 rfl rfl | exact Reads.pt 7 rfl rfl | exact Reads.pt 8 rfl rfl | exact Reads.pt 9 rfl rfl | exact Reads.pt 10 rfl rfl | exact Reads.pt 11 rfl rfl | exact Reads.pt 12 rfl rfl | exact Reads.pt 13 rfl rfl)) ?_
      refine RG.callk 8 hR rfl rfl rfl rfl rfl Try.call32 (clone_spec G x.dp x.dc x.o.data hx.data (by omega)) [8] rfl rfl ?_
      rintro _ _ ⟨p24, c24, rfl, rfl⟩
      refine ⟨_, X.pick_perm (is := [2, 3]) rfl, ?_⟩
      refine RG.bar 9 hR rfl rfl rfl rfl rfl rfl (X.G.C.mapPut 4 x.o.data ord3_int hP.1 Try.runUnderlying38 keyI rfl rfl rfl rfl) ?_
      rintro _ _ ⟨rfl, rfl⟩
      refine RG.norm rfl ?_
      refine RG.fin hR rfl ?_
      refine J.norm rfl ?_
      refine J.then_n ?_
      refine J.seq ?_
      refine J.region ?_
      refine J.call Try.call24 (status_spec 200) [] rfl rfl rfl rfl ?_
      rintro _ _ ⟨y, rfl, hy, rfl⟩
      refine J.norm rfl ?_
      first | refine J.c0 rfl (C.stA (i := 0) (vs := [_, _, _, _, _]) Try.sizeOf41 rfl rfl rfl rfl rfl rfl) ?_ | refine J.c0 rfl (C.stA (i := 1) (vs := [_, _, _, _, _]) Try.sizeOf41 rfl rfl rfl rfl rfl rfl) ?_ | refine J.c0 rfl (C.stA (i := 2) (vs := [_, _, _, _, _]) Try.sizeOf41 rfl rfl rfl rfl rfl rfl) ?_ | refine J.c0 rfl (C.stA (i := 3) (vs := [_, _, _, _, _]) Try.sizeOf41 rfl rfl rfl rfl rfl rfl) ?_ | refine J.c0 rfl (C.stA (i := 4) (vs := [_, _, _, _, _]) Try.sizeOf41 rfl rfl rfl rfl rfl rfl) ?_ | refine J.c0 rfl (C.stA (i := 5) (vs := [_, _, _, _, _]) Try.sizeOf41 rfl rfl rfl rfl rfl rfl) ?_ | refine J.c0 rfl (C.stA (i := 6) (vs := [_, _, _, _, _]) Try.sizeOf41 rfl rfl rfl rfl rfl rfl) ?_ | refine J.c0 rfl (C.stA (i := 7) (vs := [_, _, _, _, _]) Try.sizeOf41 rfl rfl rfl rfl rfl rfl) ?_ | refine J.c0 rfl (C.stA (i := 8) (vs := [_, _, _, _, _]) Try.sizeOf41 rfl rfl rfl rfl rfl rfl) ?_ | refine J.c0 rfl (C.stA (i := 9) (vs := [_, _, _, _, _]) Try.sizeOf41 rfl rfl rfl rfl rfl rfl) ?_ | refine J.c0 rfl (C.stA (i := 10) (vs := [_, _, _, _, _]) Try.sizeOf41 rfl rfl rfl rfl rfl rfl) ?_ | refine J.c0 rfl (C.stA (i := 11) (vs := [_, _, _, _, _]) Try.sizeOf41 rfl rfl rfl rfl rfl rfl) ?_ | refine J.c0 rfl (C.stA (i := 12) (vs := [_, _, _, _, _]) Try.sizeOf41 rfl rfl rfl rfl rfl rfl) ?_ | refine J.c0 rfl (C.stA (i := 13) (vs := [_, _, _, _, _]) Try.sizeOf41 rfl rfl rfl rfl rfl rfl) ?_ | refine J.c0 rfl (C.stA (i := 14) (vs := [_, _, _, _, _]) Try.sizeOf41 rfl rfl rfl rfl rfl rfl) ?_ | refine J.c0 rfl (C.stA (i := 15) (vs := [_, _, _, _, _]) Try.sizeOf41 rfl rfl rfl rfl rfl rfl) ?_
      rintro _ _ ⟨rfl, rfl⟩
      refine J.nil ?_
      refine J.then_n ?_
      refine J.cret ?_
      refine J.shut [3] (datRep x.o.n x.o.data (.slice p24 x.o.data.length c24)) rfl (fun h s => ⟨(p24, c24), rfl, s⟩) ?_
      refine J.mapBack 0 5 x.o.data ord3_int (X.G.srtd_put ord3_int hP.1 _ _) rfl ?_
      rw [X.G.sput_put ord3_int hP.1]
      refine J.shut [2, 0] (uRep x.o.upload ⟨u.bucket, u.key, sput ltI x.o.n x.o.data u.parts⟩ (.pointer (some ⟨z2.1, 0, none⟩))) rfl (fun h s => ⟨z2, rfl, s⟩) ?_
      refine J.mapBack 0 4 ⟨u.bucket, u.key, sput ltI x.o.n x.o.data u.parts⟩ ord3_nat hM.us rfl ?_
      refine J.shut [4, 5, 0, 6] (BktAt m { M with uploads := sput ltN x.o.upload ⟨u.bucket, u.key, sput ltI x.o.n x.o.data u.parts⟩ M.uploads }) rfl (fun h s => ⟨z, s⟩) ?_
      refine J.retC [0, 1, 3, 5] (vs := [_, _, _, _, _]) rfl rfl Try.isAgg41 Try.sizeOf41 (ReadsN.pt 4 rfl) rfl (B := [_, _, _]) ⟨_, rfl, hy, rfl⟩
theorem part_spec (hdl : x.o.data.length ≤ 16777216) : FSpec Try.prog 40 [.pointer (some ⟨m, 0, none⟩), .agg x.cells.toArray] [BktAt m M, G] (ActR m G (M.part x.o)) := by
  unfold BM.part
  split
  · rename_i hU; exact part_no m M hM x G hx hU
  · rename_i hU; exact part_yes m M hM x G hx hdl hU

theorem abort_no (hU : sget x.o.upload M.uploads = none) : FSpec Try.prog 42 [.pointer (some ⟨m, 0, none⟩), .agg x.cells.toArray] [BktAt m M, G] (ActR m G (st 404, M)) := by
  refine FSpec.of Try.func42 rfl Try.ntmps42 rfl fun W0 F => ?_
  refine J.seq ?_
  refine J.region ?_
  refine J.c rfl rfl (C.box (l := [_, _, _, _, _, _, _, _, _]) rfl rfl) ?_
  rintro _ _ ⟨b3, rfl, rfl⟩
  refine J.norm rfl ?_
  refine J.c rfl rfl (C.alloc (l := [_, _, _, _, _]) Try.zeroValue41 rfl) ?_
  rintro _ _ ⟨b4, rfl, rfl⟩
  refine J.norm rfl ?_
  refine J.nil ?_
  refine J.then_n ?_
  refine J.seq ?_
  refine J.seq ?_
  try have hP := hM.ps _ _ hU
  refine J.open1 2 rfl (fun _ h => h) fun z => ?_
  refine J.norm rfl ?_
  first
    | (refine J.mapFocus 2 hU rfl fun val => ?_
       refine J.norm rfl ?_
       refine J.open_ 0 rfl rfl (fun _ h => h) fun z2 hz2 => ?_
       subst hz2
       refine J.norm rfl ?_)
    | skip
  refine J.draw [] Try.mixed (by kernel_rfl) fun hR => ?_
  refine RG.q 0 hR rfl rfl rfl rfl rfl rfl (Q.mv rfl) ?_
  refine RG.q 1 hR rfl rfl rfl rfl rfl rfl (Q.nil_ rfl) ?_
  refine RG.q 2 hR rfl rfl rfl rfl rfl rfl (Q.fa (n := 1) Try.runUnderlying62 rfl rfl Try.sizeOf59 rfl) ?_
  refine RG.q 3 hR rfl rfl rfl rfl rfl rfl (Q.ld Try.isAgg59 rfl (by first | exact Reads.pt 0 rfl rfl | exact Reads.pt 1 rfl rfl | exact Reads.pt 2 rfl rfl | exact Reads.pt 3 rfl rfl | exact Reads.pt 4 rfl rfl | exact Reads.pt 5 rfl rfl | exact Reads.pt 6 rfl rfl | exact Reads.pt 7 rfl rfl | exact Reads.pt 8 rfl rfl | exact Reads.pt 9 rfl rfl | exact Reads.pt 10 rfl rfl | exact Reads.pt 11 rfl rfl | exact Reads.pt 12 rfl rfl | exact Reads.pt 13 rfl rfl)) ?_
  refine RG.q 4 hR rfl rfl rfl rfl rfl rfl (Q.fa (n := 6) Try.runUnderlying26 rfl rfl Try.sizeOf22 rfl) ?_
  refine RG.q 5 hR rfl rfl rfl rfl rfl rfl (Q.ld Try.isAgg22 rfl (by first | exact Reads.pt 0 rfl rfl | exact Reads.pt 1 rfl rfl | exact Reads.pt 2 rfl rfl | exact Reads.pt 3 rfl rfl | exact Reads.pt 4 rfl rfl | exact Reads.pt 5 rfl rfl | exact Reads.pt 6 rfl rfl | exact Reads.pt 7 rfl rfl | exact Reads.pt 8 rfl rfl | exact Reads.pt 9 rfl rfl | exact Reads.pt 10 rfl rfl | exact Reads.pt 11 rfl rfl | exact Reads.pt 12 rfl rfl | exact Reads.pt 13 rfl rfl)) ?_
  refine RG.q 6 hR rfl rfl rfl rfl rfl rfl (by first | exact X.G.Q.lkNo (i := 2) Try.runUnderlying59 keyU Try.zeroValue78 rfl rfl rfl hU | exact X.G.Q.lkYes (i := 2) Try.runUnderlying59 keyU Try.zeroValue78 rfl rfl rfl) ?_
  refine RG.q 7 hR rfl rfl rfl rfl rfl rfl (Q.eqlp Try.runUnderlying78 rfl rfl) ?_
  refine RG.fin hR rfl ?_
  refine J.norm rfl ?_
  refine J.then_n ?_
  refine J.cases 12 rfl (fun hc12 => ?_) (fun hc12 => ?_)
  ·
    first | replace hc12 := X.tt_dec hc12 | replace hc12 := X.tt_not hc12 | replace hc12 := X.ff_dec hc12 | replace hc12 := X.ff_not hc12 | skip
    try (first | (cases hc12; done) | (exfalso; simp at hc12; done))
    all_goals
      refine J.cond_t rfl ?_
      refine J.seq ?_
      refine J.region ?_
      refine J.call Try.call24 (status_spec 404) [] rfl rfl rfl rfl ?_
      rintro _ _ ⟨y, rfl, hy, rfl⟩
      refine J.norm rfl ?_
      first | refine J.c0 rfl (C.stA (i := 0) (vs := [_, _, _, _, _]) Try.sizeOf41 rfl rfl rfl rfl rfl rfl) ?_ | refine J.c0 rfl (C.stA (i := 1) (vs := [_, _, _, _, _]) Try.sizeOf41 rfl rfl rfl rfl rfl rfl) ?_ | refine J.c0 rfl (C.stA (i := 2) (vs := [_, _, _, _, _]) Try.sizeOf41 rfl rfl rfl rfl rfl rfl) ?_ | refine J.c0 rfl (C.stA (i := 3) (vs := [_, _, _, _, _]) Try.sizeOf41 rfl rfl rfl rfl rfl rfl) ?_ | refine J.c0 rfl (C.stA (i := 4) (vs := [_, _, _, _, _]) Try.sizeOf41 rfl rfl rfl rfl rfl rfl) ?_ | refine J.c0 rfl (C.stA (i := 5) (vs := [_, _, _, _, _]) Try.sizeOf41 rfl rfl rfl rfl rfl rfl) ?_ | refine J.c0 rfl (C.stA (i := 6) (vs := [_, _, _, _, _]) Try.sizeOf41 rfl rfl rfl rfl rfl rfl) ?_ | refine J.c0 rfl (C.stA (i := 7) (vs := [_, _, _, _, _]) Try.sizeOf41 rfl rfl rfl rfl rfl rfl) ?_ | refine J.c0 rfl (C.stA (i := 8) (vs := [_, _, _, _, _]) Try.sizeOf41 rfl rfl rfl rfl rfl rfl) ?_ | refine J.c0 rfl (C.stA (i := 9) (vs := [_, _, _, _, _]) Try.sizeOf41 rfl rfl rfl rfl rfl rfl) ?_ | refine J.c0 rfl (C.stA (i := 10) (vs := [_, _, _, _, _]) Try.sizeOf41 rfl rfl rfl rfl rfl rfl) ?_ | refine J.c0 rfl (C.stA (i := 11) (vs := [_, _, _, _, _]) Try.sizeOf41 rfl rfl rfl rfl rfl rfl) ?_ | refine J.c0 rfl (C.stA (i := 12) (vs := [_, _, _, _, _]) Try.sizeOf41 rfl rfl rfl rfl rfl rfl) ?_ | refine J.c0 rfl (C.stA (i := 13) (vs := [_, _, _, _, _]) Try.sizeOf41 rfl rfl rfl rfl rfl rfl) ?_ | refine J.c0 rfl (C.stA (i := 14) (vs := [_, _, _, _, _]) Try.sizeOf41 rfl rfl rfl rfl rfl rfl) ?_ | refine J.c0 rfl (C.stA (i := 15) (vs := [_, _, _, _, _]) Try.sizeOf41 rfl rfl rfl rfl rfl rfl) ?_
      rintro _ _ ⟨rfl, rfl⟩
      refine J.nil ?_
      refine J.then_n ?_
      refine J.cret ?_
      refine J.then_r ?_
      refine J.shut [1, 2, 3, 4] (BktAt m M) rfl (fun h s => ⟨z, s⟩) ?_
      refine J.retC [0, 1, 4, 5] (vs := [_, _, _, _, _]) rfl rfl Try.isAgg41 Try.sizeOf41 (ReadsN.pt 2 rfl) rfl (B := [_, _, _]) ⟨_, rfl, hy, rfl⟩
  ·
    first | replace hc12 := X.tt_dec hc12 | replace hc12 := X.tt_not hc12 | replace hc12 := X.ff_dec hc12 | replace hc12 := X.ff_not hc12 | skip
    try (first | (cases hc12; done) | (exfalso; simp at hc12; done))
    all_goals
      refine J.cond_f rfl ?_
      refine J.cskip ?_
      refine J.then_n ?_
      refine J.seq ?_
      refine J.shut [0, 1] (uRep x.o.upload u (.pointer (some ⟨z2.1, 0, none⟩))) rfl (fun h s => ⟨z2, rfl, s⟩) ?_
      refine J.mapSame 0 1 ord3_nat hM.us hU rfl ?_
      refine J.draw [6] Try.mixed (by kernel_rfl) fun hR => ?_
      refine RG.q 0 hR rfl rfl rfl rfl rfl rfl (Q.mv rfl) ?_
      refine RG.q 1 hR rfl rfl rfl rfl rfl rfl (Q.nil_ rfl) ?_
      refine RG.q 2 hR rfl rfl rfl rfl rfl rfl (Q.fa (n := 1) Try.runUnderlying62 rfl rfl Try.sizeOf59 rfl) ?_
      refine RG.q 3 hR rfl rfl rfl rfl rfl rfl (Q.ld Try.isAgg59 rfl (by first | exact Reads.pt 0 rfl rfl | exact Reads.pt 1 rfl rfl | exact Reads.pt 2 rfl rfl | exact Reads.pt 3 rfl rfl | exact Reads.pt 4 rfl rfl | exact Reads.pt 5 rfl rfl | exact Reads.pt 6 rfl rfl | exact Reads.pt 7 rfl rfl | exact Reads.pt 8 rfl rfl | exact Reads.pt 9 rfl rfl | exact Reads.pt 10 rfl rfl | exact Reads.pt 11 rfl rfl | exact Reads.pt 12 rfl rfl | exact Reads.pt 13 rfl rfl)) ?_
      refine RG.q 4 hR rfl rfl rfl rfl rfl rfl (Q.fa (n := 6) Try.runUnderlying26 rfl rfl Try.sizeOf22 rfl) ?_
      refine RG.q 5 hR rfl rfl rfl rfl rfl rfl (Q.ld Try.isAgg22 rfl (by first | exact Reads.pt 0 rfl rfl | exact Reads.pt 1 rfl rfl | exact Reads.pt 2 rfl rfl | exact Reads.pt 3 rfl rfl | exact Reads.pt 4 rfl rfl | exact Reads.pt 5 rfl rfl | exact Reads.pt 6 rfl rfl | exact Reads.pt 7 rfl rfl | exact Reads.pt 8 rfl rfl | exact Reads.pt 9 rfl rfl | exact Reads.pt 10 rfl rfl | exact Reads.pt 11 rfl rfl | exact Reads.pt 12 rfl rfl | exact Reads.pt 13 rfl rfl)) ?_
      refine RG.bar 6 hR rfl rfl rfl rfl rfl rfl (X.G.C.mapDel 0 Try.runUnderlying59 keyU rfl rfl) ?_
      rintro _ _ ⟨rfl, rfl⟩
      refine RG.norm rfl ?_
      refine RG.fin hR rfl ?_
      refine J.norm rfl ?_
      refine J.then_n ?_
      refine J.seq ?_
      refine J.region ?_
      refine J.call Try.call24 (status_spec 200) [] rfl rfl rfl rfl ?_
      rintro _ _ ⟨y, rfl, hy, rfl⟩
      refine J.norm rfl ?_
      first | refine J.c0 rfl (C.stA (i := 0) (vs := [_, _, _, _, _]) Try.sizeOf41 rfl rfl rfl rfl rfl rfl) ?_ | refine J.c0 rfl (C.stA (i := 1) (vs := [_, _, _, _, _]) Try.sizeOf41 rfl rfl rfl rfl rfl rfl) ?_ | refine J.c0 rfl (C.stA (i := 2) (vs := [_, _, _, _, _]) Try.sizeOf41 rfl rfl rfl rfl rfl rfl) ?_ | refine J.c0 rfl (C.stA (i := 3) (vs := [_, _, _, _, _]) Try.sizeOf41 rfl rfl rfl rfl rfl rfl) ?_ | refine J.c0 rfl (C.stA (i := 4) (vs := [_, _, _, _, _]) Try.sizeOf41 rfl rfl rfl rfl rfl rfl) ?_ | refine J.c0 rfl (C.stA (i := 5) (vs := [_, _, _, _, _]) Try.sizeOf41 rfl rfl rfl rfl rfl rfl) ?_ | refine J.c0 rfl (C.stA (i := 6) (vs := [_, _, _, _, _]) Try.sizeOf41 rfl rfl rfl rfl rfl rfl) ?_ | refine J.c0 rfl (C.stA (i := 7) (vs := [_, _, _, _, _]) Try.sizeOf41 rfl rfl rfl rfl rfl rfl) ?_ | refine J.c0 rfl (C.stA (i := 8) (vs := [_, _, _, _, _]) Try.sizeOf41 rfl rfl rfl rfl rfl rfl) ?_ | refine J.c0 rfl (C.stA (i := 9) (vs := [_, _, _, _, _]) Try.sizeOf41 rfl rfl rfl rfl rfl rfl) ?_ | refine J.c0 rfl (C.stA (i := 10) (vs := [_, _, _, _, _]) Try.sizeOf41 rfl rfl rfl rfl rfl rfl) ?_ | refine J.c0 rfl (C.stA (i := 11) (vs := [_, _, _, _, _]) Try.sizeOf41 rfl rfl rfl rfl rfl rfl) ?_ | refine J.c0 rfl (C.stA (i := 12) (vs := [_, _, _, _, _]) Try.sizeOf41 rfl rfl rfl rfl rfl rfl) ?_ | refine J.c0 rfl (C.stA (i := 13) (vs := [_, _, _, _, _]) Try.sizeOf41 rfl rfl rfl rfl rfl rfl) ?_ | refine J.c0 rfl (C.stA (i := 14) (vs := [_, _, _, _, _]) Try.sizeOf41 rfl rfl rfl rfl rfl rfl) ?_ | refine J.c0 rfl (C.stA (i := 15) (vs := [_, _, _, _, _]) Try.sizeOf41 rfl rfl rfl rfl rfl rfl) ?_
      rintro _ _ ⟨rfl, rfl⟩
      refine J.nil ?_
      refine J.then_n ?_
      refine J.cret ?_
      refine J.shut [2, 3, 1, 4] (BktAt m { M with uploads := sdel x.o.upload M.uploads }) rfl (fun h s => ⟨z, s⟩) ?_
      refine J.retC [0, 1, 4, 5] (vs := [_, _, _, _, _]) rfl rfl Try.isAgg41 Try.sizeOf41 (ReadsN.pt 2 rfl) rfl (B := [_, _, _]) ⟨_, rfl, hy, rfl⟩
theorem abort_yes {u : UM} (hU : sget x.o.upload M.uploads = some u) : FSpec Try.prog 42 [.pointer (some ⟨m, 0, none⟩), .agg x.cells.toArray] [BktAt m M, G] (ActR m G (st 200, { M with uploads := sdel x.o.upload M.uploads })) := by
  refine FSpec.of Try.func42 rfl Try.ntmps42 rfl fun W0 F => ?_
  refine J.seq ?_
  refine J.region ?_
  refine J.c rfl rfl (C.box (l := [_, _, _, _, _, _, _, _, _]) rfl rfl) ?_
  rintro _ _ ⟨b3, rfl, rfl⟩
  refine J.norm rfl ?_
  refine J.c rfl rfl (C.alloc (l := [_, _, _, _, _]) Try.zeroValue41 rfl) ?_
  rintro _ _ ⟨b4, rfl, rfl⟩
  refine J.norm rfl ?_
  refine J.nil ?_
  refine J.then_n ?_
  refine J.seq ?_
  refine J.seq ?_
  try have hP := hM.ps _ _ hU
  refine J.open1 2 rfl (fun _ h => h) fun z => ?_
  refine J.norm rfl ?_
  first
    | (refine J.mapFocus 2 hU rfl fun val => ?_
       refine J.norm rfl ?_
       refine J.open_ 0 rfl rfl (fun _ h => h) fun z2 hz2 => ?_
       subst hz2
       refine J.norm rfl ?_)
    | skip
  refine J.draw [] Try.mixed (by kernel_rfl) fun hR => ?_
  refine RG.q 0 hR rfl rfl rfl rfl rfl rfl (Q.mv rfl) ?_
  refine RG.q 1 hR rfl rfl rfl rfl rfl rfl (Q.nil_ rfl) ?_
  refine RG.q 2 hR rfl rfl rfl rfl rfl rfl (Q.fa (n := 1) Try.runUnderlying62 rfl rfl Try.sizeOf59 rfl) ?_
  refine RG.q 3 hR rfl rfl rfl rfl rfl rfl (Q.ld Try.isAgg59 rfl (by first | exact Reads.pt 0 rfl rfl | exact Reads.pt 1 rfl rfl | exact Reads.pt 2 rfl rfl | exact Reads.pt 3 rfl rfl | exact Reads.pt 4 rfl rfl | exact Reads.pt 5 rfl rfl | exact Reads.pt 6 rfl rfl | exact Reads.pt 7 rfl rfl | exact Reads.pt 8 rfl rfl | exact Reads.pt 9 rfl rfl | exact Reads.pt 10 rfl rfl | exact Reads.pt 11 rfl rfl | exact Reads.pt 12 rfl rfl | exact Reads.pt 13 rfl rfl)) ?_
  refine RG.q 4 hR rfl rfl rfl rfl rfl rfl (Q.fa (n := 6) Try.runUnderlying26 rfl rfl Try.sizeOf22 rfl) ?_
  refine RG.q 5 hR rfl rfl rfl rfl rfl rfl (Q.ld Try.isAgg22 rfl (by first | exact Reads.pt 0 rfl rfl | exact Reads.pt 1 rfl rfl | exact Reads.pt 2 rfl rfl | exact Reads.pt 3 rfl rfl | exact Reads.pt 4 rfl rfl | exact Reads.pt 5 rfl rfl | exact Reads.pt 6 rfl rfl | exact Reads.pt 7 rfl rfl | exact Reads.pt 8 rfl rfl | exact Reads.pt 9 rfl rfl | exact Reads.pt 10 rfl rfl | exact Reads.pt 11 rfl rfl | exact Reads.pt 12 rfl rfl | exact Reads.pt 13 rfl rfl)) ?_
  refine RG.q 6 hR rfl rfl rfl rfl rfl rfl (by first | exact X.G.Q.lkNo (i := 2) Try.runUnderlying59 keyU Try.zeroValue78 rfl rfl rfl hU | exact X.G.Q.lkYes (i := 2) Try.runUnderlying59 keyU Try.zeroValue78 rfl rfl rfl) ?_
  refine RG.q 7 hR rfl rfl rfl rfl rfl rfl (Q.eqlp Try.runUnderlying78 rfl rfl) ?_
  refine RG.fin hR rfl ?_
  refine J.norm rfl ?_
  refine J.then_n ?_
  refine J.cases 12 rfl (fun hc12 => ?_) (fun hc12 => ?_)
  ·
    first | replace hc12 := X.tt_dec hc12 | replace hc12 := X.tt_not hc12 | replace hc12 := X.ff_dec hc12 | replace hc12 := X.ff_not hc12 | skip
    try (first | (cases hc12; done) | (exfalso; simp at hc12; done))
    all_goals
      refine J.cond_t rfl ?_
      refine J.seq ?_
      refine J.region ?_
      refine J.call Try.call24 (status_spec 404) [] rfl rfl rfl rfl ?_
      rintro _ _ ⟨y, rfl, hy, rfl⟩
      refine J.norm rfl ?_
      first | refine J.c0 rfl (C.stA (i := 0) (vs := [_, _, _, _, _]) Try.sizeOf41 rfl rfl rfl rfl rfl rfl) ?_ | refine J.c0 rfl (C.stA (i := 1) (vs := [_, _, _, _, _]) Try.sizeOf41 rfl rfl rfl rfl rfl rfl) ?_ | refine J.c0 rfl (C.stA (i := 2) (vs := [_, _, _, _, _]) Try.sizeOf41 rfl rfl rfl rfl rfl rfl) ?_ | refine J.c0 rfl (C.stA (i := 3) (vs := [_, _, _, _, _]) Try.sizeOf41 rfl rfl rfl rfl rfl rfl) ?_ | refine J.c0 rfl (C.stA (i := 4) (vs := [_, _, _, _, _]) Try.sizeOf41 rfl rfl rfl rfl rfl rfl) ?_ | refine J.c0 rfl (C.stA (i := 5) (vs := [_, _, _, _, _]) Try.sizeOf41 rfl rfl rfl rfl rfl rfl) ?_ | refine J.c0 rfl (C.stA (i := 6) (vs := [_, _, _, _, _]) Try.sizeOf41 rfl rfl rfl rfl rfl rfl) ?_ | refine J.c0 rfl (C.stA (i := 7) (vs := [_, _, _, _, _]) Try.sizeOf41 rfl rfl rfl rfl rfl rfl) ?_ | refine J.c0 rfl (C.stA (i := 8) (vs := [_, _, _, _, _]) Try.sizeOf41 rfl rfl rfl rfl rfl rfl) ?_ | refine J.c0 rfl (C.stA (i := 9) (vs := [_, _, _, _, _]) Try.sizeOf41 rfl rfl rfl rfl rfl rfl) ?_ | refine J.c0 rfl (C.stA (i := 10) (vs := [_, _, _, _, _]) Try.sizeOf41 rfl rfl rfl rfl rfl rfl) ?_ | refine J.c0 rfl (C.stA (i := 11) (vs := [_, _, _, _, _]) Try.sizeOf41 rfl rfl rfl rfl rfl rfl) ?_ | refine J.c0 rfl (C.stA (i := 12) (vs := [_, _, _, _, _]) Try.sizeOf41 rfl rfl rfl rfl rfl rfl) ?_ | refine J.c0 rfl (C.stA (i := 13) (vs := [_, _, _, _, _]) Try.sizeOf41 rfl rfl rfl rfl rfl rfl) ?_ | refine J.c0 rfl (C.stA (i := 14) (vs := [_, _, _, _, _]) Try.sizeOf41 rfl rfl rfl rfl rfl rfl) ?_ | refine J.c0 rfl (C.stA (i := 15) (vs := [_, _, _, _, _]) Try.sizeOf41 rfl rfl rfl rfl rfl rfl) ?_
      rintro _ _ ⟨rfl, rfl⟩
      refine J.nil ?_
      refine J.then_n ?_
      refine J.cret ?_
      refine J.then_r ?_
      refine J.shut [1, 2, 3, 4] (BktAt m M) rfl (fun h s => ⟨z, s⟩) ?_
      refine J.retC [0, 1, 4, 5] (vs := [_, _, _, _, _]) rfl rfl Try.isAgg41 Try.sizeOf41 (ReadsN.pt 2 rfl) rfl (B := [_, _, _]) ⟨_, rfl, hy, rfl⟩
  ·
    first | replace hc12 := X.tt_dec hc12 | replace hc12 := X.tt_not hc12 | replace hc12 := X.ff_dec hc12 | replace hc12 := X.ff_not hc12 | skip
    try (first | (cases hc12; done) | (exfalso; simp at hc12; done))
    all_goals
      refine J.cond_f rfl ?_
      refine J.cskip ?_
      refine J.then_n ?_
      refine J.seq ?_
      refine J.shut [0, 1] (uRep x.o.upload u (.pointer (some ⟨z2.1, 0, none⟩))) rfl (fun h s => ⟨z2, rfl, s⟩) ?_
      refine J.mapSame 0 1 ord3_nat hM.us hU rfl ?_
      refine J.draw [6] Try.mixed (by kernel_rfl) fun hR => ?_
      refine RG.q 0 hR rfl rfl rfl rfl rfl rfl (Q.mv rfl) ?_
      refine RG.q 1 hR rfl rfl rfl rfl rfl rfl (Q.nil_ rfl) ?_
      refine RG.q 2 hR rfl rfl rfl rfl rfl rfl (Q.fa (n := 1) Try.runUnderlying62 rfl rfl Try.sizeOf59 rfl) ?_
      refine RG.q 3 hR rfl rfl rfl rfl rfl rfl (Q.ld Try.isAgg59 rfl (by first | exact Reads.pt 0 rfl rfl | exact Reads.pt 1 rfl rfl | exact Reads.pt 2 rfl rfl | exact Reads.pt 3 rfl rfl | exact Reads.pt 4 rfl rfl | exact Reads.pt 5 rfl rfl | exact Reads.pt 6 rfl rfl | exact Reads.pt 7 rfl rfl | exact Reads.pt 8 rfl rfl | exact Reads.pt 9 rfl rfl | exact Reads.pt 10 rfl rfl | exact Reads.pt 11 rfl rfl | exact Reads.pt 12 rfl rfl | exact Reads.pt 13 rfl rfl)) ?_
      refine RG.q 4 hR rfl rfl rfl rfl rfl rfl (Q.fa (n := 6) Try.runUnderlying26 rfl rfl Try.sizeOf22 rfl) ?_
      refine RG.q 5 hR rfl rfl rfl rfl rfl rfl (Q.ld Try.isAgg22 rfl (by first | exact Reads.pt 0 rfl rfl | exact Reads.pt 1 rfl rfl | exact Reads.pt 2 rfl rfl | exact Reads.pt 3 rfl rfl | exact Reads.pt 4 rfl rfl | exact Reads.pt 5 rfl rfl | exact Reads.pt 6 rfl rfl | exact Reads.pt 7 rfl rfl | exact Reads.pt 8 rfl rfl | exact Reads.pt 9 rfl rfl | exact Reads.pt 10 rfl rfl | exact Reads.pt 11 rfl rfl | exact Reads.pt 12 rfl rfl | exact Reads.pt 13 rfl rfl)) ?_
      refine RG.bar 6 hR rfl rfl rfl rfl rfl rfl (X.G.C.mapDel 0 Try.runUnderlying59 keyU rfl rfl) ?_
      rintro _ _ ⟨rfl, rfl⟩
      refine RG.norm rfl ?_
      refine RG.fin hR rfl ?_
      refine J.norm rfl ?_
      refine J.then_n ?_
      refine J.seq ?_
      refine J.region ?_
      refine J.call Try.call24 (status_spec 200) [] rfl rfl rfl rfl ?_
      rintro _ _ ⟨y, rfl, hy, rfl⟩
      refine J.norm rfl ?_
      first | refine J.c0 rfl (C.stA (i := 0) (vs := [_, _, _, _, _]) Try.sizeOf41 rfl rfl rfl rfl rfl rfl) ?_ | refine J.c0 rfl (C.stA (i := 1) (vs := [_, _, _, _, _]) Try.sizeOf41 rfl rfl rfl rfl rfl rfl) ?_ | refine J.c0 rfl (C.stA (i := 2) (vs := [_, _, _, _, _]) Try.sizeOf41 rfl rfl rfl rfl rfl rfl) ?_ | refine J.c0 rfl (C.stA (i := 3) (vs := [_, _, _, _, _]) Try.sizeOf41 rfl rfl rfl rfl rfl rfl) ?_ | refine J.c0 rfl (C.stA (i := 4) (vs := [_, _, _, _, _]) Try.sizeOf41 rfl rfl rfl rfl rfl rfl) ?_ | refine J.c0 rfl (C.stA (i := 5) (vs := [_, _, _, _, _]) Try.sizeOf41 rfl rfl rfl rfl rfl rfl) ?_ | refine J.c0 rfl (C.stA (i := 6) (vs := [_, _, _, _, _]) Try.sizeOf41 rfl rfl rfl rfl rfl rfl) ?_ | refine J.c0 rfl (C.stA (i := 7) (vs := [_, _, _, _, _]) Try.sizeOf41 rfl rfl rfl rfl rfl rfl) ?_ | refine J.c0 rfl (C.stA (i := 8) (vs := [_, _, _, _, _]) Try.sizeOf41 rfl rfl rfl rfl rfl rfl) ?_ | refine J.c0 rfl (C.stA (i := 9) (vs := [_, _, _, _, _]) Try.sizeOf41 rfl rfl rfl rfl rfl rfl) ?_ | refine J.c0 rfl (C.stA (i := 10) (vs := [_, _, _, _, _]) Try.sizeOf41 rfl rfl rfl rfl rfl rfl) ?_ | refine J.c0 rfl (C.stA (i := 11) (vs := [_, _, _, _, _]) Try.sizeOf41 rfl rfl rfl rfl rfl rfl) ?_ | refine J.c0 rfl (C.stA (i := 12) (vs := [_, _, _, _, _]) Try.sizeOf41 rfl rfl rfl rfl rfl rfl) ?_ | refine J.c0 rfl (C.stA (i := 13) (vs := [_, _, _, _, _]) Try.sizeOf41 rfl rfl rfl rfl rfl rfl) ?_ | refine J.c0 rfl (C.stA (i := 14) (vs := [_, _, _, _, _]) Try.sizeOf41 rfl rfl rfl rfl rfl rfl) ?_ | refine J.c0 rfl (C.stA (i := 15) (vs := [_, _, _, _, _]) Try.sizeOf41 rfl rfl rfl rfl rfl rfl) ?_
      rintro _ _ ⟨rfl, rfl⟩
      refine J.nil ?_
      refine J.then_n ?_
      refine J.cret ?_
      refine J.shut [2, 3, 1, 4] (BktAt m { M with uploads := sdel x.o.upload M.uploads }) rfl (fun h s => ⟨z, s⟩) ?_
      refine J.retC [0, 1, 4, 5] (vs := [_, _, _, _, _]) rfl rfl Try.isAgg41 Try.sizeOf41 (ReadsN.pt 2 rfl) rfl (B := [_, _, _]) ⟨_, rfl, hy, rfl⟩
theorem abort_spec : FSpec Try.prog 42 [.pointer (some ⟨m, 0, none⟩), .agg x.cells.toArray] [BktAt m M, G] (ActR m G (M.abort x.o)) := by
  unfold BM.abort
  split
  · rename_i hU; exact abort_no m M hM x G hx hU
  · rename_i hU; exact abort_yes m M hM x G hx hU
end
end Go.Proofs.Ytdancegklkifaaa
