/-
  What the proof of the last of these texts leans on: part 3 of 6.
-/
import Derived.KernelRfl
import Derived.RangeFuncRecord
import Derived.RangeFuncIn
import Derived.RangeFuncLeaves
import Derived.RangeFuncSeq
import Derived.TacticsIn
import Derived.Test.YtidbcaimgahllaaGreatNb2
namespace Go.Proofs.YtidbcaimgahllaaGreat
set_option linter.unusedSectionVars false
set_option linter.unusedSimpArgs false
set_option linter.unusedVariables false
open Go.X
open Go.X.G (Ord3 ord3_nat ord3_int ord3_str ltB sget sput sdel Srtd MapAt MapHole plainRep)

abbrev ltN : Nat → Nat → Bool := fun a b => decide (a < b)
abbrev ltI : Int → Int → Bool := fun a b => decide (a < b)
abbrev Objs := List (ByteArray × List UInt8)
abbrev Parts := List (Int × List UInt8)

structure UM where
  bucket : ByteArray
  key : ByteArray
  parts : Parts

structure BM where
  buckets : List (ByteArray × Objs)
  uploads : List (Nat × UM)
  done : List (Nat × RM)

structure BM.ok (k : Nat) (M : BM) : Prop where
  bs : Srtd ltB M.buckets
  os : ∀ n o, sget n M.buckets = some o → Srtd ltB o ∧ o.length ≤ k ∧ ∀ a d, sget a o = some d → d.length ≤ 274877906944
  us : Srtd ltN M.uploads
  ps : ∀ n u, sget n M.uploads = some u → Srtd ltI u.parts ∧ (sget u.bucket M.buckets).isSome = true ∧ ∀ a d, sget a u.parts = some d → d.length ≤ 16777216
  ds : Srtd ltN M.done
  rs : ∀ n r, sget n M.done = some r → r.keys.length ≤ 1000 ∧ r.data.length ≤ 274877906944
  len : M.buckets.length ≤ k ∧ M.uploads.length ≤ k ∧ M.done.length ≤ k

theorem BM.ok.new : BM.ok 0 ⟨[], [], []⟩ := ⟨List.Pairwise.nil, (fun _ _ h => by cases h), List.Pairwise.nil, (fun _ _ h => by cases h), List.Pairwise.nil, (fun _ _ h => by cases h), by simp⟩

def encU (n : Nat) : Value := .int .u64 n
theorem keyS : X.G.Keyed Tryz.prog 9 Value.string := X.G.keyed_str Tryz.runUnderlying9
theorem keyU : X.G.Keyed Tryz.prog 40 encU := X.G.keyed_nat .u64 Tryz.runUnderlying40
theorem keyI : X.G.Keyed Tryz.prog 3 (Value.int .i64) := X.G.keyed_int .i64 Tryz.runUnderlying3

def datRep {κ : Type} (_ : κ) (bs : List UInt8) (val : Value) : Assn := fun h => ∃ z : Option Addr × Nat, val = .slice z.1 bs.length z.2 ∧ HSat h [own 5 1 (.slice z.1 bs.length z.2) (bytesV bs)]
def bRep (_ : ByteArray) (o : Objs) (val : Value) : Assn := fun h => ∃ r : Nat, val = .map (some r) ∧ HSat h [MapAt Value.string datRep r o]
def uRep (_ : Nat) (u : UM) (val : Value) : Assn := fun h => ∃ z : Nat × Nat, val = .pointer (some ⟨z.1, 0, none⟩) ∧ HSat h [pt z.1 (.cells [.string u.bucket, .string u.key, .map (some z.2)].toArray 183 (0, 0)), MapAt (Value.int .i64) datRep z.2 u.parts]
def dRep (_ : Nat) (r : RM) (val : Value) : Assn := fun h => ∃ x : RW, (x.r = r ∧ val = .agg x.cells.toArray) ∧ HSat h [x.asn]

def bktAsns (m : Nat) (M : BM) (z : Nat × Nat × Nat) : List Assn :=
  [pt m (.cells [.map (some z.1), .map (some z.2.1), .map (some z.2.2)].toArray 167 (0, 0)), MapAt Value.string bRep z.1 M.buckets, MapAt encU uRep z.2.1 M.uploads, MapAt encU dRep z.2.2 M.done]
def BktAt (m : Nat) (M : BM) : Assn := fun h => ∃ z : Nat × Nat × Nat, HSat h (bktAsns m M z)

theorem new_spec : FSpec Tryz.prog 50 [] [] (fun v B => ∃ m, v = .pointer (some ⟨m, 0, none⟩) ∧ B = [BktAt m ⟨[], [], []⟩]) := by
  refine FSpec.of Tryz.func50 rfl Tryz.ntmps50 rfl fun W0 F => ?_
  refine J.seq <| J.region <| J.p rfl (Q.asg rfl) <| J.nil <| J.then_n <| J.seq <| J.region ?_
  refine J.c rfl rfl C.mkMap ?_
  rintro _ _ ⟨b1, rfl, rfl⟩
  refine J.norm rfl ?_
  refine J.c rfl rfl C.mkMap ?_
  rintro _ _ ⟨b2, rfl, rfl⟩
  refine J.norm rfl ?_
  refine J.c rfl rfl C.mkMap ?_
  rintro _ _ ⟨b3, rfl, rfl⟩
  refine J.norm rfl <| J.p rfl (Q.bld (l := [_, _, _]) Tryz.runUnderlying167 Tryz.zeroValue167 Tryz.places167 rfl rfl) ?_
  refine J.c rfl rfl (C.box (l := [_, _, _]) rfl rfl) ?_
  rintro _ _ ⟨b5, rfl, rfl⟩
  refine J.norm rfl <| J.p rfl (Q.asg rfl) <| J.nil <| J.then_n <| J.cret ?_
  refine J.conv (Y := MapAt encU dRep b3 []) 1 rfl MapAt.new ?_
  refine J.conv (Y := MapAt encU uRep b2 []) 2 rfl MapAt.new ?_
  refine J.conv (Y := MapAt Value.string bRep b1 []) 3 rfl MapAt.new ?_
  refine J.shut [3, 0, 1, 2] (BktAt b5 ⟨[], [], []⟩) rfl (fun h s => ⟨(b1, b2, b3), s⟩) ?_
  refine J.ret1 (B := [BktAt b5 ⟨[], [], []⟩]) rfl rfl ⟨b5, rfl, rfl⟩ rfl

theorem known_no_all : (∀ (m : Nat) (M : BM) (x : OW) (hB : sget x.o.bucket M.buckets = none), FSpec Tryz.prog 94 [.pointer (some ⟨m, 0, none⟩), .agg x.cells.toArray] [BktAt m M] (fun v B => v = .bool false ∧ B = [BktAt m M])) ∧ (∀ {k : Nat} (m : Nat) (M : BM) (hM : M.ok k) (x : OW) {objs : Objs} (hB : sget x.o.bucket M.buckets = some objs), FSpec Tryz.prog 94 [.pointer (some ⟨m, 0, none⟩), .agg x.cells.toArray] [BktAt m M] (fun v B => v = .bool true ∧ B = [BktAt m M])) := by
  refine ⟨fun m M x hB => ?_, fun {k} m M hM x {objs} hB => ?_⟩
  all_goals
   refine FSpec.of Tryz.func94 rfl Tryz.ntmps94 rfl fun W0 F => ?_
   refine J.seq <| J.region ?_
   refine J.c rfl rfl (C.box (l := [_, _, _, _, _, _, _, _, _]) rfl rfl) ?_
   rintro _ _ ⟨b3, rfl, rfl⟩
   refine J.norm rfl <| J.p rfl (Q.asg rfl) <| J.nil <| J.then_n <| J.seq ?_
   refine J.open1 1 rfl (fun _ h => h) fun z => ?_
   refine J.norm rfl ?_
   first
     | (refine J.mapFocus 1 hB rfl fun val => ?_
        refine J.norm rfl ?_
        refine J.open_ 0 rfl rfl (fun _ h => h) fun r hr => ?_
        subst hr
        refine J.norm rfl ?_)
     | skip
   refine J.draw [8] Tryz.mixed (by kernel_rfl) fun hR => ?_
   refine RG.p 0 hR rfl (Q.mv rfl) <| RG.p 1 hR rfl (Q.nil_ rfl) <| RG.p 2 hR rfl (Q.fa (n := 0) Tryz.runUnderlying167 rfl rfl Tryz.sizeOf163 rfl) ?_
   refine RG.p 3 hR rfl (Q.ld Tryz.isAgg163 rfl (rdI (by exact rfl))) ?_
   refine RG.p 4 hR rfl (Q.fa (n := 2) Tryz.runUnderlying52 rfl rfl Tryz.sizeOf9 rfl) ?_
   refine RG.p 5 hR rfl (Q.ld Tryz.isAgg9 rfl (rdI (by exact rfl))) ?_
   refine RG.p 6 hR rfl (by first | exact X.G.Q.lkNo (i := 1) Tryz.runUnderlying163 keyS Tryz.zeroValue179 rfl rfl rfl hB | exact X.G.Q.lkYes (i := 1) Tryz.runUnderlying163 keyS Tryz.zeroValue179 rfl rfl rfl) ?_
   refine RG.p 7 hR rfl (Q.neqm Tryz.runUnderlying179 rfl rfl) ?_
   refine RG.bar 8 hR rfl rfl rfl rfl rfl rfl (Q.asg rfl).toC ?_
   rintro _ _ ⟨rfl, rfl⟩
   refine RG.norm rfl ?_
   refine RG.fin hR rfl ?_
   refine J.norm rfl <| J.then_n <| J.cret ?_
   first
     | (refine J.shut [0] (bRep x.o.bucket objs (.map (some r))) rfl (fun h s => ⟨r, rfl, s⟩) ?_
        refine J.mapSame 0 1 ord3_str hM.bs hB rfl ?_)
     | skip
   first
     | (refine J.shut [0, 1, 2, 3] (BktAt m M) rfl (fun h s => ⟨z, s⟩) ?_
        refine J.keep [0, 2] rfl ?_
        refine J.ret1 (B := [BktAt m M]) rfl rfl ⟨rfl, rfl⟩ rfl)
     | (refine J.shut [1, 0, 2, 3] (BktAt m M) rfl (fun h s => ⟨z, s⟩) ?_
        refine J.keep [0, 2] rfl ?_
        refine J.ret1 (B := [BktAt m M]) rfl rfl ⟨rfl, rfl⟩ rfl)
theorem known_no (m : Nat) (M : BM) (x : OW) (hB : sget x.o.bucket M.buckets = none) : FSpec Tryz.prog 94 [.pointer (some ⟨m, 0, none⟩), .agg x.cells.toArray] [BktAt m M] (fun v B => v = .bool false ∧ B = [BktAt m M]) := (known_no_all).1 m M x hB
theorem known_yes {k : Nat} (m : Nat) (M : BM) (hM : M.ok k) (x : OW) {objs : Objs} (hB : sget x.o.bucket M.buckets = some objs) : FSpec Tryz.prog 94 [.pointer (some ⟨m, 0, none⟩), .agg x.cells.toArray] [BktAt m M] (fun v B => v = .bool true ∧ B = [BktAt m M]) := (known_no_all).2 m M hM x hB
def tabM (m : Nat) : List (Int × Value) := [(1, .func (.func 84) #[.pointer (some ⟨m, 0, none⟩)] #[]), (2, .func (.func 85) #[.pointer (some ⟨m, 0, none⟩)] #[]), (3, .func (.func 86) #[.pointer (some ⟨m, 0, none⟩)] #[]), (4, .func (.func 87) #[.pointer (some ⟨m, 0, none⟩)] #[]), (5, .func (.func 88) #[.pointer (some ⟨m, 0, none⟩)] #[]),
  (6, .func (.func 89) #[.pointer (some ⟨m, 0, none⟩)] #[]), (7, .func (.func 90) #[.pointer (some ⟨m, 0, none⟩)] #[]), (8, .func (.func 91) #[.pointer (some ⟨m, 0, none⟩)] #[]), (9, .func (.func 92) #[.pointer (some ⟨m, 0, none⟩)] #[]), (10, .func (.func 93) #[.pointer (some ⟨m, 0, none⟩)] #[])]

theorem tab_step {r : Nat} {S : List (Int × Value)} {k : Int} {v : Value} (hS : Srtd ltI S) : ∀ h, MapHole (Value.int .i64) plainRep r (sput ltI k v S) k v h → MapAt (Value.int .i64) plainRep r (sput ltI k v S) h := by
  intro h hh
  have h1 := MapHole.back (rep := plainRep) (v' := v) ord3_int (X.G.srtd_put ord3_int hS k v) h (X.G.HSat.two (h1 := fun _ => none) (show plainRep k v v (fun _ => none) from rfl) hh (fun _ => Or.inl rfl) (fun _ _ e => nomatch e) (Sub.refl _))
  rwa [X.G.sput_put ord3_int hS] at h1

theorem tabIns {L : Slots} {A : List Assn} {ty : TypeId} {x y z : Operand} {r : Nat} {S : List (Int × Value)} {k : Int} {val : Value} (i : Nat) (hS : Srtd ltI S) (ex : ev L x = some (.map (some r))) (ey : ev L y = some (.int .i64 k)) (ez : ev L z = some val)
    (hA : A[i]? = some (MapAt (Value.int .i64) plainRep r S)) : OpC Tryz.prog (.insert 169 x y z) ty L A (fun u B => ∃ S', S' = sput ltI k val S ∧ Srtd ltI S' ∧ u = undef ∧ B = A.set i (MapAt (Value.int .i64) plainRep r S')) := by
  refine (X.G.C.mapIns (rep := plainRep) i val ord3_int hS Tryz.runUnderlying169 keyI ex ey ez hA).shutTo ?_
  rintro u B ⟨rfl, rfl⟩
  refine ⟨_, ⟨_, rfl, X.G.srtd_put ord3_int hS _ _, rfl, rfl⟩, fun h s => ?_⟩
  have h1 := set_imp s (X := MapHole (Value.int .i64) plainRep r (sput ltI k val S) k val) (i := i) (by simp [(List.getElem?_eq_some_iff.1 hA).1]) (tab_step hS)
  rwa [List.set_set] at h1

theorem table_spec (m : Nat) : FSpec Tryz.prog 76 [.pointer (some ⟨m, 0, none⟩)] [] (fun v B => ∃ r, v = .map (some r) ∧ B = [MapAt (Value.int .i64) plainRep r (tabM m)]) := by
  refine FSpec.of Tryz.func76 rfl Tryz.ntmps76 rfl fun W0 F => ?_
  refine J.seq <| J.region <| J.p rfl (Q.asg rfl) <| J.nil <| J.then_n <| J.seq <| J.region ?_
  refine J.c rfl rfl C.mkMap ?_
  rintro _ _ ⟨b3, rfl, rfl⟩
  refine J.norm rfl ?_
  refine J.conv (Y := MapAt (Value.int .i64) plainRep b3 []) 0 rfl MapAt.new ?_
  obtain ⟨S, hE, hS⟩ : ∃ S : List (Int × Value), S = [] ∧ Srtd ltI S := ⟨[], rfl, List.Pairwise.nil⟩
  rw [← hE]
  refine J.m rfl <| J.p rfl (Q.func rfl rfl) ?_
  refine J.c0 rfl (tabIns 0 hS rfl rfl rfl rfl) ?_
  rintro _ _ ⟨S, hE, hS, rfl, rfl⟩
  refine J.norm rfl <| J.m rfl <| J.p rfl (Q.func rfl rfl) ?_
  refine J.c0 rfl (tabIns 0 hS rfl rfl rfl rfl) ?_
  rintro _ _ ⟨S, hE, hS, rfl, rfl⟩
  refine J.norm rfl <| J.m rfl <| J.p rfl (Q.func rfl rfl) ?_
  refine J.c0 rfl (tabIns 0 hS rfl rfl rfl rfl) ?_
  rintro _ _ ⟨S, hE, hS, rfl, rfl⟩
  refine J.norm rfl <| J.m rfl <| J.p rfl (Q.func rfl rfl) ?_
  refine J.c0 rfl (tabIns 0 hS rfl rfl rfl rfl) ?_
  rintro _ _ ⟨S, hE, hS, rfl, rfl⟩
  refine J.norm rfl <| J.m rfl <| J.p rfl (Q.func rfl rfl) ?_
  refine J.c0 rfl (tabIns 0 hS rfl rfl rfl rfl) ?_
  rintro _ _ ⟨S, hE, hS, rfl, rfl⟩
  refine J.norm rfl <| J.m rfl <| J.p rfl (Q.func rfl rfl) ?_
  refine J.c0 rfl (tabIns 0 hS rfl rfl rfl rfl) ?_
  rintro _ _ ⟨S, hE, hS, rfl, rfl⟩
  refine J.norm rfl <| J.m rfl <| J.p rfl (Q.func rfl rfl) ?_
  refine J.c0 rfl (tabIns 0 hS rfl rfl rfl rfl) ?_
  rintro _ _ ⟨S, hE, hS, rfl, rfl⟩
  refine J.norm rfl <| J.m rfl <| J.p rfl (Q.func rfl rfl) ?_
  refine J.c0 rfl (tabIns 0 hS rfl rfl rfl rfl) ?_
  rintro _ _ ⟨S, hE, hS, rfl, rfl⟩
  refine J.norm rfl <| J.m rfl <| J.p rfl (Q.func rfl rfl) ?_
  refine J.c0 rfl (tabIns 0 hS rfl rfl rfl rfl) ?_
  rintro _ _ ⟨S, hE, hS, rfl, rfl⟩
  refine J.norm rfl <| J.m rfl <| J.p rfl (Q.func rfl rfl) ?_
  refine J.c0 rfl (tabIns 0 hS rfl rfl rfl rfl) ?_
  rintro _ _ ⟨S, hE, hS, rfl, rfl⟩
  refine J.norm rfl <| J.m rfl <| J.p rfl (Q.asg rfl) <| J.nil <| J.then_n <| J.cret ?_
  have e : S = tabM m := by subst_vars; simp [sput, tabM]
  refine J.ret1 (B := [MapAt (Value.int .i64) plainRep b3 (tabM m)]) rfl rfl ⟨b3, rfl, rfl⟩ (by rw [e]; rfl)
end Go.Proofs.YtidbcaimgahllaaGreat
namespace Go.Proofs.YtidbcaimgahllaaGreat
set_option linter.unusedSectionVars false
set_option linter.unusedSimpArgs false
set_option linter.unusedVariables false
open Go.X
open Go.X.G (Ord3 ord3_nat ord3_int ord3_str ltB sget sput sdel Srtd MapAt MapHole)

def ActR (m : Nat) (G : Assn) (res : RM × BM) (v : Value) (B : List Assn) : Prop := ∃ y : RW, v = .agg y.cells.toArray ∧ y.r = res.1 ∧ B = [BktAt m res.2, y.asn, G]

def BM.make (M : BM) (o : OM) : RM × BM :=
  match sget o.bucket M.buckets with
  | some _ => (st 409, M)
  | none => (st 200, { M with buckets := sput ltB o.bucket [] M.buckets })
def BM.put (M : BM) (o : OM) : RM × BM :=
  match sget o.bucket M.buckets with
  | none => (st 404, M)
  | some objs => (st 200, { M with buckets := sput ltB o.bucket (sput ltB o.key o.data objs) M.buckets })
def BM.get (M : BM) (o : OM) : RM × BM :=
  match sget o.bucket M.buckets with
  | none => (st 404, M)
  | some objs => match sget o.key objs with
    | none => (st 404, M)
    | some d => (⟨200, 0, [], false, d⟩, M)
def BM.delete (M : BM) (o : OM) : RM × BM :=
  match sget o.bucket M.buckets with
  | none => (st 404, M)
  | some objs => match sget o.key objs with
    | none => (st 404, M)
    | some _ => (st 200, { M with buckets := sput ltB o.bucket (sdel o.key objs) M.buckets })
def BM.begin (M : BM) (o : OM) : RM × BM :=
  match sget o.bucket M.buckets with
  | none => (st 404, M)
  | some _ => (⟨200, o.id, [], false, []⟩, { M with uploads := sput ltN o.id ⟨o.bucket, o.key, []⟩ M.uploads })
def BM.part (M : BM) (o : OM) : RM × BM :=
  match sget o.upload M.uploads with
  | none => (st 404, M)
  | some u => (st 200, { M with uploads := sput ltN o.upload ⟨u.bucket, u.key, sput ltI o.n o.data u.parts⟩ M.uploads })
def BM.abort (M : BM) (o : OM) : RM × BM :=
  match sget o.upload M.uploads with
  | none => (st 404, M)
  | some _ => (st 200, { M with uploads := sdel o.upload M.uploads })

section
variable {k : Nat} (m : Nat) (M : BM) (hM : M.ok k) (x : OW) (G : Assn) (hx : x.ok G)
include hM hx

theorem make_yes_all : (∀ {objs : Objs} (hB : sget x.o.bucket M.buckets = some objs), FSpec Tryz.prog 84 [.pointer (some ⟨m, 0, none⟩), .agg x.cells.toArray] [BktAt m M, G] (ActR m G (st 409, M))) ∧ (∀ (hB : sget x.o.bucket M.buckets = none), FSpec Tryz.prog 84 [.pointer (some ⟨m, 0, none⟩), .agg x.cells.toArray] [BktAt m M, G] (ActR m G (st 200, { M with buckets := sput ltB x.o.bucket [] M.buckets }))) := by
  refine ⟨fun {objs} hB => ?_, fun hB => ?_⟩
  all_goals
   refine FSpec.of Tryz.func84 rfl Tryz.ntmps84 rfl fun W0 F => ?_
   refine J.seq <| J.region ?_
   refine J.c rfl rfl (C.box (l := [_, _, _, _, _, _, _, _, _]) rfl rfl) ?_
   rintro _ _ ⟨b3, rfl, rfl⟩
   refine J.norm rfl ?_
   refine J.c rfl rfl (C.alloc (l := [_, _, _, _, _]) Tryz.zeroValue44 rfl) ?_
   rintro _ _ ⟨b4, rfl, rfl⟩
   refine J.norm rfl <| J.nil <| J.then_n <| J.seq <| J.seq <| J.region <| J.m rfl ?_
   refine J.p rfl (Q.ldN (vs := [_, _, _, _, _, _, _, _, _]) Tryz.isAgg52 Tryz.sizeOf52 rfl rnI) ?_
   refine J.call Tryz.call94 ((by first | exact known_no m M x hB | exact known_yes m M hM x hB)) [2] rfl rfl rfl rfl ?_
   rintro _ _ ⟨rfl, rfl⟩
   refine J.norm rfl <| J.nil <| J.then_n ?_
   refine J.cases 7 rfl (fun hc7 => ?_) (fun hc7 => ?_)
   ·
    replace hc7 := X.nm hc7
    try (first | (cases hc7; done) | (exfalso; simp at hc7; done))
    all_goals
     refine J.cond_t rfl <| J.seq <| J.region ?_
     refine J.call Tryz.call73 (status_spec 409) [] rfl rfl rfl rfl ?_
     rintro _ _ ⟨y, rfl, hy, rfl⟩
     refine J.norm rfl ?_
     refine J.stAI (vs := [_, _, _, _, _]) rfl Tryz.sizeOf44 rfl rfl (by exact rfl) (by exact rfl) (by exact rfl) ?_
     refine J.nil <| J.then_n <| J.cret <| J.then_r ?_
     refine J.retC [1, 0, 4, 5] (vs := [_, _, _, _, _]) rfl rfl Tryz.isAgg44 Tryz.sizeOf44 (ReadsN.pt 2 rfl) rfl (B := [_, _, _]) ⟨_, rfl, hy, rfl⟩
   replace hc7 := X.nm hc7
   try (first | (cases hc7; done) | (exfalso; simp at hc7; done))
   all_goals
    refine J.cond_f rfl <| J.cskip <| J.then_n <| J.seq ?_
    refine J.open1 0 rfl (fun _ h => h) fun z => ?_
    refine J.norm rfl ?_
    refine J.draw [6, 7] Tryz.mixed (by kernel_rfl) fun hR => ?_
    refine RG.p 0 hR rfl (Q.mv rfl) <| RG.p 1 hR rfl (Q.nil_ rfl) <| RG.p 2 hR rfl (Q.fa (n := 0) Tryz.runUnderlying167 rfl rfl Tryz.sizeOf163 rfl) ?_
    refine RG.p 3 hR rfl (Q.ld Tryz.isAgg163 rfl (rdI (by exact rfl))) ?_
    refine RG.p 4 hR rfl (Q.fa (n := 2) Tryz.runUnderlying52 rfl rfl Tryz.sizeOf9 rfl) ?_
    refine RG.p 5 hR rfl (Q.ld Tryz.isAgg9 rfl (rdI (by exact rfl))) ?_
    refine RG.made 6 hR rfl rfl rfl rfl rfl C.mkMap ?_
    rintro b15
    refine RG.bar 7 hR rfl rfl rfl rfl rfl rfl (X.G.C.mapPut 1 [] ord3_str hM.bs Tryz.runUnderlying163 keyS rfl rfl rfl rfl) ?_
    rintro _ _ ⟨rfl, rfl⟩
    refine RG.norm rfl ?_
    refine RG.fin hR rfl ?_
    refine J.norm rfl <| J.then_n <| J.seq <| J.region ?_
    refine J.call Tryz.call73 (status_spec 200) [] rfl rfl rfl rfl ?_
    rintro _ _ ⟨y, rfl, hy, rfl⟩
    refine J.norm rfl ?_
    refine J.stAI (vs := [_, _, _, _, _]) rfl Tryz.sizeOf44 rfl rfl (by exact rfl) (by exact rfl) (by exact rfl) ?_
    refine J.nil <| J.then_n <| J.cret ?_
    refine J.conv (Y := MapAt Value.string datRep b15 []) 9 rfl MapAt.new ?_
    refine J.shut [0] (bRep x.o.bucket [] (.map (some b15))) rfl (fun h s => ⟨b15, rfl, s⟩) ?_
    refine J.mapBack 0 3 [] ord3_str (X.G.srtd_put ord3_str hM.bs _ _) rfl ?_
    rw [X.G.sput_put ord3_str hM.bs]
    refine J.shut [2, 0, 3, 4] (BktAt m { M with buckets := sput ltB x.o.bucket [] M.buckets }) rfl (fun h s => ⟨z, s⟩) ?_
    refine J.retC [0, 1, 4, 5] (vs := [_, _, _, _, _]) rfl rfl Tryz.isAgg44 Tryz.sizeOf44 (ReadsN.pt 2 rfl) rfl (B := [_, _, _]) ⟨_, rfl, hy, rfl⟩
theorem make_yes {objs : Objs} (hB : sget x.o.bucket M.buckets = some objs) : FSpec Tryz.prog 84 [.pointer (some ⟨m, 0, none⟩), .agg x.cells.toArray] [BktAt m M, G] (ActR m G (st 409, M)) := (make_yes_all m M hM x G hx).1 hB
theorem make_no (hB : sget x.o.bucket M.buckets = none) : FSpec Tryz.prog 84 [.pointer (some ⟨m, 0, none⟩), .agg x.cells.toArray] [BktAt m M, G] (ActR m G (st 200, { M with buckets := sput ltB x.o.bucket [] M.buckets })) := (make_yes_all m M hM x G hx).2 hB
theorem make_spec : FSpec Tryz.prog 84 [.pointer (some ⟨m, 0, none⟩), .agg x.cells.toArray] [BktAt m M, G] (ActR m G (M.make x.o)) := by
  unfold BM.make
  split
  · rename_i hB; exact make_yes m M hM x G hx hB
  · rename_i hB; exact make_no m M hM x G hx hB

theorem put_no_all : (∀ (hB : sget x.o.bucket M.buckets = none), FSpec Tryz.prog 86 [.pointer (some ⟨m, 0, none⟩), .agg x.cells.toArray] [BktAt m M, G] (ActR m G (st 404, M))) ∧ (∀ (hdl : x.o.data.length ≤ 16777216) {objs : Objs} (hB : sget x.o.bucket M.buckets = some objs), FSpec Tryz.prog 86 [.pointer (some ⟨m, 0, none⟩), .agg x.cells.toArray] [BktAt m M, G] (ActR m G (st 200, { M with buckets := sput ltB x.o.bucket (sput ltB x.o.key x.o.data objs) M.buckets }))) := by
  refine ⟨fun hB => ?_, fun hdl {objs} hB => ?_⟩
  all_goals
   have hsm := hx.small
   refine FSpec.of Tryz.func86 rfl Tryz.ntmps86 rfl fun W0 F => ?_
   refine J.seq <| J.region ?_
   refine J.c rfl rfl (C.box (l := [_, _, _, _, _, _, _, _, _]) rfl rfl) ?_
   rintro _ _ ⟨b3, rfl, rfl⟩
   refine J.norm rfl ?_
   refine J.c rfl rfl (C.alloc (l := [_, _, _, _, _]) Tryz.zeroValue44 rfl) ?_
   rintro _ _ ⟨b4, rfl, rfl⟩
   refine J.norm rfl <| J.nil <| J.then_n <| J.seq <| J.seq <| J.region <| J.m rfl ?_
   refine J.p rfl (Q.ldN (vs := [_, _, _, _, _, _, _, _, _]) Tryz.isAgg52 Tryz.sizeOf52 rfl rnI) ?_
   refine J.call Tryz.call94 ((by first | exact known_no m M x hB | exact known_yes m M hM x hB)) [2] rfl rfl rfl rfl ?_
   rintro _ _ ⟨rfl, rfl⟩
   refine J.norm rfl <| J.p rfl (Q.not rfl) <| J.nil <| J.then_n ?_
   refine J.cases 8 rfl (fun hc8 => ?_) (fun hc8 => ?_)
   ·
    replace hc8 := X.nm hc8
    try (first | (cases hc8; done) | (exfalso; simp at hc8; done))
    all_goals
     refine J.cond_t rfl <| J.seq <| J.region ?_
     refine J.call Tryz.call73 (status_spec 404) [] rfl rfl rfl rfl ?_
     rintro _ _ ⟨y, rfl, hy, rfl⟩
     refine J.norm rfl ?_
     refine J.stAI (vs := [_, _, _, _, _]) rfl Tryz.sizeOf44 rfl rfl (by exact rfl) (by exact rfl) (by exact rfl) ?_
     refine J.nil <| J.then_n <| J.cret <| J.then_r ?_
     refine J.retC [1, 0, 4, 5] (vs := [_, _, _, _, _]) rfl rfl Tryz.isAgg44 Tryz.sizeOf44 (ReadsN.pt 2 rfl) rfl (B := [_, _, _]) ⟨_, rfl, hy, rfl⟩
   replace hc8 := X.nm hc8
   try (first | (cases hc8; done) | (exfalso; simp at hc8; done))
   all_goals
    refine J.cond_f rfl <| J.cskip <| J.then_n <| J.seq ?_
    have hO := hM.os _ _ hB
    refine J.open1 0 rfl (fun _ h => h) fun z => ?_
    refine J.norm rfl ?_
    refine J.mapFocus 1 hB rfl fun val => ?_
    refine J.norm rfl ?_
    refine J.open_ 0 rfl rfl (fun _ h => h) fun r hr => ?_
    subst hr
    refine J.norm rfl ?_
    refine J.keep [1, 2, 6, 0, 3, 4, 5, 7, 8] rfl ?_
    refine J.drawE [11, 12] 3 Tryz.mixed (by kernel_rfl) rfl rfl fun hR => ?_
    refine RG.p 0 hR rfl (Q.mv rfl) <| RG.p 1 hR rfl (Q.nil_ rfl) <| RG.p 2 hR rfl (Q.fa (n := 0) Tryz.runUnderlying167 rfl rfl Tryz.sizeOf163 rfl) ?_
    refine RG.p 3 hR rfl (Q.ld Tryz.isAgg163 rfl (rdI (by exact rfl))) ?_
    refine RG.p 4 hR rfl (Q.fa (n := 2) Tryz.runUnderlying52 rfl rfl Tryz.sizeOf9 rfl) ?_
    refine RG.p 5 hR rfl (Q.ld Tryz.isAgg9 rfl (rdI (by exact rfl))) ?_
    refine RG.p 6 hR rfl (X.G.Q.lkYes (i := 0) Tryz.runUnderlying163 keyS Tryz.zeroValue179 rfl rfl rfl) ?_
    refine RG.p 7 hR rfl (Q.fa (n := 3) Tryz.runUnderlying52 rfl rfl Tryz.sizeOf9 rfl) ?_
    refine RG.p 8 hR rfl (Q.ld Tryz.isAgg9 rfl (rdI (by exact rfl))) ?_
    refine RG.p 9 hR rfl (Q.fa (n := 8) Tryz.runUnderlying52 rfl rfl Tryz.sizeOf42 rfl) ?_
    refine RG.p 10 hR rfl (Q.ld Tryz.isAgg42 rfl (rdI (by exact rfl))) ?_
    refine RG.callk 11 hR rfl rfl rfl rfl rfl Tryz.call82 (clone_spec G x.dp x.dc x.o.data hx.data (by omega)) [7] rfl rfl ?_
    rintro _ _ ⟨p21, c21, rfl, rfl⟩
    refine ⟨_, X.pick_perm (is := [2, 3, 4]) rfl, ?_⟩
    refine RG.bar 12 hR rfl rfl rfl rfl rfl rfl (X.G.C.mapPut 5 x.o.data ord3_str hO.1 Tryz.runUnderlying179 keyS rfl rfl rfl rfl) ?_
    rintro _ _ ⟨rfl, rfl⟩
    refine RG.norm rfl ?_
    refine RG.fin hR rfl ?_
    refine J.norm rfl <| J.then_n <| J.seq <| J.region ?_
    refine J.call Tryz.call73 (status_spec 200) [] rfl rfl rfl rfl ?_
    rintro _ _ ⟨y, rfl, hy, rfl⟩
    refine J.norm rfl ?_
    refine J.stAI (vs := [_, _, _, _, _]) rfl Tryz.sizeOf44 rfl rfl (by exact rfl) (by exact rfl) (by exact rfl) ?_
    refine J.nil <| J.then_n <| J.cret ?_
    refine J.shut [4] (datRep x.o.key x.o.data (.slice p21 x.o.data.length c21)) rfl (fun h s => ⟨(p21, c21), rfl, s⟩) ?_
    refine J.mapBack 0 6 x.o.data ord3_str (X.G.srtd_put ord3_str hO.1 _ _) rfl ?_
    rw [X.G.sput_put ord3_str hO.1]
    refine J.shut [0] (bRep x.o.bucket (sput ltB x.o.key x.o.data objs) (.map (some r))) rfl (fun h s => ⟨r, rfl, s⟩) ?_
    refine J.mapBack 0 2 (sput ltB x.o.key x.o.data objs) ord3_str hM.bs rfl ?_
    refine J.shut [2, 0, 5, 6] (BktAt m { M with buckets := sput ltB x.o.bucket (sput ltB x.o.key x.o.data objs) M.buckets }) rfl (fun h s => ⟨z, s⟩) ?_
    refine J.retC [0, 1, 3, 5] (vs := [_, _, _, _, _]) rfl rfl Tryz.isAgg44 Tryz.sizeOf44 (ReadsN.pt 4 rfl) rfl (B := [_, _, _]) ⟨_, rfl, hy, rfl⟩
theorem put_no (hB : sget x.o.bucket M.buckets = none) : FSpec Tryz.prog 86 [.pointer (some ⟨m, 0, none⟩), .agg x.cells.toArray] [BktAt m M, G] (ActR m G (st 404, M)) := (put_no_all m M hM x G hx).1 hB
theorem put_yes (hdl : x.o.data.length ≤ 16777216) {objs : Objs} (hB : sget x.o.bucket M.buckets = some objs) : FSpec Tryz.prog 86 [.pointer (some ⟨m, 0, none⟩), .agg x.cells.toArray] [BktAt m M, G] (ActR m G (st 200, { M with buckets := sput ltB x.o.bucket (sput ltB x.o.key x.o.data objs) M.buckets })) := (put_no_all m M hM x G hx).2 hdl hB
theorem put_spec (hdl : x.o.data.length ≤ 16777216) : FSpec Tryz.prog 86 [.pointer (some ⟨m, 0, none⟩), .agg x.cells.toArray] [BktAt m M, G] (ActR m G (M.put x.o)) := by
  unfold BM.put
  split
  · rename_i hB; exact put_no m M hM x G hx hB
  · rename_i hB; exact put_yes m M hM x G hx hdl hB

theorem get_no_all : (∀ (hB : sget x.o.bucket M.buckets = none), FSpec Tryz.prog 87 [.pointer (some ⟨m, 0, none⟩), .agg x.cells.toArray] [BktAt m M, G] (ActR m G (st 404, M))) ∧ (∀ {objs : Objs} (hB : sget x.o.bucket M.buckets = some objs) (hK : sget x.o.key objs = none), FSpec Tryz.prog 87 [.pointer (some ⟨m, 0, none⟩), .agg x.cells.toArray] [BktAt m M, G] (ActR m G (st 404, M))) ∧ (∀ {objs : Objs} (hB : sget x.o.bucket M.buckets = some objs) {d : List UInt8} (hK : sget x.o.key objs = some d), FSpec Tryz.prog 87 [.pointer (some ⟨m, 0, none⟩), .agg x.cells.toArray] [BktAt m M, G] (ActR m G (⟨200, 0, [], false, d⟩, M))) := by
  refine ⟨fun hB => ?_, fun {objs} hB hK => ?_, fun {objs} hB {d} hK => ?_⟩
  all_goals
   refine FSpec.of Tryz.func87 rfl Tryz.ntmps87 rfl fun W0 F => ?_
   refine J.seq <| J.region ?_
   refine J.c rfl rfl (C.box (l := [_, _, _, _, _, _, _, _, _]) rfl rfl) ?_
   rintro _ _ ⟨b3, rfl, rfl⟩
   refine J.norm rfl ?_
   refine J.c rfl rfl (C.alloc (l := [_, _, _, _, _]) Tryz.zeroValue44 rfl) ?_
   rintro _ _ ⟨b4, rfl, rfl⟩
   refine J.norm rfl <| J.nil <| J.then_n <| J.seq ?_
   try have hO := hM.os _ _ hB
   try have hdl := hO.2.2 _ _ hK
   refine J.open1 2 rfl (fun _ h => h) fun z => ?_
   refine J.norm rfl ?_
   first
     | (refine J.mapFocus 1 hB rfl fun val => ?_
        refine J.norm rfl ?_
        refine J.open_ 0 rfl rfl (fun _ h => h) fun r hr => ?_
        subst hr
        refine J.norm rfl ?_)
     | skip
   first
     | (refine J.mapFocus 0 hK rfl fun val => ?_
        refine J.norm rfl ?_
        refine J.open_ 0 rfl rfl (fun _ h => h) fun z2 hz2 => ?_
        subst hz2
        refine J.norm rfl ?_)
     | skip
   refine J.draw [13, 14] Tryz.mixed (by kernel_rfl) fun hR => ?_
   refine RG.p 0 hR rfl (Q.mv rfl) <| RG.p 1 hR rfl (Q.nil_ rfl) <| RG.p 2 hR rfl (Q.fa (n := 0) Tryz.runUnderlying167 rfl rfl Tryz.sizeOf163 rfl) ?_
   refine RG.p 3 hR rfl (Q.ld Tryz.isAgg163 rfl (rdI (by exact rfl))) ?_
   refine RG.p 4 hR rfl (Q.fa (n := 2) Tryz.runUnderlying52 rfl rfl Tryz.sizeOf9 rfl) ?_
   refine RG.p 5 hR rfl (Q.ld Tryz.isAgg9 rfl (rdI (by exact rfl))) ?_
   refine RG.p 6 hR rfl (by first | exact X.G.Q.lkNo (i := 1) Tryz.runUnderlying163 keyS Tryz.zeroValue179 rfl rfl rfl hB | exact X.G.Q.lkYes (i := 1) Tryz.runUnderlying163 keyS Tryz.zeroValue179 rfl rfl rfl | exact X.G.Q.lkYes (i := 2) Tryz.runUnderlying163 keyS Tryz.zeroValue179 rfl rfl rfl) ?_
   refine RG.p 7 hR rfl (Q.fa (n := 3) Tryz.runUnderlying52 rfl rfl Tryz.sizeOf9 rfl) ?_
   refine RG.p 8 hR rfl (Q.ld Tryz.isAgg9 rfl (rdI (by exact rfl))) ?_
   refine RG.p 9 hR rfl (by first | exact X.G.Q.lk2Nil Tryz.runUnderlying179 keyS Tryz.zeroValue42 rfl rfl | exact X.G.Q.lk2No (i := 0) Tryz.runUnderlying179 keyS Tryz.zeroValue42 rfl rfl rfl hK | exact X.G.Q.lk2Yes (i := 1) Tryz.runUnderlying179 keyS Tryz.zeroValue42 rfl rfl rfl) ?_
   refine RG.p 10 hR rfl (Q.mv rfl) <| RG.p 11 hR rfl (Q.ext rfl rfl) <| RG.p 12 hR rfl (Q.ext rfl rfl) ?_
   refine RG.keep 13 hR rfl rfl rfl rfl rfl (Q.asg rfl) ?_
   refine RG.bar 14 hR rfl rfl rfl rfl rfl rfl (Q.asg rfl).toC ?_
   rintro _ _ ⟨rfl, rfl⟩
   refine RG.norm rfl ?_
   refine RG.fin hR rfl ?_
   refine J.norm rfl <| J.then_n <| J.seq <| J.seq <| J.region <| J.m rfl <| J.p rfl (Q.not rfl) <| J.nil <| J.then_n ?_
   refine J.cases 21 rfl (fun hc21 => ?_) (fun hc21 => ?_)
   ·
    replace hc21 := X.nm hc21
    try (first | (cases hc21; done) | (exfalso; simp at hc21; done))
    all_goals
     refine J.cond_t rfl <| J.seq <| J.region ?_
     refine J.call Tryz.call73 (status_spec 404) [] rfl rfl rfl rfl ?_
     rintro _ _ ⟨y, rfl, hy, rfl⟩
     refine J.norm rfl ?_
     refine J.stAI (vs := [_, _, _, _, _]) rfl Tryz.sizeOf44 rfl rfl (by exact rfl) (by exact rfl) (by exact rfl) ?_
     refine J.nil <| J.then_n <| J.cret <| J.then_r ?_
     first
       | (refine J.shut [1, 2, 3, 4] (BktAt m M) rfl (fun h s => ⟨z, s⟩) ?_
          refine J.retC [0, 1, 4, 5] (vs := [_, _, _, _, _]) rfl rfl Tryz.isAgg44 Tryz.sizeOf44 (ReadsN.pt 2 rfl) rfl (B := [_, _, _]) ⟨_, rfl, hy, rfl⟩)
       | (refine J.shut [1] (bRep x.o.bucket objs (.map (some r))) rfl (fun h s => ⟨r, rfl, s⟩) ?_
          refine J.mapSame 0 2 ord3_str hM.bs hB rfl ?_
          refine J.shut [2, 0, 3, 4] (BktAt m M) rfl (fun h s => ⟨z, s⟩) ?_
          refine J.retC [0, 1, 4, 5] (vs := [_, _, _, _, _]) rfl rfl Tryz.isAgg44 Tryz.sizeOf44 (ReadsN.pt 2 rfl) rfl (B := [_, _, _]) ⟨_, rfl, hy, rfl⟩)
   replace hc21 := X.nm hc21
   try (first | (cases hc21; done) | (exfalso; simp at hc21; done))
   all_goals
    refine J.cond_f rfl <| J.cskip <| J.then_n <| J.seq <| J.region <| J.m rfl ?_
    refine J.slr1 0 rfl fun hs24 => ?_
    refine J.call Tryz.call82 (clone_spec (own 5 1 (.slice z2.1 d.length z2.2) (bytesV d)) z2.1 z2.2 d hs24 (by omega)) [0] rfl rfl rfl rfl ?_
    rintro _ _ ⟨p24, c24, rfl, rfl⟩
    refine J.norm rfl <| J.p rfl (Q.bld (l := [_, _, _, _, _]) Tryz.runUnderlying44 Tryz.zeroValue44 Tryz.places44 rfl rfl) ?_
    refine J.stAI (vs := [_, _, _, _, _]) rfl Tryz.sizeOf44 rfl rfl (by exact rfl) (by exact rfl) (by exact rfl) ?_
    refine J.nil <| J.then_n <| J.cret ?_
    refine J.give (own.nil 9 1 _) ?_
    refine J.pack [0, 1] rfl ?_
    refine J.shut [1] (datRep x.o.key d (.slice z2.1 d.length z2.2)) rfl (fun h s => ⟨z2, rfl, s⟩) ?_
    refine J.mapSame 0 2 ord3_str hO.1 hK rfl ?_
    refine J.shut [0] (bRep x.o.bucket objs (.map (some r))) rfl (fun h s => ⟨r, rfl, s⟩) ?_
    refine J.mapSame 0 2 ord3_str hM.bs hB rfl ?_
    refine J.shut [2, 0, 3, 4] (BktAt m M) rfl (fun h s => ⟨z, s⟩) ?_
    refine J.retC [0, 1, 4, 5] (vs := [_, _, _, _, _]) rfl rfl Tryz.isAgg44 Tryz.sizeOf44 (ReadsN.pt 2 rfl) rfl (B := [_, _, _]) ⟨⟨⟨200, 0, [], false, d⟩, none, 0, p24, c24⟩, rfl, rfl, rfl⟩
theorem get_no (hB : sget x.o.bucket M.buckets = none) : FSpec Tryz.prog 87 [.pointer (some ⟨m, 0, none⟩), .agg x.cells.toArray] [BktAt m M, G] (ActR m G (st 404, M)) := (get_no_all m M hM x G hx).1 hB
theorem get_none {objs : Objs} (hB : sget x.o.bucket M.buckets = some objs) (hK : sget x.o.key objs = none) : FSpec Tryz.prog 87 [.pointer (some ⟨m, 0, none⟩), .agg x.cells.toArray] [BktAt m M, G] (ActR m G (st 404, M)) := (get_no_all m M hM x G hx).2.1 hB hK
theorem get_yes {objs : Objs} (hB : sget x.o.bucket M.buckets = some objs) {d : List UInt8} (hK : sget x.o.key objs = some d) : FSpec Tryz.prog 87 [.pointer (some ⟨m, 0, none⟩), .agg x.cells.toArray] [BktAt m M, G] (ActR m G (⟨200, 0, [], false, d⟩, M)) := (get_no_all m M hM x G hx).2.2 hB hK
theorem get_spec : FSpec Tryz.prog 87 [.pointer (some ⟨m, 0, none⟩), .agg x.cells.toArray] [BktAt m M, G] (ActR m G (M.get x.o)) := by
  unfold BM.get
  split
  · rename_i hB; exact get_no m M hM x G hx hB
  · rename_i hB
    split
    · rename_i hK; exact get_none m M hM x G hx hB hK
    · rename_i hK; exact get_yes m M hM x G hx hB hK

theorem delete_no_all : (∀ (hB : sget x.o.bucket M.buckets = none), FSpec Tryz.prog 88 [.pointer (some ⟨m, 0, none⟩), .agg x.cells.toArray] [BktAt m M, G] (ActR m G (st 404, M))) ∧ (∀ {objs : Objs} (hB : sget x.o.bucket M.buckets = some objs) (hK : sget x.o.key objs = none), FSpec Tryz.prog 88 [.pointer (some ⟨m, 0, none⟩), .agg x.cells.toArray] [BktAt m M, G] (ActR m G (st 404, M))) ∧ (∀ {objs : Objs} (hB : sget x.o.bucket M.buckets = some objs) {d : List UInt8} (hK : sget x.o.key objs = some d), FSpec Tryz.prog 88 [.pointer (some ⟨m, 0, none⟩), .agg x.cells.toArray] [BktAt m M, G] (ActR m G (st 200, { M with buckets := sput ltB x.o.bucket (sdel x.o.key objs) M.buckets }))) := by
  refine ⟨fun hB => ?_, fun {objs} hB hK => ?_, fun {objs} hB {d} hK => ?_⟩
  all_goals
   refine FSpec.of Tryz.func88 rfl Tryz.ntmps88 rfl fun W0 F => ?_
   refine J.seq <| J.region ?_
   refine J.c rfl rfl (C.box (l := [_, _, _, _, _, _, _, _, _]) rfl rfl) ?_
   rintro _ _ ⟨b3, rfl, rfl⟩
   refine J.norm rfl ?_
   refine J.c rfl rfl (C.alloc (l := [_, _, _, _, _]) Tryz.zeroValue44 rfl) ?_
   rintro _ _ ⟨b4, rfl, rfl⟩
   refine J.norm rfl <| J.nil <| J.then_n <| J.seq <| J.seq ?_
   try have hO := hM.os _ _ hB
   try have hdl := hO.2.2 _ _ hK
   refine J.open1 2 rfl (fun _ h => h) fun z => ?_
   refine J.norm rfl ?_
   first
     | (refine J.mapFocus 1 hB rfl fun val => ?_
        refine J.norm rfl ?_
        refine J.open_ 0 rfl rfl (fun _ h => h) fun r hr => ?_
        subst hr
        refine J.norm rfl ?_)
     | skip
   first
     | (refine J.mapFocus 0 hK rfl fun val => ?_
        refine J.norm rfl ?_
        refine J.open_ 0 rfl rfl (fun _ h => h) fun z2 hz2 => ?_
        subst hz2
        refine J.norm rfl ?_)
     | skip
   refine J.draw [13, 14] Tryz.mixed (by kernel_rfl) fun hR => ?_
   refine RG.p 0 hR rfl (Q.mv rfl) <| RG.p 1 hR rfl (Q.nil_ rfl) <| RG.p 2 hR rfl (Q.fa (n := 0) Tryz.runUnderlying167 rfl rfl Tryz.sizeOf163 rfl) ?_
   refine RG.p 3 hR rfl (Q.ld Tryz.isAgg163 rfl (rdI (by exact rfl))) ?_
   refine RG.p 4 hR rfl (Q.fa (n := 2) Tryz.runUnderlying52 rfl rfl Tryz.sizeOf9 rfl) ?_
   refine RG.p 5 hR rfl (Q.ld Tryz.isAgg9 rfl (rdI (by exact rfl))) ?_
   refine RG.p 6 hR rfl (by first | exact X.G.Q.lkNo (i := 1) Tryz.runUnderlying163 keyS Tryz.zeroValue179 rfl rfl rfl hB | exact X.G.Q.lkYes (i := 1) Tryz.runUnderlying163 keyS Tryz.zeroValue179 rfl rfl rfl | exact X.G.Q.lkYes (i := 2) Tryz.runUnderlying163 keyS Tryz.zeroValue179 rfl rfl rfl) ?_
   refine RG.p 7 hR rfl (Q.fa (n := 3) Tryz.runUnderlying52 rfl rfl Tryz.sizeOf9 rfl) ?_
   refine RG.p 8 hR rfl (Q.ld Tryz.isAgg9 rfl (rdI (by exact rfl))) ?_
   refine RG.p 9 hR rfl (by first | exact X.G.Q.lk2Nil Tryz.runUnderlying179 keyS Tryz.zeroValue42 rfl rfl | exact X.G.Q.lk2No (i := 0) Tryz.runUnderlying179 keyS Tryz.zeroValue42 rfl rfl rfl hK | exact X.G.Q.lk2Yes (i := 1) Tryz.runUnderlying179 keyS Tryz.zeroValue42 rfl rfl rfl) ?_
   refine RG.p 10 hR rfl (Q.mv rfl) <| RG.p 11 hR rfl (Q.ext rfl rfl) <| RG.p 12 hR rfl (Q.ext rfl rfl) ?_
   refine RG.keep 13 hR rfl rfl rfl rfl rfl (Q.asg rfl) ?_
   refine RG.bar 14 hR rfl rfl rfl rfl rfl rfl (Q.asg rfl).toC ?_
   rintro _ _ ⟨rfl, rfl⟩
   refine RG.norm rfl ?_
   refine RG.fin hR rfl ?_
   refine J.norm rfl <| J.then_n <| J.seq <| J.region <| J.m rfl <| J.p rfl (Q.not rfl) <| J.nil <| J.then_n ?_
   refine J.cases 21 rfl (fun hc21 => ?_) (fun hc21 => ?_)
   ·
    replace hc21 := X.nm hc21
    try (first | (cases hc21; done) | (exfalso; simp at hc21; done))
    all_goals
     refine J.cond_t rfl <| J.seq <| J.region ?_
     refine J.call Tryz.call73 (status_spec 404) [] rfl rfl rfl rfl ?_
     rintro _ _ ⟨y, rfl, hy, rfl⟩
     refine J.norm rfl ?_
     refine J.stAI (vs := [_, _, _, _, _]) rfl Tryz.sizeOf44 rfl rfl (by exact rfl) (by exact rfl) (by exact rfl) ?_
     refine J.nil <| J.then_n <| J.cret <| J.then_r ?_
     first
       | (refine J.shut [1, 2, 3, 4] (BktAt m M) rfl (fun h s => ⟨z, s⟩) ?_
          refine J.retC [0, 1, 4, 5] (vs := [_, _, _, _, _]) rfl rfl Tryz.isAgg44 Tryz.sizeOf44 (ReadsN.pt 2 rfl) rfl (B := [_, _, _]) ⟨_, rfl, hy, rfl⟩)
       | (refine J.shut [1] (bRep x.o.bucket objs (.map (some r))) rfl (fun h s => ⟨r, rfl, s⟩) ?_
          refine J.mapSame 0 2 ord3_str hM.bs hB rfl ?_
          refine J.shut [2, 0, 3, 4] (BktAt m M) rfl (fun h s => ⟨z, s⟩) ?_
          refine J.retC [0, 1, 4, 5] (vs := [_, _, _, _, _]) rfl rfl Tryz.isAgg44 Tryz.sizeOf44 (ReadsN.pt 2 rfl) rfl (B := [_, _, _]) ⟨_, rfl, hy, rfl⟩)
   replace hc21 := X.nm hc21
   try (first | (cases hc21; done) | (exfalso; simp at hc21; done))
   all_goals
    refine J.cond_f rfl <| J.cskip <| J.then_n <| J.seq ?_
    refine J.shut [0] (datRep x.o.key d (.slice z2.1 d.length z2.2)) rfl (fun h s => ⟨z2, rfl, s⟩) ?_
    refine J.mapSame 0 1 ord3_str hO.1 hK rfl ?_
    refine J.draw [9] Tryz.mixed (by kernel_rfl) fun hR => ?_
    refine RG.p 0 hR rfl (Q.mv rfl) <| RG.p 1 hR rfl (Q.nil_ rfl) <| RG.p 2 hR rfl (Q.fa (n := 0) Tryz.runUnderlying167 rfl rfl Tryz.sizeOf163 rfl) ?_
    refine RG.p 3 hR rfl (Q.ld Tryz.isAgg163 rfl (rdI (by exact rfl))) ?_
    refine RG.p 4 hR rfl (Q.fa (n := 2) Tryz.runUnderlying52 rfl rfl Tryz.sizeOf9 rfl) ?_
    refine RG.p 5 hR rfl (Q.ld Tryz.isAgg9 rfl (rdI (by exact rfl))) ?_
    refine RG.p 6 hR rfl (X.G.Q.lkYes (i := 1) Tryz.runUnderlying163 keyS Tryz.zeroValue179 rfl rfl rfl) ?_
    refine RG.p 7 hR rfl (Q.fa (n := 3) Tryz.runUnderlying52 rfl rfl Tryz.sizeOf9 rfl) ?_
    refine RG.p 8 hR rfl (Q.ld Tryz.isAgg9 rfl (rdI (by exact rfl))) ?_
    refine RG.bar 9 hR rfl rfl rfl rfl rfl rfl (X.G.C.mapDel 0 Tryz.runUnderlying179 keyS rfl rfl) ?_
    rintro _ _ ⟨rfl, rfl⟩
    refine RG.norm rfl ?_
    refine RG.fin hR rfl ?_
    refine J.norm rfl <| J.then_n <| J.seq <| J.region ?_
    refine J.call Tryz.call73 (status_spec 200) [] rfl rfl rfl rfl ?_
    rintro _ _ ⟨y, rfl, hy, rfl⟩
    refine J.norm rfl ?_
    refine J.stAI (vs := [_, _, _, _, _]) rfl Tryz.sizeOf44 rfl rfl (by exact rfl) (by exact rfl) (by exact rfl) ?_
    refine J.nil <| J.then_n <| J.cret ?_
    refine J.shut [1] (bRep x.o.bucket (sdel x.o.key objs) (.map (some r))) rfl (fun h s => ⟨r, rfl, s⟩) ?_
    refine J.mapBack 0 2 (sdel x.o.key objs) ord3_str hM.bs rfl ?_
    refine J.shut [2, 0, 3, 4] (BktAt m { M with buckets := sput ltB x.o.bucket (sdel x.o.key objs) M.buckets }) rfl (fun h s => ⟨z, s⟩) ?_
    refine J.retC [0, 1, 4, 5] (vs := [_, _, _, _, _]) rfl rfl Tryz.isAgg44 Tryz.sizeOf44 (ReadsN.pt 2 rfl) rfl (B := [_, _, _]) ⟨_, rfl, hy, rfl⟩
theorem delete_no (hB : sget x.o.bucket M.buckets = none) : FSpec Tryz.prog 88 [.pointer (some ⟨m, 0, none⟩), .agg x.cells.toArray] [BktAt m M, G] (ActR m G (st 404, M)) := (delete_no_all m M hM x G hx).1 hB
theorem delete_none {objs : Objs} (hB : sget x.o.bucket M.buckets = some objs) (hK : sget x.o.key objs = none) : FSpec Tryz.prog 88 [.pointer (some ⟨m, 0, none⟩), .agg x.cells.toArray] [BktAt m M, G] (ActR m G (st 404, M)) := (delete_no_all m M hM x G hx).2.1 hB hK
theorem delete_yes {objs : Objs} (hB : sget x.o.bucket M.buckets = some objs) {d : List UInt8} (hK : sget x.o.key objs = some d) : FSpec Tryz.prog 88 [.pointer (some ⟨m, 0, none⟩), .agg x.cells.toArray] [BktAt m M, G] (ActR m G (st 200, { M with buckets := sput ltB x.o.bucket (sdel x.o.key objs) M.buckets })) := (delete_no_all m M hM x G hx).2.2 hB hK
theorem delete_spec : FSpec Tryz.prog 88 [.pointer (some ⟨m, 0, none⟩), .agg x.cells.toArray] [BktAt m M, G] (ActR m G (M.delete x.o)) := by
  unfold BM.delete
  split
  · rename_i hB; exact delete_no m M hM x G hx hB
  · rename_i hB
    split
    · rename_i hK; exact delete_none m M hM x G hx hB hK
    · rename_i hK; exact delete_yes m M hM x G hx hB hK

theorem begin_no_all : (∀ (hB : sget x.o.bucket M.buckets = none), FSpec Tryz.prog 90 [.pointer (some ⟨m, 0, none⟩), .agg x.cells.toArray] [BktAt m M, G] (ActR m G (st 404, M))) ∧ (∀ {objs : Objs} (hB : sget x.o.bucket M.buckets = some objs), FSpec Tryz.prog 90 [.pointer (some ⟨m, 0, none⟩), .agg x.cells.toArray] [BktAt m M, G] (ActR m G (⟨200, x.o.id, [], false, []⟩, { M with uploads := sput ltN x.o.id ⟨x.o.bucket, x.o.key, []⟩ M.uploads }))) := by
  refine ⟨fun hB => ?_, fun {objs} hB => ?_⟩
  all_goals
   refine FSpec.of Tryz.func90 rfl Tryz.ntmps90 rfl fun W0 F => ?_
   refine J.seq <| J.region ?_
   refine J.c rfl rfl (C.box (l := [_, _, _, _, _, _, _, _, _]) rfl rfl) ?_
   rintro _ _ ⟨b3, rfl, rfl⟩
   refine J.norm rfl ?_
   refine J.c rfl rfl (C.alloc (l := [_, _, _, _, _]) Tryz.zeroValue44 rfl) ?_
   rintro _ _ ⟨b4, rfl, rfl⟩
   refine J.norm rfl <| J.nil <| J.then_n <| J.seq <| J.seq <| J.region <| J.m rfl ?_
   refine J.p rfl (Q.ldN (vs := [_, _, _, _, _, _, _, _, _]) Tryz.isAgg52 Tryz.sizeOf52 rfl rnI) ?_
   refine J.call Tryz.call94 ((by first | exact known_no m M x hB | exact known_yes m M hM x hB)) [2] rfl rfl rfl rfl ?_
   rintro _ _ ⟨rfl, rfl⟩
   refine J.norm rfl <| J.p rfl (Q.not rfl) <| J.nil <| J.then_n ?_
   refine J.cases 8 rfl (fun hc8 => ?_) (fun hc8 => ?_)
   ·
    replace hc8 := X.nm hc8
    try (first | (cases hc8; done) | (exfalso; simp at hc8; done))
    all_goals
     refine J.cond_t rfl <| J.seq <| J.region ?_
     refine J.call Tryz.call73 (status_spec 404) [] rfl rfl rfl rfl ?_
     rintro _ _ ⟨y, rfl, hy, rfl⟩
     refine J.norm rfl ?_
     refine J.stAI (vs := [_, _, _, _, _]) rfl Tryz.sizeOf44 rfl rfl (by exact rfl) (by exact rfl) (by exact rfl) ?_
     refine J.nil <| J.then_n <| J.cret <| J.then_r ?_
     refine J.retC [1, 0, 4, 5] (vs := [_, _, _, _, _]) rfl rfl Tryz.isAgg44 Tryz.sizeOf44 (ReadsN.pt 2 rfl) rfl (B := [_, _, _]) ⟨_, rfl, hy, rfl⟩
   replace hc8 := X.nm hc8
   try (first | (cases hc8; done) | (exfalso; simp at hc8; done))
   all_goals
    refine J.cond_f rfl <| J.cskip <| J.then_n <| J.seq ?_
    refine J.open1 0 rfl (fun _ h => h) fun z => ?_
    refine J.norm rfl ?_
    refine J.draw [10, 12, 13] Tryz.mixed (by kernel_rfl) fun hR => ?_
    refine RG.p 0 hR rfl (Q.mv rfl) <| RG.p 1 hR rfl (Q.nil_ rfl) <| RG.p 2 hR rfl (Q.fa (n := 1) Tryz.runUnderlying167 rfl rfl Tryz.sizeOf164 rfl) ?_
    refine RG.p 3 hR rfl (Q.ld Tryz.isAgg164 rfl (rdI (by exact rfl))) ?_
    refine RG.p 4 hR rfl (Q.fa (n := 0) Tryz.runUnderlying52 rfl rfl Tryz.sizeOf40 rfl) ?_
    refine RG.p 5 hR rfl (Q.ld Tryz.isAgg40 rfl (rdI (by exact rfl))) ?_
    refine RG.p 6 hR rfl (Q.fa (n := 2) Tryz.runUnderlying52 rfl rfl Tryz.sizeOf9 rfl) ?_
    refine RG.p 7 hR rfl (Q.ld Tryz.isAgg9 rfl (rdI (by exact rfl))) ?_
    refine RG.p 8 hR rfl (Q.fa (n := 3) Tryz.runUnderlying52 rfl rfl Tryz.sizeOf9 rfl) ?_
    refine RG.p 9 hR rfl (Q.ld Tryz.isAgg9 rfl (rdI (by exact rfl))) ?_
    refine RG.made 10 hR rfl rfl rfl rfl rfl C.mkMap ?_
    rintro b20
    refine RG.p 11 hR rfl (Q.bld (l := [_, _, _]) Tryz.runUnderlying183 Tryz.zeroValue183 Tryz.places183 rfl rfl) ?_
    refine RG.made 12 hR rfl rfl rfl rfl rfl (C.box (l := [_, _, _]) rfl rfl) ?_
    rintro b22
    refine RG.bar 13 hR rfl rfl rfl rfl rfl rfl (X.G.C.mapPut (rep := uRep) 2 ⟨x.o.bucket, x.o.key, []⟩ ord3_nat hM.us Tryz.runUnderlying164 keyU rfl rfl rfl rfl) ?_
    rintro _ _ ⟨rfl, rfl⟩
    refine RG.norm rfl ?_
    refine RG.fin hR rfl ?_
    refine J.norm rfl <| J.then_n <| J.seq <| J.region <| J.p rfl (Q.fa (n := 0) Tryz.runUnderlying52 rfl rfl Tryz.sizeOf40 rfl) ?_
    refine J.p rfl (Q.ld Tryz.isAgg40 rfl (rdI (by exact rfl))) ?_
    refine J.p rfl (Q.bld (l := [_, _, _, _, _]) Tryz.runUnderlying44 Tryz.zeroValue44 Tryz.places44 rfl rfl) ?_
    refine J.stAI (vs := [_, _, _, _, _]) rfl Tryz.sizeOf44 rfl rfl (by exact rfl) (by exact rfl) (by exact rfl) ?_
    refine J.nil <| J.then_n <| J.cret ?_
    refine J.give empty_asn ?_
    refine J.conv (Y := MapAt (Value.int .i64) datRep b20 []) 10 rfl MapAt.new ?_
    refine J.shut [10, 0] (uRep x.o.id ⟨x.o.bucket, x.o.key, []⟩ (.pointer (some ⟨b22, 0, none⟩))) rfl (fun h s => ⟨(b22, b20), rfl, s⟩) ?_
    refine J.mapBack 0 4 ⟨x.o.bucket, x.o.key, []⟩ ord3_nat (X.G.srtd_put ord3_nat hM.us _ _) rfl ?_
    rw [X.G.sput_put ord3_nat hM.us]
    refine J.shut [2, 3, 0, 4] (BktAt m { M with uploads := sput ltN x.o.id ⟨x.o.bucket, x.o.key, []⟩ M.uploads }) rfl (fun h s => ⟨z, s⟩) ?_
    refine J.retC [0, 1, 4, 5] (vs := [_, _, _, _, _]) rfl rfl Tryz.isAgg44 Tryz.sizeOf44 (ReadsN.pt 2 rfl) rfl (B := [_, _, _]) ⟨⟨⟨200, x.o.id, [], false, []⟩, none, 0, none, 0⟩, rfl, rfl, rfl⟩
theorem begin_no (hB : sget x.o.bucket M.buckets = none) : FSpec Tryz.prog 90 [.pointer (some ⟨m, 0, none⟩), .agg x.cells.toArray] [BktAt m M, G] (ActR m G (st 404, M)) := (begin_no_all m M hM x G hx).1 hB
theorem begin_yes {objs : Objs} (hB : sget x.o.bucket M.buckets = some objs) : FSpec Tryz.prog 90 [.pointer (some ⟨m, 0, none⟩), .agg x.cells.toArray] [BktAt m M, G] (ActR m G (⟨200, x.o.id, [], false, []⟩, { M with uploads := sput ltN x.o.id ⟨x.o.bucket, x.o.key, []⟩ M.uploads })) := (begin_no_all m M hM x G hx).2 hB
theorem begin_spec : FSpec Tryz.prog 90 [.pointer (some ⟨m, 0, none⟩), .agg x.cells.toArray] [BktAt m M, G] (ActR m G (M.begin x.o)) := by
  unfold BM.begin
  split
  · rename_i hB; exact begin_no m M hM x G hx hB
  · rename_i hB; exact begin_yes m M hM x G hx hB

theorem part_no_all : (∀ (hU : sget x.o.upload M.uploads = none), FSpec Tryz.prog 91 [.pointer (some ⟨m, 0, none⟩), .agg x.cells.toArray] [BktAt m M, G] (ActR m G (st 404, M))) ∧ (∀ (hdl : x.o.data.length ≤ 16777216) {u : UM} (hU : sget x.o.upload M.uploads = some u), FSpec Tryz.prog 91 [.pointer (some ⟨m, 0, none⟩), .agg x.cells.toArray] [BktAt m M, G] (ActR m G (st 200, { M with uploads := sput ltN x.o.upload ⟨u.bucket, u.key, sput ltI x.o.n x.o.data u.parts⟩ M.uploads }))) := by
  refine ⟨fun hU => ?_, fun hdl {u} hU => ?_⟩
  all_goals
   have hsm := hx.small
   refine FSpec.of Tryz.func91 rfl Tryz.ntmps91 rfl fun W0 F => ?_
   refine J.seq <| J.region ?_
   refine J.c rfl rfl (C.box (l := [_, _, _, _, _, _, _, _, _]) rfl rfl) ?_
   rintro _ _ ⟨b3, rfl, rfl⟩
   refine J.norm rfl ?_
   refine J.c rfl rfl (C.alloc (l := [_, _, _, _, _]) Tryz.zeroValue44 rfl) ?_
   rintro _ _ ⟨b4, rfl, rfl⟩
   refine J.norm rfl <| J.nil <| J.then_n <| J.seq ?_
   try have hP := hM.ps _ _ hU
   refine J.open1 2 rfl (fun _ h => h) fun z => ?_
   refine J.norm rfl ?_
   first
     | (refine J.mapFocus 2 hU rfl fun val => ?_
        refine J.norm rfl ?_
        refine J.open_ 0 rfl rfl (fun _ h => h) fun z2 hz2 => ?_
        subst hz2
        refine J.norm rfl ?_)
     | skip
   refine J.draw [7] Tryz.mixed (by kernel_rfl) fun hR => ?_
   refine RG.p 0 hR rfl (Q.mv rfl) <| RG.p 1 hR rfl (Q.nil_ rfl) <| RG.p 2 hR rfl (Q.fa (n := 1) Tryz.runUnderlying167 rfl rfl Tryz.sizeOf164 rfl) ?_
   refine RG.p 3 hR rfl (Q.ld Tryz.isAgg164 rfl (rdI (by exact rfl))) ?_
   refine RG.p 4 hR rfl (Q.fa (n := 6) Tryz.runUnderlying52 rfl rfl Tryz.sizeOf40 rfl) ?_
   refine RG.p 5 hR rfl (Q.ld Tryz.isAgg40 rfl (rdI (by exact rfl))) ?_
   refine RG.p 6 hR rfl (by first | exact X.G.Q.lkNo (i := 2) Tryz.runUnderlying164 keyU Tryz.zeroValue180 rfl rfl rfl hU | exact X.G.Q.lkYes (i := 2) Tryz.runUnderlying164 keyU Tryz.zeroValue180 rfl rfl rfl) ?_
   refine RG.bar 7 hR rfl rfl rfl rfl rfl rfl (Q.asg rfl).toC ?_
   rintro _ _ ⟨rfl, rfl⟩
   refine RG.norm rfl ?_
   refine RG.fin hR rfl ?_
   refine J.norm rfl <| J.then_n <| J.seq <| J.seq <| J.region <| J.m rfl <| J.p rfl (Q.eqlp Tryz.runUnderlying180 rfl rfl) <| J.nil <| J.then_n ?_
   refine J.cases 14 rfl (fun hc14 => ?_) (fun hc14 => ?_)
   ·
    replace hc14 := X.nm hc14
    try (first | (cases hc14; done) | (exfalso; simp at hc14; done))
    all_goals
     refine J.cond_t rfl <| J.seq <| J.region ?_
     refine J.call Tryz.call73 (status_spec 404) [] rfl rfl rfl rfl ?_
     rintro _ _ ⟨y, rfl, hy, rfl⟩
     refine J.norm rfl ?_
     refine J.stAI (vs := [_, _, _, _, _]) rfl Tryz.sizeOf44 rfl rfl (by exact rfl) (by exact rfl) (by exact rfl) ?_
     refine J.nil <| J.then_n <| J.cret <| J.then_r ?_
     refine J.shut [1, 2, 3, 4] (BktAt m M) rfl (fun h s => ⟨z, s⟩) ?_
     refine J.retC [0, 1, 4, 5] (vs := [_, _, _, _, _]) rfl rfl Tryz.isAgg44 Tryz.sizeOf44 (ReadsN.pt 2 rfl) rfl (B := [_, _, _]) ⟨_, rfl, hy, rfl⟩
   replace hc14 := X.nm hc14
   try (first | (cases hc14; done) | (exfalso; simp at hc14; done))
   all_goals
    refine J.cond_f rfl <| J.cskip <| J.then_n <| J.seq ?_
    refine J.keep [0, 7, 1, 2, 3, 4, 5, 6, 8, 9] rfl ?_
    refine J.drawE [8, 9] 2 Tryz.mixed (by kernel_rfl) rfl rfl fun hR => ?_
    refine RG.p 0 hR rfl (Q.mv rfl) <| RG.p 1 hR rfl (Q.nil_ rfl) <| RG.p 2 hR rfl (Q.fa (n := 2) Tryz.runUnderlying183 rfl rfl Tryz.sizeOf181 rfl) ?_
    refine RG.p 3 hR rfl (Q.ld Tryz.isAgg181 rfl (rdI (by exact rfl))) ?_
    refine RG.p 4 hR rfl (Q.fa (n := 5) Tryz.runUnderlying52 rfl rfl Tryz.sizeOf3 rfl) ?_
    refine RG.p 5 hR rfl (Q.ld Tryz.isAgg3 rfl (rdI (by exact rfl))) ?_
    refine RG.p 6 hR rfl (Q.fa (n := 8) Tryz.runUnderlying52 rfl rfl Tryz.sizeOf42 rfl) ?_
    refine RG.p 7 hR rfl (Q.ld Tryz.isAgg42 rfl (rdI (by exact rfl))) ?_
    refine RG.callk 8 hR rfl rfl rfl rfl rfl Tryz.call82 (clone_spec G x.dp x.dc x.o.data hx.data (by omega)) [8] rfl rfl ?_
    rintro _ _ ⟨p24, c24, rfl, rfl⟩
    refine ⟨_, X.pick_perm (is := [2, 3]) rfl, ?_⟩
    refine RG.bar 9 hR rfl rfl rfl rfl rfl rfl (X.G.C.mapPut 4 x.o.data ord3_int hP.1 Tryz.runUnderlying181 keyI rfl rfl rfl rfl) ?_
    rintro _ _ ⟨rfl, rfl⟩
    refine RG.norm rfl ?_
    refine RG.fin hR rfl ?_
    refine J.norm rfl <| J.then_n <| J.seq <| J.region ?_
    refine J.call Tryz.call73 (status_spec 200) [] rfl rfl rfl rfl ?_
    rintro _ _ ⟨y, rfl, hy, rfl⟩
    refine J.norm rfl ?_
    refine J.stAI (vs := [_, _, _, _, _]) rfl Tryz.sizeOf44 rfl rfl (by exact rfl) (by exact rfl) (by exact rfl) ?_
    refine J.nil <| J.then_n <| J.cret ?_
    refine J.shut [3] (datRep x.o.n x.o.data (.slice p24 x.o.data.length c24)) rfl (fun h s => ⟨(p24, c24), rfl, s⟩) ?_
    refine J.mapBack 0 5 x.o.data ord3_int (X.G.srtd_put ord3_int hP.1 _ _) rfl ?_
    rw [X.G.sput_put ord3_int hP.1]
    refine J.shut [2, 0] (uRep x.o.upload ⟨u.bucket, u.key, sput ltI x.o.n x.o.data u.parts⟩ (.pointer (some ⟨z2.1, 0, none⟩))) rfl (fun h s => ⟨z2, rfl, s⟩) ?_
    refine J.mapBack 0 4 ⟨u.bucket, u.key, sput ltI x.o.n x.o.data u.parts⟩ ord3_nat hM.us rfl ?_
    refine J.shut [4, 5, 0, 6] (BktAt m { M with uploads := sput ltN x.o.upload ⟨u.bucket, u.key, sput ltI x.o.n x.o.data u.parts⟩ M.uploads }) rfl (fun h s => ⟨z, s⟩) ?_
    refine J.retC [0, 1, 3, 5] (vs := [_, _, _, _, _]) rfl rfl Tryz.isAgg44 Tryz.sizeOf44 (ReadsN.pt 4 rfl) rfl (B := [_, _, _]) ⟨_, rfl, hy, rfl⟩
theorem part_no (hU : sget x.o.upload M.uploads = none) : FSpec Tryz.prog 91 [.pointer (some ⟨m, 0, none⟩), .agg x.cells.toArray] [BktAt m M, G] (ActR m G (st 404, M)) := (part_no_all m M hM x G hx).1 hU
theorem part_yes (hdl : x.o.data.length ≤ 16777216) {u : UM} (hU : sget x.o.upload M.uploads = some u) : FSpec Tryz.prog 91 [.pointer (some ⟨m, 0, none⟩), .agg x.cells.toArray] [BktAt m M, G] (ActR m G (st 200, { M with uploads := sput ltN x.o.upload ⟨u.bucket, u.key, sput ltI x.o.n x.o.data u.parts⟩ M.uploads })) := (part_no_all m M hM x G hx).2 hdl hU
theorem part_spec (hdl : x.o.data.length ≤ 16777216) : FSpec Tryz.prog 91 [.pointer (some ⟨m, 0, none⟩), .agg x.cells.toArray] [BktAt m M, G] (ActR m G (M.part x.o)) := by
  unfold BM.part
  split
  · rename_i hU; exact part_no m M hM x G hx hU
  · rename_i hU; exact part_yes m M hM x G hx hdl hU

theorem abort_no_all : (∀ (hU : sget x.o.upload M.uploads = none), FSpec Tryz.prog 93 [.pointer (some ⟨m, 0, none⟩), .agg x.cells.toArray] [BktAt m M, G] (ActR m G (st 404, M))) ∧ (∀ {u : UM} (hU : sget x.o.upload M.uploads = some u), FSpec Tryz.prog 93 [.pointer (some ⟨m, 0, none⟩), .agg x.cells.toArray] [BktAt m M, G] (ActR m G (st 200, { M with uploads := sdel x.o.upload M.uploads }))) := by
  refine ⟨fun hU => ?_, fun {u} hU => ?_⟩
  all_goals
   refine FSpec.of Tryz.func93 rfl Tryz.ntmps93 rfl fun W0 F => ?_
   refine J.seq <| J.region ?_
   refine J.c rfl rfl (C.box (l := [_, _, _, _, _, _, _, _, _]) rfl rfl) ?_
   rintro _ _ ⟨b3, rfl, rfl⟩
   refine J.norm rfl ?_
   refine J.c rfl rfl (C.alloc (l := [_, _, _, _, _]) Tryz.zeroValue44 rfl) ?_
   rintro _ _ ⟨b4, rfl, rfl⟩
   refine J.norm rfl <| J.nil <| J.then_n <| J.seq <| J.seq ?_
   try have hP := hM.ps _ _ hU
   refine J.open1 2 rfl (fun _ h => h) fun z => ?_
   refine J.norm rfl ?_
   first
     | (refine J.mapFocus 2 hU rfl fun val => ?_
        refine J.norm rfl ?_
        refine J.open_ 0 rfl rfl (fun _ h => h) fun z2 hz2 => ?_
        subst hz2
        refine J.norm rfl ?_)
     | skip
   refine J.draw [] Tryz.mixed (by kernel_rfl) fun hR => ?_
   refine RG.p 0 hR rfl (Q.mv rfl) <| RG.p 1 hR rfl (Q.nil_ rfl) <| RG.p 2 hR rfl (Q.fa (n := 1) Tryz.runUnderlying167 rfl rfl Tryz.sizeOf164 rfl) ?_
   refine RG.p 3 hR rfl (Q.ld Tryz.isAgg164 rfl (rdI (by exact rfl))) ?_
   refine RG.p 4 hR rfl (Q.fa (n := 6) Tryz.runUnderlying52 rfl rfl Tryz.sizeOf40 rfl) ?_
   refine RG.p 5 hR rfl (Q.ld Tryz.isAgg40 rfl (rdI (by exact rfl))) ?_
   refine RG.p 6 hR rfl (by first | exact X.G.Q.lkNo (i := 2) Tryz.runUnderlying164 keyU Tryz.zeroValue180 rfl rfl rfl hU | exact X.G.Q.lkYes (i := 2) Tryz.runUnderlying164 keyU Tryz.zeroValue180 rfl rfl rfl) ?_
   refine RG.p 7 hR rfl (Q.eqlp Tryz.runUnderlying180 rfl rfl) ?_
   refine RG.fin hR rfl ?_
   refine J.norm rfl <| J.then_n ?_
   refine J.cases 12 rfl (fun hc12 => ?_) (fun hc12 => ?_)
   ·
    replace hc12 := X.nm hc12
    try (first | (cases hc12; done) | (exfalso; simp at hc12; done))
    all_goals
     refine J.cond_t rfl <| J.seq <| J.region ?_
     refine J.call Tryz.call73 (status_spec 404) [] rfl rfl rfl rfl ?_
     rintro _ _ ⟨y, rfl, hy, rfl⟩
     refine J.norm rfl ?_
     refine J.stAI (vs := [_, _, _, _, _]) rfl Tryz.sizeOf44 rfl rfl (by exact rfl) (by exact rfl) (by exact rfl) ?_
     refine J.nil <| J.then_n <| J.cret <| J.then_r ?_
     refine J.shut [1, 2, 3, 4] (BktAt m M) rfl (fun h s => ⟨z, s⟩) ?_
     refine J.retC [0, 1, 4, 5] (vs := [_, _, _, _, _]) rfl rfl Tryz.isAgg44 Tryz.sizeOf44 (ReadsN.pt 2 rfl) rfl (B := [_, _, _]) ⟨_, rfl, hy, rfl⟩
   replace hc12 := X.nm hc12
   try (first | (cases hc12; done) | (exfalso; simp at hc12; done))
   all_goals
    refine J.cond_f rfl <| J.cskip <| J.then_n <| J.seq ?_
    refine J.shut [0, 1] (uRep x.o.upload u (.pointer (some ⟨z2.1, 0, none⟩))) rfl (fun h s => ⟨z2, rfl, s⟩) ?_
    refine J.mapSame 0 1 ord3_nat hM.us hU rfl ?_
    refine J.draw [6] Tryz.mixed (by kernel_rfl) fun hR => ?_
    refine RG.p 0 hR rfl (Q.mv rfl) <| RG.p 1 hR rfl (Q.nil_ rfl) <| RG.p 2 hR rfl (Q.fa (n := 1) Tryz.runUnderlying167 rfl rfl Tryz.sizeOf164 rfl) ?_
    refine RG.p 3 hR rfl (Q.ld Tryz.isAgg164 rfl (rdI (by exact rfl))) ?_
    refine RG.p 4 hR rfl (Q.fa (n := 6) Tryz.runUnderlying52 rfl rfl Tryz.sizeOf40 rfl) ?_
    refine RG.p 5 hR rfl (Q.ld Tryz.isAgg40 rfl (rdI (by exact rfl))) ?_
    refine RG.bar 6 hR rfl rfl rfl rfl rfl rfl (X.G.C.mapDel 0 Tryz.runUnderlying164 keyU rfl rfl) ?_
    rintro _ _ ⟨rfl, rfl⟩
    refine RG.norm rfl ?_
    refine RG.fin hR rfl ?_
    refine J.norm rfl <| J.then_n <| J.seq <| J.region ?_
    refine J.call Tryz.call73 (status_spec 200) [] rfl rfl rfl rfl ?_
    rintro _ _ ⟨y, rfl, hy, rfl⟩
    refine J.norm rfl ?_
    refine J.stAI (vs := [_, _, _, _, _]) rfl Tryz.sizeOf44 rfl rfl (by exact rfl) (by exact rfl) (by exact rfl) ?_
    refine J.nil <| J.then_n <| J.cret ?_
    refine J.shut [2, 3, 1, 4] (BktAt m { M with uploads := sdel x.o.upload M.uploads }) rfl (fun h s => ⟨z, s⟩) ?_
    refine J.retC [0, 1, 4, 5] (vs := [_, _, _, _, _]) rfl rfl Tryz.isAgg44 Tryz.sizeOf44 (ReadsN.pt 2 rfl) rfl (B := [_, _, _]) ⟨_, rfl, hy, rfl⟩
theorem abort_no (hU : sget x.o.upload M.uploads = none) : FSpec Tryz.prog 93 [.pointer (some ⟨m, 0, none⟩), .agg x.cells.toArray] [BktAt m M, G] (ActR m G (st 404, M)) := (abort_no_all m M hM x G hx).1 hU
theorem abort_yes {u : UM} (hU : sget x.o.upload M.uploads = some u) : FSpec Tryz.prog 93 [.pointer (some ⟨m, 0, none⟩), .agg x.cells.toArray] [BktAt m M, G] (ActR m G (st 200, { M with uploads := sdel x.o.upload M.uploads })) := (abort_no_all m M hM x G hx).2 hU
theorem abort_spec : FSpec Tryz.prog 93 [.pointer (some ⟨m, 0, none⟩), .agg x.cells.toArray] [BktAt m M, G] (ActR m G (M.abort x.o)) := by
  unfold BM.abort
  split
  · rename_i hU; exact abort_no m M hM x G hx hU
  · rename_i hU; exact abort_yes m M hM x G hx hU
end
end Go.Proofs.YtidbcaimgahllaaGreat
namespace Go.Proofs.YtidbcaimgahllaaGreat
set_option linter.unusedSectionVars false
set_option linter.unusedSimpArgs false
set_option linter.unusedVariables false
open Go.X
open Go.X.G (Ord3 ord3_nat ord3_int ord3_str ltB sget sput sdel Srtd MapAt MapHole Ent Ents edone eleft)

def BM.uses (M : BM) (b : ByteArray) : Bool := M.uploads.any fun p => decide (p.2.bucket = b)
def BM.unmake (M : BM) (o : OM) : RM × BM :=
  match sget o.bucket M.buckets with
  | none => (st 404, M)
  | some objs => if (decide (0 < objs.length) || M.uses o.bucket) = true then (st 409, M) else (st 200, { M with buckets := sdel o.bucket M.buckets })

def partOf (P : Parts) (n : Int) : List UInt8 := (sget n P).getD []
def collect (P : Parts) (l : List Int) : Option (List UInt8) := if (l.all fun n => (sget n P).isSome) = true then some (l.flatMap (partOf P)) else none
def BM.complete (M : BM) (o : OM) : RM × BM :=
  match sget o.upload M.uploads with
  | none => (st 404, M)
  | some u => match collect u.parts o.parts with
    | none => (st 400, M)
    | some d => (st 200, { M with buckets := sput ltB u.bucket (sput ltB u.key d ((sget u.bucket M.buckets).getD [])) M.buckets, uploads := sdel o.upload M.uploads })

theorem bytes_eq (a b : ByteArray) : decide (a.data.toList = b.data.toList) = decide (a = b) := by
  rw [Bool.eq_iff_iff]
  simp only [decide_eq_true_eq]
  refine ⟨fun h => ?_, fun h => by rw [h]⟩
  cases a; cases b; simp only [ByteArray.mk.injEq] at *; exact Array.toList_inj.1 h

theorem any_perm {α : Type} {p : α → Bool} {l m : List α} (h : l.Perm m) : l.any p = m.any p := by
  rw [Bool.eq_iff_iff, List.any_eq_true, List.any_eq_true]
  exact ⟨fun ⟨x, a, b⟩ => ⟨x, h.mem_iff.1 a, b⟩, fun ⟨x, a, b⟩ => ⟨x, h.mem_iff.2 a, b⟩⟩

def entUses (b : ByteArray) (es : List (Ent Nat UM)) : Bool := es.any fun e => decide (e.v.bucket = b)
theorem entUses_all {M : BM} {es : List (Ent Nat UM)} {c : Nat} (h : Ents M.uploads es c) (b : ByteArray) : entUses b es = M.uses b := by
  unfold entUses BM.uses
  rw [← any_perm h.perm, List.any_map]; rfl
theorem entUses_step {es : List (Ent Nat UM)} {seen : List Nat} {e : Ent Nat UM} (hn : (es.map (·.born)).Nodup) (he : e ∈ eleft es seen) (b : ByteArray) : entUses b (edone es (seen ++ [e.born])) = (entUses b (edone es seen) || decide (e.v.bucket = b)) := by
  unfold entUses
  rw [any_perm (X.G.estep hn he).1, List.any_cons, Bool.or_comm]

theorem flat_take_succ {P : Parts} {l : List Int} {k : Nat} {v : Int} {d : List UInt8} (h : l[k]? = some v) (hd : sget v P = some d) : (l.take (k + 1)).flatMap (partOf P) = (l.take k).flatMap (partOf P) ++ d := by
  obtain ⟨h1, h2⟩ := List.getElem?_eq_some_iff.1 h
  rw [List.take_succ_eq_append_getElem h1, List.flatMap_append, h2, List.flatMap_cons, List.flatMap_nil, List.append_nil]
  congr 1
  unfold partOf; rw [hd]; rfl
theorem all_take_some {P : Parts} {l : List Int} {k : Nat} {v : Int} (h : l[k]? = some v) (ha : ((l.take k).all fun n => (sget n P).isSome) = true) (hd : (sget v P).isSome = true) : ((l.take (k + 1)).all fun n => (sget n P).isSome) = true := by
  obtain ⟨h1, h2⟩ := List.getElem?_eq_some_iff.1 h
  rw [List.take_succ_eq_append_getElem h1, List.all_append, ha, h2, List.all_cons, hd]; rfl
theorem collect_none {P : Parts} {l : List Int} {k : Nat} {v : Int} (h : l[k]? = some v) (hd : sget v P = none) : collect P l = none := by
  unfold collect
  rw [if_neg]
  intro ha
  rw [List.all_eq_true] at ha
  have := ha v (List.mem_of_getElem? h)
  rw [hd] at this; cases this

theorem partOf_len {P : Parts} (hP : ∀ a d, sget a P = some d → d.length ≤ 16777216) (n : Int) : (partOf P n).length ≤ 16777216 := by
  unfold partOf
  cases h : sget n P with
  | none => simp
  | some d => exact hP n d h
theorem flat_len {P : Parts} (hP : ∀ a d, sget a P = some d → d.length ≤ 16777216) : ∀ l : List Int, (l.flatMap (partOf P)).length ≤ l.length * 16777216
  | [] => by simp
  | n :: l => by
    have h1 := flat_len hP l
    have h2 := partOf_len hP n
    simp only [List.flatMap_cons, List.length_append, List.length_cons]; omega

section
variable {k : Nat} (m : Nat) (M : BM) (hM : M.ok k) (x : OW) (G : Assn) (hx : x.ok G)
include hM hx

theorem unmake_no (hB : sget x.o.bucket M.buckets = none) : FSpec Tryz.prog 85 [.pointer (some ⟨m, 0, none⟩), .agg x.cells.toArray] [BktAt m M, G] (ActR m G (st 404, M)) := by
  refine FSpec.of Tryz.func85 rfl Tryz.ntmps85 rfl fun W0 F => ?_
  refine J.seq <| J.region ?_
  refine J.c rfl rfl (C.box (l := [_, _, _, _, _, _, _, _, _]) rfl rfl) ?_
  rintro _ _ ⟨b3, rfl, rfl⟩
  refine J.norm rfl ?_
  refine J.c rfl rfl (C.alloc (l := [_, _, _, _, _]) Tryz.zeroValue44 rfl) ?_
  rintro _ _ ⟨b4, rfl, rfl⟩
  refine J.norm rfl <| J.nil <| J.then_n <| J.seq <| J.seq <| J.region <| J.m rfl ?_
  refine J.p rfl (Q.ldN (vs := [_, _, _, _, _, _, _, _, _]) Tryz.isAgg52 Tryz.sizeOf52 rfl rnI) ?_
  refine J.call Tryz.call94 (known_no m M x hB) [2] rfl rfl rfl rfl ?_
  rintro _ _ ⟨rfl, rfl⟩
  refine J.norm rfl <| J.p rfl (Q.not rfl) <| J.nil <| J.then_n ?_
  refine J.cases 11 rfl (fun hc11 => ?_) (fun hc11 => ?_)
  ·
   replace hc11 := X.nm hc11
   try (first | (cases hc11; done) | (exfalso; simp at hc11; done))
   all_goals
    refine J.cond_t rfl <| J.seq <| J.region ?_
    refine J.call Tryz.call73 (status_spec 404) [] rfl rfl rfl rfl ?_
    rintro _ _ ⟨y, rfl, hy, rfl⟩
    refine J.norm rfl ?_
    refine J.stAI (vs := [_, _, _, _, _]) rfl Tryz.sizeOf44 rfl rfl (by exact rfl) (by exact rfl) (by exact rfl) ?_
    refine J.nil <| J.then_n <| J.cret <| J.then_r ?_
    refine J.retC [1, 0, 4, 5] (vs := [_, _, _, _, _]) rfl rfl Tryz.isAgg44 Tryz.sizeOf44 (ReadsN.pt 2 rfl) rfl (B := [_, _, _]) ⟨_, rfl, hy, rfl⟩
  exact absurd hc11 (by simp)
theorem unmake_yes {objs : Objs} (hB : sget x.o.bucket M.buckets = some objs) : FSpec Tryz.prog 85 [.pointer (some ⟨m, 0, none⟩), .agg x.cells.toArray] [BktAt m M, G] (ActR m G (if (decide (0 < objs.length) || M.uses x.o.bucket) = true then (st 409, M) else (st 200, { M with buckets := sdel x.o.bucket M.buckets }))) := by
  refine FSpec.of Tryz.func85 rfl Tryz.ntmps85 rfl fun W0 F => ?_
  refine J.seq <| J.region ?_
  refine J.c rfl rfl (C.box (l := [_, _, _, _, _, _, _, _, _]) rfl rfl) ?_
  rintro _ _ ⟨b3, rfl, rfl⟩
  refine J.norm rfl ?_
  refine J.c rfl rfl (C.alloc (l := [_, _, _, _, _]) Tryz.zeroValue44 rfl) ?_
  rintro _ _ ⟨b4, rfl, rfl⟩
  refine J.norm rfl <| J.nil <| J.then_n <| J.seq <| J.seq <| J.region <| J.m rfl ?_
  refine J.p rfl (Q.ldN (vs := [_, _, _, _, _, _, _, _, _]) Tryz.isAgg52 Tryz.sizeOf52 rfl rnI) ?_
  refine J.call Tryz.call94 (known_yes m M hM x hB) [2] rfl rfl rfl rfl ?_
  rintro _ _ ⟨rfl, rfl⟩
  refine J.norm rfl <| J.p rfl (Q.not rfl) <| J.nil <| J.then_n ?_
  refine J.cases 11 rfl (fun hc11 => ?_) (fun hc11 => ?_)
  ·
   cases hc11
  replace hc11 := X.nm hc11
  refine J.cond_f rfl <| J.cskip <| J.then_n <| J.seq ?_
  refine J.open1 0 rfl (fun _ h => h) fun z => ?_
  refine J.norm rfl ?_
  refine J.mapFocus 1 hB rfl fun val => ?_
  refine J.norm rfl ?_
  refine J.open_ 0 rfl rfl (fun _ h => h) fun r hr => ?_
  subst hr
  refine J.norm rfl ?_
  refine J.draw [9] Tryz.mixed (by kernel_rfl) fun hR => ?_
  refine RG.p 0 hR rfl (Q.mv rfl) <| RG.p 1 hR rfl (Q.nil_ rfl) <| RG.p 2 hR rfl (Q.fa (n := 0) Tryz.runUnderlying167 rfl rfl Tryz.sizeOf163 rfl) ?_
  refine RG.p 3 hR rfl (Q.ld Tryz.isAgg163 rfl (rdI (by exact rfl))) ?_
  refine RG.p 4 hR rfl (Q.fa (n := 2) Tryz.runUnderlying52 rfl rfl Tryz.sizeOf9 rfl) ?_
  refine RG.p 5 hR rfl (Q.ld Tryz.isAgg9 rfl (rdI (by exact rfl))) ?_
  refine RG.p 6 hR rfl (X.G.Q.lkYes (i := 1) Tryz.runUnderlying163 keyS Tryz.zeroValue179 rfl rfl rfl) ?_
  refine RG.p 7 hR rfl (X.G.Q.lenAt (i := 0) Tryz.runUnderlying179 rfl rfl) ?_
  refine RG.p 8 hR rfl (Q.gtr rfl rfl) ?_
  refine RG.bar 9 hR rfl rfl rfl rfl rfl rfl (Q.asg rfl).toC ?_
  rintro _ _ ⟨rfl, rfl⟩
  refine RG.norm rfl ?_
  refine RG.fin hR rfl ?_
  refine J.norm rfl <| J.then_n <| J.seq <| J.seq ?_
  refine J.open_ 3 rfl rfl (fun _ h => h) fun q hq => ?_
  refine J.norm rfl <| J.region <| J.m rfl <| J.p rfl (Q.nil_ rfl) <| J.p rfl (Q.fa (n := 1) Tryz.runUnderlying167 rfl rfl Tryz.sizeOf164 rfl) ?_
  refine J.p rfl (Q.ld Tryz.isAgg164 rfl (rdI (by exact rfl))) ?_
  refine J.c rfl rfl (X.G.C.range (i := 0) Tryz.runUnderlying164 rfl rfl) ?_
  rintro _ _ ⟨b26, rfl, rfl⟩
  refine J.norm rfl <| J.nil <| J.then_n <| J.block ?_
  refine J.loop (fun z' : List Nat × Bool => z'.2 = (decide (0 < objs.length) || entUses x.o.bucket (edone q.1 z'.1))) (fun z' => (eleft q.1 z'.1).length) (fun z' => [(0, .pointer (some ⟨m, 0, none⟩)), (3, .pointer (some ⟨b3, 0, none⟩)), (4, .pointer (some ⟨b4, 0, none⟩)), (5, .bool z'.2), (26, .pointer (some ⟨b26, 0, none⟩))])
    (fun z' => [pt b26 (X.G.miter z.2.1 q.2 z'.1), pt z.2.1 (X.G.mobj encU (q.1.map Ent.m) q.2), star (q.1.map (Ent.asn uRep)), MapAt Value.string datRep r objs, MapHole Value.string bRep z.1 M.buckets x.o.bucket (.map (some r)), pt m (.cells [.map (some z.1), .map (some z.2.1), .map (some z.2.2)].toArray 167 (0, 0)), MapAt encU dRep z.2.2 M.done, pt b4 (.cells [Value.int .i64 0, .int .u64 0, .slice none 0 0, .bool false, .slice none 0 0].toArray 44 (0, 0)), pt b3 (.cells x.cells.toArray 52 (0, 0)), G, F])
    ([], decide (0 < objs.length)) (by simp [X.G.edone_nil, entUses]) ⟨rfl, rfl, rfl, congrArg some (congrArg Value.bool (by simp)), rfl, trivial⟩ rfl fun z' hz => ?_
  obtain ⟨seen, used⟩ := z'
  dsimp only at hz
  refine J.seq <| J.region ?_
  refine J.c rfl rfl (X.G.C.nextE (i := 0) (j := 1) hq rfl rfl rfl) ?_
  rintro _ _ ⟨t, rest, seen', rfl, rfl, hst⟩
  refine J.norm rfl <| J.p rfl (Q.ext rfl rfl) <| J.nil <| J.then_n <| J.seq ?_
  refine J.cases 28 rfl (fun hc28 => ?_) (fun hc28 => ?_)
  ·
   replace hc28 := X.nm hc28
   obtain ⟨e, he, rfl⟩ : ∃ e, e ∈ eleft q.1 seen ∧ seen' = seen ++ [e.born] := by rcases hst with ⟨h, _⟩ | ⟨_, h⟩; exact absurd hc28 (by rw [h]; decide); exact h
   refine J.cond_t rfl <| J.cskip <| J.then_n <| J.block <| J.seq <| J.region ?_
   have hstep := X.G.estep hq.born he
   have huse := entUses_step hq.born he x.o.bucket
   obtain ⟨j, hj⟩ := List.getElem?_of_mem (List.mem_filter.1 he).1
   obtain ⟨ek, eu, eval, eb⟩ := e
   refine J.p rfl (X.G.Q.entryE (i := 0) (j := 1) hq he rfl rfl rfl) ?_
   refine J.focus 2 j rfl hj ?_
   refine J.norm rfl ?_
   refine J.conv (Y := uRep ek eu eval) 0 rfl (fun _ h => h) ?_
   refine J.open_ 0 rfl rfl (fun _ h => h) fun z2 hz2 => ?_
   subst hz2
   refine J.norm rfl <| J.p rfl (Q.ext rfl rfl) <| J.p rfl (Q.asg rfl) <| J.nil <| J.then_n ?_
   refine J.draw [10] Tryz.mixed (by kernel_rfl) fun hR => ?_
   refine RG.p 0 hR rfl (Q.mv rfl) <| RG.p 1 hR rfl (Q.mv rfl) ?_
   refine RG.cases 32 rfl (fun hb32 => ?_) (fun hb32 => ?_)
   ·
    replace hb32 := X.nm hb32
    refine RG.skip 2 hR rfl rfl rfl rfl rfl rfl <| RG.skip 3 hR rfl rfl rfl rfl rfl rfl <| RG.skip 4 hR rfl rfl rfl rfl rfl rfl <| RG.skip 5 hR rfl rfl rfl rfl rfl rfl <| RG.skip 6 hR rfl rfl rfl rfl rfl rfl <| RG.skip 7 hR rfl rfl rfl rfl rfl rfl <| RG.skip 8 hR rfl rfl rfl rfl rfl rfl <| RG.p 9 hR rfl (Q.pick_t rfl rfl) ?_
    refine RG.bar 10 hR rfl rfl rfl rfl rfl rfl (Q.asg rfl).toC ?_
    rintro _ _ ⟨rfl, rfl⟩
    refine RG.norm rfl ?_
    refine RG.fin hR rfl ?_
    refine J.norm rfl <| J.blk_n ?_
    refine J.shut [0, 1] (uRep ek eu (.pointer (some ⟨z2.1, 0, none⟩))) rfl (fun h s => ⟨z2, rfl, s⟩) ?_
    refine J.refocus (f := Ent.asn uRep) 0 1 j ⟨ek, eu, .pointer (some ⟨z2.1, 0, none⟩), eb⟩ rfl hj ?_
    refine J.keep [1, 2, 0, 3, 4, 5, 6, 7, 8, 9, 10] rfl ?_
    refine J.again (seen ++ [eb], _) ?_ hstep.2 ⟨rfl, rfl, rfl, rfl, rfl, trivial⟩ rfl
    dsimp only at huse ⊢
    rw [huse, ← Bool.or_assoc, ← hz]
    first
      | (have hb : used = true := hb32
         rw [hb]; rfl)
      | (have hb : used = false := hb32
         rw [hb, Bool.false_or]; exact bytes_eq _ _)
   replace hb32 := X.nm hb32
   refine RG.p 2 hR rfl (Q.mv rfl) <| RG.p 3 hR rfl (Q.nil_ rfl) <| RG.p 4 hR rfl (Q.fa (n := 0) Tryz.runUnderlying183 rfl rfl Tryz.sizeOf9 rfl) ?_
   refine RG.p 5 hR rfl (Q.ld Tryz.isAgg9 rfl (rdI (by exact rfl))) ?_
   refine RG.p 6 hR rfl (Q.fa (n := 2) Tryz.runUnderlying52 rfl rfl Tryz.sizeOf9 rfl) ?_
   refine RG.p 7 hR rfl (Q.ld Tryz.isAgg9 rfl (rdI (by exact rfl))) ?_
   refine RG.p 8 hR rfl (Q.eqls rfl rfl) <| RG.p 9 hR rfl (Q.pick_f rfl rfl) ?_
   refine RG.bar 10 hR rfl rfl rfl rfl rfl rfl (Q.asg rfl).toC ?_
   rintro _ _ ⟨rfl, rfl⟩
   refine RG.norm rfl ?_
   refine RG.fin hR rfl ?_
   refine J.norm rfl <| J.blk_n ?_
   refine J.shut [0, 1] (uRep ek eu (.pointer (some ⟨z2.1, 0, none⟩))) rfl (fun h s => ⟨z2, rfl, s⟩) ?_
   refine J.refocus (f := Ent.asn uRep) 0 1 j ⟨ek, eu, .pointer (some ⟨z2.1, 0, none⟩), eb⟩ rfl hj ?_
   refine J.keep [1, 2, 0, 3, 4, 5, 6, 7, 8, 9, 10] rfl ?_
   refine J.again (seen ++ [eb], _) ?_ hstep.2 ⟨rfl, rfl, rfl, rfl, rfl, trivial⟩ rfl
   dsimp only at huse ⊢
   rw [huse, ← Bool.or_assoc, ← hz]
   first
     | (have hb : used = true := hb32
        rw [hb]; rfl)
     | (have hb : used = false := hb32
        rw [hb, Bool.false_or]; exact bytes_eq _ _)
  replace hc28 := X.nm hc28
  obtain ⟨hall, rfl⟩ : edone q.1 seen = q.1 ∧ seen' = seen := by rcases hst with ⟨_, h⟩ | ⟨h, _⟩; exact h; exact absurd hc28 (by rw [h]; decide)
  refine J.cond_f rfl <| J.exit <| J.then_x <| J.lp_x <| J.blk_x <| J.then_n <| J.seq <| J.seq ?_
  have hused : used = (decide (0 < objs.length) || M.uses x.o.bucket) := by rw [hz, hall, entUses_all hq]
  refine J.shut [1, 2] (MapAt encU uRep z.2.1 M.uploads) rfl (fun h s => ⟨q, hq, s⟩) ?_
  refine J.region <| J.m rfl <| J.nil <| J.then_n ?_
  refine J.cases 41 rfl (fun hc41 => ?_) (fun hc41 => ?_)
  ·
   replace hc41 := X.nm hc41
   refine J.cond_t rfl <| J.seq <| J.region ?_
   refine J.call Tryz.call73 (status_spec 409) [] rfl rfl rfl rfl ?_
   rintro _ _ ⟨y, rfl, hy, rfl⟩
   refine J.norm rfl ?_
   refine J.stAI (vs := [_, _, _, _, _]) rfl Tryz.sizeOf44 rfl rfl (by exact rfl) (by exact rfl) (by exact rfl) ?_
   refine J.nil <| J.then_n <| J.cret <| J.then_r ?_
   rw [if_pos (by rw [← hused]; exact hc41)]
   refine J.shut [3] (bRep x.o.bucket objs (.map (some r))) rfl (fun h s => ⟨r, rfl, s⟩) ?_
   refine J.mapSame 0 4 ord3_str hM.bs hB rfl ?_
   refine J.shut [4, 0, 2, 5] (BktAt m M) rfl (fun h s => ⟨z, s⟩) ?_
   refine J.retC [0, 1, 5, 6] (vs := [_, _, _, _, _]) rfl rfl Tryz.isAgg44 Tryz.sizeOf44 (ReadsN.pt 3 rfl) rfl (B := [_, _, _]) ⟨_, rfl, hy, rfl⟩
  replace hc41 := X.nm hc41
  refine J.cond_f rfl <| J.cskip <| J.then_n <| J.seq ?_
  refine J.shut [2] (bRep x.o.bucket objs (.map (some r))) rfl (fun h s => ⟨r, rfl, s⟩) ?_
  refine J.mapSame 0 3 ord3_str hM.bs hB rfl ?_
  refine J.draw [6] Tryz.mixed (by kernel_rfl) fun hR => ?_
  refine RG.p 0 hR rfl (Q.mv rfl) <| RG.p 1 hR rfl (Q.nil_ rfl) <| RG.p 2 hR rfl (Q.fa (n := 0) Tryz.runUnderlying167 rfl rfl Tryz.sizeOf163 rfl) ?_
  refine RG.p 3 hR rfl (Q.ld Tryz.isAgg163 rfl (rdI (by exact rfl))) ?_
  refine RG.p 4 hR rfl (Q.fa (n := 2) Tryz.runUnderlying52 rfl rfl Tryz.sizeOf9 rfl) ?_
  refine RG.p 5 hR rfl (Q.ld Tryz.isAgg9 rfl (rdI (by exact rfl))) ?_
  refine RG.bar 6 hR rfl rfl rfl rfl rfl rfl (X.G.C.mapDel 0 Tryz.runUnderlying163 keyS rfl rfl) ?_
  rintro _ _ ⟨rfl, rfl⟩
  refine RG.norm rfl ?_
  refine RG.fin hR rfl ?_
  refine J.norm rfl <| J.then_n <| J.seq <| J.region ?_
  refine J.call Tryz.call73 (status_spec 200) [] rfl rfl rfl rfl ?_
  rintro _ _ ⟨y, rfl, hy, rfl⟩
  refine J.norm rfl ?_
  refine J.stAI (vs := [_, _, _, _, _]) rfl Tryz.sizeOf44 rfl rfl (by exact rfl) (by exact rfl) (by exact rfl) ?_
  refine J.nil <| J.then_n <| J.cret ?_
  have hcu : used = false := hc41
  rw [if_neg (by rw [← hused, hcu]; simp)]
  refine J.shut [4, 1, 2, 5] (BktAt m { M with buckets := sdel x.o.bucket M.buckets }) rfl (fun h s => ⟨z, s⟩) ?_
  refine J.retC [0, 1, 5, 6] (vs := [_, _, _, _, _]) rfl rfl Tryz.isAgg44 Tryz.sizeOf44 (ReadsN.pt 3 rfl) rfl (B := [_, _, _]) ⟨_, rfl, hy, rfl⟩
theorem unmake_spec : FSpec Tryz.prog 85 [.pointer (some ⟨m, 0, none⟩), .agg x.cells.toArray] [BktAt m M, G] (ActR m G (M.unmake x.o)) := by
  unfold BM.unmake
  split
  · rename_i hB; exact unmake_no m M hM x G hx hB
  · rename_i hB; exact unmake_yes m M hM x G hx hB

theorem complete_no (hU : sget x.o.upload M.uploads = none) : FSpec Tryz.prog 92 [.pointer (some ⟨m, 0, none⟩), .agg x.cells.toArray] [BktAt m M, G] (ActR m G (st 404, M)) := by
  refine FSpec.of Tryz.func92 rfl Tryz.ntmps92 rfl fun W0 F => ?_
  refine J.seq <| J.region ?_
  refine J.c rfl rfl (C.box (l := [_, _, _, _, _, _, _, _, _]) rfl rfl) ?_
  rintro _ _ ⟨b3, rfl, rfl⟩
  refine J.norm rfl ?_
  refine J.c rfl rfl (C.alloc (l := [_, _, _, _, _]) Tryz.zeroValue44 rfl) ?_
  rintro _ _ ⟨b4, rfl, rfl⟩
  refine J.norm rfl <| J.nil <| J.then_n <| J.seq ?_
  refine J.open1 2 rfl (fun _ h => h) fun z => ?_
  refine J.norm rfl ?_
  refine J.draw [7] Tryz.mixed (by kernel_rfl) fun hR => ?_
  refine RG.p 0 hR rfl (Q.mv rfl) <| RG.p 1 hR rfl (Q.nil_ rfl) <| RG.p 2 hR rfl (Q.fa (n := 1) Tryz.runUnderlying167 rfl rfl Tryz.sizeOf164 rfl) ?_
  refine RG.p 3 hR rfl (Q.ld Tryz.isAgg164 rfl (rdI (by exact rfl))) ?_
  refine RG.p 4 hR rfl (Q.fa (n := 6) Tryz.runUnderlying52 rfl rfl Tryz.sizeOf40 rfl) ?_
  refine RG.p 5 hR rfl (Q.ld Tryz.isAgg40 rfl (rdI (by exact rfl))) ?_
  refine RG.p 6 hR rfl (X.G.Q.lkNo (i := 2) Tryz.runUnderlying164 keyU Tryz.zeroValue180 rfl rfl rfl hU) ?_
  refine RG.bar 7 hR rfl rfl rfl rfl rfl rfl (Q.asg rfl).toC ?_
  rintro _ _ ⟨rfl, rfl⟩
  refine RG.norm rfl ?_
  refine RG.fin hR rfl ?_
  refine J.norm rfl <| J.then_n <| J.seq <| J.seq <| J.region <| J.m rfl <| J.p rfl (Q.eqlp Tryz.runUnderlying180 rfl rfl) <| J.nil <| J.then_n ?_
  refine J.cases 19 rfl (fun hc19 => ?_) (fun hc19 => ?_)
  ·
   replace hc19 := X.nm hc19
   try (first | (cases hc19; done) | (exfalso; simp at hc19; done))
   all_goals
    refine J.cond_t rfl <| J.seq <| J.region ?_
    refine J.call Tryz.call73 (status_spec 404) [] rfl rfl rfl rfl ?_
    rintro _ _ ⟨y, rfl, hy, rfl⟩
    refine J.norm rfl ?_
    refine J.stAI (vs := [_, _, _, _, _]) rfl Tryz.sizeOf44 rfl rfl (by exact rfl) (by exact rfl) (by exact rfl) ?_
    refine J.nil <| J.then_n <| J.cret <| J.then_r ?_
    refine J.shut [1, 2, 3, 4] (BktAt m M) rfl (fun h s => ⟨z, s⟩) ?_
    refine J.retC [0, 1, 4, 5] (vs := [_, _, _, _, _]) rfl rfl Tryz.isAgg44 Tryz.sizeOf44 (ReadsN.pt 2 rfl) rfl (B := [_, _, _]) ⟨_, rfl, hy, rfl⟩
  cases hc19

theorem complete_yes (hpl : x.o.parts.length ≤ 10000) {u : UM} (hU : sget x.o.upload M.uploads = some u) : FSpec Tryz.prog 92 [.pointer (some ⟨m, 0, none⟩), .agg x.cells.toArray] [BktAt m M, G]
    (ActR m G (match collect u.parts x.o.parts with
    | none => (st 400, M)
    | some d => (st 200, { M with buckets := sput ltB u.bucket (sput ltB u.key d ((sget u.bucket M.buckets).getD [])) M.buckets, uploads := sdel x.o.upload M.uploads }))) := by
  have hP := hM.ps _ _ hU
  obtain ⟨objs, hB⟩ := Option.isSome_iff_exists.1 hP.2.1
  have hO := hM.os _ _ hB
  have hfl := flat_len hP.2.2
  refine FSpec.of Tryz.func92 rfl Tryz.ntmps92 rfl fun W0 F => ?_
  refine J.seq <| J.region ?_
  refine J.c rfl rfl (C.box (l := [_, _, _, _, _, _, _, _, _]) rfl rfl) ?_
  rintro _ _ ⟨b3, rfl, rfl⟩
  refine J.norm rfl ?_
  refine J.c rfl rfl (C.alloc (l := [_, _, _, _, _]) Tryz.zeroValue44 rfl) ?_
  rintro _ _ ⟨b4, rfl, rfl⟩
  refine J.norm rfl <| J.nil <| J.then_n <| J.seq ?_
  refine J.open1 2 rfl (fun _ h => h) fun z => ?_
  refine J.norm rfl ?_
  refine J.mapFocus 2 hU rfl fun val => ?_
  refine J.norm rfl ?_
  refine J.open_ 0 rfl rfl (fun _ h => h) fun z2 hz2 => ?_
  subst hz2
  refine J.norm rfl ?_
  refine J.draw [7] Tryz.mixed (by kernel_rfl) fun hR => ?_
  refine RG.p 0 hR rfl (Q.mv rfl) <| RG.p 1 hR rfl (Q.nil_ rfl) <| RG.p 2 hR rfl (Q.fa (n := 1) Tryz.runUnderlying167 rfl rfl Tryz.sizeOf164 rfl) ?_
  refine RG.p 3 hR rfl (Q.ld Tryz.isAgg164 rfl (rdI (by exact rfl))) ?_
  refine RG.p 4 hR rfl (Q.fa (n := 6) Tryz.runUnderlying52 rfl rfl Tryz.sizeOf40 rfl) ?_
  refine RG.p 5 hR rfl (Q.ld Tryz.isAgg40 rfl (rdI (by exact rfl))) ?_
  refine RG.p 6 hR rfl (X.G.Q.lkYes (i := 2) Tryz.runUnderlying164 keyU Tryz.zeroValue180 rfl rfl rfl) ?_
  refine RG.bar 7 hR rfl rfl rfl rfl rfl rfl (Q.asg rfl).toC ?_
  rintro _ _ ⟨rfl, rfl⟩
  refine RG.norm rfl ?_
  refine RG.fin hR rfl ?_
  refine J.norm rfl <| J.then_n <| J.seq <| J.seq <| J.region <| J.m rfl <| J.p rfl (Q.eqlp Tryz.runUnderlying180 rfl rfl) <| J.nil <| J.then_n ?_
  refine J.cases 19 rfl (fun hc19 => ?_) (fun hc19 => ?_)
  ·
   cases hc19
  replace hc19 := X.nm hc19
  refine J.cond_f rfl <| J.cskip <| J.then_n <| J.seq <| J.region <| J.p rfl (Q.asg rfl) <| J.nil <| J.then_n <| J.seq <| J.seq <| J.region <| J.p rfl (Q.fa (n := 7) Tryz.runUnderlying52 rfl rfl Tryz.sizeOf50 rfl) ?_
  refine J.p rfl (Q.ld Tryz.isAgg50 rfl (rdI (by exact rfl))) ?_
  refine J.p rfl (Q.lenSl Tryz.runUnderlying50 rfl) <| J.m rfl <| J.nil <| J.then_n <| J.block ?_
  refine J.open_ 1 rfl rfl (fun _ h => h) fun q hq => ?_
  refine J.norm rfl ?_
  refine J.give (own.nil 5 1 _) ?_
  refine J.loop (fun w : Nat × Option Addr × Nat => w.1 ≤ x.o.parts.length ∧ ((x.o.parts.take w.1).all fun n => (sget n u.parts).isSome) = true) (fun w => x.o.parts.length - w.1) (fun w => [(0, .pointer (some ⟨m, 0, none⟩)), (3, .pointer (some ⟨b3, 0, none⟩)), (4, .pointer (some ⟨b4, 0, none⟩)), (5, .pointer (some ⟨z2.1, 0, none⟩)), (6, .slice w.2.1 ((x.o.parts.take w.1).flatMap (partOf u.parts)).length w.2.2), (22, .slice x.pp x.o.parts.length x.pc), (23, .int .i64 x.o.parts.length), (24, .int .i64 w.1)])
    (fun w => [own 5 1 (.slice w.2.1 ((x.o.parts.take w.1).flatMap (partOf u.parts)).length w.2.2) (bytesV ((x.o.parts.take w.1).flatMap (partOf u.parts))), pt z2.2 (X.G.mobj (Value.int .i64) (q.1.map Ent.m) q.2), star (q.1.map (Ent.asn datRep)), pt z2.1 (.cells [.string u.bucket, .string u.key, .map (some z2.2)].toArray 183 (0, 0)), MapHole encU uRep z.2.1 M.uploads x.o.upload (.pointer (some ⟨z2.1, 0, none⟩)), pt m (.cells [.map (some z.1), .map (some z.2.1), .map (some z.2.2)].toArray 167 (0, 0)), MapAt Value.string bRep z.1 M.buckets, MapAt encU dRep z.2.2 M.done, pt b4 (.cells [Value.int .i64 0, .int .u64 0, .slice none 0 0, .bool false, .slice none 0 0].toArray 44 (0, 0)), pt b3 (.cells x.cells.toArray 52 (0, 0)), G, F])
    (0, none, 0) ⟨Nat.zero_le _, rfl⟩ ⟨rfl, rfl, rfl, rfl, rfl, rfl, rfl, rfl, trivial⟩ rfl fun w hw => ?_
  obtain ⟨i, p6, c6⟩ := w
  obtain ⟨hi, hall⟩ := hw
  dsimp only at hi hall
  refine J.seq <| J.region <| J.p rfl (Q.lss rfl rfl) <| J.nil <| J.then_n <| J.seq ?_
  refine J.cases 25 rfl (fun hc25 => ?_) (fun hc25 => ?_)
  ·
   replace hc25 := X.nm hc25
   refine J.cond_t rfl <| J.cskip <| J.then_n <| J.seq <| J.block <| J.seq ?_
   obtain ⟨b, off, hpp, hrd⟩ := hx.parts.some_ (by omega)
   obtain ⟨v, hv⟩ : ∃ v, x.o.parts[i]? = some v := ⟨_, List.getElem?_eq_getElem (by omega)⟩
   refine J.slot 22 (.slice (some ⟨b, off, none⟩) x.o.parts.length x.pc) rfl (by rw [hpp]) ?_
   refine J.region <| J.p rfl (Q.ia Tryz.runUnderlying50 Tryz.sizeOf3 rfl rfl (by omega) (by omega)) ?_
   refine J.p rfl (Q.ld Tryz.isAgg3 rfl (((hrd i (.int .i64 v) (by simp [hv])).within (i := 10) rfl).cast (by simp))) ?_
   refine J.p rfl (Q.asg rfl) <| J.nil <| J.then_n <| J.seq <| J.region <| J.m rfl <| J.p rfl (Q.nil_ rfl) <| J.p rfl (Q.fa (n := 2) Tryz.runUnderlying183 rfl rfl Tryz.sizeOf181 rfl) ?_
   refine J.p rfl (Q.ld Tryz.isAgg181 rfl (rdI (by exact rfl))) ?_
   refine J.m rfl ?_
   refine J.p rfl (X.G.Q.lk2 (i := 1) Tryz.runUnderlying181 keyI Tryz.zeroValue42 rfl rfl rfl) ?_
   refine J.m rfl <| J.p rfl (Q.ext rfl rfl) <| J.p rfl (Q.ext rfl rfl) <| J.p rfl (Q.asg rfl) <| J.p rfl (Q.asg rfl) <| J.nil <| J.then_n <| J.seq <| J.seq <| J.region <| J.m rfl <| J.p rfl (Q.not rfl) <| J.nil <| J.then_n ?_
   refine J.cases 38 rfl (fun hc38 => ?_) (fun hc38 => ?_)
   ·
    replace hc38 := X.nm hc38
    refine J.cond_t rfl <| J.seq <| J.region ?_
    refine J.call Tryz.call73 (status_spec 400) [] rfl rfl rfl rfl ?_
    rintro _ _ ⟨y, rfl, hy, rfl⟩
    refine J.norm rfl ?_
    refine J.stAI (vs := [_, _, _, _, _]) rfl Tryz.sizeOf44 rfl rfl (by exact rfl) (by exact rfl) (by exact rfl) ?_
    refine J.nil <| J.then_n <| J.cret <| J.then_r <| J.blk_r <| J.then_r <| J.lp_r <| J.blk_r <| J.then_r ?_
    have hno : sget v u.parts = none := by
      rw [hq.get]
      rcases X.G.elook v q.1 with ⟨_, h2, _⟩ | ⟨j, e, _, _, h3, _⟩
      · exact h2
      · rw [h3] at hc38; cases hc38
    rw [collect_none hv hno]
    refine J.shut [2, 3] (MapAt (Value.int .i64) datRep z2.2 u.parts) rfl (fun h s => ⟨q, hq, s⟩) ?_
    refine J.shut [3, 0] (uRep x.o.upload u (.pointer (some ⟨z2.1, 0, none⟩))) rfl (fun h s => ⟨z2, rfl, s⟩) ?_
    refine J.mapSame 0 3 ord3_nat hM.us hU rfl ?_
    refine J.shut [3, 4, 0, 5] (BktAt m M) rfl (fun h s => ⟨z, s⟩) ?_
    refine J.retC [0, 1, 5, 6] (vs := [_, _, _, _, _]) rfl rfl Tryz.isAgg44 Tryz.sizeOf44 (ReadsN.pt 3 rfl) rfl (B := [_, _, _]) ⟨_, rfl, hy, rfl⟩
   replace hc38 := X.nm hc38
   refine J.cond_f rfl <| J.cskip <| J.then_n ?_
   obtain ⟨j, e, hj, hek, hmg, hsg⟩ : ∃ (j : Nat) (e : Ent Int (List UInt8)), q.1[j]? = some e ∧ e.key = v ∧ X.G.mget v (q.1.map Ent.m) = some e.val ∧ sget v u.parts = some e.v := by
     rcases X.G.elook v q.1 with ⟨h1, _, _⟩ | ⟨j, e, h1, h2, h3, h4, _⟩
     · rw [h1] at hc38; cases hc38
     · exact ⟨j, e, h1, h2, h3, by rw [hq.get]; exact h4⟩
   obtain ⟨ek, d, eval, eb⟩ := e
   have hd16 : d.length ≤ 16777216 := hP.2.2 _ _ hsg
   have hacc := hfl (x.o.parts.take i)
   have hil : (x.o.parts.take i).length ≤ 10000 := by rw [List.length_take]; omega
   have hacc2 : (List.flatMap (partOf u.parts) (List.take (i, p6, c6).fst x.o.parts)).length ≤ 167772160000 := by show (List.flatMap (partOf u.parts) (List.take i x.o.parts)).length ≤ _; omega
   refine J.focus 2 j rfl hj ?_
   refine J.norm rfl ?_
   refine J.conv (Y := datRep ek d eval) 0 rfl (fun _ h => h) ?_
   refine J.open_ 0 rfl rfl (fun _ h => h) fun z3 hz3 => ?_
   subst hz3
   refine J.norm rfl ?_
   refine J.slr1 0 rfl fun hs9 => ?_
   refine J.slot 9 (.slice z3.1 d.length z3.2) rfl (by rw [hmg]; rfl) ?_
   refine J.region <| J.m rfl <| J.m rfl ?_
   refine J.c rfl rfl (C.app (i := 2) Tryz.runUnderlying42 Tryz.runUnderlying42 Tryz.typeInfo5 Tryz.sizeOf5 Tryz.zeroValue5 rfl rfl rfl (hs9.within (i := 0) rfl) (bytesV_one _) (by rw [show Tryz.t5.bytes = 1 from rfl]; omega) (by decide)) ?_
   rintro _ _ ⟨p42, c42, rfl, rfl⟩
   refine J.norm rfl <| J.p rfl (Q.asg rfl) <| J.nil <| J.blk_n <| J.then_n <| J.region <| J.p rfl (Q.add64 rfl rfl (by omega)) <| J.m rfl <| J.nil ?_
   have hfs := flat_take_succ hv hsg
   dsimp only at hfs
   refine J.shut [0] (datRep ek d (.slice z3.1 d.length z3.2)) rfl (fun h s => ⟨z3, rfl, s⟩) ?_
   refine J.refocus (f := Ent.asn datRep) 0 1 j ⟨ek, d, .slice z3.1 d.length z3.2, eb⟩ rfl hj ?_
   refine J.keep [1, 2, 0, 3, 4, 5, 6, 7, 8, 9, 10, 11] rfl ?_
   refine J.again (i + 1, p42, c42) ⟨by show i + 1 ≤ _; omega, all_take_some hv hall (by rw [hsg]; rfl)⟩ (by show x.o.parts.length - (i + 1) < x.o.parts.length - i; omega) ⟨rfl, rfl, rfl, rfl, (by show _ = some (Value.slice p42 _ c42); rw [hfs, List.length_append]; rfl), (by show _ = some (Value.slice x.pp _ _); rw [hpp]; rfl), rfl, rfl, trivial⟩ ?_
   show _ = [own 5 1 (.slice p42 ((x.o.parts.take (i + 1)).flatMap (partOf u.parts)).length c42) (bytesV ((x.o.parts.take (i + 1)).flatMap (partOf u.parts))), _, _, _, _, _, _, _, _, _, _, _]
   rw [hfs, List.length_append, ← bytesV_append]
  replace hc25 := X.nm hc25
  refine J.cond_f rfl <| J.exit <| J.then_x <| J.lp_x <| J.blk_x <| J.then_n <| J.seq ?_
  have hin : i = x.o.parts.length := by omega
  subst hin
  rw [List.take_length] at hall ⊢
  have hcs : collect u.parts x.o.parts = some (x.o.parts.flatMap (partOf u.parts)) := by unfold collect; rw [if_pos hall]
  rw [hcs, hB]
  obtain ⟨acc, hac⟩ : ∃ acc, acc = x.o.parts.flatMap (partOf u.parts) := ⟨_, rfl⟩
  rw [← hac]
  refine J.shut [1, 2] (MapAt (Value.int .i64) datRep z2.2 u.parts) rfl (fun h s => ⟨q, hq, s⟩) ?_
  refine J.mapFocus 5 hB rfl fun val => ?_
  refine J.norm rfl ?_
  refine J.open_ 0 rfl rfl (fun _ h => h) fun r hr => ?_
  subst hr
  refine J.norm rfl ?_
  refine J.draw [14] Tryz.mixed (by kernel_rfl) fun hR => ?_
  refine RG.p 0 hR rfl (Q.mv rfl) <| RG.p 1 hR rfl (Q.nil_ rfl) <| RG.p 2 hR rfl (Q.fa (n := 0) Tryz.runUnderlying167 rfl rfl Tryz.sizeOf163 rfl) ?_
  refine RG.p 3 hR rfl (Q.ld Tryz.isAgg163 rfl (rdI (by exact rfl))) ?_
  refine RG.p 4 hR rfl (Q.mv rfl) <| RG.p 5 hR rfl (Q.nil_ rfl) <| RG.p 6 hR rfl (Q.fa (n := 0) Tryz.runUnderlying183 rfl rfl Tryz.sizeOf9 rfl) ?_
  refine RG.p 7 hR rfl (Q.ld Tryz.isAgg9 rfl (rdI (by exact rfl))) ?_
  refine RG.p 8 hR rfl (X.G.Q.lkYes (i := 1) Tryz.runUnderlying163 keyS Tryz.zeroValue179 rfl rfl rfl) ?_
  refine RG.p 9 hR rfl (Q.mv rfl) <| RG.p 10 hR rfl (Q.nil_ rfl) <| RG.p 11 hR rfl (Q.fa (n := 1) Tryz.runUnderlying183 rfl rfl Tryz.sizeOf9 rfl) ?_
  refine RG.p 12 hR rfl (Q.ld Tryz.isAgg9 rfl (rdI (by exact rfl))) ?_
  refine RG.p 13 hR rfl (Q.mv rfl) ?_
  refine RG.bar 14 hR rfl rfl rfl rfl rfl rfl (X.G.C.mapPut 0 acc ord3_str hO.1 Tryz.runUnderlying179 keyS rfl rfl rfl rfl) ?_
  rintro _ _ ⟨rfl, rfl⟩
  refine RG.norm rfl ?_
  refine RG.fin hR rfl ?_
  refine J.norm rfl <| J.then_n <| J.seq ?_
  refine J.shut [4, 2] (uRep x.o.upload u (.pointer (some ⟨z2.1, 0, none⟩))) rfl (fun h s => ⟨z2, rfl, s⟩) ?_
  refine J.mapSame 0 4 ord3_nat hM.us hU rfl ?_
  refine J.draw [6] Tryz.mixed (by kernel_rfl) fun hR => ?_
  refine RG.p 0 hR rfl (Q.mv rfl) <| RG.p 1 hR rfl (Q.nil_ rfl) <| RG.p 2 hR rfl (Q.fa (n := 1) Tryz.runUnderlying167 rfl rfl Tryz.sizeOf164 rfl) ?_
  refine RG.p 3 hR rfl (Q.ld Tryz.isAgg164 rfl (rdI (by exact rfl))) ?_
  refine RG.p 4 hR rfl (Q.fa (n := 6) Tryz.runUnderlying52 rfl rfl Tryz.sizeOf40 rfl) ?_
  refine RG.p 5 hR rfl (Q.ld Tryz.isAgg40 rfl (rdI (by exact rfl))) ?_
  refine RG.bar 6 hR rfl rfl rfl rfl rfl rfl (X.G.C.mapDel 0 Tryz.runUnderlying164 keyU rfl rfl) ?_
  rintro _ _ ⟨rfl, rfl⟩
  refine RG.norm rfl ?_
  refine RG.fin hR rfl ?_
  refine J.norm rfl <| J.then_n <| J.seq <| J.region ?_
  refine J.call Tryz.call73 (status_spec 200) [] rfl rfl rfl rfl ?_
  rintro _ _ ⟨y, rfl, hy, rfl⟩
  refine J.norm rfl ?_
  refine J.stAI (vs := [_, _, _, _, _]) rfl Tryz.sizeOf44 rfl rfl (by exact rfl) (by exact rfl) (by exact rfl) ?_
  refine J.nil <| J.then_n <| J.cret ?_
  refine J.shut [4] (datRep u.key acc (.slice p6 acc.length c6)) rfl (fun h s => ⟨(p6, c6), rfl, s⟩) ?_
  refine J.mapBack 0 3 acc ord3_str (X.G.srtd_put ord3_str hO.1 _ _) rfl ?_
  rw [X.G.sput_put ord3_str hO.1]
  refine J.shut [0] (bRep u.bucket (sput ltB u.key acc objs) (.map (some r))) rfl (fun h s => ⟨r, rfl, s⟩) ?_
  refine J.mapBack 0 3 (sput ltB u.key acc objs) ord3_str hM.bs rfl ?_
  refine J.shut [3, 0, 2, 4] (BktAt m { M with buckets := sput ltB u.bucket (sput ltB u.key acc objs) M.buckets, uploads := sdel x.o.upload M.uploads }) rfl (fun h s => ⟨z, s⟩) ?_
  refine J.retC [0, 1, 4, 5] (vs := [_, _, _, _, _]) rfl rfl Tryz.isAgg44 Tryz.sizeOf44 (ReadsN.pt 2 rfl) rfl (B := [_, _, _]) ⟨_, rfl, hy, rfl⟩
theorem complete_spec (hpl : x.o.parts.length ≤ 10000) : FSpec Tryz.prog 92 [.pointer (some ⟨m, 0, none⟩), .agg x.cells.toArray] [BktAt m M, G] (ActR m G (M.complete x.o)) := by
  unfold BM.complete
  split
  · rename_i hU; exact complete_no m M hM x G hx hU
  · rename_i hU; exact complete_yes m M hM x G hx hpl hU
end
end Go.Proofs.YtidbcaimgahllaaGreat
namespace Go.Proofs.YtidbcaimgahllaaGreat
set_option linter.unusedSectionVars false
set_option linter.unusedSimpArgs false
set_option linter.unusedVariables false
open Go.X
open Go.X.G (Ord3 ord3_nat ord3_int ord3_str ltB sget sput sdel Srtd MapAt MapHole)

def beg (s p : ByteArray) : Bool := decide (p.size ≤ s.size) && decide ((s.extract 0 p.size).data.toList = p.data.toList)
def listed (o : OM) (objs : Objs) : List ByteArray := (objs.map (·.1)).filter fun a => beg a o.key && ltB o.after a
def BM.list (M : BM) (o : OM) : RM × BM :=
  match sget o.bucket M.buckets with
  | none => (st 404, M)
  | some objs => (⟨200, 0, (listed o objs).take o.n.toNat, decide (o.n.toNat < (listed o objs).length), []⟩, M)

def BM.act (M : BM) (o : OM) : RM × BM :=
  if o.kind = 1 then M.make o else if o.kind = 2 then M.unmake o else if o.kind = 3 then M.put o else if o.kind = 4 then M.get o else if o.kind = 5 then M.delete o
  else if o.kind = 6 then M.list o else if o.kind = 7 then M.begin o else if o.kind = 8 then M.part o else if o.kind = 9 then M.complete o else M.abort o
def readsK (k : Int) : Bool := decide (k = 4) || decide (k = 6)
def BM.run (M : BM) (o : OM) : RM × BM :=
  if o.chkB = true then
    if readsK o.kind = true then M.act o
    else match sget o.id M.done with
      | some r => (r, M)
      | none => ((M.act o).1, { (M.act o).2 with done := sput ltN o.id (M.act o).1 M.done })
  else (st 400, M)

theorem sput_len {κ ν : Type} [DecidableEq κ] {lt : κ → κ → Bool} (o : Ord3 lt) {l : List (κ × ν)} (h : Srtd lt l) (k : κ) (v : ν) : (sput lt k v l).length ≤ l.length + 1 := by
  rw [(X.G.sput_perm o (h.nodup o) k v).length_eq, List.length_cons]
  have : (sdel k l).length ≤ l.length := List.length_filter_le _ _
  omega
theorem sdel_len {κ ν : Type} [DecidableEq κ] (k : κ) (l : List (κ × ν)) : (sdel k l).length ≤ l.length := List.length_filter_le _ _

theorem chk_9 {o : OM} (h : o.chkB = true) (hk : o.kind = 9) : o.parts.length ≤ 10000 := by
  rw [chk_eq] at h
  unfold OM.chkR at h
  simp only [hk] at h
  simp [partsOK] at h
  omega
theorem chk_len {o : OM} (h : o.chkB = true) : o.data.length ≤ 16777216 := by
  rw [chk_eq] at h
  unfold OM.chkR at h
  split at h
  · simp only [Bool.and_eq_true, decide_eq_true_eq] at h; omega
  split at h
  · simp only [Bool.and_eq_true, decide_eq_true_eq] at h; omega
  split at h
  · simp only [Bool.and_eq_true, decide_eq_true_eq] at h; omega
  split at h
  · simp only [Bool.and_eq_true, decide_eq_true_eq] at h; omega
  split at h
  · simp only [Bool.and_eq_true, decide_eq_true_eq] at h; omega
  split at h
  · simp only [Bool.and_eq_true, decide_eq_true_eq] at h; omega
  split at h
  · simp only [Bool.and_eq_true, decide_eq_true_eq] at h; omega
  · cases h
theorem chk_kind {o : OM} (h : o.chkB = true) : 1 ≤ o.kind ∧ o.kind ≤ 10 := by
  rw [chk_eq] at h
  unfold OM.chkR at h
  split at h
  · omega
  split at h
  · omega
  split at h
  · omega
  split at h
  · omega
  split at h
  · omega
  split at h
  · omega
  split at h
  · omega
  · cases h
theorem chk_6 {o : OM} (h : o.chkB = true) (hk : o.kind = 6) : 1 ≤ o.n ∧ o.n ≤ 1000 := by
  rw [chk_eq] at h
  unfold OM.chkR at h
  simp only [hk] at h
  simp only [show ¬ ((6 : Int) = 1 ∨ (6 : Int) = 2) by omega, show ¬ (6 : Int) = 3 by omega, show ¬ ((6 : Int) = 4 ∨ (6 : Int) = 5 ∨ (6 : Int) = 7) by omega, if_false, if_true, Bool.and_eq_true, decide_eq_true_eq] at h
  omega

theorem BM.ok.mono {k j : Nat} {M : BM} (h : M.ok k) (hk : k ≤ j) : M.ok j :=
  ⟨h.bs, fun n o e => ⟨(h.os n o e).1, Nat.le_trans (h.os n o e).2.1 hk, (h.os n o e).2.2⟩, h.us, h.ps, h.ds, h.rs, by have := h.len; omega⟩

theorem BM.ok.objs {k : Nat} {M : BM} (h : M.ok k) {b : ByteArray} {o o' : Objs} (hb : sget b M.buckets = some o) (h1 : Srtd ltB o') (h2 : o'.length ≤ k + 1) (h3 : ∀ a d, sget a o' = some d → d.length ≤ 274877906944) (us : List (Nat × UM)) (hus : Srtd ltN us) (hul : us.length ≤ k + 1)
    (hps : ∀ n u, sget n us = some u → sget n M.uploads = some u) : BM.ok (k + 1) ⟨sput ltB b o' M.buckets, us, M.done⟩ := by
  have hl := h.len
  refine ⟨X.G.srtd_put ord3_str h.bs _ _, ?_, hus, ?_, h.ds, h.rs, ?_, hul, by show M.done.length ≤ _; omega⟩
  · intro n q hq
    rw [X.G.sget_put ord3_str] at hq
    split at hq
    · cases hq; exact ⟨h1, h2, h3⟩
    · have := h.os n q hq; exact ⟨this.1, by omega, this.2.2⟩
  · intro n u hu
    obtain ⟨p1, p2, p3⟩ := h.ps n u (hps n u hu)
    refine ⟨p1, ?_, p3⟩
    show (sget u.bucket (sput ltB b o' M.buckets)).isSome = true
    rw [X.G.sget_put ord3_str]
    split
    · rfl
    · exact p2
  · have := sput_len ord3_str h.bs b o'
    show (sput ltB b o' M.buckets).length ≤ k + 1
    omega

theorem act_done (M : BM) (o : OM) : (M.act o).2.done = M.done := by
  unfold BM.act BM.make BM.unmake BM.put BM.get BM.delete BM.list BM.begin BM.part BM.complete BM.abort
  repeat' split
  all_goals rfl
theorem act_small {k : Nat} {M : BM} (h : M.ok k) {o : OM} (hc : o.chkB = true) : (M.act o).1.keys.length ≤ 1000 ∧ (M.act o).1.data.length ≤ 274877906944 := by
  have h6 := chk_6 hc
  unfold BM.act BM.make BM.unmake BM.put BM.get BM.delete BM.list BM.begin BM.part BM.complete BM.abort
  repeat' split
  all_goals first
    | (refine ⟨?_, ?_⟩ <;> simp [st] <;> done)
    | skip
  · rename_i h1 _ d h2
    exact ⟨by simp, (h.os _ _ h1).2.2 _ _ h2⟩
  · rename_i hk _ _ _
    have := h6 hk
    exact ⟨by simp only [List.length_take]; omega, by simp⟩

theorem act_ok {k : Nat} {M : BM} (h : M.ok k) {o : OM} (hc : o.chkB = true) : (M.act o).2.ok (k + 1) := by
  have hl := h.len
  have hd := chk_len hc
  unfold BM.act
  split
  · unfold BM.make
    split
    · exact h.mono (Nat.le_succ k)
    · rename_i hb
      refine ⟨X.G.srtd_put ord3_str h.bs _ _, ?_, h.us, ?_, h.ds, h.rs, ?_, by show M.uploads.length ≤ _; omega, by show M.done.length ≤ _; omega⟩
      · intro n q hq
        rw [X.G.sget_put ord3_str] at hq
        split at hq
        · cases hq; exact ⟨List.Pairwise.nil, by simp, by simp [sget]⟩
        · have := h.os n q hq; exact ⟨this.1, by omega, this.2.2⟩
      · intro n u hu
        obtain ⟨p1, p2, p3⟩ := h.ps n u hu
        refine ⟨p1, ?_, p3⟩
        show (sget u.bucket (sput ltB o.bucket [] M.buckets)).isSome = true
        rw [X.G.sget_put ord3_str]
        split
        · rfl
        · exact p2
      · have := sput_len ord3_str h.bs o.bucket []
        show (sput ltB o.bucket [] M.buckets).length ≤ k + 1
        omega
  split
  · unfold BM.unmake
    split
    · exact h.mono (Nat.le_succ k)
    · split
      · exact h.mono (Nat.le_succ k)
      · rename_i hu
        refine ⟨X.G.srtd_del h.bs _, ?_, h.us, ?_, h.ds, h.rs, ?_, by show M.uploads.length ≤ _; omega, by show M.done.length ≤ _; omega⟩
        · intro n q hq
          rw [X.G.sget_del] at hq
          split at hq
          · cases hq
          · have := h.os n q hq; exact ⟨this.1, by omega, this.2.2⟩
        · intro n u hu'
          obtain ⟨p1, p2, p3⟩ := h.ps n u hu'
          refine ⟨p1, ?_, p3⟩
          show (sget u.bucket (sdel o.bucket M.buckets)).isSome = true
          rw [X.G.sget_del]
          split
          · rename_i e
            exfalso
            apply hu
            rw [Bool.or_eq_true]; right
            unfold BM.uses
            rw [List.any_eq_true]
            exact ⟨_, X.G.sget_mem hu', by simpa using e⟩
          · exact p2
        · have := sdel_len o.bucket M.buckets
          show (sdel o.bucket M.buckets).length ≤ k + 1
          omega
  split
  · unfold BM.put
    split
    · exact h.mono (Nat.le_succ k)
    · rename_i objs hb
      have ho := h.os _ _ hb
      refine h.objs hb (X.G.srtd_put ord3_str ho.1 _ _) (by have := sput_len ord3_str ho.1 o.key o.data; omega) ?_ M.uploads h.us (by omega) (fun _ _ e => e)
      intro a d hq
      rw [X.G.sget_put ord3_str] at hq
      split at hq
      · cases hq; omega
      · exact ho.2.2 a d hq
  split
  · unfold BM.get
    repeat' split
    all_goals exact h.mono (Nat.le_succ k)
  split
  · unfold BM.delete
    split
    · exact h.mono (Nat.le_succ k)
    · rename_i objs hb
      split
      · exact h.mono (Nat.le_succ k)
      · have ho := h.os _ _ hb
        refine h.objs hb (X.G.srtd_del ho.1 _) (by have := sdel_len o.key objs; omega) ?_ M.uploads h.us (by omega) (fun _ _ e => e)
        intro a d hq
        rw [X.G.sget_del] at hq
        split at hq
        · cases hq
        · exact ho.2.2 a d hq
  split
  · unfold BM.list
    repeat' split
    all_goals exact h.mono (Nat.le_succ k)
  split
  · unfold BM.begin
    split
    · exact h.mono (Nat.le_succ k)
    · rename_i objs hb
      refine ⟨h.bs, fun n q hq => ⟨(h.os n q hq).1, by have := (h.os n q hq).2.1; omega, (h.os n q hq).2.2⟩, X.G.srtd_put ord3_nat h.us _ _, ?_, h.ds, h.rs, by show M.buckets.length ≤ _; omega, ?_, by show M.done.length ≤ _; omega⟩
      · intro n u hu
        rw [X.G.sget_put ord3_nat] at hu
        split at hu
        · cases hu; exact ⟨List.Pairwise.nil, by show (sget o.bucket M.buckets).isSome = true; rw [hb]; rfl, by simp [sget]⟩
        · exact h.ps n u hu
      · have := sput_len (lt := ltN) ord3_nat h.us o.id ⟨o.bucket, o.key, []⟩
        show (sput ltN o.id _ M.uploads).length ≤ k + 1
        omega
  split
  · unfold BM.part
    split
    · exact h.mono (Nat.le_succ k)
    · rename_i u hu
      obtain ⟨p1, p2, p3⟩ := h.ps _ _ hu
      refine ⟨h.bs, fun n q hq => ⟨(h.os n q hq).1, by have := (h.os n q hq).2.1; omega, (h.os n q hq).2.2⟩, X.G.srtd_put ord3_nat h.us _ _, ?_, h.ds, h.rs, by show M.buckets.length ≤ _; omega, ?_, by show M.done.length ≤ _; omega⟩
      · intro n v hv
        rw [X.G.sget_put ord3_nat] at hv
        split at hv
        · cases hv
          refine ⟨X.G.srtd_put ord3_int p1 _ _, p2, ?_⟩
          intro a d hq
          rw [X.G.sget_put ord3_int] at hq
          split at hq
          · cases hq; exact hd
          · exact p3 a d hq
        · exact h.ps n v hv
      · have := sput_len (lt := ltN) ord3_nat h.us o.upload ⟨u.bucket, u.key, sput ltI o.n o.data u.parts⟩
        show (sput ltN o.upload _ M.uploads).length ≤ k + 1
        omega
  split
  · rename_i hk
    have h9 := chk_9 hc hk
    unfold BM.complete
    split
    · exact h.mono (Nat.le_succ k)
    · rename_i u hu
      obtain ⟨p1, p2, p3⟩ := h.ps _ _ hu
      obtain ⟨objs, hb⟩ := Option.isSome_iff_exists.1 p2
      split
      · exact h.mono (Nat.le_succ k)
      · rename_i d hcd
        rw [hb]
        have ho := h.os _ _ hb
        have hdl : d.length ≤ 274877906944 := by
          unfold collect at hcd
          split at hcd
          · cases hcd
            have := flat_len p3 o.parts
            omega
          · cases hcd
        refine h.objs hb (X.G.srtd_put ord3_str ho.1 _ _) (by have := sput_len ord3_str ho.1 u.key d; show (sput ltB u.key d objs).length ≤ _; omega) ?_ (sdel o.upload M.uploads) (X.G.srtd_del h.us _) (by have := sdel_len o.upload M.uploads; omega) ?_
        · intro a e hq
          have hq : sget a (sput ltB u.key d objs) = some e := hq
          rw [X.G.sget_put ord3_str] at hq
          split at hq
          · cases hq; exact hdl
          · exact ho.2.2 a e hq
        · intro n v hv
          rw [X.G.sget_del] at hv
          split at hv
          · cases hv
          · exact hv
  · unfold BM.abort
    split
    · exact h.mono (Nat.le_succ k)
    · refine ⟨h.bs, fun n q hq => ⟨(h.os n q hq).1, by have := (h.os n q hq).2.1; omega, (h.os n q hq).2.2⟩, X.G.srtd_del h.us _, ?_, h.ds, h.rs, by show M.buckets.length ≤ _; omega, by have := sdel_len o.upload M.uploads; show (sdel o.upload M.uploads).length ≤ _; omega, by show M.done.length ≤ _; omega⟩
      intro n v hv
      rw [X.G.sget_del] at hv
      split at hv
      · cases hv
      · exact h.ps n v hv

theorem run_ok {k : Nat} {M : BM} (h : M.ok k) (o : OM) : (M.run o).2.ok (k + 1) := by
  unfold BM.run
  split
  · rename_i hc
    have h1 := act_ok h hc
    have h2 := act_small h hc
    split
    · exact h1
    · split
      · exact h.mono (Nat.le_succ k)
      · refine ⟨h1.bs, h1.os, h1.us, h1.ps, X.G.srtd_put ord3_nat h.ds _ _, ?_, h1.len.1, h1.len.2.1, ?_⟩
        · intro n r hr
          rw [X.G.sget_put ord3_nat] at hr
          split at hr
          · cases hr; exact h2
          · exact h.rs n r hr
        · have := sput_len (lt := ltN) ord3_nat h.ds o.id (M.act o).1
          have := h.len
          show (sput ltN o.id _ M.done).length ≤ k + 1
          omega
  · exact h.mono (Nat.le_succ k)
theorem run_small {k : Nat} {M : BM} (h : M.ok k) (o : OM) : (M.run o).1.keys.length ≤ 1000 ∧ (M.run o).1.data.length ≤ 274877906944 := by
  unfold BM.run
  split
  · rename_i hc
    have h2 := act_small h hc
    split
    · exact h2
    · split
      · rename_i r hr; exact h.rs _ _ hr
      · exact h2
  · exact ⟨by simp [st], by simp [st]⟩
end Go.Proofs.YtidbcaimgahllaaGreat
namespace Go.Proofs.YtidbcaimgahllaaGreat
set_option linter.unusedSectionVars false
set_option linter.unusedSimpArgs false
set_option linter.unusedVariables false
open Go.X
open Go.X.G (Ord3 ord3_nat ord3_int ord3_str ltB sget sput sdel Srtd)

section rows
variable {κ ν : Type} [DecidableEq κ] {lt : κ → κ → Bool}
structure AtK (lt : κ → κ → Bool) (k : κ) (l : List (κ × ν)) (i : Nat) : Prop where
  le : i ≤ l.length
  lo : ∀ p, p ∈ l.take i → lt p.1 k = true
  hi : ∀ p, l[i]? = some p → lt p.1 k = false
theorem AtK.here (o : Ord3 lt) {k : κ} {v : ν} {l : List (κ × ν)} {i : Nat} (h : AtK lt k l i) (hs : Srtd lt l) (hk : sget k l = some v) : l[i]? = some (k, v) := by
  have hm := X.G.sget_mem hk
  rw [← List.take_append_drop i l, List.mem_append] at hm
  rcases hm with hm | hm
  · have := h.lo _ hm; rw [o.irr] at this; cases this
  · have hi : i < l.length := by
      apply Nat.lt_of_not_le; intro hge
      rw [List.drop_of_length_le hge] at hm; cases hm
    rw [List.drop_eq_getElem_cons hi, List.mem_cons] at hm
    rcases hm with hm | hm
    · rw [List.getElem?_eq_getElem hi, hm]
    · have h1 := h.hi _ (List.getElem?_eq_getElem hi)
      have h2 : Srtd lt (l.drop i) := List.Pairwise.sublist (List.drop_sublist i l) hs
      rw [List.drop_eq_getElem_cons hi] at h2
      have h3 := (List.pairwise_cons.1 h2).1 _ hm
      rw [h1] at h3; cases h3
theorem AtK.gt (o : Ord3 lt) {k : κ} {l : List (κ × ν)} {i : Nat} (h : AtK lt k l i) (hs : Srtd lt l) (hk : sget k l = none) : ∀ p, p ∈ l.drop i → lt k p.1 = true := by
  intro p hp
  have hi : i < l.length := by
    apply Nat.lt_of_not_le; intro hge
    rw [List.drop_of_length_le hge] at hp; cases hp
  have h2 : Srtd lt (l.drop i) := List.Pairwise.sublist (List.drop_sublist i l) hs
  rw [List.drop_eq_getElem_cons hi] at h2 hp
  have h1 := h.hi _ (List.getElem?_eq_getElem hi)
  have h0 : lt k (l[i]).1 = true := by
    cases e : lt k (l[i]).1 with
    | true => rfl
    | false => exact absurd (o.tri _ _ h1 e) (X.G.sget_none.1 hk _ (List.getElem_mem hi))
  rcases List.mem_cons.1 hp with rfl | hp
  · exact h0
  · exact o.tr _ _ _ h0 ((List.pairwise_cons.1 h2).1 _ hp)
theorem AtK.is (o : Ord3 lt) {k : κ} {l : List (κ × ν)} {i : Nat} {p : κ × ν} (h : AtK lt k l i) (hs : Srtd lt l) (hp : l[i]? = some p) : (sget k l).isSome = decide (p.1 = k) := by
  by_cases e : p.1 = k
  · rw [← e, show sget p.1 l = some p.2 from X.G.sget_of_mem (hs.nodup o) (List.mem_of_getElem? hp)]; simp
  · cases hk : sget k l with
    | none => simp [e]
    | some v => have := h.here o hs hk; rw [hp] at this; cases this; exact absurd rfl e
theorem AtK.out (o : Ord3 lt) {k : κ} {l : List (κ × ν)} {i : Nat} (h : AtK lt k l i) (hs : Srtd lt l) (hp : l.length ≤ i) : (sget k l).isSome = false := by
  cases hk : sget k l with
  | none => rfl
  | some v => have := h.here o hs hk; rw [List.getElem?_eq_none hp] at this; cases this
theorem AtK.split (o : Ord3 lt) {k : κ} {v : ν} {l : List (κ × ν)} {i : Nat} (h : AtK lt k l i) (hs : Srtd lt l) (hk : sget k l = some v) : l = l.take i ++ (k, v) :: l.drop (i + 1) ∧ (∀ p, p ∈ l.drop (i + 1) → lt k p.1 = true) := by
  have hh := h.here o hs hk
  obtain ⟨hi, he⟩ := List.getElem?_eq_some_iff.1 hh
  have e : l.drop i = (k, v) :: l.drop (i + 1) := by rw [List.drop_eq_getElem_cons hi, he]
  refine ⟨by rw [← e, List.take_append_drop], fun p hp => ?_⟩
  have h2 : Srtd lt (l.drop i) := List.Pairwise.sublist (List.drop_sublist i l) hs
  rw [e] at h2
  exact (List.pairwise_cons.1 h2).1 _ hp
theorem put_split (o : Ord3 lt) {k : κ} {w : ν} {a b c : List (κ × ν)} (ha : ∀ p, p ∈ a → lt p.1 k = true) (hc : ∀ p, p ∈ c → lt k p.1 = true) (hb : ∀ p, p ∈ b → p.1 = k) : sput lt k w (a ++ b ++ c) = a ++ (k, w) :: c := by
  have ax : ∀ {x : κ}, lt x k = true → lt k x = false := fun {x} h => by
    cases e : lt k x with
    | false => rfl
    | true => have := o.tr _ _ _ h e; rw [o.irr] at this; cases this
  have ay : ∀ {x : κ}, lt k x = true → lt x k = false := fun {x} h => by
    cases e : lt x k with
    | false => rfl
    | true => have := o.tr _ _ _ h e; rw [o.irr] at this; cases this
  have f1 : a.filter (fun p => lt p.1 k) = a := List.filter_eq_self.2 ha
  have f2 : c.filter (fun p => lt k p.1) = c := List.filter_eq_self.2 hc
  have f3 : a.filter (fun p => lt k p.1) = [] := List.filter_eq_nil_iff.2 fun p hp => by rw [ax (ha p hp)]; exact Bool.false_ne_true
  have f4 : c.filter (fun p => lt p.1 k) = [] := List.filter_eq_nil_iff.2 fun p hp => by rw [ay (hc p hp)]; exact Bool.false_ne_true
  have f5 : b.filter (fun p => lt k p.1) = [] := List.filter_eq_nil_iff.2 fun p hp => by rw [hb p hp, o.irr]; exact Bool.false_ne_true
  have f6 : b.filter (fun p => lt p.1 k) = [] := List.filter_eq_nil_iff.2 fun p hp => by rw [hb p hp, o.irr]; exact Bool.false_ne_true
  unfold sput
  rw [List.filter_append, List.filter_append, List.filter_append, List.filter_append, f1, f2, f3, f4, f5, f6]; simp
theorem AtK.put_yes (o : Ord3 lt) {k : κ} {v w : ν} {l : List (κ × ν)} {i : Nat} (h : AtK lt k l i) (hs : Srtd lt l) (hk : sget k l = some v) : sput lt k w l = l.set i (k, w) := by
  obtain ⟨e, hg⟩ := h.split o hs hk
  obtain ⟨hi, _⟩ := List.getElem?_eq_some_iff.1 (h.here o hs hk)
  have h1 : sput lt k w (l.take i ++ [(k, v)] ++ l.drop (i + 1)) = l.take i ++ (k, w) :: l.drop (i + 1) := put_split o h.lo hg (by simp)
  rw [List.append_assoc, List.singleton_append, ← e] at h1
  rw [h1, List.set_eq_take_append_cons_drop, if_pos hi]
theorem AtK.put_no (o : Ord3 lt) {k : κ} {w : ν} {l : List (κ × ν)} {i : Nat} (h : AtK lt k l i) (hs : Srtd lt l) (hk : sget k l = none) : sput lt k w l = l.take i ++ (k, w) :: l.drop i := by
  have h1 : sput lt k w (l.take i ++ [] ++ l.drop i) = _ := put_split o h.lo (h.gt o hs hk) (by simp)
  rwa [List.append_nil, List.take_append_drop] at h1
theorem AtK.del (o : Ord3 lt) {k : κ} {v : ν} {l : List (κ × ν)} {i : Nat} (h : AtK lt k l i) (hs : Srtd lt l) (hk : sget k l = some v) : sdel k l = l.eraseIdx i := by
  obtain ⟨e, hg⟩ := h.split o hs hk
  have ne : ∀ {x : κ}, lt x k = true ∨ lt k x = true → decide (x = k) = false := fun {x} h => by
    apply decide_eq_false; rintro rfl; rw [o.irr] at h; rcases h with h | h <;> cases h
  rw [List.eraseIdx_eq_take_drop_succ]
  conv => lhs; rw [e]
  unfold sdel
  rw [List.filter_append, List.filter_cons, List.filter_eq_self.2 (fun p hp => by rw [ne (.inl (h.lo p hp))]; rfl), List.filter_eq_self.2 (fun p hp => by rw [ne (.inr (hg p hp))]; rfl)]
  simp
theorem AtK.next {k : κ} {l : List (κ × ν)} {i : Nat} {p : κ × ν} (h : ∀ p, p ∈ l.take i → lt p.1 k = true) (hp : l[i]? = some p) (hl : lt p.1 k = true) : ∀ p, p ∈ l.take (i + 1) → lt p.1 k = true := by
  obtain ⟨h1, h2⟩ := List.getElem?_eq_some_iff.1 hp
  rw [List.take_succ_eq_append_getElem h1, h2]
  intro q hq
  rcases List.mem_append.1 hq with hq | hq
  · exact h q hq
  · rw [List.mem_singleton.1 hq]; exact hl
end rows

section own
variable {α : Type} {cl : α → List Value} {sz E : Nat} (hc : ∀ x, (cl x).length = sz) {l : List α} {p : Option Addr} {c i : Nat}
include hc
theorem own_ins {x : α} (hi : i ≤ l.length) : ∀ h, own E sz (.slice p (0 + i + 1 + (l.length - i)) c) ([] ++ (l.flatMap cl).take (i * sz) ++ cl x ++ (l.flatMap cl).drop (i * sz)) h → own E sz (.slice p (l.take i ++ x :: l.drop i).length c) ((l.take i ++ x :: l.drop i).flatMap cl) h := by
  intro h s
  have e1 : (l.take i ++ x :: l.drop i).length = 0 + i + 1 + (l.length - i) := by simp; omega
  have e2 : (l.take i ++ x :: l.drop i).flatMap cl = [] ++ (l.flatMap cl).take (i * sz) ++ cl x ++ (l.flatMap cl).drop (i * sz) := by rw [flat_take hc, flat_drop hc]; simp
  rw [e1, e2]; exact s
theorem own_cut (hi : i < l.length) : ∀ h, own E sz (.slice p (0 + i + (l.length - (i + 1))) c) ([] ++ (l.flatMap cl).take (i * sz) ++ (l.flatMap cl).drop ((i + 1) * sz)) h → own E sz (.slice p (l.eraseIdx i).length c) ((l.eraseIdx i).flatMap cl) h := by
  intro h s
  have e1 : (l.eraseIdx i).length = 0 + i + (l.length - (i + 1)) := by rw [List.length_eraseIdx]; split <;> omega
  have e2 : (l.eraseIdx i).flatMap cl = [] ++ (l.flatMap cl).take (i * sz) ++ (l.flatMap cl).drop ((i + 1) * sz) := by rw [flat_take hc, flat_drop hc, List.eraseIdx_eq_take_drop_succ]; simp
  rw [e1, e2]; exact s
end own

structure ROb where
  k : ByteArray
  p : Option Addr
  c : Nat
  d : List UInt8
abbrev ROb.cells (x : ROb) : List Value := [.string x.k, .slice x.p x.d.length x.c]
abbrev ROb.asn (x : ROb) : Assn := own 5 1 (.slice x.p x.d.length x.c) (bytesV x.d)
abbrev ROb.kv (x : ROb) : ByteArray × List UInt8 := (x.k, x.d)
theorem ROb.len (x : ROb) : x.cells.length = 2 := rfl
structure RBk where
  k : ByteArray
  p : Option Addr
  c : Nat
  l : List ROb
abbrev RBk.cells (x : RBk) : List Value := [.string x.k, .slice x.p x.l.length x.c]
abbrev RBk.own (x : RBk) : Assn := X.own 150 2 (.slice x.p x.l.length x.c) (x.l.flatMap ROb.cells)
def RBk.asn (x : RBk) : Assn := star [x.own, star (x.l.map ROb.asn)]
abbrev RBk.kv (x : RBk) : ByteArray × Objs := (x.k, x.l.map ROb.kv)
theorem RBk.len (x : RBk) : x.cells.length = 2 := rfl
structure RPt where
  k : Int
  p : Option Addr
  c : Nat
  d : List UInt8
abbrev RPt.cells (x : RPt) : List Value := [.int .i64 x.k, .slice x.p x.d.length x.c]
abbrev RPt.asn (x : RPt) : Assn := own 5 1 (.slice x.p x.d.length x.c) (bytesV x.d)
abbrev RPt.kv (x : RPt) : Int × List UInt8 := (x.k, x.d)
theorem RPt.len (x : RPt) : x.cells.length = 2 := rfl
structure RUp where
  k : Nat
  b : ByteArray
  o : ByteArray
  p : Option Addr
  c : Nat
  l : List RPt
abbrev RUp.cells (x : RUp) : List Value := [.int .u64 x.k, .string x.b, .string x.o, .slice x.p x.l.length x.c]
abbrev RUp.own (x : RUp) : Assn := X.own 146 2 (.slice x.p x.l.length x.c) (x.l.flatMap RPt.cells)
def RUp.asn (x : RUp) : Assn := star [x.own, star (x.l.map RPt.asn)]
abbrev RUp.kv (x : RUp) : Nat × UM := (x.k, ⟨x.b, x.o, x.l.map RPt.kv⟩)
theorem RUp.len (x : RUp) : x.cells.length = 4 := rfl
abbrev RKp := Nat × RM
abbrev RKp.cells (x : RKp) : List Value := [.int .u64 x.1, .int .i64 x.2.status, .int .u64 x.2.upload, .slice none 0 0, .bool false, .slice none 0 0]
theorem RKp.len (x : RKp) : (RKp.cells x).length = 6 := rfl

abbrev bksO (p : Option Addr) (c : Nat) (bs : List RBk) : Assn := own 136 2 (.slice p bs.length c) (bs.flatMap RBk.cells)
abbrev upsO (p : Option Addr) (c : Nat) (us : List RUp) : Assn := own 143 4 (.slice p us.length c) (us.flatMap RUp.cells)
abbrev kpsO (p : Option Addr) (c : Nat) (ks : List RKp) : Assn := own 105 6 (.slice p ks.length c) (ks.flatMap RKp.cells)
abbrev refP (m : Nat) (b u k : Value) : Assn := pt m (.cells [b, u, k].toArray 98 (0, 0))

structure RMx where
  p1 : Option Addr
  c1 : Nat
  bs : List RBk
  p2 : Option Addr
  c2 : Nat
  us : List RUp
  p3 : Option Addr
  c3 : Nat
structure BM.lite (M : BM) : Prop where
  bs : Srtd ltB M.buckets
  us : Srtd ltN M.uploads
  ds : Srtd ltN M.done
  len : M.buckets.length ≤ 32768 ∧ M.uploads.length ≤ 32768 ∧ M.done.length ≤ 32768
  pl : ∀ n u, sget n M.uploads = some u → u.parts.length ≤ 32768
def BM.bare (M : BM) : Prop := ∀ p, p ∈ M.done → p.2.keys = [] ∧ p.2.more = false ∧ p.2.data = []
abbrev RMx.asns (m : Nat) (M : BM) (x : RMx) : List Assn := [refP m (.slice x.p1 x.bs.length x.c1) (.slice x.p2 x.us.length x.c2) (.slice x.p3 M.done.length x.c3), bksO x.p1 x.c1 x.bs, upsO x.p2 x.c2 x.us, kpsO x.p3 x.c3 M.done, star (x.bs.map RBk.asn), star (x.us.map RUp.asn)]
structure RMx.of (M : BM) (x : RMx) : Prop where
  b : x.bs.map RBk.kv = M.buckets
  u : x.us.map RUp.kv = M.uploads
  k : M.bare
def RefAt (m : Nat) (M : BM) : Assn := fun h => ∃ x : RMx, x.of M ∧ HSat h (x.asns m M)
theorem RefAt.mk {m : Nat} {M : BM} (x : RMx) (hx : x.of M) : ∀ h, HSat h (x.asns m M) → RefAt m M h := fun _ s => ⟨x, hx, s⟩
theorem RMx.of.bl {M : BM} {x : RMx} (h : x.of M) : x.bs.length = M.buckets.length := by rw [← h.b, List.length_map]
theorem RMx.of.ul {M : BM} {x : RMx} (h : x.of M) : x.us.length = M.uploads.length := by rw [← h.u, List.length_map]
end Go.Proofs.YtidbcaimgahllaaGreat
namespace Go.Proofs.YtidbcaimgahllaaGreat
set_option linter.unusedSectionVars false
set_option linter.unusedSimpArgs false
set_option linter.unusedVariables false
open Go.X
open Go.X.G (Ord3 ord3_nat ord3_int ord3_str ltB sget sput sdel Srtd)

theorem rbucket_spec (m : Nat) (p : Option Addr) (c : Nat) (bs : List RBk) (v2 v3 : Value) (n : ByteArray) (hs : Srtd ltB (bs.map RBk.kv)) (hn : bs.length ≤ 9223372036854775807) :
    FSpec Tryz.prog 54 [.pointer (some ⟨m, 0, none⟩), .string n] [refP m (.slice p bs.length c) v2 v3, bksO p c bs]
    (fun v B => ∃ i : Nat, v = .tuple #[.int .i64 i, .bool (sget n (bs.map RBk.kv)).isSome] ∧ AtK ltB n (bs.map RBk.kv) i ∧ B = [refP m (.slice p bs.length c) v2 v3, bksO p c bs]) := by
  refine FSpec.of Tryz.func54 rfl Tryz.ntmps54 rfl fun W0 F => ?_
  refine J.seq ?_
  refine J.slrI (E0 := 136) (sz := 2) (p := p) (n := bs.length) (c := c) (xs := bs.flatMap RBk.cells) fun hsl => ?_
  obtain ⟨kv, hkv⟩ : ∃ kv, kv = bs.map RBk.kv := ⟨_, rfl⟩
  have hkl : kv.length = bs.length := by rw [hkv, List.length_map]
  have hka : ∀ {k : Nat} {x : RBk}, bs[k]? = some x → kv[k]? = some x.kv := fun {k x} h => by rw [hkv, List.getElem?_map, h]; rfl
  rw [← hkv] at hs
  refine J.region <| J.p rfl (Q.asg rfl) <| J.p rfl (Q.asg rfl) <| J.nil <| J.then_n <| J.seq <| J.region <| J.p rfl (Q.asg rfl) <| J.nil <| J.then_n ?_
  refine J.cut (fun i : Nat => AtK ltB n kv i) (fun i => [(0, .pointer (some ⟨m, 0, none⟩)), (1, .string n), (6, .int .i64 i)]) (fun _ => [refP m (.slice p bs.length c) v2 v3, bksO p c bs, F]) ?_ fun i hi => ?_
  ·
   refine J.block ?_
   refine J.loop (fun k : Nat => k ≤ bs.length ∧ ∀ q, q ∈ kv.take k → ltB q.1 n = true) (fun k => bs.length - k) (fun k => [(0, .pointer (some ⟨m, 0, none⟩)), (1, .string n), (6, .int .i64 k)]) (fun _ => [refP m (.slice p bs.length c) v2 v3, bksO p c bs, F]) 0
    ⟨Nat.zero_le _, (fun _ h => by cases h)⟩ ⟨rfl, rfl, rfl, trivial⟩ rfl fun k hk => ?_
   obtain ⟨hk, hlo⟩ := hk
   refine J.seq <| J.seq <| J.region <| J.m rfl <| J.m rfl <| J.p rfl (Q.nil_ rfl) <| J.p rfl (Q.fa (n := 0) Tryz.runUnderlying98 rfl rfl Tryz.sizeOf94 rfl) ?_
   refine J.p rfl (Q.ld Tryz.isAgg94 rfl (rdI (by exact rfl))) ?_
   refine J.p rfl (Q.lenSl Tryz.runUnderlying94 rfl) <| J.p rfl (Q.lss rfl rfl) <| J.m rfl ?_
   refine J.cases 14 rfl (fun hb14 => ?_) (fun hb14 => ?_)
   ·
    replace hb14 := X.nm hb14
    refine J.m rfl <| J.p rfl (Q.nil_ rfl) <| J.p rfl (Q.fa (n := 0) Tryz.runUnderlying98 rfl rfl Tryz.sizeOf94 rfl) ?_
    refine J.p rfl (Q.ld Tryz.isAgg94 rfl (rdI (by exact rfl))) ?_
    obtain ⟨bb, off, hpp, hrd⟩ := hsl.some_ (by omega)
    obtain ⟨x, hx⟩ : ∃ x, bs[k]? = some x := ⟨_, List.getElem?_eq_getElem (by omega)⟩
    refine J.slot 18 (.slice (some ⟨bb, off, none⟩) bs.length c) rfl (by rw [hpp]) ?_
    refine J.m rfl <| J.p rfl (Q.ia Tryz.runUnderlying94 Tryz.sizeOf136 rfl rfl (by omega) (by omega)) <| J.p rfl (Q.fa (n := 0) Tryz.runUnderlying136 rfl rfl Tryz.sizeOf9 rfl) ?_
    refine J.p rfl (Q.ld Tryz.isAgg9 rfl ((rd_field RBk.len hrd hx (k := 0) rfl (by simp)).within (i := 1) rfl)) ?_
    refine J.m rfl <| J.p rfl (Q.lsss rfl rfl) <| J.p rfl (Q.pick_t rfl rfl) <| J.nil <| J.then_n ?_
    refine J.cases 25 rfl (fun hc25 => ?_) (fun hc25 => ?_)
    ·
     replace hc25 := X.nm hc25
     refine J.cond_t rfl <| J.cskip <| J.then_n <| J.block <| J.region <| J.m rfl <| J.p rfl (Q.add64 rfl rfl (by omega)) <| J.p rfl (Q.asg rfl) <| J.nil <| J.blk_n ?_
     refine J.againI (k + 1) ⟨by show k + 1 ≤ _; omega, AtK.next hlo (hka hx) (by first | (simp only [ltB, decide_eq_true_eq]; exact (less_iff _ _).1 hc25) | (simp only [decide_eq_true_eq]; omega))⟩ (by show bs.length - (k + 1) < bs.length - k; omega) ⟨rfl, rfl, rfl, trivial⟩
    replace hc25 := X.nm hc25
    refine J.cond_f rfl <| J.exit <| J.then_x <| J.lp_x <| J.blk_x ?_
    refine J.meet k ⟨by omega, hlo, fun q hq => by
     rw [hka hx] at hq; cases hq
     first | (simp only [ltB, decide_eq_false_iff_not]; intro h; rw [(less_iff _ _).2 h] at hc25; cases hc25) | (simp only [decide_eq_false_iff_not]; omega)⟩ ⟨rfl, rfl, rfl, trivial⟩ rfl
   replace hb14 := X.nm hb14
   refine J.skip rfl rfl <| J.skip rfl rfl <| J.skip rfl rfl <| J.skip rfl rfl <| J.skip rfl rfl <| J.skip rfl rfl <| J.skip rfl rfl <| J.skip rfl rfl <| J.skip rfl rfl <| J.skip rfl rfl <| J.p rfl (Q.pick_f rfl rfl) <| J.nil <| J.then_n <| J.cond_f rfl <| J.exit <| J.then_x <| J.lp_x <| J.blk_x ?_
   refine J.meet k ⟨by omega, hlo, fun q hq => by rw [List.getElem?_eq_none (by omega)] at hq; cases hq⟩ ⟨rfl, rfl, rfl, trivial⟩ rfl
  have hle := hi.le
  refine J.seq ?_
  refine J.draw [20, 21] Tryz.mixed (by kernel_rfl) fun hR => ?_
  refine RG.p 0 hR rfl (Q.mv rfl) <| RG.p 1 hR rfl (Q.mv rfl) <| RG.p 2 hR rfl (Q.mv rfl) <| RG.p 3 hR rfl (Q.nil_ rfl) <| RG.p 4 hR rfl (Q.fa (n := 0) Tryz.runUnderlying98 rfl rfl Tryz.sizeOf94 rfl) ?_
  refine RG.p 5 hR rfl (Q.ld Tryz.isAgg94 rfl (rdI (by exact rfl))) ?_
  refine RG.p 6 hR rfl (Q.lenSl Tryz.runUnderlying94 rfl) <| RG.p 7 hR rfl (Q.lss rfl rfl) <| RG.p 8 hR rfl (Q.mv rfl) ?_
  refine RG.cases 36 rfl (fun hb36 => ?_) (fun hb36 => ?_)
  ·
   replace hb36 := X.nm hb36
   refine RG.p 9 hR rfl (Q.mv rfl) <| RG.p 10 hR rfl (Q.nil_ rfl) <| RG.p 11 hR rfl (Q.fa (n := 0) Tryz.runUnderlying98 rfl rfl Tryz.sizeOf94 rfl) ?_
   refine RG.p 12 hR rfl (Q.ld Tryz.isAgg94 rfl (rdI (by exact rfl))) ?_
   obtain ⟨bb, off, hpp, hrd⟩ := hsl.some_ (by omega)
   obtain ⟨x, hx⟩ : ∃ x, bs[i]? = some x := ⟨_, List.getElem?_eq_getElem (by omega)⟩
   have his := hi.is ord3_str hs (hka hx)
   refine RG.slot 40 (.slice (some ⟨bb, off, none⟩) bs.length c) rfl (by rw [hpp]) ?_
   refine RG.p 13 hR rfl (Q.mv rfl) <| RG.p 14 hR rfl (Q.ia Tryz.runUnderlying94 Tryz.sizeOf136 rfl rfl (by omega) (by omega)) <| RG.p 15 hR rfl (Q.fa (n := 0) Tryz.runUnderlying136 rfl rfl Tryz.sizeOf9 rfl) ?_
   refine RG.p 16 hR rfl (Q.ld Tryz.isAgg9 rfl ((rd_field RBk.len hrd hx (k := 0) rfl (by simp)).within (i := 1) rfl)) ?_
   refine RG.p 17 hR rfl (Q.mv rfl) <| RG.p 18 hR rfl (Q.eqls rfl rfl) <| RG.p 19 hR rfl (Q.pick_t rfl rfl) ?_
   refine RG.keep 20 hR rfl rfl rfl rfl rfl (Q.asg rfl) ?_
   refine RG.bar 21 hR rfl rfl rfl rfl rfl rfl (Q.asg rfl).toC ?_
   rintro _ _ ⟨rfl, rfl⟩
   refine RG.norm rfl ?_
   refine RG.fin hR rfl ?_
   refine J.norm rfl <| J.then_n <| J.cret ?_
   refine J.ret2I [refP m (.slice p bs.length c) v2 v3, bksO p c bs] rfl rfl rfl ⟨_, by first | (rw [← hkv, his]; done) | (rw [← hkv, his, bytes_eq]; done) | (rw [← hkv, his]; simp only [Int.ofNat_inj]; rfl), by rw [← hkv]; exact hi, rfl⟩
  replace hb36 := X.nm hb36
  refine RG.skip 9 hR rfl rfl rfl rfl rfl rfl <| RG.skip 10 hR rfl rfl rfl rfl rfl rfl <| RG.skip 11 hR rfl rfl rfl rfl rfl rfl <| RG.skip 12 hR rfl rfl rfl rfl rfl rfl <| RG.skip 13 hR rfl rfl rfl rfl rfl rfl <| RG.skip 14 hR rfl rfl rfl rfl rfl rfl <| RG.skip 15 hR rfl rfl rfl rfl rfl rfl <| RG.skip 16 hR rfl rfl rfl rfl rfl rfl <| RG.skip 17 hR rfl rfl rfl rfl rfl rfl <| RG.skip 18 hR rfl rfl rfl rfl rfl rfl ?_
  refine RG.p 19 hR rfl (Q.pick_f rfl rfl) ?_
  refine RG.keep 20 hR rfl rfl rfl rfl rfl (Q.asg rfl) ?_
  refine RG.bar 21 hR rfl rfl rfl rfl rfl rfl (Q.asg rfl).toC ?_
  rintro _ _ ⟨rfl, rfl⟩
  refine RG.norm rfl ?_
  refine RG.fin hR rfl ?_
  refine J.norm rfl <| J.then_n <| J.cret ?_
  have his := hi.out ord3_str hs (by omega)
  refine J.ret2I [refP m (.slice p bs.length c) v2 v3, bksO p c bs] rfl rfl rfl ⟨_, by rw [← hkv, his], by rw [← hkv]; exact hi, rfl⟩

theorem rupload_spec (m : Nat) (p : Option Addr) (c : Nat) (us : List RUp) (v1 v3 : Value) (n : Nat) (hs : Srtd ltN (us.map RUp.kv)) (hn : us.length ≤ 9223372036854775807) :
    FSpec Tryz.prog 55 [.pointer (some ⟨m, 0, none⟩), .int .u64 n] [refP m v1 (.slice p us.length c) v3, upsO p c us]
    (fun v B => ∃ i : Nat, v = .tuple #[.int .i64 i, .bool (sget n (us.map RUp.kv)).isSome] ∧ AtK ltN n (us.map RUp.kv) i ∧ B = [refP m v1 (.slice p us.length c) v3, upsO p c us]) := by
  refine FSpec.of Tryz.func55 rfl Tryz.ntmps55 rfl fun W0 F => ?_
  refine J.seq ?_
  refine J.slrI (E0 := 143) (sz := 4) (p := p) (n := us.length) (c := c) (xs := us.flatMap RUp.cells) fun hsl => ?_
  obtain ⟨kv, hkv⟩ : ∃ kv, kv = us.map RUp.kv := ⟨_, rfl⟩
  have hkl : kv.length = us.length := by rw [hkv, List.length_map]
  have hka : ∀ {k : Nat} {x : RUp}, us[k]? = some x → kv[k]? = some x.kv := fun {k x} h => by rw [hkv, List.getElem?_map, h]; rfl
  rw [← hkv] at hs
  refine J.region <| J.p rfl (Q.asg rfl) <| J.p rfl (Q.asg rfl) <| J.nil <| J.then_n <| J.seq <| J.region <| J.p rfl (Q.asg rfl) <| J.nil <| J.then_n ?_
  refine J.cut (fun i : Nat => AtK ltN n kv i) (fun i => [(0, .pointer (some ⟨m, 0, none⟩)), (1, .int .u64 n), (6, .int .i64 i)]) (fun _ => [refP m v1 (.slice p us.length c) v3, upsO p c us, F]) ?_ fun i hi => ?_
  ·
   refine J.block ?_
   refine J.loop (fun k : Nat => k ≤ us.length ∧ ∀ q, q ∈ kv.take k → ltN q.1 n = true) (fun k => us.length - k) (fun k => [(0, .pointer (some ⟨m, 0, none⟩)), (1, .int .u64 n), (6, .int .i64 k)]) (fun _ => [refP m v1 (.slice p us.length c) v3, upsO p c us, F]) 0
    ⟨Nat.zero_le _, (fun _ h => by cases h)⟩ ⟨rfl, rfl, rfl, trivial⟩ rfl fun k hk => ?_
   obtain ⟨hk, hlo⟩ := hk
   refine J.seq <| J.seq <| J.region <| J.m rfl <| J.m rfl <| J.p rfl (Q.nil_ rfl) <| J.p rfl (Q.fa (n := 1) Tryz.runUnderlying98 rfl rfl Tryz.sizeOf95 rfl) ?_
   refine J.p rfl (Q.ld Tryz.isAgg95 rfl (rdI (by exact rfl))) ?_
   refine J.p rfl (Q.lenSl Tryz.runUnderlying95 rfl) <| J.p rfl (Q.lss rfl rfl) <| J.m rfl ?_
   refine J.cases 14 rfl (fun hb14 => ?_) (fun hb14 => ?_)
   ·
    replace hb14 := X.nm hb14
    refine J.m rfl <| J.p rfl (Q.nil_ rfl) <| J.p rfl (Q.fa (n := 1) Tryz.runUnderlying98 rfl rfl Tryz.sizeOf95 rfl) ?_
    refine J.p rfl (Q.ld Tryz.isAgg95 rfl (rdI (by exact rfl))) ?_
    obtain ⟨bb, off, hpp, hrd⟩ := hsl.some_ (by omega)
    obtain ⟨x, hx⟩ : ∃ x, us[k]? = some x := ⟨_, List.getElem?_eq_getElem (by omega)⟩
    refine J.slot 18 (.slice (some ⟨bb, off, none⟩) us.length c) rfl (by rw [hpp]) ?_
    refine J.m rfl <| J.p rfl (Q.ia Tryz.runUnderlying95 Tryz.sizeOf143 rfl rfl (by omega) (by omega)) <| J.p rfl (Q.fa (n := 0) Tryz.runUnderlying143 rfl rfl Tryz.sizeOf40 rfl) ?_
    refine J.p rfl (Q.ld Tryz.isAgg40 rfl ((rd_field RUp.len hrd hx (k := 0) rfl (by simp)).within (i := 1) rfl)) ?_
    refine J.m rfl <| J.p rfl (Q.lss rfl rfl) <| J.p rfl (Q.pick_t rfl rfl) <| J.nil <| J.then_n ?_
    refine J.cases 25 rfl (fun hc25 => ?_) (fun hc25 => ?_)
    ·
     replace hc25 := X.nm hc25
     refine J.cond_t rfl <| J.cskip <| J.then_n <| J.block <| J.region <| J.m rfl <| J.p rfl (Q.add64 rfl rfl (by omega)) <| J.p rfl (Q.asg rfl) <| J.nil <| J.blk_n ?_
     refine J.againI (k + 1) ⟨by show k + 1 ≤ _; omega, AtK.next hlo (hka hx) (by first | (simp only [ltB, decide_eq_true_eq]; exact (less_iff _ _).1 hc25) | (simp only [decide_eq_true_eq]; omega))⟩ (by show us.length - (k + 1) < us.length - k; omega) ⟨rfl, rfl, rfl, trivial⟩
    replace hc25 := X.nm hc25
    refine J.cond_f rfl <| J.exit <| J.then_x <| J.lp_x <| J.blk_x ?_
    refine J.meet k ⟨by omega, hlo, fun q hq => by
     rw [hka hx] at hq; cases hq
     first | (simp only [ltB, decide_eq_false_iff_not]; intro h; rw [(less_iff _ _).2 h] at hc25; cases hc25) | (simp only [decide_eq_false_iff_not]; omega)⟩ ⟨rfl, rfl, rfl, trivial⟩ rfl
   replace hb14 := X.nm hb14
   refine J.skip rfl rfl <| J.skip rfl rfl <| J.skip rfl rfl <| J.skip rfl rfl <| J.skip rfl rfl <| J.skip rfl rfl <| J.skip rfl rfl <| J.skip rfl rfl <| J.skip rfl rfl <| J.skip rfl rfl <| J.p rfl (Q.pick_f rfl rfl) <| J.nil <| J.then_n <| J.cond_f rfl <| J.exit <| J.then_x <| J.lp_x <| J.blk_x ?_
   refine J.meet k ⟨by omega, hlo, fun q hq => by rw [List.getElem?_eq_none (by omega)] at hq; cases hq⟩ ⟨rfl, rfl, rfl, trivial⟩ rfl
  have hle := hi.le
  refine J.seq ?_
  refine J.draw [20, 21] Tryz.mixed (by kernel_rfl) fun hR => ?_
  refine RG.p 0 hR rfl (Q.mv rfl) <| RG.p 1 hR rfl (Q.mv rfl) <| RG.p 2 hR rfl (Q.mv rfl) <| RG.p 3 hR rfl (Q.nil_ rfl) <| RG.p 4 hR rfl (Q.fa (n := 1) Tryz.runUnderlying98 rfl rfl Tryz.sizeOf95 rfl) ?_
  refine RG.p 5 hR rfl (Q.ld Tryz.isAgg95 rfl (rdI (by exact rfl))) ?_
  refine RG.p 6 hR rfl (Q.lenSl Tryz.runUnderlying95 rfl) <| RG.p 7 hR rfl (Q.lss rfl rfl) <| RG.p 8 hR rfl (Q.mv rfl) ?_
  refine RG.cases 36 rfl (fun hb36 => ?_) (fun hb36 => ?_)
  ·
   replace hb36 := X.nm hb36
   refine RG.p 9 hR rfl (Q.mv rfl) <| RG.p 10 hR rfl (Q.nil_ rfl) <| RG.p 11 hR rfl (Q.fa (n := 1) Tryz.runUnderlying98 rfl rfl Tryz.sizeOf95 rfl) ?_
   refine RG.p 12 hR rfl (Q.ld Tryz.isAgg95 rfl (rdI (by exact rfl))) ?_
   obtain ⟨bb, off, hpp, hrd⟩ := hsl.some_ (by omega)
   obtain ⟨x, hx⟩ : ∃ x, us[i]? = some x := ⟨_, List.getElem?_eq_getElem (by omega)⟩
   have his := hi.is ord3_nat hs (hka hx)
   refine RG.slot 40 (.slice (some ⟨bb, off, none⟩) us.length c) rfl (by rw [hpp]) ?_
   refine RG.p 13 hR rfl (Q.mv rfl) <| RG.p 14 hR rfl (Q.ia Tryz.runUnderlying95 Tryz.sizeOf143 rfl rfl (by omega) (by omega)) <| RG.p 15 hR rfl (Q.fa (n := 0) Tryz.runUnderlying143 rfl rfl Tryz.sizeOf40 rfl) ?_
   refine RG.p 16 hR rfl (Q.ld Tryz.isAgg40 rfl ((rd_field RUp.len hrd hx (k := 0) rfl (by simp)).within (i := 1) rfl)) ?_
   refine RG.p 17 hR rfl (Q.mv rfl) <| RG.p 18 hR rfl (Q.eql rfl rfl) <| RG.p 19 hR rfl (Q.pick_t rfl rfl) ?_
   refine RG.keep 20 hR rfl rfl rfl rfl rfl (Q.asg rfl) ?_
   refine RG.bar 21 hR rfl rfl rfl rfl rfl rfl (Q.asg rfl).toC ?_
   rintro _ _ ⟨rfl, rfl⟩
   refine RG.norm rfl ?_
   refine RG.fin hR rfl ?_
   refine J.norm rfl <| J.then_n <| J.cret ?_
   refine J.ret2I [refP m v1 (.slice p us.length c) v3, upsO p c us] rfl rfl rfl ⟨_, by first | (rw [← hkv, his]; done) | (rw [← hkv, his, bytes_eq]; done) | (rw [← hkv, his]; simp only [Int.ofNat_inj]; rfl), by rw [← hkv]; exact hi, rfl⟩
  replace hb36 := X.nm hb36
  refine RG.skip 9 hR rfl rfl rfl rfl rfl rfl <| RG.skip 10 hR rfl rfl rfl rfl rfl rfl <| RG.skip 11 hR rfl rfl rfl rfl rfl rfl <| RG.skip 12 hR rfl rfl rfl rfl rfl rfl <| RG.skip 13 hR rfl rfl rfl rfl rfl rfl <| RG.skip 14 hR rfl rfl rfl rfl rfl rfl <| RG.skip 15 hR rfl rfl rfl rfl rfl rfl <| RG.skip 16 hR rfl rfl rfl rfl rfl rfl <| RG.skip 17 hR rfl rfl rfl rfl rfl rfl <| RG.skip 18 hR rfl rfl rfl rfl rfl rfl ?_
  refine RG.p 19 hR rfl (Q.pick_f rfl rfl) ?_
  refine RG.keep 20 hR rfl rfl rfl rfl rfl (Q.asg rfl) ?_
  refine RG.bar 21 hR rfl rfl rfl rfl rfl rfl (Q.asg rfl).toC ?_
  rintro _ _ ⟨rfl, rfl⟩
  refine RG.norm rfl ?_
  refine RG.fin hR rfl ?_
  refine J.norm rfl <| J.then_n <| J.cret ?_
  have his := hi.out ord3_nat hs (by omega)
  refine J.ret2I [refP m v1 (.slice p us.length c) v3, upsO p c us] rfl rfl rfl ⟨_, by rw [← hkv, his], by rw [← hkv]; exact hi, rfl⟩

theorem robject_spec (b0 o0 c0 : Nat) (bs : List RBk) {j : Nat} {y : RBk} (hy : bs[j]? = some y) (n : ByteArray) (hs : Srtd ltB (y.l.map ROb.kv)) (hn : y.l.length ≤ 9223372036854775807) :
    FSpec Tryz.prog 63 [.pointer (some ⟨b0, o0 + j * 2, none⟩), .string n] [bksO (some ⟨b0, o0, none⟩) c0 bs, y.own]
    (fun v B => ∃ i : Nat, v = .tuple #[.int .i64 i, .bool (sget n (y.l.map ROb.kv)).isSome] ∧ AtK ltB n (y.l.map ROb.kv) i ∧ B = [bksO (some ⟨b0, o0, none⟩) c0 bs, y.own]) := by
  refine FSpec.of Tryz.func63 rfl Tryz.ntmps63 rfl fun W0 F => ?_
  refine J.seq ?_
  refine J.slrI (E0 := 150) (sz := 2) (p := y.p) (n := y.l.length) (c := y.c) (xs := y.l.flatMap ROb.cells) fun hsl => ?_
  refine J.slrI (E0 := 136) (sz := 2) (p := some ⟨b0, o0, none⟩) (n := bs.length) (c := c0) (xs := bs.flatMap RBk.cells) fun hsl0 => ?_
  obtain ⟨_, _, e0, hrd0⟩ := hsl0.some_ (by have := (List.getElem?_eq_some_iff.1 hy).1; omega)
  cases e0
  obtain ⟨kv, hkv⟩ : ∃ kv, kv = y.l.map ROb.kv := ⟨_, rfl⟩
  have hkl : kv.length = y.l.length := by rw [hkv, List.length_map]
  have hka : ∀ {k : Nat} {x : ROb}, y.l[k]? = some x → kv[k]? = some x.kv := fun {k x} h => by rw [hkv, List.getElem?_map, h]; rfl
  rw [← hkv] at hs
  refine J.region <| J.p rfl (Q.asg rfl) <| J.p rfl (Q.asg rfl) <| J.nil <| J.then_n <| J.seq <| J.region <| J.p rfl (Q.asg rfl) <| J.nil <| J.then_n ?_
  refine J.cut (fun i : Nat => AtK ltB n kv i) (fun i => [(0, .pointer (some ⟨b0, o0 + j * 2, none⟩)), (1, .string n), (6, .int .i64 i)]) (fun _ => [bksO (some ⟨b0, o0, none⟩) c0 bs, y.own, F]) ?_ fun i hi => ?_
  ·
   refine J.block ?_
   refine J.loop (fun k : Nat => k ≤ y.l.length ∧ ∀ q, q ∈ kv.take k → ltB q.1 n = true) (fun k => y.l.length - k) (fun k => [(0, .pointer (some ⟨b0, o0 + j * 2, none⟩)), (1, .string n), (6, .int .i64 k)]) (fun _ => [bksO (some ⟨b0, o0, none⟩) c0 bs, y.own, F]) 0
    ⟨Nat.zero_le _, (fun _ h => by cases h)⟩ ⟨rfl, rfl, rfl, trivial⟩ rfl fun k hk => ?_
   obtain ⟨hk, hlo⟩ := hk
   refine J.seq <| J.seq <| J.region <| J.m rfl <| J.m rfl <| J.p rfl (Q.nil_ rfl) <| J.p rfl (Q.fa (n := 1) Tryz.runUnderlying136 rfl rfl Tryz.sizeOf134 rfl) ?_
   refine J.p rfl (Q.ld Tryz.isAgg134 rfl ((rd_field RBk.len hrd0 hy (k := 1) rfl (by omega)).within (i := 0) rfl)) ?_
   refine J.p rfl (Q.lenSl Tryz.runUnderlying134 rfl) <| J.p rfl (Q.lss rfl rfl) <| J.m rfl ?_
   refine J.cases 14 rfl (fun hb14 => ?_) (fun hb14 => ?_)
   ·
    replace hb14 := X.nm hb14
    refine J.m rfl <| J.p rfl (Q.nil_ rfl) <| J.p rfl (Q.fa (n := 1) Tryz.runUnderlying136 rfl rfl Tryz.sizeOf134 rfl) ?_
    refine J.p rfl (Q.ld Tryz.isAgg134 rfl ((rd_field RBk.len hrd0 hy (k := 1) rfl (by omega)).within (i := 0) rfl)) ?_
    obtain ⟨bb, off, hpp, hrd⟩ := hsl.some_ (by omega)
    obtain ⟨x, hx⟩ : ∃ x, y.l[k]? = some x := ⟨_, List.getElem?_eq_getElem (by omega)⟩
    refine J.slot 18 (.slice (some ⟨bb, off, none⟩) y.l.length y.c) rfl (by rw [hpp]) ?_
    refine J.m rfl <| J.p rfl (Q.ia Tryz.runUnderlying134 Tryz.sizeOf150 rfl rfl (by omega) (by omega)) <| J.p rfl (Q.fa (n := 0) Tryz.runUnderlying150 rfl rfl Tryz.sizeOf9 rfl) ?_
    refine J.p rfl (Q.ld Tryz.isAgg9 rfl ((rd_field ROb.len hrd hx (k := 0) rfl (by simp)).within (i := 1) rfl)) ?_
    refine J.m rfl <| J.p rfl (Q.lsss rfl rfl) <| J.p rfl (Q.pick_t rfl rfl) <| J.nil <| J.then_n ?_
    refine J.cases 25 rfl (fun hc25 => ?_) (fun hc25 => ?_)
    ·
     replace hc25 := X.nm hc25
     refine J.cond_t rfl <| J.cskip <| J.then_n <| J.block <| J.region <| J.m rfl <| J.p rfl (Q.add64 rfl rfl (by omega)) <| J.p rfl (Q.asg rfl) <| J.nil <| J.blk_n ?_
     refine J.againI (k + 1) ⟨by show k + 1 ≤ _; omega, AtK.next hlo (hka hx) (by first | (simp only [ltB, decide_eq_true_eq]; exact (less_iff _ _).1 hc25) | (simp only [decide_eq_true_eq]; omega))⟩ (by show y.l.length - (k + 1) < y.l.length - k; omega) ⟨rfl, rfl, rfl, trivial⟩
    replace hc25 := X.nm hc25
    refine J.cond_f rfl <| J.exit <| J.then_x <| J.lp_x <| J.blk_x ?_
    refine J.meet k ⟨by omega, hlo, fun q hq => by
     rw [hka hx] at hq; cases hq
     first | (simp only [ltB, decide_eq_false_iff_not]; intro h; rw [(less_iff _ _).2 h] at hc25; cases hc25) | (simp only [decide_eq_false_iff_not]; omega)⟩ ⟨rfl, rfl, rfl, trivial⟩ rfl
   replace hb14 := X.nm hb14
   refine J.skip rfl rfl <| J.skip rfl rfl <| J.skip rfl rfl <| J.skip rfl rfl <| J.skip rfl rfl <| J.skip rfl rfl <| J.skip rfl rfl <| J.skip rfl rfl <| J.skip rfl rfl <| J.skip rfl rfl <| J.p rfl (Q.pick_f rfl rfl) <| J.nil <| J.then_n <| J.cond_f rfl <| J.exit <| J.then_x <| J.lp_x <| J.blk_x ?_
   refine J.meet k ⟨by omega, hlo, fun q hq => by rw [List.getElem?_eq_none (by omega)] at hq; cases hq⟩ ⟨rfl, rfl, rfl, trivial⟩ rfl
  have hle := hi.le
  refine J.seq ?_
  refine J.draw [20, 21] Tryz.mixed (by kernel_rfl) fun hR => ?_
  refine RG.p 0 hR rfl (Q.mv rfl) <| RG.p 1 hR rfl (Q.mv rfl) <| RG.p 2 hR rfl (Q.mv rfl) <| RG.p 3 hR rfl (Q.nil_ rfl) <| RG.p 4 hR rfl (Q.fa (n := 1) Tryz.runUnderlying136 rfl rfl Tryz.sizeOf134 rfl) ?_
  refine RG.p 5 hR rfl (Q.ld Tryz.isAgg134 rfl ((rd_field RBk.len hrd0 hy (k := 1) rfl (by omega)).within (i := 0) rfl)) ?_
  refine RG.p 6 hR rfl (Q.lenSl Tryz.runUnderlying134 rfl) <| RG.p 7 hR rfl (Q.lss rfl rfl) <| RG.p 8 hR rfl (Q.mv rfl) ?_
  refine RG.cases 36 rfl (fun hb36 => ?_) (fun hb36 => ?_)
  ·
   replace hb36 := X.nm hb36
   refine RG.p 9 hR rfl (Q.mv rfl) <| RG.p 10 hR rfl (Q.nil_ rfl) <| RG.p 11 hR rfl (Q.fa (n := 1) Tryz.runUnderlying136 rfl rfl Tryz.sizeOf134 rfl) ?_
   refine RG.p 12 hR rfl (Q.ld Tryz.isAgg134 rfl ((rd_field RBk.len hrd0 hy (k := 1) rfl (by omega)).within (i := 0) rfl)) ?_
   obtain ⟨bb, off, hpp, hrd⟩ := hsl.some_ (by omega)
   obtain ⟨x, hx⟩ : ∃ x, y.l[i]? = some x := ⟨_, List.getElem?_eq_getElem (by omega)⟩
   have his := hi.is ord3_str hs (hka hx)
   refine RG.slot 40 (.slice (some ⟨bb, off, none⟩) y.l.length y.c) rfl (by rw [hpp]) ?_
   refine RG.p 13 hR rfl (Q.mv rfl) <| RG.p 14 hR rfl (Q.ia Tryz.runUnderlying134 Tryz.sizeOf150 rfl rfl (by omega) (by omega)) <| RG.p 15 hR rfl (Q.fa (n := 0) Tryz.runUnderlying150 rfl rfl Tryz.sizeOf9 rfl) ?_
   refine RG.p 16 hR rfl (Q.ld Tryz.isAgg9 rfl ((rd_field ROb.len hrd hx (k := 0) rfl (by simp)).within (i := 1) rfl)) ?_
   refine RG.p 17 hR rfl (Q.mv rfl) <| RG.p 18 hR rfl (Q.eqls rfl rfl) <| RG.p 19 hR rfl (Q.pick_t rfl rfl) ?_
   refine RG.keep 20 hR rfl rfl rfl rfl rfl (Q.asg rfl) ?_
   refine RG.bar 21 hR rfl rfl rfl rfl rfl rfl (Q.asg rfl).toC ?_
   rintro _ _ ⟨rfl, rfl⟩
   refine RG.norm rfl ?_
   refine RG.fin hR rfl ?_
   refine J.norm rfl <| J.then_n <| J.cret ?_
   refine J.ret2I [bksO (some ⟨b0, o0, none⟩) c0 bs, y.own] rfl rfl rfl ⟨_, by first | (rw [← hkv, his]; done) | (rw [← hkv, his, bytes_eq]; done) | (rw [← hkv, his]; simp only [Int.ofNat_inj]; rfl), by rw [← hkv]; exact hi, rfl⟩
  replace hb36 := X.nm hb36
  refine RG.skip 9 hR rfl rfl rfl rfl rfl rfl <| RG.skip 10 hR rfl rfl rfl rfl rfl rfl <| RG.skip 11 hR rfl rfl rfl rfl rfl rfl <| RG.skip 12 hR rfl rfl rfl rfl rfl rfl <| RG.skip 13 hR rfl rfl rfl rfl rfl rfl <| RG.skip 14 hR rfl rfl rfl rfl rfl rfl <| RG.skip 15 hR rfl rfl rfl rfl rfl rfl <| RG.skip 16 hR rfl rfl rfl rfl rfl rfl <| RG.skip 17 hR rfl rfl rfl rfl rfl rfl <| RG.skip 18 hR rfl rfl rfl rfl rfl rfl ?_
  refine RG.p 19 hR rfl (Q.pick_f rfl rfl) ?_
  refine RG.keep 20 hR rfl rfl rfl rfl rfl (Q.asg rfl) ?_
  refine RG.bar 21 hR rfl rfl rfl rfl rfl rfl (Q.asg rfl).toC ?_
  rintro _ _ ⟨rfl, rfl⟩
  refine RG.norm rfl ?_
  refine RG.fin hR rfl ?_
  refine J.norm rfl <| J.then_n <| J.cret ?_
  have his := hi.out ord3_str hs (by omega)
  refine J.ret2I [bksO (some ⟨b0, o0, none⟩) c0 bs, y.own] rfl rfl rfl ⟨_, by rw [← hkv, his], by rw [← hkv]; exact hi, rfl⟩

theorem rpart_spec (b0 o0 c0 : Nat) (us : List RUp) {j : Nat} {y : RUp} (hy : us[j]? = some y) (n : Int) (hs : Srtd ltI (y.l.map RPt.kv)) (hn : y.l.length ≤ 9223372036854775807) :
    FSpec Tryz.prog 58 [.pointer (some ⟨b0, o0 + j * 4, none⟩), .int .i64 n] [upsO (some ⟨b0, o0, none⟩) c0 us, y.own]
    (fun v B => ∃ i : Nat, v = .tuple #[.int .i64 i, .bool (sget n (y.l.map RPt.kv)).isSome] ∧ AtK ltI n (y.l.map RPt.kv) i ∧ B = [upsO (some ⟨b0, o0, none⟩) c0 us, y.own]) := by
  refine FSpec.of Tryz.func58 rfl Tryz.ntmps58 rfl fun W0 F => ?_
  refine J.seq ?_
  refine J.slrI (E0 := 146) (sz := 2) (p := y.p) (n := y.l.length) (c := y.c) (xs := y.l.flatMap RPt.cells) fun hsl => ?_
  refine J.slrI (E0 := 143) (sz := 4) (p := some ⟨b0, o0, none⟩) (n := us.length) (c := c0) (xs := us.flatMap RUp.cells) fun hsl0 => ?_
  obtain ⟨_, _, e0, hrd0⟩ := hsl0.some_ (by have := (List.getElem?_eq_some_iff.1 hy).1; omega)
  cases e0
  obtain ⟨kv, hkv⟩ : ∃ kv, kv = y.l.map RPt.kv := ⟨_, rfl⟩
  have hkl : kv.length = y.l.length := by rw [hkv, List.length_map]
  have hka : ∀ {k : Nat} {x : RPt}, y.l[k]? = some x → kv[k]? = some x.kv := fun {k x} h => by rw [hkv, List.getElem?_map, h]; rfl
  rw [← hkv] at hs
  refine J.region <| J.p rfl (Q.asg rfl) <| J.p rfl (Q.asg rfl) <| J.nil <| J.then_n <| J.seq <| J.region <| J.p rfl (Q.asg rfl) <| J.nil <| J.then_n ?_
  refine J.cut (fun i : Nat => AtK ltI n kv i) (fun i => [(0, .pointer (some ⟨b0, o0 + j * 4, none⟩)), (1, .int .i64 n), (6, .int .i64 i)]) (fun _ => [upsO (some ⟨b0, o0, none⟩) c0 us, y.own, F]) ?_ fun i hi => ?_
  ·
   refine J.block ?_
   refine J.loop (fun k : Nat => k ≤ y.l.length ∧ ∀ q, q ∈ kv.take k → ltI q.1 n = true) (fun k => y.l.length - k) (fun k => [(0, .pointer (some ⟨b0, o0 + j * 4, none⟩)), (1, .int .i64 n), (6, .int .i64 k)]) (fun _ => [upsO (some ⟨b0, o0, none⟩) c0 us, y.own, F]) 0
    ⟨Nat.zero_le _, (fun _ h => by cases h)⟩ ⟨rfl, rfl, rfl, trivial⟩ rfl fun k hk => ?_
   obtain ⟨hk, hlo⟩ := hk
   refine J.seq <| J.seq <| J.region <| J.m rfl <| J.m rfl <| J.p rfl (Q.nil_ rfl) <| J.p rfl (Q.fa (n := 3) Tryz.runUnderlying143 rfl rfl Tryz.sizeOf141 rfl) ?_
   refine J.p rfl (Q.ld Tryz.isAgg141 rfl ((rd_field RUp.len hrd0 hy (k := 3) rfl (by omega)).within (i := 0) rfl)) ?_
   refine J.p rfl (Q.lenSl Tryz.runUnderlying141 rfl) <| J.p rfl (Q.lss rfl rfl) <| J.m rfl ?_
   refine J.cases 14 rfl (fun hb14 => ?_) (fun hb14 => ?_)
   ·
    replace hb14 := X.nm hb14
    refine J.m rfl <| J.p rfl (Q.nil_ rfl) <| J.p rfl (Q.fa (n := 3) Tryz.runUnderlying143 rfl rfl Tryz.sizeOf141 rfl) ?_
    refine J.p rfl (Q.ld Tryz.isAgg141 rfl ((rd_field RUp.len hrd0 hy (k := 3) rfl (by omega)).within (i := 0) rfl)) ?_
    obtain ⟨bb, off, hpp, hrd⟩ := hsl.some_ (by omega)
    obtain ⟨x, hx⟩ : ∃ x, y.l[k]? = some x := ⟨_, List.getElem?_eq_getElem (by omega)⟩
    refine J.slot 18 (.slice (some ⟨bb, off, none⟩) y.l.length y.c) rfl (by rw [hpp]) ?_
    refine J.m rfl <| J.p rfl (Q.ia Tryz.runUnderlying141 Tryz.sizeOf146 rfl rfl (by omega) (by omega)) <| J.p rfl (Q.fa (n := 0) Tryz.runUnderlying146 rfl rfl Tryz.sizeOf3 rfl) ?_
    refine J.p rfl (Q.ld Tryz.isAgg3 rfl ((rd_field RPt.len hrd hx (k := 0) rfl (by simp)).within (i := 1) rfl)) ?_
    refine J.m rfl <| J.p rfl (Q.lss rfl rfl) <| J.p rfl (Q.pick_t rfl rfl) <| J.nil <| J.then_n ?_
    refine J.cases 25 rfl (fun hc25 => ?_) (fun hc25 => ?_)
    ·
     replace hc25 := X.nm hc25
     refine J.cond_t rfl <| J.cskip <| J.then_n <| J.block <| J.region <| J.m rfl <| J.p rfl (Q.add64 rfl rfl (by omega)) <| J.p rfl (Q.asg rfl) <| J.nil <| J.blk_n ?_
     refine J.againI (k + 1) ⟨by show k + 1 ≤ _; omega, AtK.next hlo (hka hx) (by first | (simp only [ltB, decide_eq_true_eq]; exact (less_iff _ _).1 hc25) | (simp only [decide_eq_true_eq]; omega))⟩ (by show y.l.length - (k + 1) < y.l.length - k; omega) ⟨rfl, rfl, rfl, trivial⟩
    replace hc25 := X.nm hc25
    refine J.cond_f rfl <| J.exit <| J.then_x <| J.lp_x <| J.blk_x ?_
    refine J.meet k ⟨by omega, hlo, fun q hq => by
     rw [hka hx] at hq; cases hq
     first | (simp only [ltB, decide_eq_false_iff_not]; intro h; rw [(less_iff _ _).2 h] at hc25; cases hc25) | (simp only [decide_eq_false_iff_not]; omega)⟩ ⟨rfl, rfl, rfl, trivial⟩ rfl
   replace hb14 := X.nm hb14
   refine J.skip rfl rfl <| J.skip rfl rfl <| J.skip rfl rfl <| J.skip rfl rfl <| J.skip rfl rfl <| J.skip rfl rfl <| J.skip rfl rfl <| J.skip rfl rfl <| J.skip rfl rfl <| J.skip rfl rfl <| J.p rfl (Q.pick_f rfl rfl) <| J.nil <| J.then_n <| J.cond_f rfl <| J.exit <| J.then_x <| J.lp_x <| J.blk_x ?_
   refine J.meet k ⟨by omega, hlo, fun q hq => by rw [List.getElem?_eq_none (by omega)] at hq; cases hq⟩ ⟨rfl, rfl, rfl, trivial⟩ rfl
  have hle := hi.le
  refine J.seq ?_
  refine J.draw [20, 21] Tryz.mixed (by kernel_rfl) fun hR => ?_
  refine RG.p 0 hR rfl (Q.mv rfl) <| RG.p 1 hR rfl (Q.mv rfl) <| RG.p 2 hR rfl (Q.mv rfl) <| RG.p 3 hR rfl (Q.nil_ rfl) <| RG.p 4 hR rfl (Q.fa (n := 3) Tryz.runUnderlying143 rfl rfl Tryz.sizeOf141 rfl) ?_
  refine RG.p 5 hR rfl (Q.ld Tryz.isAgg141 rfl ((rd_field RUp.len hrd0 hy (k := 3) rfl (by omega)).within (i := 0) rfl)) ?_
  refine RG.p 6 hR rfl (Q.lenSl Tryz.runUnderlying141 rfl) <| RG.p 7 hR rfl (Q.lss rfl rfl) <| RG.p 8 hR rfl (Q.mv rfl) ?_
  refine RG.cases 36 rfl (fun hb36 => ?_) (fun hb36 => ?_)
  ·
   replace hb36 := X.nm hb36
   refine RG.p 9 hR rfl (Q.mv rfl) <| RG.p 10 hR rfl (Q.nil_ rfl) <| RG.p 11 hR rfl (Q.fa (n := 3) Tryz.runUnderlying143 rfl rfl Tryz.sizeOf141 rfl) ?_
   refine RG.p 12 hR rfl (Q.ld Tryz.isAgg141 rfl ((rd_field RUp.len hrd0 hy (k := 3) rfl (by omega)).within (i := 0) rfl)) ?_
   obtain ⟨bb, off, hpp, hrd⟩ := hsl.some_ (by omega)
   obtain ⟨x, hx⟩ : ∃ x, y.l[i]? = some x := ⟨_, List.getElem?_eq_getElem (by omega)⟩
   have his := hi.is ord3_int hs (hka hx)
   refine RG.slot 40 (.slice (some ⟨bb, off, none⟩) y.l.length y.c) rfl (by rw [hpp]) ?_
   refine RG.p 13 hR rfl (Q.mv rfl) <| RG.p 14 hR rfl (Q.ia Tryz.runUnderlying141 Tryz.sizeOf146 rfl rfl (by omega) (by omega)) <| RG.p 15 hR rfl (Q.fa (n := 0) Tryz.runUnderlying146 rfl rfl Tryz.sizeOf3 rfl) ?_
   refine RG.p 16 hR rfl (Q.ld Tryz.isAgg3 rfl ((rd_field RPt.len hrd hx (k := 0) rfl (by simp)).within (i := 1) rfl)) ?_
   refine RG.p 17 hR rfl (Q.mv rfl) <| RG.p 18 hR rfl (Q.eql rfl rfl) <| RG.p 19 hR rfl (Q.pick_t rfl rfl) ?_
   refine RG.keep 20 hR rfl rfl rfl rfl rfl (Q.asg rfl) ?_
   refine RG.bar 21 hR rfl rfl rfl rfl rfl rfl (Q.asg rfl).toC ?_
   rintro _ _ ⟨rfl, rfl⟩
   refine RG.norm rfl ?_
   refine RG.fin hR rfl ?_
   refine J.norm rfl <| J.then_n <| J.cret ?_
   refine J.ret2I [upsO (some ⟨b0, o0, none⟩) c0 us, y.own] rfl rfl rfl ⟨_, by first | (rw [← hkv, his]; done) | (rw [← hkv, his, bytes_eq]; done) | (rw [← hkv, his]; simp only [Int.ofNat_inj]; rfl), by rw [← hkv]; exact hi, rfl⟩
  replace hb36 := X.nm hb36
  refine RG.skip 9 hR rfl rfl rfl rfl rfl rfl <| RG.skip 10 hR rfl rfl rfl rfl rfl rfl <| RG.skip 11 hR rfl rfl rfl rfl rfl rfl <| RG.skip 12 hR rfl rfl rfl rfl rfl rfl <| RG.skip 13 hR rfl rfl rfl rfl rfl rfl <| RG.skip 14 hR rfl rfl rfl rfl rfl rfl <| RG.skip 15 hR rfl rfl rfl rfl rfl rfl <| RG.skip 16 hR rfl rfl rfl rfl rfl rfl <| RG.skip 17 hR rfl rfl rfl rfl rfl rfl <| RG.skip 18 hR rfl rfl rfl rfl rfl rfl ?_
  refine RG.p 19 hR rfl (Q.pick_f rfl rfl) ?_
  refine RG.keep 20 hR rfl rfl rfl rfl rfl (Q.asg rfl) ?_
  refine RG.bar 21 hR rfl rfl rfl rfl rfl rfl (Q.asg rfl).toC ?_
  rintro _ _ ⟨rfl, rfl⟩
  refine RG.norm rfl ?_
  refine RG.fin hR rfl ?_
  refine J.norm rfl <| J.then_n <| J.cret ?_
  have his := hi.out ord3_int hs (by omega)
  refine J.ret2I [upsO (some ⟨b0, o0, none⟩) c0 us, y.own] rfl rfl rfl ⟨_, by rw [← hkv, his], by rw [← hkv]; exact hi, rfl⟩
end Go.Proofs.YtidbcaimgahllaaGreat
namespace Go.X
set_option linter.unusedSectionVars false
set_option linter.unusedSimpArgs false
set_option linter.unusedVariables false

class OwnB (A : List Assn) (b : Nat) (E sz off n c : outParam Nat) (xs : outParam (List Value)) (D : outParam (List Assn)) : Prop where
  perm : A.Perm (own E sz (.slice (some ⟨b, off, none⟩) n c) xs :: D)
instance OwnB.head {A : List Assn} {b E sz off n c : Nat} {xs : List Value} : OwnB (own E sz (.slice (some ⟨b, off, none⟩) n c) xs :: A) b E sz off n c xs A := ⟨List.Perm.refl _⟩
instance (priority := 900) OwnB.tail {A D : List Assn} {Y : Assn} {b E sz off n c : Nat} {xs : List Value} [h : OwnB A b E sz off n c xs D] : OwnB (Y :: A) b E sz off n c xs (Y :: D) := ⟨(h.perm.cons Y).trans (List.Perm.swap _ _ _)⟩
instance OwnB.left {A B D : List Assn} {b E sz off n c : Nat} {xs : List Value} [h : OwnB A b E sz off n c xs D] : OwnB (A ++ B) b E sz off n c xs (D ++ B) := ⟨h.perm.append_right B⟩
theorem rdO {A D : List Assn} {b E sz off n c o j : Nat} {xs : List Value} {v : Value} [h : OwnB A b E sz off n c xs D] (hv : xs[j]? = some v) (ho : o = off + j) : Reads A b o v := by
  subst ho
  intro k s
  obtain ⟨k1, _, h1, _, _, u1, _⟩ := s.perm h.perm
  rcases h1 with ⟨e1, _⟩ | ⟨o', ho', hb⟩
  · cases e1
  · have hv' := ho'.val
    simp only [Value.slice.injEq, Option.some.injEq, Addr.mk.injEq, and_true] at hv'
    obtain ⟨⟨hb1, hb2⟩, _, _⟩ := hv'
    refine ⟨_, _, _, u1 _ _ (by rw [hb1]; exact hb), ?_⟩
    have := ho'.get j v hv
    rw [← hb2] at this
    simpa using this
theorem rfO {α : Type} {cl : α → List Value} {A D : List Assn} {b E sz off n c o i : Nat} {l : List α} {x : α} {v : Value} (k : Nat) [h : OwnB A b E sz off n c (l.flatMap cl) D] (hc : ∀ x, (cl x).length = sz) (hx : l[i]? = some x) (hv : (cl x)[k]? = some v) (ho : o = off + (i * sz + k)) : Reads A b o v :=
  rdO (flat_get hc hx hv) ho

section
variable {P : Program} {L : Slots} {A D : List Assn} {ty T : TypeId} {x y : Operand}
theorem C.stNO {E sz b off n c o : Nat} (j : Nat) {xs vs : List Value} (hs : ∀ w, (sizeOf T).run P w = .ok vs.length w) (ex : ev L x = some (.pointer (some ⟨b, o, none⟩))) (ey : ev L y = some (.agg vs.toArray)) [h : OwnB A b E sz off n c xs D]
    (hoj : o = off + j) (hj : j + vs.length ≤ xs.length) (hv : vs.all oneC = true) : OpC P (.store T x y) ty L A (fun u B => u = undef ∧ B = own E sz (.slice (some ⟨b, off, none⟩) n c) (splice xs j vs) :: D) :=
  (C.stON (A := own E sz (.slice (some ⟨b, off, none⟩) n c) xs :: D) 0 hs ex ey rfl hoj hj (fun v hm => by rw [List.all_eq_true] at hv; exact hv v hm)).imp fun _ s => s.perm h.perm
theorem C.st1O {E sz b off n c o : Nat} (j : Nat) {xs : List Value} {v : Value} (hs : ∀ w, (sizeOf T).run P w = .ok 1 w) (ex : ev L x = some (.pointer (some ⟨b, o, none⟩))) (ey : ev L y = some v) (hv : oneC v = true) [h : OwnB A b E sz off n c xs D]
    (hoj : o = off + j) (hj : j + 1 ≤ xs.length) : OpC P (.store T x y) ty L A (fun u B => u = undef ∧ B = own E sz (.slice (some ⟨b, off, none⟩) n c) (xs.set j v) :: D) :=
  (C.stO (A := own E sz (.slice (some ⟨b, off, none⟩) n c) xs :: D) 0 hs ex ey hv rfl hoj hj).imp fun _ s => s.perm h.perm
end

class OwnAt (A : List Assn) (v : Value) (E sz : Nat) (xs : outParam (List Value)) (D : outParam (List Assn)) : Prop where
  imp : ∀ h, HSat h A → HSat h (own E sz v xs :: D)
instance OwnAt.head {A : List Assn} {v : Value} {E sz : Nat} {xs : List Value} : OwnAt (own E sz v xs :: A) v E sz xs A := ⟨fun _ s => s⟩
instance OwnAt.zero {A : List Assn} {b E sz : Nat} {z : Nat × Nat} : OwnAt (pt b (.cells ([] : List Value).toArray E z) :: A) (.slice (some ⟨b, 0, none⟩) 0 0) E sz [] A := ⟨fun _ s => HSat.imp s own_of_zero⟩
instance (priority := 900) OwnAt.tail {A D : List Assn} {Y : Assn} {v : Value} {E sz : Nat} {xs : List Value} [h : OwnAt A v E sz xs D] : OwnAt (Y :: A) v E sz xs (Y :: D) :=
  ⟨fun _ s => (HSat.under s fun k q => h.imp k q).perm (List.Perm.swap _ _ _)⟩
section
variable {P : Program} {L : Slots} {A D : List Assn} {W0 : World} {N : Nat} {l : List Oper} {NQ : List Nat} {Q : Exit → Act → World → Prop} {S : List Nat} {Dm Em : List Assn}
theorem C.appI {E sz n c m c2 : Nat} {T T' E2 : TypeId} {ti : TypeInfo} {zv : Value} {p p2 : Option Addr} {xs ys : List Value} {x y : Operand} {ty : TypeId}
    (ht : ∀ w, (underlying T).run P w = .ok (.slice E) w) (ht2 : ∀ w, (underlying T').run P w = .ok (.slice E2) w)
    (hi : ∀ w, (typeInfo E).run P w = .ok ti w) (hs : ∀ w, (sizeOf E).run P w = .ok sz w) (hz : ∀ w, (zeroValue E).run P w = .ok zv w) (hzs : zv.cells.size = sz)
    (ex : evs L [x, y] = some [.slice p n c, .slice p2 m c2]) [h : OwnAt A (.slice p n c) E sz xs D]
    (hsrc : SlR (own E sz (.slice p n c) xs :: D) sz (.slice p2 m c2) ys) (hone : ∀ v, v ∈ ys → oneC v = true)
    (hfit : (n + m) * ti.bytes ≤ 140737488355328) (hb0 : ti.bytes ≠ 0) :
    OpC P (.call { callee := .builtin .append, args := #[x, y], argTypes := #[T, T'] }) ty L A (fun v B => ∃ p' c', v = .slice p' (n + m) c' ∧ B = own E sz (.slice p' (n + m) c') (xs ++ ys) :: D) :=
  (C.app (A := own E sz (.slice p n c) xs :: D) (i := 0) ht ht2 hi hs hz hzs ex rfl hsrc hone hfit hb0).imp h.imp
theorem RGi.appI {i : Nat} {d E sz n c m c2 : Nat} {T T' E2 : TypeId} {ti : TypeInfo} {zv : Value} {p p2 : Option Addr} {xs ys : List Value} {x y : Operand} {ty : TypeId} {pos : String} {aft : Array Edge} {g : Option (Nat × Bool)}
    (ho : l[i]? = some ⟨some d, .call { callee := .builtin .append, args := #[x, y], argTypes := #[T, T'] }, ty, pos, aft, g⟩)
    (hi : memN i NQ = true) (hN : Nat.blt d N = true) (hg : guardL l.toArray g L = some true)
    (ht : ∀ w, (underlying T).run P w = .ok (.slice E) w) (ht2 : ∀ w, (underlying T').run P w = .ok (.slice E2) w)
    (hti : ∀ w, (typeInfo E).run P w = .ok ti w) (hs : ∀ w, (sizeOf E).run P w = .ok sz w) (hz : ∀ w, (zeroValue E).run P w = .ok zv w) (hzs : zv.cells.size = sz)
    (ex : evs L [x, y] = some [.slice p n c, .slice p2 m c2]) [h : OwnAt Em (.slice p n c) E sz xs D]
    (hsrc : SlR (own E sz (.slice p n c) xs :: (Dm ++ D)) sz (.slice p2 m c2) ys) (hone : ∀ v, v ∈ ys → oneC v = true)
    (hfit : (n + m) * ti.bytes ≤ 140737488355328) (hb0 : ti.bytes ≠ 0)
    (k : ∀ p' c', RG P W0 N l NQ Q (i :: S) ((d, .slice p' (n + m) c') :: L) Dm (own E sz (.slice p' (n + m) c') (xs ++ ys) :: D)) : RGi P W0 N l NQ Q S L Dm Em i := by
  have im : ∀ k, HSat k (Dm ++ Em) → HSat k (own E sz (.slice p n c) xs :: (Dm ++ D)) := by
    intro k s
    obtain ⟨h1, h2, a, b, d, u, v⟩ := s.append
    exact (HSat.of_append a (h.imp _ b) d u v).perm List.perm_middle
  refine RGi.one ho hi hN hg ((C.app (A := own E sz (.slice p n c) xs :: (Dm ++ D)) (i := 0) ht ht2 hti hs hz hzs ex rfl hsrc hone hfit hb0).imp im) ?_
  rintro v B ⟨p', c', rfl, rfl⟩
  exact ⟨_, List.perm_middle.symm, k p' c'⟩
end

section
variable {P : Program} {fn : Func} {N : Nat} {W0 : World} {L : Slots} {A B D : List Assn} {F : Assn} {R : Value → List Assn → Prop} {s t : Nat} {T : TypeId} {b : Nat} {vs : List Value} {u : Value} {G : Act → World → Prop}
theorem J.retCI (B : List Assn) (hr : fn.results = #[.cell s T]) (hv : find s L = some (.pointer (some ⟨b, 0, none⟩))) (ha : ∀ w, (isAgg T).run P w = .ok true w) (hs : ∀ w, (sizeOf T).run P w = .ok vs.length w) (hrd : ReadsN A b 0 vs)
    (hR : R (.agg vs.toArray) B) [h : PickL A (B ++ [F]) D] : J W0 N L A (bodyPost P fn (RetQ W0 R F) .ret) := by
  refine ⟨fun a w f t => ?_⟩
  have hg : (a.tmps[s]?).getD undef = .pointer (some ⟨b, 0, none⟩) := by rw [f.get s _ hv]; rfl
  have hres : (results fn a.tmps).run P w = .ok (.agg vs.toArray) w := by
    simp [results, hr, hg, asAddr, run_loadAgg ha hs hrd t]
  exact bodyPost_ret hres f.defers ⟨_, B, rfl, hR, t.imp fun k q => HSat.keepI (A := A) (F := D) q⟩
theorem J.retC2I (B : List Assn) (hr : fn.results = #[.cell s T, .tmp t]) (hv : find s L = some (.pointer (some ⟨b, 0, none⟩))) (ht : find t L = some u) (ha : ∀ w, (isAgg T).run P w = .ok true w) (hs : ∀ w, (sizeOf T).run P w = .ok vs.length w) (hrd : ReadsN A b 0 vs)
    (hR : R (.tuple #[.agg vs.toArray, u]) B) [h : PickL A (B ++ [F]) D] : J W0 N L A (bodyPost P fn (RetQ W0 R F) .ret) := by
  refine ⟨fun a w f q => ?_⟩
  have hg : (a.tmps[s]?).getD undef = .pointer (some ⟨b, 0, none⟩) := by rw [f.get s _ hv]; rfl
  have hg2 : (a.tmps[t]?).getD undef = u := by rw [f.get t _ ht]; rfl
  have hres : (results fn a.tmps).run P w = .ok (.tuple #[.agg vs.toArray, u]) w := by
    simp [results, hr, hg, hg2, asAddr, run_loadAgg ha hs hrd q]
  exact bodyPost_ret hres f.defers ⟨_, B, rfl, hR, q.imp fun k q => HSat.keepI (A := A) (F := D) q⟩
theorem J.focusI {α : Type} {f : α → Assn} {l : List α} (k : Nat) {x : α} (hk : l[k]? = some x) [h : PickO A (star (l.map f)) D] (j : J W0 N L (f x :: star ((l.eraseIdx k).map f) :: D) G) : J W0 N L A G :=
  j.imp fun q s => by
    have s1 := HSat.unpack (s.perm h.perm)
    have s2 : HSat q ((f x :: (l.eraseIdx k).map f) ++ D) := s1.perm ((perm_focus f hk).append_right D)
    exact HSat.under (A := f x) s2 (fun _ s => HSat.pack s)
theorem J.unfocusI {α : Type} {f : α → Assn} {l : List α} (k : Nat) (x : α) (hk : k < l.length) [h : PickL A [f x, star ((l.eraseIdx k).map f)] D] (j : J W0 N L (star ((l.set k x).map f) :: D) G) : J W0 N L A G :=
  j.imp fun q s => by
    have s1 := s.perm h.perm
    have s2 : HSat q (f x :: ((l.eraseIdx k).map f ++ D)) := HSat.under (A := f x) s1 (fun _ s => HSat.unpack s)
    exact HSat.pack (HSat.perm (As := (f x :: (l.eraseIdx k).map f) ++ D) ((perm_unfocus f hk).append_right D) s2)
theorem J.unpackI (Bs : List Assn) [h : PickO A (star Bs) D] (j : J W0 N L (Bs ++ D) G) : J W0 N L A G := (j.imp fun _ s => HSat.unpack s).perm h.perm
theorem J.openI {α : Type} (U : Assn) {Bs : α → List Assn} {p : α → Prop} (f : ∀ h, U h → ∃ x, p x ∧ HSat h (Bs x)) [h : PickO A U D] (j : ∀ x, p x → J W0 N L (Bs x ++ D) G) : J W0 N L A G :=
  by
  refine ⟨fun a w u s => ?_⟩
  obtain ⟨h1, h2, hb, hd, d, s1, s2⟩ := s.heap.perm h.perm
  obtain ⟨x, px, hx⟩ := f h1 hb
  exact (j x px).run a w u ⟨s.os, s.tape, s.out, HSat.of_append hx hd d s1 s2⟩
end
end Go.X
namespace Go.X
theorem SlR.ptI {D : List Assn} {b n c sz : Nat} {l : List Value} {e : TypeId} {z : Nat × Nat} {KK : Obj → List Assn} [h : AtPt D b (.cells l.toArray e z) KK] (hl : l.length = n * sz) : SlR D sz (.slice (some ⟨b, 0, none⟩) n c) l := by
  obtain ⟨i, h1, _⟩ := h.at_
  exact SlR.pt i h1 hl (fun j u hj => by rw [Nat.zero_add]; exact hj)
theorem flat_one {α : Type} {cl : α → List Value} (h : ∀ x v, v ∈ cl x → oneC v = true) {l : List α} : ∀ v, v ∈ l.flatMap cl → oneC v = true := by
  intro v hv
  obtain ⟨x, _, hx⟩ := List.mem_flatMap.1 hv
  exact h x v hx
theorem take_one {xs : List Value} {n : Nat} (h : ∀ v, v ∈ xs → oneC v = true) : ∀ v, v ∈ xs.take n → oneC v = true := fun v hv => h v (List.mem_of_mem_take hv)
theorem drop_one {xs : List Value} {n : Nat} (h : ∀ v, v ∈ xs → oneC v = true) : ∀ v, v ∈ xs.drop n → oneC v = true := fun v hv => h v (List.mem_of_mem_drop hv)
theorem flat_same {α : Type} {cl : α → List Value} {l : List α} {j : Nat} {y z : α} (hy : l[j]? = some y) (e : cl z = cl y) : (l.set j z).flatMap cl = l.flatMap cl := by
  obtain ⟨h1, h2⟩ := List.getElem?_eq_some_iff.1 hy
  rw [List.set_eq_take_append_cons_drop, if_pos h1, List.flatMap_append, List.flatMap_cons, e]
  conv => rhs; rw [← List.take_append_drop j l, List.drop_eq_getElem_cons h1, h2]
  rw [List.flatMap_append, List.flatMap_cons]
end Go.X
namespace Go.X
theorem rnOd {α : Type} {cl : α → List Value} {A D : List Assn} {b E sz off n c o i : Nat} {l : List α} {x : α} {vs : List Value} (d : Nat) [h : OwnB A b E sz off n c (l.flatMap cl) D] (hc : ∀ x, (cl x).length = sz) (hx : l[i]? = some x)
    (hv : ∀ (k : Nat) v, vs[k]? = some v → (cl x)[k + d]? = some v) (ho : o = off + (i * sz + d)) : ReadsN A b o vs := by
  intro j v hj
  exact rdO (j := i * sz + (j + d)) (flat_get hc hx (hv j v hj)) (by omega)
theorem Reads.inI {D F : List Assn} {X : Assn} {b o : Nat} {v : Value} (h : Reads [X] b o v) [k : PickO D X F] : Reads D b o v := by
  obtain ⟨i, hi⟩ := List.getElem?_of_mem (k.perm.mem_iff.2 List.mem_cons_self)
  exact h.within hi
theorem J.slrStarI {W0 : World} {N : Nat} {L : Slots} {A D : List Assn} {G : Act → World → Prop} {α : Type} {f : α → Assn} {l : List α} {E sz : Nat} {p : Option Addr} {n c : Nat} {xs : List Value} {x : α} (k : Nat) (hx : l[k]? = some x)
    (hf : f x = own E sz (.slice p n c) xs) [h : PickO A (star (l.map f)) D] (j : SlR [star (l.map f)] sz (.slice p n c) xs → J W0 N L A G) : J W0 N L A G := by
  obtain ⟨i, hi⟩ := List.getElem?_of_mem (h.perm.mem_iff.2 List.mem_cons_self)
  exact J.slrStar i k hi hx hf j
end Go.X
namespace Go.Proofs.YtidbcaimgahllaaGreat
set_option linter.unusedSectionVars false
set_option linter.unusedSimpArgs false
set_option linter.unusedVariables false
open Go.X
open Go.X.G (Ord3 ord3_nat ord3_int ord3_str ltB sget sput sdel Srtd)

theorem ROb.one (x : ROb) : ∀ v, v ∈ x.cells → oneC v = true := by intro v hv; simp at hv; rcases hv with rfl | rfl <;> rfl
theorem RBk.one (x : RBk) : ∀ v, v ∈ x.cells → oneC v = true := by intro v hv; simp at hv; rcases hv with rfl | rfl <;> rfl
theorem RPt.one (x : RPt) : ∀ v, v ∈ x.cells → oneC v = true := by intro v hv; simp at hv; rcases hv with rfl | rfl <;> rfl
theorem RUp.one (x : RUp) : ∀ v, v ∈ x.cells → oneC v = true := by intro v hv; simp at hv; rcases hv with rfl | rfl | rfl | rfl <;> rfl
theorem RKp.one (x : RKp) : ∀ v, v ∈ RKp.cells x → oneC v = true := by intro v hv; simp at hv; rcases hv with rfl | rfl | rfl | rfl | rfl | rfl <;> rfl

theorem rput_spec (G : Assn) (b0 o0 c0 : Nat) (bs : List RBk) {j : Nat} {y : RBk} (hy : bs[j]? = some y) (k : ByteArray) (dp : Option Addr) (dc : Nat) (d : List UInt8) (hd : SlR [G] 1 (.slice dp d.length dc) (bytesV d)) (hdl : d.length ≤ 140737488355328)
    (hs : Srtd ltB (y.l.map ROb.kv)) (hn : y.l.length ≤ 1073741824) : FSpec Tryz.prog 60 [.pointer (some ⟨b0, o0 + j * 2, none⟩), .string k, .slice dp d.length dc] [bksO (some ⟨b0, o0, none⟩) c0 bs, y.own, star (y.l.map ROb.asn), G]
    (fun v B => ∃ z : RBk, z.k = y.k ∧ z.l.map ROb.kv = sput ltB k d (y.l.map ROb.kv) ∧ v = .tuple #[] ∧ B = [bksO (some ⟨b0, o0, none⟩) c0 (bs.set j z), z.own, star (z.l.map ROb.asn), G]) := by
  obtain ⟨yk, yp, yc, yl⟩ := y
  dsimp only [RBk.own, RBk.kv, RBk.cells] at *
  have hj := (List.getElem?_eq_some_iff.1 hy).1
  refine FSpec.of Tryz.func60 rfl Tryz.ntmps60 rfl fun W0 F => ?_
  refine J.slrI (E0 := 150) (sz := 2) (p := yp) (n := yl.length) (c := yc) (xs := yl.flatMap ROb.cells) fun hsl => ?_
  refine J.tells 1 rfl own.len fun hlc => ?_
  have hlc' : yl.length ≤ yc := hlc.2
  refine J.seq <| J.region <| J.m rfl <| J.m rfl ?_
  refine J.callI Tryz.call63 (robject_spec b0 o0 c0 bs hy k hs (by show yl.length ≤ _; omega)) rfl rfl rfl ?_
  rintro _ _ ⟨i, rfl, hi, rfl⟩
  refine J.norm rfl ?_
  dsimp only [RBk.own] at *
  have hle : i ≤ yl.length := by have := hi.le; rwa [List.length_map] at this
  refine J.m rfl <| J.p rfl (Q.ext rfl rfl) <| J.p rfl (Q.ext rfl rfl) <| J.p rfl (Q.asg rfl) <| J.p rfl (Q.asg rfl) <| J.nil <| J.then_n <| J.seq <| J.region <| J.m rfl ?_
  refine J.c rfl rfl (C.bslG (l := []) Tryz.runUnderlying42 Tryz.sizeOf5 Tryz.zeroValue5 (by decide) rfl rfl rfl rfl rfl) ?_
  rintro _ _ ⟨b17, rfl, rfl⟩
  refine J.norm rfl <| J.m rfl ?_
  refine J.c rfl rfl (C.appI Tryz.runUnderlying42 Tryz.runUnderlying42 Tryz.typeInfo5 Tryz.sizeOf5 Tryz.zeroValue5 rfl rfl (hd.inI) (bytesV_one _) (by simp [Tryz.t5] <;> omega) (by decide)) ?_
  rintro _ _ ⟨p19, c19, rfl, rfl⟩
  refine J.norm rfl ?_
  rw [show 0 + d.length = d.length from by omega, List.nil_append]
  obtain ⟨x, hx⟩ : ∃ x : ROb, x = ⟨k, p19, c19, d⟩ := ⟨_, rfl⟩
  refine J.p rfl (Q.bld (l := [_, _]) Tryz.runUnderlying150 Tryz.zeroValue150 Tryz.places150 rfl rfl) ?_
  refine J.slot 20 (.agg x.cells.toArray) rfl (by rw [hx]; rfl) ?_
  refine J.c rfl rfl (C.alloc (l := [_, _]) Tryz.zeroValue150 rfl) ?_
  rintro _ _ ⟨b8, rfl, rfl⟩
  refine J.norm rfl ?_
  refine J.stAI (vs := [_, _]) rfl Tryz.sizeOf150 rfl rfl (by exact rfl) (by exact rfl) (by exact rfl) ?_
  refine J.nil <| J.then_n <| J.seq <| J.seq ?_
  refine J.convI (own 5 1 (.slice p19 d.length c19) (bytesV d)) x.asn (fun _ h => by rw [hx]; exact h) ?_
  have hxk : x.kv = (k, d) := by rw [hx]
  refine J.region <| J.m rfl <| J.nil <| J.then_n ?_
  refine J.cases 21 rfl (fun hc21 => ?_) (fun hc21 => ?_)
  ·
   replace hc21 := X.nm hc21
   refine J.cond_t rfl <| J.seq ?_
   obtain ⟨v, hv⟩ := Option.isSome_iff_exists.1 hc21
   have hil := (List.getElem?_eq_some_iff.1 (hi.here ord3_str hs hv)).1
   rw [List.length_map] at hil
   obtain ⟨bb, off, rfl, hrd⟩ := hsl.some_ (by omega)
   have e1 : (yl.set i x).map ROb.kv = sput ltB k d (yl.map ROb.kv) := by rw [hi.put_yes ord3_str hs hv, List.map_set, hxk]
   refine J.draw [7] Tryz.mixed (by kernel_rfl) fun hR => ?_
   refine RG.p 0 hR rfl (Q.mv rfl) <| RG.p 1 hR rfl (Q.nil_ rfl) <| RG.p 2 hR rfl (Q.fa (n := 1) Tryz.runUnderlying136 rfl rfl Tryz.sizeOf134 rfl) <| RG.p 3 hR rfl (Q.ld Tryz.isAgg134 rfl (rfO 1 RBk.len hy (show _ = some (Value.slice (some ⟨bb, off, none⟩) yl.length yc) from rfl) (by omega))) <| RG.p 4 hR rfl (Q.mv rfl) ?_
   refine RG.p 5 hR rfl (Q.ldN (vs := [_, _]) Tryz.isAgg150 Tryz.sizeOf150 rfl rnI) ?_
   refine RG.p 6 hR rfl (Q.ia Tryz.runUnderlying134 Tryz.sizeOf150 rfl rfl (by omega) (by omega)) ?_
   refine RG.bar 7 hR rfl rfl rfl rfl rfl rfl (C.stNO (i * 2) (vs := x.cells) Tryz.sizeOf150 rfl rfl (by omega) (by rw [flat_length ROb.len]; show i * 2 + 2 ≤ _; omega) rfl) ?_
   rintro _ _ ⟨rfl, rfl⟩
   refine RG.norm rfl ?_
   refine RG.fin hR rfl ?_
   refine J.norm rfl <| J.then_n <| J.cret <| J.then_r ?_
   rw [flat_set ROb.len yl i x hil]
   refine J.shutI [x.asn, star (yl.map ROb.asn)] (star ((yl.set i x).map ROb.asn)) (star_set1 i x) ?_
   refine J.convI (bksO (some ⟨b0, o0, none⟩) c0 bs) (bksO (some ⟨b0, o0, none⟩) c0 (bs.set j ⟨yk, some ⟨bb, off, none⟩, yc, yl.set i x⟩)) (fun _ h => by show own _ _ (.slice _ (bs.set j _).length _) _ _; rw [List.length_set, flat_same hy (by show [_, Value.slice _ _ _] = _; rw [List.length_set])]; exact h) ?_
   refine J.convI (own 150 2 (.slice (some ⟨bb, off, none⟩) yl.length yc) ((yl.set i x).flatMap ROb.cells)) (RBk.own ⟨yk, some ⟨bb, off, none⟩, yc, yl.set i x⟩) (fun _ h => by show own _ _ (.slice _ (yl.set i x).length _) _ _; rw [List.length_set]; exact h) ?_
   refine J.ret0I [bksO (some ⟨b0, o0, none⟩) c0 (bs.set j ⟨yk, some ⟨bb, off, none⟩, yc, yl.set i x⟩), RBk.own ⟨yk, some ⟨bb, off, none⟩, yc, yl.set i x⟩, star ((yl.set i x).map ROb.asn), G] rfl ⟨_, rfl, e1, rfl, rfl⟩
  replace hc21 := X.nm hc21
  refine J.cond_f rfl <| J.cskip <| J.then_n ?_
  have hsn : sget k (yl.map ROb.kv) = none := Option.not_isSome_iff_eq_none.1 (by rw [hc21]; exact Bool.false_ne_true)
  have e1 : (yl.take i ++ x :: yl.drop i).map ROb.kv = sput ltB k d (yl.map ROb.kv) := by rw [hi.put_no ord3_str hs hsn, List.map_append, List.map_cons, List.map_take, List.map_drop, hxk]
  have e2 : (yl.take i ++ x :: yl.drop i).length = 0 + i + 1 + (yl.length - i) := by simp; omega
  refine J.cut (fun _ : Option Addr × Nat => True) (fun z => [(0, .pointer (some ⟨b0, o0 + j * 2, none⟩)), (6, .int .i64 i), (9, .slice z.1 (0 + i + 1) z.2)])
   (fun z => [bksO (some ⟨b0, o0, none⟩) c0 bs, own 150 2 (.slice yp yl.length yc) (yl.flatMap ROb.cells), star (yl.map ROb.asn), x.asn, G, own 150 2 (.slice z.1 (0 + i + 1) z.2) ([] ++ (yl.flatMap ROb.cells).take (i * 2) ++ x.cells), F]) ?_ fun z _ => ?_
  ·
   obtain ⟨hq35, hr35⟩ := slH_ (P := Tryz.prog) (T := 134) Tryz.runUnderlying134 Tryz.sizeOf150 hsl (hi := i) hle hlc'
   refine J.draw [0, 7, 9, 10, 11] Tryz.mixed (by kernel_rfl) fun hR => ?_
   refine RG.p 1 hR rfl (Q.mv rfl) <| RG.p 2 hR rfl (Q.nil_ rfl) <| RG.p 3 hR rfl (Q.fa (n := 1) Tryz.runUnderlying136 rfl rfl Tryz.sizeOf134 rfl) <| RG.p 4 hR rfl (Q.ld Tryz.isAgg134 rfl (rfO 1 RBk.len hy (show _ = some (Value.slice yp yl.length yc) from rfl) (by omega))) <| RG.p 5 hR rfl (Q.mv rfl) ?_
   refine RG.p 6 hR rfl (hq35 _ _ _ _ _ _ rfl rfl) ?_
   refine RG.p 8 hR rfl (Q.ldN (vs := [_, _]) Tryz.isAgg150 Tryz.sizeOf150 rfl rnI) ?_
   refine RG.many hR 0 [9] rfl ⟨?_, ⟨?_, trivial⟩⟩
   ·
    refine RGi.made rfl rfl rfl rfl (C.bslG (l := []) Tryz.runUnderlying134 Tryz.sizeOf150 Tryz.zeroValue150 (by decide) rfl rfl rfl rfl rfl) ?_
    rintro b29
    refine RG.many hR 7 [9] rfl ⟨?_, ⟨?_, trivial⟩⟩
    ·
     refine RGi.appI rfl rfl rfl rfl Tryz.runUnderlying134 Tryz.runUnderlying134 Tryz.typeInfo150 Tryz.sizeOf150 Tryz.zeroValue150 rfl rfl (hr35.inI) (take_one (flat_one ROb.one)) (by simp [Tryz.t150] <;> omega) (by decide) ?_
     rintro p36 c36
     refine RG.normE rfl ?_
     refine RG.made 9 hR rfl rfl rfl rfl rfl (C.bslG (l := [_, _]) Tryz.runUnderlying134 Tryz.sizeOf150 Tryz.zeroValue150 (by decide) rfl rfl rfl rfl rfl) ?_
     rintro b38
     refine RG.many hR 10 [] rfl ⟨?_, trivial⟩
     ·
      refine RGi.appI rfl rfl rfl rfl Tryz.runUnderlying134 Tryz.runUnderlying134 Tryz.typeInfo150 Tryz.sizeOf150 Tryz.zeroValue150 rfl rfl (SlR.ptI rfl) (ROb.one x) (by simp [Tryz.t150] <;> omega) (by decide) ?_
      rintro p39 c39
      refine RG.normE rfl ?_
      refine RG.bar 11 hR rfl rfl rfl rfl rfl rfl (Q.asg rfl).toC ?_
      rintro _ _ ⟨rfl, rfl⟩
      refine RG.norm rfl ?_
      refine RG.fin hR rfl ?_
      refine J.norm rfl ?_
      exact J.meetI (p39, c39) trivial ⟨rfl, rfl, rfl, trivial⟩
    ·
     refine RGi.made rfl rfl rfl rfl (C.bslG (l := [_, _]) Tryz.runUnderlying134 Tryz.sizeOf150 Tryz.zeroValue150 (by decide) rfl rfl rfl rfl rfl) ?_
     rintro b38
     refine RG.many hR 7 [] rfl ⟨?_, trivial⟩
     ·
      refine RGi.appI rfl rfl rfl rfl Tryz.runUnderlying134 Tryz.runUnderlying134 Tryz.typeInfo150 Tryz.sizeOf150 Tryz.zeroValue150 rfl rfl (hr35.inI) (take_one (flat_one ROb.one)) (by simp [Tryz.t150] <;> omega) (by decide) ?_
      rintro p36 c36
      refine RG.normE rfl ?_
      refine RG.many hR 10 [] rfl ⟨?_, trivial⟩
      ·
       refine RGi.appI rfl rfl rfl rfl Tryz.runUnderlying134 Tryz.runUnderlying134 Tryz.typeInfo150 Tryz.sizeOf150 Tryz.zeroValue150 rfl rfl (SlR.ptI rfl) (ROb.one x) (by simp [Tryz.t150] <;> omega) (by decide) ?_
       rintro p39 c39
       refine RG.normE rfl ?_
       refine RG.bar 11 hR rfl rfl rfl rfl rfl rfl (Q.asg rfl).toC ?_
       rintro _ _ ⟨rfl, rfl⟩
       refine RG.norm rfl ?_
       refine RG.fin hR rfl ?_
       refine J.norm rfl ?_
       exact J.meetI (p39, c39) trivial ⟨rfl, rfl, rfl, trivial⟩
   ·
    refine RGi.made rfl rfl rfl rfl (C.bslG (l := [_, _]) Tryz.runUnderlying134 Tryz.sizeOf150 Tryz.zeroValue150 (by decide) rfl rfl rfl rfl rfl) ?_
    rintro b38
    refine RG.made 0 hR rfl rfl rfl rfl rfl (C.bslG (l := []) Tryz.runUnderlying134 Tryz.sizeOf150 Tryz.zeroValue150 (by decide) rfl rfl rfl rfl rfl) ?_
    rintro b29
    refine RG.many hR 7 [] rfl ⟨?_, trivial⟩
    ·
     refine RGi.appI rfl rfl rfl rfl Tryz.runUnderlying134 Tryz.runUnderlying134 Tryz.typeInfo150 Tryz.sizeOf150 Tryz.zeroValue150 rfl rfl (hr35.inI) (take_one (flat_one ROb.one)) (by simp [Tryz.t150] <;> omega) (by decide) ?_
     rintro p36 c36
     refine RG.normE rfl ?_
     refine RG.many hR 10 [] rfl ⟨?_, trivial⟩
     ·
      refine RGi.appI rfl rfl rfl rfl Tryz.runUnderlying134 Tryz.runUnderlying134 Tryz.typeInfo150 Tryz.sizeOf150 Tryz.zeroValue150 rfl rfl (SlR.ptI rfl) (ROb.one x) (by simp [Tryz.t150] <;> omega) (by decide) ?_
      rintro p39 c39
      refine RG.normE rfl ?_
      refine RG.bar 11 hR rfl rfl rfl rfl rfl rfl (Q.asg rfl).toC ?_
      rintro _ _ ⟨rfl, rfl⟩
      refine RG.norm rfl ?_
      refine RG.fin hR rfl ?_
      refine J.norm rfl ?_
      exact J.meetI (p39, c39) trivial ⟨rfl, rfl, rfl, trivial⟩
  obtain ⟨p47, c47, hq47, hr47⟩ := slL_ (P := Tryz.prog) (T := 134) Tryz.runUnderlying134 Tryz.sizeOf150 hsl (lo := i) hle hlc'
  refine J.region <| J.m rfl <| J.m rfl <| J.m rfl <| J.p rfl (Q.nil_ rfl) <| J.p rfl (Q.fa (n := 1) Tryz.runUnderlying136 rfl rfl Tryz.sizeOf134 rfl) <| J.p rfl (Q.ld Tryz.isAgg134 rfl (rfO 1 RBk.len hy (show _ = some (Value.slice yp yl.length yc) from rfl) (by omega))) <| J.m rfl ?_
  refine J.p rfl (hq47 _ _ _ _ _ _ rfl rfl) ?_
  refine J.c rfl rfl (C.appI Tryz.runUnderlying134 Tryz.runUnderlying134 Tryz.typeInfo150 Tryz.sizeOf150 Tryz.zeroValue150 rfl rfl (hr47.inI) (drop_one (flat_one ROb.one)) (by simp [Tryz.t150] <;> omega) (by decide)) ?_
  rintro _ _ ⟨p48, c48, rfl, rfl⟩
  refine J.norm rfl <| J.p rfl (Q.nil_ rfl) <| J.p rfl (Q.fa (n := 1) Tryz.runUnderlying136 rfl rfl Tryz.sizeOf134 rfl) ?_
  refine J.c0 rfl (C.st1O (j * 2 + 1) Tryz.sizeOf134 rfl rfl rfl (by omega) (by rw [flat_length RBk.len]; omega)) ?_
  rintro _ _ ⟨rfl, rfl⟩
  refine J.norm rfl <| J.nil ?_
  rw [flat_set1 (c := RBk.cells) RBk.len hy (k := 1) (x' := ⟨yk, p48, c48, yl.take i ++ x :: yl.drop i⟩) (by decide) (by show [_, Value.slice _ _ _] = _; rw [e2]; rfl)]
  refine J.convI _ _ (own_ins (p := p48) (c := c48) (E := 150) ROb.len (x := x) hle) ?_
  refine J.shutI [x.asn, star (yl.map ROb.asn)] (star ((yl.take i ++ x :: yl.drop i).map ROb.asn)) (star_ins1 i x) ?_
  refine J.convI (own 136 2 (.slice (some ⟨b0, o0, none⟩) bs.length c0) ((bs.set j ⟨yk, p48, c48, yl.take i ++ x :: yl.drop i⟩).flatMap RBk.cells)) (bksO (some ⟨b0, o0, none⟩) c0 (bs.set j ⟨yk, p48, c48, yl.take i ++ x :: yl.drop i⟩)) (fun _ h => by show own _ _ (.slice _ (bs.set j _).length _) _ _; rw [List.length_set]; exact h) ?_
  refine J.end0I [bksO (some ⟨b0, o0, none⟩) c0 (bs.set j ⟨yk, p48, c48, yl.take i ++ x :: yl.drop i⟩), RBk.own ⟨yk, p48, c48, yl.take i ++ x :: yl.drop i⟩, star ((yl.take i ++ x :: yl.drop i).map ROb.asn), G] rfl ⟨_, rfl, e1, rfl, rfl⟩

theorem rdrop_spec (b0 o0 c0 : Nat) (bs : List RBk) {j : Nat} {y : RBk} (hy : bs[j]? = some y) (k : ByteArray) {v : List UInt8} {i : Nat} (hi : AtK ltB k (y.l.map ROb.kv) i) (hv : sget k (y.l.map ROb.kv) = some v)
    (hs : Srtd ltB (y.l.map ROb.kv)) (hn : y.l.length ≤ 1073741824) : FSpec Tryz.prog 64 [.pointer (some ⟨b0, o0 + j * 2, none⟩), .int .i64 i] [bksO (some ⟨b0, o0, none⟩) c0 bs, y.own, star (y.l.map ROb.asn)]
    (fun v B => ∃ z : RBk, z.k = y.k ∧ z.l.map ROb.kv = sdel k (y.l.map ROb.kv) ∧ v = .tuple #[] ∧ B = [bksO (some ⟨b0, o0, none⟩) c0 (bs.set j z), z.own, star (z.l.map ROb.asn)]) := by
  obtain ⟨yk, yp, yc, yl⟩ := y
  dsimp only [RBk.own, RBk.kv, RBk.cells] at *
  have hj := (List.getElem?_eq_some_iff.1 hy).1
  refine FSpec.of Tryz.func64 rfl Tryz.ntmps64 rfl fun W0 F => ?_
  refine J.slrI (E0 := 150) (sz := 2) (p := yp) (n := yl.length) (c := yc) (xs := yl.flatMap ROb.cells) fun hsl => ?_
  refine J.tells 1 rfl own.len fun hlc => ?_
  have hlc' : yl.length ≤ yc := hlc.2
  have hil := (List.getElem?_eq_some_iff.1 (hi.here ord3_str hs hv)).1
  rw [List.length_map] at hil
  have e1 : (yl.eraseIdx i).map ROb.kv = sdel k (yl.map ROb.kv) := by rw [hi.del ord3_str hs hv, List.eraseIdx_eq_take_drop_succ, List.eraseIdx_eq_take_drop_succ, List.map_append, List.map_take, List.map_drop]
  have e2 : (yl.eraseIdx i).length = 0 + i + (yl.length - (i + 1)) := by rw [List.length_eraseIdx]; split <;> omega
  obtain ⟨hq11, hr11⟩ := slH_ (P := Tryz.prog) (T := 134) Tryz.runUnderlying134 Tryz.sizeOf150 hsl (hi := i) (by omega) hlc'
  obtain ⟨p19, c19, hq19, hr19⟩ := slL_ (P := Tryz.prog) (T := 134) Tryz.runUnderlying134 Tryz.sizeOf150 hsl (lo := i + 1) (by omega) hlc'
  refine J.draw [1, 8, 16, 19] Tryz.mixed (by kernel_rfl) fun hR => ?_
  refine RG.p 0 hR rfl (Q.mv rfl) <| RG.p 2 hR rfl (Q.mv rfl) <| RG.p 3 hR rfl (Q.nil_ rfl) <| RG.p 4 hR rfl (Q.fa (n := 1) Tryz.runUnderlying136 rfl rfl Tryz.sizeOf134 rfl) <| RG.p 5 hR rfl (Q.ld Tryz.isAgg134 rfl (rfO 1 RBk.len hy (show _ = some (Value.slice yp yl.length yc) from rfl) (by omega))) <| RG.p 6 hR rfl (Q.mv rfl) ?_
  refine RG.p 7 hR rfl (hq11 _ _ _ _ _ _ rfl rfl) ?_
  refine RG.p 9 hR rfl (Q.mv rfl) <| RG.p 10 hR rfl (Q.nil_ rfl) <| RG.p 11 hR rfl (Q.fa (n := 1) Tryz.runUnderlying136 rfl rfl Tryz.sizeOf134 rfl) <| RG.p 12 hR rfl (Q.ld Tryz.isAgg134 rfl (rfO 1 RBk.len hy (show _ = some (Value.slice yp yl.length yc) from rfl) (by omega))) <| RG.p 13 hR rfl (Q.mv rfl) <| RG.p 14 hR rfl (Q.add64 rfl rfl (by omega)) ?_
  refine RG.p 15 hR rfl (hq19 _ _ _ _ _ _ rfl rfl) ?_
  refine RG.made 1 hR rfl rfl rfl rfl rfl (C.bslG (l := []) Tryz.runUnderlying134 Tryz.sizeOf150 Tryz.zeroValue150 (by decide) rfl rfl rfl rfl rfl) ?_
  rintro b5
  refine RG.many hR 8 [] rfl ⟨?_, trivial⟩
  ·
   refine RGi.appI rfl rfl rfl rfl Tryz.runUnderlying134 Tryz.runUnderlying134 Tryz.typeInfo150 Tryz.sizeOf150 Tryz.zeroValue150 rfl rfl (hr11.inI) (take_one (flat_one ROb.one)) (by simp [Tryz.t150] <;> omega) (by decide) ?_
   rintro p12 c12
   refine RG.normE rfl ?_
   refine RG.many hR 16 [] rfl ⟨?_, trivial⟩
   ·
    refine RGi.appI rfl rfl rfl rfl Tryz.runUnderlying134 Tryz.runUnderlying134 Tryz.typeInfo150 Tryz.sizeOf150 Tryz.zeroValue150 rfl rfl (hr19.inI) (drop_one (flat_one ROb.one)) (by simp [Tryz.t150] <;> omega) (by decide) ?_
    rintro p20 c20
    refine RG.normE rfl <| RG.p 17 hR rfl (Q.nil_ rfl) <| RG.p 18 hR rfl (Q.fa (n := 1) Tryz.runUnderlying136 rfl rfl Tryz.sizeOf134 rfl) ?_
    refine RG.bar 19 hR rfl rfl rfl rfl rfl rfl (C.st1O (j * 2 + 1) Tryz.sizeOf134 rfl rfl rfl (by omega) (by rw [flat_length RBk.len]; omega)) ?_
    rintro _ _ ⟨rfl, rfl⟩
    refine RG.norm rfl ?_
    refine RG.fin hR rfl ?_
    refine J.norm rfl ?_
    rw [flat_set1 (c := RBk.cells) RBk.len hy (k := 1) (x' := ⟨yk, p20, c20, yl.eraseIdx i⟩) (by decide) (by show [_, Value.slice _ _ _] = _; rw [e2]; rfl)]
    refine J.convI _ _ (own_cut (p := p20) (c := c20) (E := 150) ROb.len hil) ?_
    refine J.convI (star (yl.map ROb.asn)) (star ((yl.eraseIdx i).map ROb.asn)) (star_drop1 i) ?_
    refine J.convI (own 136 2 (.slice (some ⟨b0, o0, none⟩) bs.length c0) ((bs.set j ⟨yk, p20, c20, yl.eraseIdx i⟩).flatMap RBk.cells)) (bksO (some ⟨b0, o0, none⟩) c0 (bs.set j ⟨yk, p20, c20, yl.eraseIdx i⟩)) (fun _ h => by show own _ _ (.slice _ (bs.set j _).length _) _ _; rw [List.length_set]; exact h) ?_
    refine J.end0I [bksO (some ⟨b0, o0, none⟩) c0 (bs.set j ⟨yk, p20, c20, yl.eraseIdx i⟩), RBk.own ⟨yk, p20, c20, yl.eraseIdx i⟩, star ((yl.eraseIdx i).map ROb.asn)] rfl ⟨_, rfl, e1, rfl, rfl⟩
end Go.Proofs.YtidbcaimgahllaaGreat
namespace Go.Proofs.YtidbcaimgahllaaGreat
set_option linter.unusedSectionVars false
set_option linter.unusedSimpArgs false
set_option linter.unusedVariables false
open Go.X
open Go.X.G (Ord3 ord3_nat ord3_int ord3_str ltB sget sput sdel Srtd)

theorem ins_cells {α : Type} {cl : α → List Value} {sz : Nat} (hc : ∀ x, (cl x).length = sz) {l : List α} {i : Nat} {x : α} : [] ++ (l.flatMap cl).take (i * sz) ++ cl x ++ (l.flatMap cl).drop (i * sz) = (l.take i ++ x :: l.drop i).flatMap cl := by
  rw [flat_take hc, flat_drop hc]; simp
theorem cut_cells {α : Type} {cl : α → List Value} {sz : Nat} (hc : ∀ x, (cl x).length = sz) {l : List α} {i : Nat} : [] ++ (l.flatMap cl).take (i * sz) ++ (l.flatMap cl).drop ((i + 1) * sz) = (l.eraseIdx i).flatMap cl := by
  rw [flat_take hc, flat_drop hc, List.eraseIdx_eq_take_drop_succ]; simp
theorem ins_len {α : Type} {l : List α} {i : Nat} {x : α} (hi : i ≤ l.length) : 0 + i + 1 + (l.length - i) = (l.take i ++ x :: l.drop i).length := by simp; omega
theorem cut_len {α : Type} {l : List α} {i : Nat} (hi : i < l.length) : 0 + i + (l.length - (i + 1)) = (l.eraseIdx i).length := by rw [List.length_eraseIdx]; split <;> omega
theorem map_ins {α β : Type} {f : α → β} {l : List α} {i : Nat} {x : α} : (l.take i ++ x :: l.drop i).map f = (l.map f).take i ++ f x :: (l.map f).drop i := by rw [List.map_append, List.map_cons, List.map_take, List.map_drop]
theorem map_cut {α β : Type} {f : α → β} {l : List α} {i : Nat} : (l.eraseIdx i).map f = (l.map f).eraseIdx i := by rw [List.eraseIdx_eq_take_drop_succ, List.eraseIdx_eq_take_drop_succ, List.map_append, List.map_take, List.map_drop]
theorem two_nil {E F : Nat} : star [own E F (.slice none 0 0) [], star []] (fun _ => none) :=
  ⟨fun _ => none, fun _ => none, own.nil _ _ _, ⟨fun _ => none, fun _ => none, trivial, trivial, fun _ => .inl rfl, Sub.refl _, Sub.refl _⟩, fun _ => .inl rfl, Sub.refl _, Sub.refl _⟩

abbrev bareV (r : RM) : Value := .agg [.int .i64 r.status, .int .u64 r.upload, .slice none 0 0, .bool false, .slice none 0 0].toArray
theorem ris_spec (n : Int) : FSpec Tryz.prog 30 [.int .i64 n] [] (fun v B => v = bareV (st n) ∧ B = []) := by
  refine FSpec.of Tryz.func30 rfl Tryz.ntmps30 rfl fun W0 F => ?_
  refine J.seq <| J.region ?_
  refine J.c rfl rfl (C.alloc (l := [_, _, _, _, _]) Tryz.zeroValue44 rfl) ?_
  rintro _ _ ⟨b2, rfl, rfl⟩
  refine J.norm rfl <| J.nil <| J.then_n <| J.seq <| J.region <| J.m rfl <| J.p rfl (Q.bld (l := [_, _, _, _, _]) Tryz.runUnderlying44 Tryz.zeroValue44 Tryz.places44 rfl rfl) ?_
  refine J.stAI (vs := [_, _, _, _, _]) rfl Tryz.sizeOf44 rfl rfl (by exact rfl) (by exact rfl) (by exact rfl) ?_
  refine J.nil <| J.then_n <| J.cret ?_
  refine J.retCI (vs := [_, _, _, _, _]) [] rfl rfl Tryz.isAgg44 Tryz.sizeOf44 rnI ⟨rfl, rfl⟩
theorem rbegins_spec (s p : ByteArray) : FSpec Tryz.prog 79 [.string s, .string p] [] (fun v B => v = .bool (beg s p) ∧ B = []) := by
  refine FSpec.of Tryz.func79 rfl Tryz.ntmps79 rfl fun W0 F => ?_
  refine J.seq <| J.region <| J.p rfl (Q.asg rfl) <| J.nil <| J.then_n <| J.seq <| J.region <| J.m rfl <| J.p rfl (Q.lenS Tryz.runUnderlying9 rfl) <| J.m rfl <| J.p rfl (Q.lenS Tryz.runUnderlying9 rfl) <| J.p rfl (Q.geq rfl rfl) <| J.m rfl ?_
  refine J.cases 10 rfl (fun hb10 => ?_) (fun hb10 => ?_)
  ·
   replace hb10 := X.nm hb10
   refine J.m rfl <| J.m rfl <| J.p rfl (Q.lenS Tryz.runUnderlying9 rfl) <| J.p rfl (Q.strH Tryz.runUnderlying9 rfl rfl (by omega) (by omega)) <| J.m rfl <| J.p rfl (Q.eqls rfl rfl) <| J.p rfl (Q.pick_t rfl rfl) <| J.p rfl (Q.asg rfl) <| J.nil <| J.then_n <| J.cret ?_
   refine J.ret1 (B := []) rfl rfl ⟨?_, rfl⟩ rfl
   unfold beg
   first
     | (rw [decide_eq_true (show p.size ≤ s.size by omega)]; simp only [Bool.true_and, Int.toNat_natCast]; done)
     | (rw [decide_eq_true (show p.size ≤ s.size by omega)]; rfl)
     | (rw [decide_eq_false (show ¬ p.size ≤ s.size by omega)]; rfl)
  replace hb10 := X.nm hb10
  refine J.skip rfl rfl <| J.skip rfl rfl <| J.skip rfl rfl <| J.skip rfl rfl <| J.skip rfl rfl <| J.skip rfl rfl <| J.p rfl (Q.pick_f rfl rfl) <| J.p rfl (Q.asg rfl) <| J.nil <| J.then_n <| J.cret ?_
  refine J.ret1 (B := []) rfl rfl ⟨?_, rfl⟩ rfl
  unfold beg
  first
    | (rw [decide_eq_true (show p.size ≤ s.size by omega)]; simp only [Bool.true_and, Int.toNat_natCast]; done)
    | (rw [decide_eq_true (show p.size ≤ s.size by omega)]; rfl)
    | (rw [decide_eq_false (show ¬ p.size ≤ s.size by omega)]; rfl)
theorem rnew_spec : FSpec Tryz.prog 11 [] [] (fun v B => ∃ m, v = .pointer (some ⟨m, 0, none⟩) ∧ B = [RefAt m ⟨[], [], []⟩]) := by
  refine FSpec.of Tryz.func11 rfl Tryz.ntmps11 rfl fun W0 F => ?_
  refine J.seq <| J.region <| J.p rfl (Q.asg rfl) <| J.nil <| J.then_n <| J.seq <| J.region <| J.p rfl (Q.bld (l := [_, _, _]) Tryz.runUnderlying98 Tryz.zeroValue98 Tryz.places98 rfl rfl) ?_
  refine J.c rfl rfl (C.box (l := [_, _, _]) rfl rfl) ?_
  rintro _ _ ⟨b2, rfl, rfl⟩
  refine J.norm rfl <| J.p rfl (Q.asg rfl) <| J.nil <| J.then_n <| J.cret ?_
  refine J.give (X := bksO none 0 []) (own.nil _ _ _) ?_
  refine J.give (X := upsO none 0 []) (own.nil _ _ _) ?_
  refine J.give (X := kpsO none 0 []) (own.nil _ _ _) ?_
  refine J.give (X := star (([] : List RBk).map RBk.asn)) trivial ?_
  refine J.give (X := star (([] : List RUp).map RUp.asn)) trivial ?_
  refine J.shut [5, 4, 3, 2, 1, 0] (RefAt b2 ⟨[], [], []⟩) rfl (RefAt.mk (M := ⟨[], [], []⟩) ⟨none, 0, [], none, 0, [], none, 0⟩ ⟨rfl, rfl, by intro p h; cases h⟩) ?_
  refine J.ret1I [RefAt b2 ⟨[], [], []⟩] rfl rfl ⟨b2, rfl, rfl⟩

abbrev refL (m : Nat) (M : BM) (p1 : Option Addr) (c1 : Nat) (bs : List RBk) (p2 : Option Addr) (c2 : Nat) (us : List RUp) (p3 : Option Addr) (c3 : Nat) : List Assn :=
  [refP m (.slice p1 bs.length c1) (.slice p2 us.length c2) (.slice p3 M.done.length c3), bksO p1 c1 bs, upsO p2 c2 us, kpsO p3 c3 M.done, star (bs.map RBk.asn), star (us.map RUp.asn)]
theorem RefAt.of {m : Nat} {M : BM} {p1 : Option Addr} {c1 : Nat} {bs : List RBk} {p2 : Option Addr} {c2 : Nat} {us : List RUp} {p3 : Option Addr} {c3 : Nat} (hb : bs.map RBk.kv = M.buckets) (hu : us.map RUp.kv = M.uploads) (hk : M.bare) :
    ∀ h, HSat h (refL m M p1 c1 bs p2 c2 us p3 c3) → RefAt m M h := RefAt.mk ⟨p1, c1, bs, p2, c2, us, p3, c3⟩ ⟨hb, hu, hk⟩
theorem J.openRef {W0 : World} {N : Nat} {L : Slots} {A D : List Assn} {G : Act → World → Prop} {m : Nat} {M : BM} [h : PickO A (RefAt m M) D]
    (j : ∀ p1 c1 bs p2 c2 us p3 c3, bs.map RBk.kv = M.buckets → us.map RUp.kv = M.uploads → M.bare → J W0 N L (refL m M p1 c1 bs p2 c2 us p3 c3 ++ D) G) : J W0 N L A G :=
  J.openI (RefAt m M) (fun _ h => h) fun y hy => j _ _ _ _ _ _ _ _ hy.b hy.u hy.k
theorem at_map {α β : Type} {f : α → β} {l : List α} {i : Nat} {y : β} (h : (l.map f)[i]? = some y) : ∃ x, l[i]? = some x ∧ f x = y := by
  rw [List.getElem?_map, Option.map_eq_some_iff] at h; exact h

section
variable (m : Nat) (M : BM) (hM : M.lite) (x : OW)
include hM
theorem rmake_spec : FSpec Tryz.prog 33 [.pointer (some ⟨m, 0, none⟩), .agg x.cells.toArray] [RefAt m M] (fun v B => v = bareV (M.make x.o).1 ∧ B = [RefAt m (M.make x.o).2]) := by
  refine FSpec.of Tryz.func33 rfl Tryz.ntmps33 rfl fun W0 F => ?_
  refine J.seq <| J.region ?_
  refine J.c rfl rfl (C.box (l := [_, _, _, _, _, _, _, _, _]) rfl rfl) ?_
  rintro _ _ ⟨b3, rfl, rfl⟩
  refine J.norm rfl ?_
  refine J.c rfl rfl (C.alloc (l := [_, _, _, _, _]) Tryz.zeroValue44 rfl) ?_
  rintro _ _ ⟨b4, rfl, rfl⟩
  refine J.norm rfl <| J.nil <| J.then_n <| J.seq ?_
  refine J.openI (RefAt m M) (fun _ h => h) fun y hy => ?_
  refine J.norm rfl ?_
  have hbs : Srtd ltB (y.bs.map RBk.kv) := by rw [hy.b]; exact hM.bs
  have hus : Srtd ltN (y.us.map RUp.kv) := by rw [hy.u]; exact hM.us
  have hbl := hy.bl
  have hul := hy.ul
  have hlen := hM.len
  refine J.slrI (E0 := 136) (sz := 2) (p := y.p1) (n := y.bs.length) (c := y.c1) (xs := y.bs.flatMap RBk.cells) fun hsb => ?_
  refine J.slrI (E0 := 143) (sz := 4) (p := y.p2) (n := y.us.length) (c := y.c2) (xs := y.us.flatMap RUp.cells) fun hsu => ?_
  refine J.tells 1 rfl own.len fun hcb => ?_
  refine J.tells 2 rfl own.len fun hcu => ?_
  have hcb' : y.bs.length ≤ y.c1 := hcb.2
  have hcu' : y.us.length ≤ y.c2 := hcu.2
  refine J.region <| J.m rfl <| J.p rfl (Q.fa (n := 2) Tryz.runUnderlying52 rfl rfl Tryz.sizeOf9 rfl) ?_
  refine J.p rfl (Q.ld Tryz.isAgg9 rfl (rdI (by exact rfl))) ?_
  refine J.callI Tryz.call54 (rbucket_spec m y.p1 y.c1 y.bs (.slice y.p2 y.us.length y.c2) (.slice y.p3 M.done.length y.c3) x.o.bucket hbs (by omega)) rfl rfl rfl ?_
  rintro _ _ ⟨i, rfl, hi, rfl⟩
  refine J.norm rfl ?_
  rw [hy.b] at hi ⊢
  have hle : i ≤ y.bs.length := by have := hi.le; omega
  refine J.m rfl <| J.p rfl (Q.ext rfl rfl) <| J.p rfl (Q.ext rfl rfl) <| J.p rfl (Q.asg rfl) <| J.p rfl (Q.asg rfl) <| J.nil <| J.then_n <| J.seq <| J.seq <| J.region <| J.m rfl <| J.nil <| J.then_n ?_
  refine J.cases 15 rfl (fun hc15 => ?_) (fun hc15 => ?_)
  ·
   replace hc15 := X.nm hc15
   try (first | (cases hc15; done) | (exfalso; simp at hc15; done))
   all_goals
    refine J.cond_t rfl <| J.seq <| J.region ?_
    refine J.callI Tryz.call30 (ris_spec 409) rfl rfl rfl ?_
    rintro _ _ ⟨rfl, rfl⟩
    refine J.norm rfl ?_
    refine J.stAI (vs := [_, _, _, _, _]) rfl Tryz.sizeOf44 rfl rfl (by exact rfl) (by exact rfl) (by exact rfl) ?_
    refine J.nil <| J.then_n <| J.cret <| J.then_r ?_
    obtain ⟨q, hq⟩ := Option.isSome_iff_exists.1 hc15
    have e : M.make x.o = (st 409, M) := by unfold BM.make; rw [hq]
    refine J.shutI (y.asns m M) (RefAt m M) (RefAt.mk y hy) ?_
    rw [e]
    refine J.retCI (vs := [_, _, _, _, _]) [RefAt m M] rfl rfl Tryz.isAgg44 Tryz.sizeOf44 rnI ⟨rfl, rfl⟩
  replace hc15 := X.nm hc15
  try (first | (cases hc15; done) | (exfalso; simp at hc15; done))
  all_goals
   refine J.cond_f rfl <| J.cskip <| J.then_n ?_
   have hno : sget x.o.bucket M.buckets = none := Option.not_isSome_iff_eq_none.1 (by rw [hc15]; exact Bool.false_ne_true)
   obtain ⟨z, hz⟩ : ∃ z : RBk, z = ⟨x.o.bucket, none, 0, []⟩ := ⟨_, rfl⟩
   refine J.cut (fun _ : Option Addr × Nat => True) (fun w => [(0, .pointer (some ⟨m, 0, none⟩)), (4, .pointer (some ⟨b4, 0, none⟩)), (5, .int .i64 i), (7, .slice w.1 (0 + i + 1) w.2)])
    (fun w => y.asns m M ++ [pt b4 (.cells [Value.int .i64 0, .int .u64 0, .slice none 0 0, .bool false, .slice none 0 0].toArray 44 (0, 0)), own 136 2 (.slice w.1 (0 + i + 1) w.2) ([] ++ (y.bs.flatMap RBk.cells).take (i * 2) ++ z.cells), F]) ?_ fun w _ => ?_
   ·
    obtain ⟨hq23, hr23⟩ := slH_ (P := Tryz.prog) (T := 94) Tryz.runUnderlying94 Tryz.sizeOf136 hsb (hi := i) hle hcb'
    refine J.draw [0, 7, 11, 12, 13] Tryz.mixed (by kernel_rfl) fun hR => ?_
    refine RG.p 1 hR rfl (Q.mv rfl) <| RG.p 2 hR rfl (Q.nil_ rfl) <| RG.p 3 hR rfl (Q.fa (n := 0) Tryz.runUnderlying98 rfl rfl Tryz.sizeOf94 rfl) ?_
    refine RG.p 4 hR rfl (Q.ld Tryz.isAgg94 rfl (rdI (by exact rfl))) ?_
    refine RG.p 5 hR rfl (Q.mv rfl) ?_
    refine RG.p 6 hR rfl (hq23 _ _ _ _ _ _ rfl rfl) ?_
    refine RG.p 8 hR rfl (Q.fa (n := 2) Tryz.runUnderlying52 rfl rfl Tryz.sizeOf9 rfl) ?_
    refine RG.p 9 hR rfl (Q.ld Tryz.isAgg9 rfl (rdI (by exact rfl))) ?_
    refine RG.p 10 hR rfl (Q.bld (l := [_, _]) Tryz.runUnderlying136 Tryz.zeroValue136 Tryz.places136 rfl rfl) ?_
    refine RG.slot 27 (.agg z.cells.toArray) rfl (by rw [hz]; rfl) ?_
    refine RG.many hR 0 [11] rfl ⟨?_, ⟨?_, trivial⟩⟩
    ·
     refine RGi.made rfl rfl rfl rfl (C.bslG (l := []) Tryz.runUnderlying94 Tryz.sizeOf136 Tryz.zeroValue136 (by decide) rfl rfl rfl rfl rfl) ?_
     rintro b17
     refine RG.many hR 7 [11] rfl ⟨?_, ⟨?_, trivial⟩⟩
     ·
      refine RGi.appI rfl rfl rfl rfl Tryz.runUnderlying94 Tryz.runUnderlying94 Tryz.typeInfo136 Tryz.sizeOf136 Tryz.zeroValue136 rfl rfl (hr23.inI) (take_one (flat_one RBk.one)) (by simp [Tryz.t136] <;> omega) (by decide) ?_
      rintro p24 c24
      refine RG.normE rfl ?_
      refine RG.made 11 hR rfl rfl rfl rfl rfl (C.bslG (l := [_, _]) Tryz.runUnderlying94 Tryz.sizeOf136 Tryz.zeroValue136 (by decide) rfl rfl rfl rfl rfl) ?_
      rintro b28
      refine RG.many hR 12 [] rfl ⟨?_, trivial⟩
      ·
       refine RGi.appI rfl rfl rfl rfl Tryz.runUnderlying94 Tryz.runUnderlying94 Tryz.typeInfo136 Tryz.sizeOf136 Tryz.zeroValue136 rfl rfl (SlR.ptI rfl) (RBk.one z) (by simp [Tryz.t136] <;> omega) (by decide) ?_
       rintro p29 c29
       refine RG.normE rfl ?_
       refine RG.bar 13 hR rfl rfl rfl rfl rfl rfl (Q.asg rfl).toC ?_
       rintro _ _ ⟨rfl, rfl⟩
       refine RG.norm rfl ?_
       refine RG.fin hR rfl ?_
       refine J.norm rfl ?_
       exact J.meetI (p29, c29) trivial ⟨rfl, rfl, rfl, rfl, trivial⟩
     ·
      refine RGi.made rfl rfl rfl rfl (C.bslG (l := [_, _]) Tryz.runUnderlying94 Tryz.sizeOf136 Tryz.zeroValue136 (by decide) rfl rfl rfl rfl rfl) ?_
      rintro b28
      refine RG.many hR 7 [] rfl ⟨?_, trivial⟩
      ·
       refine RGi.appI rfl rfl rfl rfl Tryz.runUnderlying94 Tryz.runUnderlying94 Tryz.typeInfo136 Tryz.sizeOf136 Tryz.zeroValue136 rfl rfl (hr23.inI) (take_one (flat_one RBk.one)) (by simp [Tryz.t136] <;> omega) (by decide) ?_
       rintro p24 c24
       refine RG.normE rfl ?_
       refine RG.many hR 12 [] rfl ⟨?_, trivial⟩
       ·
        refine RGi.appI rfl rfl rfl rfl Tryz.runUnderlying94 Tryz.runUnderlying94 Tryz.typeInfo136 Tryz.sizeOf136 Tryz.zeroValue136 rfl rfl (SlR.ptI rfl) (RBk.one z) (by simp [Tryz.t136] <;> omega) (by decide) ?_
        rintro p29 c29
        refine RG.normE rfl ?_
        refine RG.bar 13 hR rfl rfl rfl rfl rfl rfl (Q.asg rfl).toC ?_
        rintro _ _ ⟨rfl, rfl⟩
        refine RG.norm rfl ?_
        refine RG.fin hR rfl ?_
        refine J.norm rfl ?_
        exact J.meetI (p29, c29) trivial ⟨rfl, rfl, rfl, rfl, trivial⟩
    ·
     refine RGi.made rfl rfl rfl rfl (C.bslG (l := [_, _]) Tryz.runUnderlying94 Tryz.sizeOf136 Tryz.zeroValue136 (by decide) rfl rfl rfl rfl rfl) ?_
     rintro b28
     refine RG.made 0 hR rfl rfl rfl rfl rfl (C.bslG (l := []) Tryz.runUnderlying94 Tryz.sizeOf136 Tryz.zeroValue136 (by decide) rfl rfl rfl rfl rfl) ?_
     rintro b17
     refine RG.many hR 7 [] rfl ⟨?_, trivial⟩
     ·
      refine RGi.appI rfl rfl rfl rfl Tryz.runUnderlying94 Tryz.runUnderlying94 Tryz.typeInfo136 Tryz.sizeOf136 Tryz.zeroValue136 rfl rfl (hr23.inI) (take_one (flat_one RBk.one)) (by simp [Tryz.t136] <;> omega) (by decide) ?_
      rintro p24 c24
      refine RG.normE rfl ?_
      refine RG.many hR 12 [] rfl ⟨?_, trivial⟩
      ·
       refine RGi.appI rfl rfl rfl rfl Tryz.runUnderlying94 Tryz.runUnderlying94 Tryz.typeInfo136 Tryz.sizeOf136 Tryz.zeroValue136 rfl rfl (SlR.ptI rfl) (RBk.one z) (by simp [Tryz.t136] <;> omega) (by decide) ?_
       rintro p29 c29
       refine RG.normE rfl ?_
       refine RG.bar 13 hR rfl rfl rfl rfl rfl rfl (Q.asg rfl).toC ?_
       rintro _ _ ⟨rfl, rfl⟩
       refine RG.norm rfl ?_
       refine RG.fin hR rfl ?_
       refine J.norm rfl ?_
       exact J.meetI (p29, c29) trivial ⟨rfl, rfl, rfl, rfl, trivial⟩
   refine J.norm rfl ?_
   obtain ⟨p37, c37, hq37, hr37⟩ := slL_ (P := Tryz.prog) (T := 94) Tryz.runUnderlying94 Tryz.sizeOf136 hsb (lo := i) hle hcb'
   refine J.seq <| J.region <| J.m rfl <| J.m rfl <| J.m rfl <| J.p rfl (Q.nil_ rfl) <| J.p rfl (Q.fa (n := 0) Tryz.runUnderlying98 rfl rfl Tryz.sizeOf94 rfl) ?_
   refine J.p rfl (Q.ld Tryz.isAgg94 rfl (rdI (by exact rfl))) ?_
   refine J.m rfl ?_
   refine J.p rfl (hq37 _ _ _ _ _ _ rfl rfl) ?_
   refine J.c rfl rfl (C.appI Tryz.runUnderlying94 Tryz.runUnderlying94 Tryz.typeInfo136 Tryz.sizeOf136 Tryz.zeroValue136 rfl rfl (hr37.inI) (drop_one (flat_one RBk.one)) (by simp [Tryz.t136] <;> omega) (by decide)) ?_
   rintro _ _ ⟨p38, c38, rfl, rfl⟩
   refine J.norm rfl <| J.p rfl (Q.nil_ rfl) <| J.p rfl (Q.fa (n := 0) Tryz.runUnderlying98 rfl rfl Tryz.sizeOf94 rfl) ?_
   refine J.stI rfl Tryz.sizeOf94 rfl rfl rfl (by exact rfl) (by exact rfl) (by exact rfl) ?_
   refine J.nil <| J.then_n <| J.seq <| J.region ?_
   refine J.callI Tryz.call30 (ris_spec 200) rfl rfl rfl ?_
   rintro _ _ ⟨rfl, rfl⟩
   refine J.norm rfl ?_
   refine J.stAI (vs := [_, _, _, _, _]) rfl Tryz.sizeOf44 rfl rfl (by exact rfl) (by exact rfl) (by exact rfl) ?_
   refine J.nil <| J.then_n <| J.cret ?_
   have e : M.make x.o = (st 200, { M with buckets := sput ltB x.o.bucket [] M.buckets }) := by unfold BM.make; rw [hno]
   rw [ins_len (x := z) hle, ins_cells RBk.len]
   refine J.give (X := z.asn) (by rw [hz]; exact two_nil) ?_
   refine J.shutI [z.asn, star (y.bs.map RBk.asn)] (star ((y.bs.take i ++ z :: y.bs.drop i).map RBk.asn)) (star_ins1 i z) ?_
   refine J.shutI (RMx.asns m M { y with p1 := p38, c1 := c38, bs := y.bs.take i ++ z :: y.bs.drop i }) (RefAt m { M with buckets := sput ltB x.o.bucket [] M.buckets }) (RefAt.mk (M := { M with buckets := sput ltB x.o.bucket [] M.buckets }) _ ⟨by rw [map_ins, hy.b, hi.put_no ord3_str hM.bs hno, hz]; rfl, hy.u, hy.k⟩) ?_
   rw [e]
   refine J.retCI (vs := [_, _, _, _, _]) [RefAt m { M with buckets := sput ltB x.o.bucket [] M.buckets }] rfl rfl Tryz.isAgg44 Tryz.sizeOf44 rnI ⟨rfl, rfl⟩
theorem rgone_spec {n : Nat} {u : UM} {i : Nat} (hi : AtK ltN n M.uploads i) (hu : sget n M.uploads = some u) : FSpec Tryz.prog 57 [.pointer (some ⟨m, 0, none⟩), .int .i64 i] [RefAt m M] (fun v B => v = .tuple #[] ∧ B = [RefAt m { M with uploads := sdel n M.uploads }]) := by
  refine FSpec.of Tryz.func57 rfl Tryz.ntmps57 rfl fun W0 F => ?_
  refine J.openRef (m := m) (M := M) fun p1 c1 bs p2 c2 us p3 c3 hyb hyu hyk => ?_
  refine J.norm rfl ?_
  have hbs : Srtd ltB (bs.map RBk.kv) := by rw [hyb]; exact hM.bs
  have hus : Srtd ltN (us.map RUp.kv) := by rw [hyu]; exact hM.us
  have hbl : bs.length = M.buckets.length := by rw [← hyb, List.length_map]
  have hul : us.length = M.uploads.length := by rw [← hyu, List.length_map]
  have hlen := hM.len
  refine J.slrI (E0 := 136) (sz := 2) (p := p1) (n := bs.length) (c := c1) (xs := bs.flatMap RBk.cells) fun hsb => ?_
  refine J.slrI (E0 := 143) (sz := 4) (p := p2) (n := us.length) (c := c2) (xs := us.flatMap RUp.cells) fun hsu => ?_
  refine J.tells 1 rfl own.len fun hcb => ?_
  refine J.tells 2 rfl own.len fun hcu => ?_
  have hcb' : bs.length ≤ c1 := hcb.2
  have hcu' : us.length ≤ c2 := hcu.2
  have hil : i < us.length := by have := (List.getElem?_eq_some_iff.1 (hi.here ord3_nat hM.us hu)).1; omega
  obtain ⟨hq11, hr11⟩ := slH_ (P := Tryz.prog) (T := 95) Tryz.runUnderlying95 Tryz.sizeOf143 hsu (hi := i) (by omega) hcu'
  obtain ⟨p19, c19, hq19, hr19⟩ := slL_ (P := Tryz.prog) (T := 95) Tryz.runUnderlying95 Tryz.sizeOf143 hsu (lo := i + 1) (by omega) hcu'
  refine J.draw [1, 8, 16, 19] Tryz.mixed (by kernel_rfl) fun hR => ?_
  refine RG.p 0 hR rfl (Q.mv rfl) <| RG.p 2 hR rfl (Q.mv rfl) <| RG.p 3 hR rfl (Q.nil_ rfl) <| RG.p 4 hR rfl (Q.fa (n := 1) Tryz.runUnderlying98 rfl rfl Tryz.sizeOf95 rfl) ?_
  refine RG.p 5 hR rfl (Q.ld Tryz.isAgg95 rfl (rdI (by exact rfl))) ?_
  refine RG.p 6 hR rfl (Q.mv rfl) ?_
  refine RG.p 7 hR rfl (hq11 _ _ _ _ _ _ rfl rfl) ?_
  refine RG.p 9 hR rfl (Q.mv rfl) <| RG.p 10 hR rfl (Q.nil_ rfl) <| RG.p 11 hR rfl (Q.fa (n := 1) Tryz.runUnderlying98 rfl rfl Tryz.sizeOf95 rfl) ?_
  refine RG.p 12 hR rfl (Q.ld Tryz.isAgg95 rfl (rdI (by exact rfl))) ?_
  refine RG.p 13 hR rfl (Q.mv rfl) <| RG.p 14 hR rfl (Q.add64 rfl rfl (by omega)) ?_
  refine RG.p 15 hR rfl (hq19 _ _ _ _ _ _ rfl rfl) ?_
  refine RG.made 1 hR rfl rfl rfl rfl rfl (C.bslG (l := []) Tryz.runUnderlying95 Tryz.sizeOf143 Tryz.zeroValue143 (by decide) rfl rfl rfl rfl rfl) ?_
  rintro b5
  refine RG.many hR 8 [] rfl ⟨?_, trivial⟩
  ·
   refine RGi.appI rfl rfl rfl rfl Tryz.runUnderlying95 Tryz.runUnderlying95 Tryz.typeInfo143 Tryz.sizeOf143 Tryz.zeroValue143 rfl rfl (hr11.inI) (take_one (flat_one RUp.one)) (by simp [Tryz.t143] <;> omega) (by decide) ?_
   rintro p12 c12
   refine RG.normE rfl ?_
   refine RG.many hR 16 [] rfl ⟨?_, trivial⟩
   ·
    refine RGi.appI rfl rfl rfl rfl Tryz.runUnderlying95 Tryz.runUnderlying95 Tryz.typeInfo143 Tryz.sizeOf143 Tryz.zeroValue143 rfl rfl (hr19.inI) (drop_one (flat_one RUp.one)) (by simp [Tryz.t143] <;> omega) (by decide) ?_
    rintro p20 c20
    refine RG.normE rfl <| RG.p 17 hR rfl (Q.nil_ rfl) <| RG.p 18 hR rfl (Q.fa (n := 1) Tryz.runUnderlying98 rfl rfl Tryz.sizeOf95 rfl) ?_
    refine RG.stI 19 hR rfl rfl rfl rfl rfl Tryz.sizeOf95 rfl rfl rfl (by exact rfl) (by exact rfl) (by exact rfl) ?_
    refine RG.fin hR rfl ?_
    refine J.norm rfl ?_
    rw [cut_len hil, cut_cells RUp.len]
    refine J.convI (star (us.map RUp.asn)) (star ((us.eraseIdx i).map RUp.asn)) (star_drop1 i) ?_
    refine J.shutI (refL m { M with uploads := sdel n M.uploads } p1 c1 bs p20 c20 (us.eraseIdx i) p3 c3) (RefAt m { M with uploads := sdel n M.uploads }) (RefAt.of (M := { M with uploads := sdel n M.uploads }) hyb (by rw [map_cut, hyu, hi.del ord3_nat hM.us hu]) hyk) ?_
    refine J.end0I [RefAt m { M with uploads := sdel n M.uploads }] rfl ⟨rfl, rfl⟩
theorem rbegin_spec (hno : sget x.o.id M.uploads = none) : FSpec Tryz.prog 62 [.pointer (some ⟨m, 0, none⟩), .agg x.cells.toArray] [RefAt m M]
    (fun v B => v = bareV ⟨200, x.o.id, [], false, []⟩ ∧ B = [RefAt m { M with uploads := sput ltN x.o.id ⟨x.o.bucket, x.o.key, []⟩ M.uploads }]) := by
  refine FSpec.of Tryz.func62 rfl Tryz.ntmps62 rfl fun W0 F => ?_
  refine J.seq <| J.region ?_
  refine J.c rfl rfl (C.box (l := [_, _, _, _, _, _, _, _, _]) rfl rfl) ?_
  rintro _ _ ⟨b3, rfl, rfl⟩
  refine J.norm rfl ?_
  refine J.c rfl rfl (C.alloc (l := [_, _, _, _, _]) Tryz.zeroValue44 rfl) ?_
  rintro _ _ ⟨b4, rfl, rfl⟩
  refine J.norm rfl <| J.nil <| J.then_n <| J.seq ?_
  refine J.openRef (m := m) (M := M) fun p1 c1 bs p2 c2 us p3 c3 hyb hyu hyk => ?_
  refine J.norm rfl ?_
  have hbs : Srtd ltB (bs.map RBk.kv) := by rw [hyb]; exact hM.bs
  have hus : Srtd ltN (us.map RUp.kv) := by rw [hyu]; exact hM.us
  have hbl : bs.length = M.buckets.length := by rw [← hyb, List.length_map]
  have hul : us.length = M.uploads.length := by rw [← hyu, List.length_map]
  have hlen := hM.len
  refine J.slrI (E0 := 136) (sz := 2) (p := p1) (n := bs.length) (c := c1) (xs := bs.flatMap RBk.cells) fun hsb => ?_
  refine J.slrI (E0 := 143) (sz := 4) (p := p2) (n := us.length) (c := c2) (xs := us.flatMap RUp.cells) fun hsu => ?_
  refine J.tells 1 rfl own.len fun hcb => ?_
  refine J.tells 2 rfl own.len fun hcu => ?_
  have hcb' : bs.length ≤ c1 := hcb.2
  have hcu' : us.length ≤ c2 := hcu.2
  refine J.region <| J.m rfl <| J.p rfl (Q.fa (n := 0) Tryz.runUnderlying52 rfl rfl Tryz.sizeOf40 rfl) ?_
  refine J.p rfl (Q.ld Tryz.isAgg40 rfl (rdI (by exact rfl))) ?_
  refine J.callI Tryz.call55 (rupload_spec m p2 c2 us (.slice p1 bs.length c1) (.slice p3 M.done.length c3) x.o.id hus (by omega)) rfl rfl rfl ?_
  rintro _ _ ⟨i, rfl, hi, rfl⟩
  refine J.norm rfl ?_
  rw [hyu] at hi ⊢
  have hle : i ≤ us.length := by have := hi.le; omega
  refine J.m rfl <| J.p rfl (Q.ext rfl rfl) <| J.p rfl (Q.ext rfl rfl) <| J.p rfl (Q.asg rfl) <| J.p rfl (Q.asg rfl) <| J.nil <| J.then_n ?_
  obtain ⟨z, hz⟩ : ∃ z : RUp, z = ⟨x.o.id, x.o.bucket, x.o.key, none, 0, []⟩ := ⟨_, rfl⟩
  refine J.cut (fun _ : Option Addr × Nat => True) (fun w => [(0, .pointer (some ⟨m, 0, none⟩)), (3, .pointer (some ⟨b3, 0, none⟩)), (4, .pointer (some ⟨b4, 0, none⟩)), (5, .int .i64 i), (7, .slice w.1 (0 + i + 1) w.2)])
   (fun w => refL m M p1 c1 bs p2 c2 us p3 c3 ++ [pt b3 (.cells x.cells.toArray 52 (0, 0)), pt b4 (.cells [Value.int .i64 0, .int .u64 0, .slice none 0 0, .bool false, .slice none 0 0].toArray 44 (0, 0)), own 143 4 (.slice w.1 (0 + i + 1) w.2) ([] ++ (us.flatMap RUp.cells).take (i * 4) ++ z.cells), F]) ?_ fun w _ => ?_
  ·
   obtain ⟨hq22, hr22⟩ := slH_ (P := Tryz.prog) (T := 95) Tryz.runUnderlying95 Tryz.sizeOf143 hsu (hi := i) hle hcu'
   refine J.draw [0, 7, 15, 16, 17] Tryz.mixed (by kernel_rfl) fun hR => ?_
   refine RG.p 1 hR rfl (Q.mv rfl) <| RG.p 2 hR rfl (Q.nil_ rfl) <| RG.p 3 hR rfl (Q.fa (n := 1) Tryz.runUnderlying98 rfl rfl Tryz.sizeOf95 rfl) ?_
   refine RG.p 4 hR rfl (Q.ld Tryz.isAgg95 rfl (rdI (by exact rfl))) ?_
   refine RG.p 5 hR rfl (Q.mv rfl) ?_
   refine RG.p 6 hR rfl (hq22 _ _ _ _ _ _ rfl rfl) ?_
   refine RG.p 8 hR rfl (Q.fa (n := 0) Tryz.runUnderlying52 rfl rfl Tryz.sizeOf40 rfl) ?_
   refine RG.p 9 hR rfl (Q.ld Tryz.isAgg40 rfl (rdI (by exact rfl))) ?_
   refine RG.p 10 hR rfl (Q.fa (n := 2) Tryz.runUnderlying52 rfl rfl Tryz.sizeOf9 rfl) ?_
   refine RG.p 11 hR rfl (Q.ld Tryz.isAgg9 rfl (rdI (by exact rfl))) ?_
   refine RG.p 12 hR rfl (Q.fa (n := 3) Tryz.runUnderlying52 rfl rfl Tryz.sizeOf9 rfl) ?_
   refine RG.p 13 hR rfl (Q.ld Tryz.isAgg9 rfl (rdI (by exact rfl))) ?_
   refine RG.p 14 hR rfl (Q.bld (l := [_, _, _, _]) Tryz.runUnderlying143 Tryz.zeroValue143 Tryz.places143 rfl rfl) ?_
   refine RG.slot 30 (.agg z.cells.toArray) rfl (by rw [hz]; rfl) ?_
   refine RG.many hR 0 [15] rfl ⟨?_, ⟨?_, trivial⟩⟩
   ·
    refine RGi.made rfl rfl rfl rfl (C.bslG (l := []) Tryz.runUnderlying95 Tryz.sizeOf143 Tryz.zeroValue143 (by decide) rfl rfl rfl rfl rfl) ?_
    rintro b16
    refine RG.many hR 7 [15] rfl ⟨?_, ⟨?_, trivial⟩⟩
    ·
     refine RGi.appI rfl rfl rfl rfl Tryz.runUnderlying95 Tryz.runUnderlying95 Tryz.typeInfo143 Tryz.sizeOf143 Tryz.zeroValue143 rfl rfl (hr22.inI) (take_one (flat_one RUp.one)) (by simp [Tryz.t143] <;> omega) (by decide) ?_
     rintro p23 c23
     refine RG.normE rfl ?_
     refine RG.made 15 hR rfl rfl rfl rfl rfl (C.bslG (l := [_, _, _, _]) Tryz.runUnderlying95 Tryz.sizeOf143 Tryz.zeroValue143 (by decide) rfl rfl rfl rfl rfl) ?_
     rintro b31
     refine RG.many hR 16 [] rfl ⟨?_, trivial⟩
     ·
      refine RGi.appI rfl rfl rfl rfl Tryz.runUnderlying95 Tryz.runUnderlying95 Tryz.typeInfo143 Tryz.sizeOf143 Tryz.zeroValue143 rfl rfl (SlR.ptI rfl) (RUp.one z) (by simp [Tryz.t143] <;> omega) (by decide) ?_
      rintro p32 c32
      refine RG.normE rfl ?_
      refine RG.bar 17 hR rfl rfl rfl rfl rfl rfl (Q.asg rfl).toC ?_
      rintro _ _ ⟨rfl, rfl⟩
      refine RG.norm rfl ?_
      refine RG.fin hR rfl ?_
      refine J.norm rfl ?_
      exact J.meetI (p32, c32) trivial ⟨rfl, rfl, rfl, rfl, rfl, trivial⟩
    ·
     refine RGi.made rfl rfl rfl rfl (C.bslG (l := [_, _, _, _]) Tryz.runUnderlying95 Tryz.sizeOf143 Tryz.zeroValue143 (by decide) rfl rfl rfl rfl rfl) ?_
     rintro b31
     refine RG.many hR 7 [] rfl ⟨?_, trivial⟩
     ·
      refine RGi.appI rfl rfl rfl rfl Tryz.runUnderlying95 Tryz.runUnderlying95 Tryz.typeInfo143 Tryz.sizeOf143 Tryz.zeroValue143 rfl rfl (hr22.inI) (take_one (flat_one RUp.one)) (by simp [Tryz.t143] <;> omega) (by decide) ?_
      rintro p23 c23
      refine RG.normE rfl ?_
      refine RG.many hR 16 [] rfl ⟨?_, trivial⟩
      ·
       refine RGi.appI rfl rfl rfl rfl Tryz.runUnderlying95 Tryz.runUnderlying95 Tryz.typeInfo143 Tryz.sizeOf143 Tryz.zeroValue143 rfl rfl (SlR.ptI rfl) (RUp.one z) (by simp [Tryz.t143] <;> omega) (by decide) ?_
       rintro p32 c32
       refine RG.normE rfl ?_
       refine RG.bar 17 hR rfl rfl rfl rfl rfl rfl (Q.asg rfl).toC ?_
       rintro _ _ ⟨rfl, rfl⟩
       refine RG.norm rfl ?_
       refine RG.fin hR rfl ?_
       refine J.norm rfl ?_
       exact J.meetI (p32, c32) trivial ⟨rfl, rfl, rfl, rfl, rfl, trivial⟩
   ·
    refine RGi.made rfl rfl rfl rfl (C.bslG (l := [_, _, _, _]) Tryz.runUnderlying95 Tryz.sizeOf143 Tryz.zeroValue143 (by decide) rfl rfl rfl rfl rfl) ?_
    rintro b31
    refine RG.made 0 hR rfl rfl rfl rfl rfl (C.bslG (l := []) Tryz.runUnderlying95 Tryz.sizeOf143 Tryz.zeroValue143 (by decide) rfl rfl rfl rfl rfl) ?_
    rintro b16
    refine RG.many hR 7 [] rfl ⟨?_, trivial⟩
    ·
     refine RGi.appI rfl rfl rfl rfl Tryz.runUnderlying95 Tryz.runUnderlying95 Tryz.typeInfo143 Tryz.sizeOf143 Tryz.zeroValue143 rfl rfl (hr22.inI) (take_one (flat_one RUp.one)) (by simp [Tryz.t143] <;> omega) (by decide) ?_
     rintro p23 c23
     refine RG.normE rfl ?_
     refine RG.many hR 16 [] rfl ⟨?_, trivial⟩
     ·
      refine RGi.appI rfl rfl rfl rfl Tryz.runUnderlying95 Tryz.runUnderlying95 Tryz.typeInfo143 Tryz.sizeOf143 Tryz.zeroValue143 rfl rfl (SlR.ptI rfl) (RUp.one z) (by simp [Tryz.t143] <;> omega) (by decide) ?_
      rintro p32 c32
      refine RG.normE rfl ?_
      refine RG.bar 17 hR rfl rfl rfl rfl rfl rfl (Q.asg rfl).toC ?_
      rintro _ _ ⟨rfl, rfl⟩
      refine RG.norm rfl ?_
      refine RG.fin hR rfl ?_
      refine J.norm rfl ?_
      exact J.meetI (p32, c32) trivial ⟨rfl, rfl, rfl, rfl, rfl, trivial⟩
  refine J.norm rfl ?_
  obtain ⟨p40, c40, hq40, hr40⟩ := slL_ (P := Tryz.prog) (T := 95) Tryz.runUnderlying95 Tryz.sizeOf143 hsu (lo := i) hle hcu'
  refine J.seq <| J.region <| J.m rfl <| J.m rfl <| J.m rfl <| J.p rfl (Q.nil_ rfl) <| J.p rfl (Q.fa (n := 1) Tryz.runUnderlying98 rfl rfl Tryz.sizeOf95 rfl) ?_
  refine J.p rfl (Q.ld Tryz.isAgg95 rfl (rdI (by exact rfl))) ?_
  refine J.m rfl ?_
  refine J.p rfl (hq40 _ _ _ _ _ _ rfl rfl) ?_
  refine J.c rfl rfl (C.appI Tryz.runUnderlying95 Tryz.runUnderlying95 Tryz.typeInfo143 Tryz.sizeOf143 Tryz.zeroValue143 rfl rfl (hr40.inI) (drop_one (flat_one RUp.one)) (by simp [Tryz.t143] <;> omega) (by decide)) ?_
  rintro _ _ ⟨p41, c41, rfl, rfl⟩
  refine J.norm rfl <| J.p rfl (Q.nil_ rfl) <| J.p rfl (Q.fa (n := 1) Tryz.runUnderlying98 rfl rfl Tryz.sizeOf95 rfl) ?_
  refine J.stI rfl Tryz.sizeOf95 rfl rfl rfl (by exact rfl) (by exact rfl) (by exact rfl) ?_
  refine J.nil <| J.then_n <| J.seq <| J.region ?_
  refine J.callI Tryz.call30 (ris_spec 200) rfl rfl rfl ?_
  rintro _ _ ⟨rfl, rfl⟩
  refine J.norm rfl ?_
  refine J.c rfl rfl (C.alloc (l := [_, _, _, _, _]) Tryz.zeroValue44 rfl) ?_
  rintro _ _ ⟨b8, rfl, rfl⟩
  refine J.norm rfl ?_
  refine J.stAI (vs := [_, _, _, _, _]) rfl Tryz.sizeOf44 rfl rfl (by exact rfl) (by exact rfl) (by exact rfl) ?_
  refine J.nil <| J.then_n <| J.seq <| J.region <| J.p rfl (Q.fa (n := 0) Tryz.runUnderlying52 rfl rfl Tryz.sizeOf40 rfl) ?_
  refine J.p rfl (Q.ld Tryz.isAgg40 rfl (rdI (by exact rfl))) ?_
  refine J.p rfl (Q.fa (n := 1) Tryz.runUnderlying44 rfl rfl Tryz.sizeOf40 rfl) ?_
  refine J.stI rfl Tryz.sizeOf40 rfl rfl rfl (by exact rfl) (by exact rfl) (by exact rfl) ?_
  refine J.nil <| J.then_n <| J.seq <| J.region ?_
  refine J.p rfl (Q.ldN (vs := [_, _, _, _, _]) Tryz.isAgg44 Tryz.sizeOf44 rfl rnI) ?_
  refine J.stAI (vs := [_, _, _, _, _]) rfl Tryz.sizeOf44 rfl rfl (by exact rfl) (by exact rfl) (by exact rfl) ?_
  refine J.nil <| J.then_n <| J.cret ?_
  rw [ins_len (x := z) hle, ins_cells RUp.len]
  refine J.give (X := z.asn) (by rw [hz]; exact two_nil) ?_
  refine J.shutI [z.asn, star (us.map RUp.asn)] (star ((us.take i ++ z :: us.drop i).map RUp.asn)) (star_ins1 i z) ?_
  refine J.shutI (refL m { M with uploads := sput ltN x.o.id ⟨x.o.bucket, x.o.key, []⟩ M.uploads } p1 c1 bs p41 c41 (us.take i ++ z :: us.drop i) p3 c3) (RefAt m { M with uploads := sput ltN x.o.id ⟨x.o.bucket, x.o.key, []⟩ M.uploads }) (RefAt.of (M := { M with uploads := sput ltN x.o.id ⟨x.o.bucket, x.o.key, []⟩ M.uploads }) hyb (by rw [map_ins, hyu, hi.put_no ord3_nat hM.us hno, hz]; rfl) hyk) ?_
  refine J.retCI (vs := [_, _, _, _, _]) [RefAt m { M with uploads := sput ltN x.o.id ⟨x.o.bucket, x.o.key, []⟩ M.uploads }] rfl rfl Tryz.isAgg44 Tryz.sizeOf44 rnI ⟨rfl, rfl⟩
theorem runmake_spec {objs : Objs} (hB : sget x.o.bucket M.buckets = some objs) {i : Nat} (hi : AtK ltB x.o.bucket M.buckets i) : FSpec Tryz.prog 59 [.pointer (some ⟨m, 0, none⟩), .int .i64 i] [RefAt m M]
    (fun v B => v = bareV (M.unmake x.o).1 ∧ B = [RefAt m (M.unmake x.o).2]) := by
  refine FSpec.of Tryz.func59 rfl Tryz.ntmps59 rfl fun W0 F => ?_
  refine J.seq <| J.region ?_
  refine J.c rfl rfl (C.alloc (l := [_, _, _, _, _]) Tryz.zeroValue44 rfl) ?_
  rintro _ _ ⟨b4, rfl, rfl⟩
  refine J.norm rfl <| J.nil <| J.then_n <| J.seq <| J.seq ?_
  refine J.openRef (m := m) (M := M) fun p1 c1 bs p2 c2 us p3 c3 hyb hyu hyk => ?_
  refine J.norm rfl ?_
  have hbs : Srtd ltB (bs.map RBk.kv) := by rw [hyb]; exact hM.bs
  have hus : Srtd ltN (us.map RUp.kv) := by rw [hyu]; exact hM.us
  have hbl : bs.length = M.buckets.length := by rw [← hyb, List.length_map]
  have hul : us.length = M.uploads.length := by rw [← hyu, List.length_map]
  have hlen := hM.len
  refine J.slrI (E0 := 136) (sz := 2) (p := p1) (n := bs.length) (c := c1) (xs := bs.flatMap RBk.cells) fun hsb => ?_
  refine J.slrI (E0 := 143) (sz := 4) (p := p2) (n := us.length) (c := c2) (xs := us.flatMap RUp.cells) fun hsu => ?_
  refine J.tells 1 rfl own.len fun hcb => ?_
  refine J.tells 2 rfl own.len fun hcu => ?_
  have hcb' : bs.length ≤ c1 := hcb.2
  have hcu' : us.length ≤ c2 := hcu.2
  obtain ⟨y, hyi, hyq⟩ := at_map (by rw [hyb]; exact hi.here ord3_str hM.bs hB)
  have hyn : y.k = x.o.bucket := congrArg Prod.fst hyq
  have hyo : y.l.length = objs.length := by rw [← show y.l.map ROb.kv = objs from congrArg Prod.snd hyq, List.length_map]
  have hil := (List.getElem?_eq_some_iff.1 hyi).1
  obtain ⟨bb, off, rfl, hrd⟩ := hsb.some_ (by omega)
  refine J.region <| J.p rfl (Q.asg rfl) <| J.nil <| J.then_n <| J.block ?_
  refine J.loop (fun j : Nat => j ≤ us.length ∧ ((us.take j).any fun u => decide (u.b = x.o.bucket)) = false) (fun j => us.length - j) (fun j => [(0, .pointer (some ⟨m, 0, none⟩)), (1, .int .i64 i), (4, .pointer (some ⟨b4, 0, none⟩)), (5, .int .i64 j)])
   (fun _ => refL m M (some ⟨bb, off, none⟩) c1 bs p2 c2 us p3 c3 ++ [pt b4 (.cells [Value.int .i64 0, .int .u64 0, .slice none 0 0, .bool false, .slice none 0 0].toArray 44 (0, 0)), F]) 0 ⟨Nat.zero_le _, rfl⟩ ⟨rfl, rfl, rfl, rfl, trivial⟩ rfl fun j hj => ?_
  obtain ⟨hj, hno⟩ := hj
  refine J.norm rfl <| J.seq <| J.seq <| J.region <| J.m rfl <| J.m rfl <| J.p rfl (Q.nil_ rfl) <| J.p rfl (Q.fa (n := 1) Tryz.runUnderlying98 rfl rfl Tryz.sizeOf95 rfl) ?_
  refine J.p rfl (Q.ld Tryz.isAgg95 rfl (rdI (by exact rfl))) ?_
  refine J.p rfl (Q.lenSl Tryz.runUnderlying95 rfl) <| J.p rfl (Q.lss rfl rfl) <| J.nil <| J.then_n ?_
  refine J.cases 12 rfl (fun hc12 => ?_) (fun hc12 => ?_)
  ·
   replace hc12 := X.nm hc12
   try (first | (cases hc12; done) | (exfalso; simp at hc12; done))
   all_goals
    refine J.cond_t rfl <| J.cskip <| J.then_n <| J.seq <| J.block <| J.seq ?_
    obtain ⟨b2, o2, rfl, hrd2⟩ := hsu.some_ (by omega)
    obtain ⟨u, hu⟩ : ∃ u, us[j]? = some u := ⟨_, List.getElem?_eq_getElem (by omega)⟩
    have huj := (List.getElem?_eq_some_iff.1 hu).1
    refine J.draw [] Tryz.mixed (by kernel_rfl) fun hR => ?_
    refine RG.p 0 hR rfl (Q.mv rfl) <| RG.p 1 hR rfl (Q.nil_ rfl) <| RG.p 2 hR rfl (Q.fa (n := 1) Tryz.runUnderlying98 rfl rfl Tryz.sizeOf95 rfl) ?_
    refine RG.p 3 hR rfl (Q.ld Tryz.isAgg95 rfl (rdI (by exact rfl))) ?_
    refine RG.p 4 hR rfl (Q.mv rfl) <| RG.p 5 hR rfl (Q.ia Tryz.runUnderlying95 Tryz.sizeOf143 rfl rfl (by omega) (by omega)) <| RG.p 6 hR rfl (Q.fa (n := 1) Tryz.runUnderlying143 rfl rfl Tryz.sizeOf9 rfl) <| RG.p 7 hR rfl (Q.ld Tryz.isAgg9 rfl (rfO 1 RUp.len hu (show _ = some (Value.string u.b) from rfl) (by omega))) <| RG.p 8 hR rfl (Q.mv rfl) ?_
    refine RG.p 9 hR rfl (Q.nil_ rfl) <| RG.p 10 hR rfl (Q.fa (n := 0) Tryz.runUnderlying98 rfl rfl Tryz.sizeOf94 rfl) ?_
    refine RG.p 11 hR rfl (Q.ld Tryz.isAgg94 rfl (rdI (by exact rfl))) ?_
    refine RG.p 12 hR rfl (Q.mv rfl) <| RG.p 13 hR rfl (Q.ia Tryz.runUnderlying94 Tryz.sizeOf136 rfl rfl (by omega) (by omega)) <| RG.p 14 hR rfl (Q.fa (n := 0) Tryz.runUnderlying136 rfl rfl Tryz.sizeOf9 rfl) <| RG.p 15 hR rfl (Q.ld Tryz.isAgg9 rfl (rfO 0 RBk.len hyi (show _ = some (Value.string y.k) from rfl) (by omega))) <| RG.p 16 hR rfl (Q.eqls rfl rfl) ?_
    refine RG.fin hR rfl ?_
    refine J.norm rfl <| J.then_n ?_
    refine J.cases 31 rfl (fun hc31 => ?_) (fun hc31 => ?_)
    ·
     replace hc31 := X.nm hc31
     try (first | (cases hc31; done) | (exfalso; simp at hc31; done))
     all_goals
      refine J.cond_t rfl <| J.seq <| J.region ?_
      refine J.callI Tryz.call30 (ris_spec 409) rfl rfl rfl ?_
      rintro _ _ ⟨rfl, rfl⟩
      refine J.norm rfl ?_
      refine J.stAI (vs := [_, _, _, _, _]) rfl Tryz.sizeOf44 rfl rfl (by exact rfl) (by exact rfl) (by exact rfl) ?_
      refine J.nil <| J.then_n <| J.cret <| J.blk_r <| J.then_r <| J.lp_r <| J.blk_r <| J.then_r ?_
      have hus1 : M.uses x.o.bucket = true := by
       unfold BM.uses
       rw [← hyu, List.any_map, List.any_eq_true]
       refine ⟨u, List.mem_of_getElem? hu, ?_⟩
       show decide (u.b = x.o.bucket) = true
       rw [← hyn, ← bytes_eq, hc31]; first | rfl | exact decide_eq_true rfl
      have e : M.unmake x.o = (st 409, M) := by unfold BM.unmake; rw [hB]; dsimp only; rw [hus1, Bool.or_true, if_pos rfl]
      refine J.shutI (refL m M (some ⟨bb, off, none⟩) c1 bs (some ⟨b2, o2, none⟩) c2 us p3 c3) (RefAt m M) (RefAt.of hyb hyu hyk) ?_
      rw [e]
      refine J.retCI (vs := [_, _, _, _, _]) [RefAt m M] rfl rfl Tryz.isAgg44 Tryz.sizeOf44 rnI ⟨rfl, rfl⟩
    replace hc31 := X.nm hc31
    try (first | (cases hc31; done) | (exfalso; simp at hc31; done))
    all_goals
     refine J.cond_f rfl <| J.cskip <| J.blk_n <| J.then_n <| J.region <| J.m rfl <| J.p rfl (Q.add64 rfl rfl (by omega)) <| J.p rfl (Q.asg rfl) <| J.nil ?_
     have hnu : decide (u.b = x.o.bucket) = false := by rw [← hyn, ← bytes_eq]; first | exact decide_eq_false hc31 | simpa using hc31
     refine J.againI (j + 1) ⟨by show j + 1 ≤ _; omega, by
      obtain ⟨h1, h2⟩ := List.getElem?_eq_some_iff.1 hu
      show ((us.take (j + 1)).any _) = false
      rw [List.take_succ_eq_append_getElem h1, List.any_append, hno, h2]; simpa using hnu⟩ (by show us.length - (j + 1) < us.length - j; omega) ⟨rfl, rfl, rfl, rfl, trivial⟩
  replace hc12 := X.nm hc12
  try (first | (cases hc12; done) | (exfalso; simp at hc12; done))
  all_goals
   refine J.cond_f rfl <| J.exit <| J.then_x <| J.lp_x <| J.blk_x <| J.then_n <| J.seq <| J.seq ?_
   have hus0 : M.uses x.o.bucket = false := by
    unfold BM.uses
    rw [← hyu, List.any_map]
    rw [List.take_of_length_le (by omega)] at hno
    exact hno
   refine J.region <| J.m rfl <| J.p rfl (Q.nil_ rfl) <| J.p rfl (Q.fa (n := 0) Tryz.runUnderlying98 rfl rfl Tryz.sizeOf94 rfl) ?_
   refine J.p rfl (Q.ld Tryz.isAgg94 rfl (rdI (by exact rfl))) ?_
   refine J.m rfl <| J.p rfl (Q.ia Tryz.runUnderlying94 Tryz.sizeOf136 rfl rfl (by omega) (by omega)) <| J.p rfl (Q.fa (n := 1) Tryz.runUnderlying136 rfl rfl Tryz.sizeOf134 rfl) <| J.p rfl (Q.ld Tryz.isAgg134 rfl (rfO 1 RBk.len hyi (show _ = some (Value.slice y.p y.l.length y.c) from rfl) (by omega))) <| J.p rfl (Q.lenSl Tryz.runUnderlying134 rfl) <| J.p rfl (Q.gtr rfl rfl) ?_
   refine J.nil <| J.then_n ?_
   refine J.cases 42 rfl (fun hc42 => ?_) (fun hc42 => ?_)
   ·
    replace hc42 := X.nm hc42
    try (first | (cases hc42; done) | (exfalso; simp at hc42; done))
    all_goals
     refine J.cond_t rfl <| J.seq <| J.region ?_
     refine J.callI Tryz.call30 (ris_spec 409) rfl rfl rfl ?_
     rintro _ _ ⟨rfl, rfl⟩
     refine J.norm rfl ?_
     refine J.stAI (vs := [_, _, _, _, _]) rfl Tryz.sizeOf44 rfl rfl (by exact rfl) (by exact rfl) (by exact rfl) ?_
     refine J.nil <| J.then_n <| J.cret <| J.then_r ?_
     have e : M.unmake x.o = (st 409, M) := by unfold BM.unmake; rw [hB]; dsimp only; rw [decide_eq_true (show 0 < objs.length by omega), Bool.true_or, if_pos rfl]
     refine J.shutI (refL m M (some ⟨bb, off, none⟩) c1 bs p2 c2 us p3 c3) (RefAt m M) (RefAt.of hyb hyu hyk) ?_
     rw [e]
     refine J.retCI (vs := [_, _, _, _, _]) [RefAt m M] rfl rfl Tryz.isAgg44 Tryz.sizeOf44 rnI ⟨rfl, rfl⟩
   replace hc42 := X.nm hc42
   try (first | (cases hc42; done) | (exfalso; simp at hc42; done))
   all_goals
    refine J.cond_f rfl <| J.cskip <| J.then_n <| J.seq ?_
    obtain ⟨hq51, hr51⟩ := slH_ (P := Tryz.prog) (T := 94) Tryz.runUnderlying94 Tryz.sizeOf136 hsb (hi := i) (by omega) hcb'
    obtain ⟨p59, c59, hq59, hr59⟩ := slL_ (P := Tryz.prog) (T := 94) Tryz.runUnderlying94 Tryz.sizeOf136 hsb (lo := i + 1) (by omega) hcb'
    refine J.draw [1, 8, 16, 19] Tryz.mixed (by kernel_rfl) fun hR => ?_
    refine RG.p 0 hR rfl (Q.mv rfl) <| RG.p 2 hR rfl (Q.mv rfl) <| RG.p 3 hR rfl (Q.nil_ rfl) <| RG.p 4 hR rfl (Q.fa (n := 0) Tryz.runUnderlying98 rfl rfl Tryz.sizeOf94 rfl) ?_
    refine RG.p 5 hR rfl (Q.ld Tryz.isAgg94 rfl (rdI (by exact rfl))) ?_
    refine RG.p 6 hR rfl (Q.mv rfl) ?_
    refine RG.p 7 hR rfl (hq51 _ _ _ _ _ _ rfl rfl) ?_
    refine RG.p 9 hR rfl (Q.mv rfl) <| RG.p 10 hR rfl (Q.nil_ rfl) <| RG.p 11 hR rfl (Q.fa (n := 0) Tryz.runUnderlying98 rfl rfl Tryz.sizeOf94 rfl) ?_
    refine RG.p 12 hR rfl (Q.ld Tryz.isAgg94 rfl (rdI (by exact rfl))) ?_
    refine RG.p 13 hR rfl (Q.mv rfl) <| RG.p 14 hR rfl (Q.add64 rfl rfl (by omega)) ?_
    refine RG.p 15 hR rfl (hq59 _ _ _ _ _ _ rfl rfl) ?_
    refine RG.made 1 hR rfl rfl rfl rfl rfl (C.bslG (l := []) Tryz.runUnderlying94 Tryz.sizeOf136 Tryz.zeroValue136 (by decide) rfl rfl rfl rfl rfl) ?_
    rintro b45
    refine RG.many hR 8 [] rfl ⟨?_, trivial⟩
    ·
     refine RGi.appI rfl rfl rfl rfl Tryz.runUnderlying94 Tryz.runUnderlying94 Tryz.typeInfo136 Tryz.sizeOf136 Tryz.zeroValue136 rfl rfl (hr51.inI) (take_one (flat_one RBk.one)) (by simp [Tryz.t136] <;> omega) (by decide) ?_
     rintro p52 c52
     refine RG.normE rfl ?_
     refine RG.many hR 16 [] rfl ⟨?_, trivial⟩
     ·
      refine RGi.appI rfl rfl rfl rfl Tryz.runUnderlying94 Tryz.runUnderlying94 Tryz.typeInfo136 Tryz.sizeOf136 Tryz.zeroValue136 rfl rfl (hr59.inI) (drop_one (flat_one RBk.one)) (by simp [Tryz.t136] <;> omega) (by decide) ?_
      rintro p60 c60
      refine RG.normE rfl <| RG.p 17 hR rfl (Q.nil_ rfl) <| RG.p 18 hR rfl (Q.fa (n := 0) Tryz.runUnderlying98 rfl rfl Tryz.sizeOf94 rfl) ?_
      refine RG.stI 19 hR rfl rfl rfl rfl rfl Tryz.sizeOf94 rfl rfl rfl (by exact rfl) (by exact rfl) (by exact rfl) ?_
      refine RG.fin hR rfl ?_
      refine J.norm rfl <| J.then_n <| J.seq <| J.region ?_
      refine J.callI Tryz.call30 (ris_spec 200) rfl rfl rfl ?_
      rintro _ _ ⟨rfl, rfl⟩
      refine J.norm rfl ?_
      refine J.stAI (vs := [_, _, _, _, _]) rfl Tryz.sizeOf44 rfl rfl (by exact rfl) (by exact rfl) (by exact rfl) ?_
      refine J.nil <| J.then_n <| J.cret ?_
      have e : M.unmake x.o = (st 200, { M with buckets := sdel x.o.bucket M.buckets }) := by unfold BM.unmake; rw [hB]; dsimp only; rw [hus0, decide_eq_false (show ¬ 0 < objs.length by omega), Bool.or_false, if_neg Bool.false_ne_true]
      rw [cut_len hil, cut_cells RBk.len]
      refine J.convI (star (bs.map RBk.asn)) (star ((bs.eraseIdx i).map RBk.asn)) (star_drop1 i) ?_
      refine J.shutI (refL m { M with buckets := sdel x.o.bucket M.buckets } p60 c60 (bs.eraseIdx i) p2 c2 us p3 c3) (RefAt m { M with buckets := sdel x.o.bucket M.buckets }) (RefAt.of (M := { M with buckets := sdel x.o.bucket M.buckets }) (by rw [map_cut, hyb, hi.del ord3_str hM.bs hB]) hyu hyk) ?_
      rw [e]
      refine J.retCI (vs := [_, _, _, _, _]) [RefAt m { M with buckets := sdel x.o.bucket M.buckets }] rfl rfl Tryz.isAgg44 Tryz.sizeOf44 rnI ⟨rfl, rfl⟩
end
end Go.Proofs.YtidbcaimgahllaaGreat
namespace Go.Proofs.YtidbcaimgahllaaGreat
set_option linter.unusedSectionVars false
set_option linter.unusedSimpArgs false
set_option linter.unusedVariables false
open Go.X
open Go.X.G (Ord3 ord3_nat ord3_int ord3_str ltB sget sput sdel Srtd MapAt MapHole plainRep)

theorem check_yes (G : Assn) (x : OW) (hx : x.ok G) (hc : x.o.chkB = true) : FSpec Tryz.prog 46 [.agg x.cells.toArray] [G] (fun v B => v = .int .i64 0 ∧ B = [G]) := by
  have := check_spec G x hx
  rw [hc] at this; exact this
theorem check_no (G : Assn) (x : OW) (hx : x.ok G) (hc : x.o.chkB = false) : FSpec Tryz.prog 46 [.agg x.cells.toArray] [G] (fun v B => v = .int .i64 1 ∧ B = [G]) := by
  have := check_spec G x hx
  rw [hc] at this; exact this
theorem reads_at {n : Int} {b : Bool} (h : readsK n = b) : FSpec Tryz.prog 74 [.int .i64 n] [] (fun v B => v = .bool b ∧ B = []) := by
  subst h; exact reads_spec n

theorem asn_ok {x : RW} (hs : x.r.keys.length ≤ 1099511627776 ∧ x.r.data.length ≤ 1099511627776) : ∀ h, x.asn h → x.ok x.asn := by
  intro h hh
  have hh' : HSat h x.asns := hh
  obtain ⟨h1, h2, a, ⟨k1, k2, b, _, _, _, _⟩, _, _, _⟩ := hh'
  exact ⟨(own.slr (i := 0) rfl ⟨h1, X.G.HSat.one a⟩ : SlR [own 9 1 _ _] 1 _ _).into 0 rfl, (own.slr (i := 0) rfl ⟨k1, X.G.HSat.one b⟩ : SlR [own 5 1 _ _] 1 _ _).into 1 rfl, hs⟩

theorem tab_srt (m : Nat) : Srtd ltI (tabM m) := by simp [Srtd, tabM]

def HasAct (m : Nat) (M : BM) (x : OW) (G : Assn) : Prop := ∃ fid, sget x.o.kind (tabM m) = some (.func (.func fid) ([.pointer (some ⟨m, 0, none⟩)] : List Value).toArray ([] : List Value).toArray) ∧ (∀ (args : Array Value) (w : World), (callFunc fid args).run Tryz.prog w = .ok (.enter fid args) w) ∧
  FSpec Tryz.prog fid ([.pointer (some ⟨m, 0, none⟩)] ++ [.agg x.cells.toArray] ++ []) [BktAt m M, G] (ActR m G (M.act x.o))

section
variable {k : Nat} (m : Nat) (M : BM) (hM : M.ok k) (x : OW) (G : Assn) (hx : x.ok G)
include hM hx

theorem do_bad_all : (∀ (hc : x.o.chkB = false), FSpec Tryz.prog 51 [.pointer (some ⟨m, 0, none⟩), .agg x.cells.toArray] [BktAt m M, G] (ActR m G (st 400, M))) ∧ (∀ (hc : x.o.chkB = true) {r : RM} (hD : sget x.o.id M.done = some r) (hrd : readsK x.o.kind = false), FSpec Tryz.prog 51 [.pointer (some ⟨m, 0, none⟩), .agg x.cells.toArray] [BktAt m M, G] (ActR m G (r, M))) := by
  refine ⟨fun hc => ?_, fun hc {r} hD hrd => ?_⟩
  all_goals
   refine FSpec.of Tryz.func51 rfl Tryz.ntmps51 rfl fun W0 F => ?_
   refine J.seq <| J.region ?_
   refine J.c rfl rfl (C.box (l := [_, _, _, _, _, _, _, _, _]) rfl rfl) ?_
   rintro _ _ ⟨b3, rfl, rfl⟩
   refine J.norm rfl ?_
   refine J.c rfl rfl (C.alloc (l := [_, _, _, _, _]) Tryz.zeroValue44 rfl) ?_
   rintro _ _ ⟨b4, rfl, rfl⟩
   refine J.norm rfl <| J.nil <| J.then_n <| J.seq <| J.seq <| J.region ?_
   refine J.p rfl (Q.ldN (vs := [_, _, _, _, _, _, _, _, _]) Tryz.isAgg52 Tryz.sizeOf52 rfl rnI) ?_
   refine J.call Tryz.call46 ((by first | exact check_yes G x hx hc | exact check_no G x hx hc)) [3] rfl rfl rfl rfl ?_
   rintro _ _ ⟨rfl, rfl⟩
   refine J.norm rfl <| J.p rfl (Q.neq rfl rfl) <| J.nil <| J.then_n ?_
   refine J.cases 10 rfl (fun hc10 => ?_) (fun hc10 => ?_)
   ·
    replace hc10 := X.nm hc10
    try (first | (cases hc10; done) | (exfalso; simp at hc10; done))
    all_goals
     refine J.cond_t rfl <| J.seq <| J.region ?_
     refine J.call Tryz.call73 (status_spec 400) [] rfl rfl rfl rfl ?_
     rintro _ _ ⟨y, rfl, hy, rfl⟩
     refine J.norm rfl ?_
     refine J.stAI (vs := [_, _, _, _, _]) rfl Tryz.sizeOf44 rfl rfl (by exact rfl) (by exact rfl) (by exact rfl) ?_
     refine J.nil <| J.then_n <| J.cret <| J.then_r ?_
     refine J.retC [4, 0, 1, 5] (vs := [_, _, _, _, _]) rfl rfl Tryz.isAgg44 Tryz.sizeOf44 (ReadsN.pt 2 rfl) rfl (B := [_, _, _]) ⟨_, rfl, hy, rfl⟩
   replace hc10 := X.nm hc10
   try (first | (cases hc10; done) | (exfalso; simp at hc10; done))
   all_goals
    refine J.cond_f rfl <| J.cskip <| J.then_n ?_
    refine J.cut (fun _ : Unit => False) (fun _ => []) (fun _ => []) ?_ fun _ hF => ?_
    ·
     refine J.seq ?_
     refine J.open1 3 rfl (fun _ h => h) fun z => ?_
     refine J.norm rfl ?_
     first
       | (refine J.mapFocus 3 hD rfl fun val => ?_
          refine J.norm rfl ?_
          refine J.open_ 0 rfl rfl (fun _ h => h) fun y0 hy0 => ?_
          obtain ⟨hyr, hyv⟩ := hy0
          subst hyv
          subst hyr
          refine J.norm rfl ?_
          have hrs := hM.rs _ _ hD
          refine J.tells 0 rfl (asn_ok ⟨by omega, by omega⟩) fun hy0 => ?_)
       | skip
     refine J.draw [10, 11, 12] Tryz.mixed (by kernel_rfl) fun hR => ?_
     refine RG.p 0 hR rfl (Q.mv rfl) <| RG.p 1 hR rfl (Q.nil_ rfl) <| RG.p 2 hR rfl (Q.fa (n := 2) Tryz.runUnderlying167 rfl rfl Tryz.sizeOf165 rfl) ?_
     refine RG.p 3 hR rfl (Q.ld Tryz.isAgg165 rfl (rdI (by exact rfl))) ?_
     refine RG.p 4 hR rfl (Q.fa (n := 0) Tryz.runUnderlying52 rfl rfl Tryz.sizeOf40 rfl) ?_
     refine RG.p 5 hR rfl (Q.ld Tryz.isAgg40 rfl (rdI (by exact rfl))) ?_
     refine RG.p 6 hR rfl (by first | exact X.G.Q.lk2No (i := 3) Tryz.runUnderlying165 keyU Tryz.zeroValue44 rfl rfl rfl hD | exact X.G.Q.lk2Yes (i := 1) Tryz.runUnderlying165 keyU Tryz.zeroValue44 rfl rfl rfl) ?_
     refine RG.p 7 hR rfl (Q.mv rfl) <| RG.p 8 hR rfl (Q.ext rfl rfl) <| RG.p 9 hR rfl (Q.ext rfl rfl) ?_
     refine RG.made 10 hR rfl rfl rfl rfl rfl (C.alloc (l := [_, _, _, _, _]) Tryz.zeroValue44 rfl) ?_
     rintro b5
     refine RG.stAkI (vs := [_, _, _, _, _]) 11 hR rfl rfl rfl rfl Tryz.sizeOf44 rfl rfl (by exact rfl) (by exact rfl) (by exact rfl) ?_
     refine RG.bar 12 hR rfl rfl rfl rfl rfl rfl (Q.asg rfl).toC ?_
     rintro _ _ ⟨rfl, rfl⟩
     refine RG.norm rfl ?_
     refine RG.fin hR rfl ?_
     refine J.norm rfl <| J.then_n <| J.seq <| J.region <| J.m rfl <| J.m rfl ?_
     refine J.cases 23 rfl (fun hb23 => ?_) (fun hb23 => ?_)
     ·
      replace hb23 := X.nm hb23
      try (first | (cases hb23; done) | (exfalso; simp at hb23; done))
      all_goals
       refine J.p rfl (Q.fa (n := 1) Tryz.runUnderlying52 rfl rfl Tryz.sizeOf3 rfl) ?_
       refine J.p rfl (Q.ld Tryz.isAgg3 rfl (rdI (by exact rfl))) ?_
       refine J.call Tryz.call74 (reads_at hrd) [] rfl rfl rfl rfl ?_
       rintro _ _ ⟨rfl, rfl⟩
       refine J.norm rfl <| J.p rfl (Q.not rfl) <| J.p rfl (Q.pick_t rfl rfl) <| J.nil <| J.then_n ?_
       refine J.cases 28 rfl (fun hc28 => ?_) (fun hc28 => ?_)
       ·
        replace hc28 := X.nm hc28
        try (first | (cases hc28; done) | (exfalso; simp at hc28; done))
        all_goals
         refine J.cond_t rfl <| J.seq <| J.region ?_
         refine J.p rfl (Q.ldN (vs := [_, _, _, _, _]) Tryz.isAgg44 Tryz.sizeOf44 rfl rnI) ?_
         refine J.call Tryz.call75 (apart_spec y0.asn y0 hy0) [0] rfl rfl rfl rfl ?_
         rintro _ _ ⟨y, rfl, hy, rfl⟩
         refine J.norm rfl ?_
         refine J.stAI (vs := [_, _, _, _, _]) rfl Tryz.sizeOf44 rfl rfl (by exact rfl) (by exact rfl) (by exact rfl) ?_
         refine J.nil <| J.then_n <| J.cret <| J.cut_r ?_
         refine J.shut [1] (dRep x.o.id y0.r (.agg y0.cells.toArray)) rfl (fun h s => ⟨y0, ⟨rfl, rfl⟩, s⟩) ?_
         refine J.mapSame 0 2 ord3_nat hM.ds hD rfl ?_
         refine J.shut [2, 3, 4, 0] (BktAt m M) rfl (fun h s => ⟨z, s⟩) ?_
         refine J.retC [0, 1, 2, 5] (vs := [_, _, _, _, _]) rfl rfl Tryz.isAgg44 Tryz.sizeOf44 (ReadsN.pt 3 rfl) rfl (B := [_, _, _]) ⟨_, rfl, hy, rfl⟩
       replace hc28 := X.nm hc28
       try (first | (cases hc28; done) | (exfalso; simp at hc28; done))
       all_goals
        refine J.cond_f rfl <| J.cskip ?_
        skip
     replace hb23 := X.nm hb23
     try (first | (cases hb23; done) | (exfalso; simp at hb23; done))
     all_goals
      refine J.skip rfl rfl <| J.skip rfl rfl <| J.skip rfl rfl <| J.skip rfl rfl <| J.p rfl (Q.pick_f rfl rfl) <| J.nil <| J.then_n <| J.cond_f rfl <| J.cskip ?_
      skip
    exact hF.elim
theorem do_bad (hc : x.o.chkB = false) : FSpec Tryz.prog 51 [.pointer (some ⟨m, 0, none⟩), .agg x.cells.toArray] [BktAt m M, G] (ActR m G (st 400, M)) := (do_bad_all m M hM x G hx).1 hc
theorem do_kept (hc : x.o.chkB = true) {r : RM} (hD : sget x.o.id M.done = some r) (hrd : readsK x.o.kind = false) : FSpec Tryz.prog 51 [.pointer (some ⟨m, 0, none⟩), .agg x.cells.toArray] [BktAt m M, G] (ActR m G (r, M)) := (do_bad_all m M hM x G hx).2 hc hD hrd
theorem do_read0_all : (∀ (hA : HasAct m M x G) (hc : x.o.chkB = true) (hD : sget x.o.id M.done = none) (hrd : readsK x.o.kind = true), FSpec Tryz.prog 51 [.pointer (some ⟨m, 0, none⟩), .agg x.cells.toArray] [BktAt m M, G] (ActR m G (M.act x.o))) ∧ (∀ (hA : HasAct m M x G) (hc : x.o.chkB = true) {r : RM} (hD : sget x.o.id M.done = some r) (hrd : readsK x.o.kind = true), FSpec Tryz.prog 51 [.pointer (some ⟨m, 0, none⟩), .agg x.cells.toArray] [BktAt m M, G] (ActR m G (M.act x.o))) ∧ (∀ (hA : HasAct m M x G) (hc : x.o.chkB = true) (hD : sget x.o.id M.done = none) (hrd : readsK x.o.kind = false), FSpec Tryz.prog 51 [.pointer (some ⟨m, 0, none⟩), .agg x.cells.toArray] [BktAt m M, G] (ActR m G ((M.act x.o).1, { (M.act x.o).2 with done := sput ltN x.o.id (M.act x.o).1 M.done }))) := by
  refine ⟨fun hA hc hD hrd => ?_, fun hA hc {r} hD hrd => ?_, fun hA hc hD hrd => ?_⟩
  all_goals
   refine FSpec.of Tryz.func51 rfl Tryz.ntmps51 rfl fun W0 F => ?_
   refine J.seq <| J.region ?_
   refine J.c rfl rfl (C.box (l := [_, _, _, _, _, _, _, _, _]) rfl rfl) ?_
   rintro _ _ ⟨b3, rfl, rfl⟩
   refine J.norm rfl ?_
   refine J.c rfl rfl (C.alloc (l := [_, _, _, _, _]) Tryz.zeroValue44 rfl) ?_
   rintro _ _ ⟨b4, rfl, rfl⟩
   refine J.norm rfl <| J.nil <| J.then_n <| J.seq <| J.seq <| J.region ?_
   refine J.p rfl (Q.ldN (vs := [_, _, _, _, _, _, _, _, _]) Tryz.isAgg52 Tryz.sizeOf52 rfl rnI) ?_
   refine J.call Tryz.call46 ((by first | exact check_yes G x hx hc | exact check_no G x hx hc)) [3] rfl rfl rfl rfl ?_
   rintro _ _ ⟨rfl, rfl⟩
   refine J.norm rfl <| J.p rfl (Q.neq rfl rfl) <| J.nil <| J.then_n ?_
   refine J.cases 10 rfl (fun hc10 => ?_) (fun hc10 => ?_)
   ·
    replace hc10 := X.nm hc10
    try (first | (cases hc10; done) | (exfalso; simp at hc10; done))
    all_goals
     refine J.cond_t rfl <| J.seq <| J.region ?_
     refine J.call Tryz.call73 (status_spec 400) [] rfl rfl rfl rfl ?_
     rintro _ _ ⟨y, rfl, hy, rfl⟩
     refine J.norm rfl ?_
     refine J.stAI (vs := [_, _, _, _, _]) rfl Tryz.sizeOf44 rfl rfl (by exact rfl) (by exact rfl) (by exact rfl) ?_
     refine J.nil <| J.then_n <| J.cret <| J.then_r ?_
     refine J.retC [4, 0, 1, 5] (vs := [_, _, _, _, _]) rfl rfl Tryz.isAgg44 Tryz.sizeOf44 (ReadsN.pt 2 rfl) rfl (B := [_, _, _]) ⟨_, rfl, hy, rfl⟩
   replace hc10 := X.nm hc10
   try (first | (cases hc10; done) | (exfalso; simp at hc10; done))
   all_goals
    refine J.cond_f rfl <| J.cskip <| J.then_n ?_
    refine J.cut (fun _ : Unit => True) (fun _ => [(0, .pointer (some ⟨m, 0, none⟩)), (3, .pointer (some ⟨b3, 0, none⟩)), (4, .pointer (some ⟨b4, 0, none⟩))]) (fun _ => [pt b3 (.cells x.cells.toArray 52 (0, 0)), BktAt m M, G, pt b4 (.cells [Value.int .i64 0, .int .u64 0, .slice none 0 0, .bool false, .slice none 0 0].toArray 44 (0, 0)), F]) ?_ fun _ _ => ?_
    ·
     refine J.seq ?_
     refine J.open1 3 rfl (fun _ h => h) fun z => ?_
     refine J.norm rfl ?_
     first
       | (refine J.mapFocus 3 hD rfl fun val => ?_
          refine J.norm rfl ?_
          refine J.open_ 0 rfl rfl (fun _ h => h) fun y0 hy0 => ?_
          obtain ⟨hyr, hyv⟩ := hy0
          subst hyv
          subst hyr
          refine J.norm rfl ?_
          have hrs := hM.rs _ _ hD
          refine J.tells 0 rfl (asn_ok ⟨by omega, by omega⟩) fun hy0 => ?_)
       | skip
     refine J.draw [10, 11, 12] Tryz.mixed (by kernel_rfl) fun hR => ?_
     refine RG.p 0 hR rfl (Q.mv rfl) <| RG.p 1 hR rfl (Q.nil_ rfl) <| RG.p 2 hR rfl (Q.fa (n := 2) Tryz.runUnderlying167 rfl rfl Tryz.sizeOf165 rfl) ?_
     refine RG.p 3 hR rfl (Q.ld Tryz.isAgg165 rfl (rdI (by exact rfl))) ?_
     refine RG.p 4 hR rfl (Q.fa (n := 0) Tryz.runUnderlying52 rfl rfl Tryz.sizeOf40 rfl) ?_
     refine RG.p 5 hR rfl (Q.ld Tryz.isAgg40 rfl (rdI (by exact rfl))) ?_
     refine RG.p 6 hR rfl (by first | exact X.G.Q.lk2No (i := 3) Tryz.runUnderlying165 keyU Tryz.zeroValue44 rfl rfl rfl hD | exact X.G.Q.lk2Yes (i := 1) Tryz.runUnderlying165 keyU Tryz.zeroValue44 rfl rfl rfl) ?_
     refine RG.p 7 hR rfl (Q.mv rfl) <| RG.p 8 hR rfl (Q.ext rfl rfl) <| RG.p 9 hR rfl (Q.ext rfl rfl) ?_
     refine RG.made 10 hR rfl rfl rfl rfl rfl (C.alloc (l := [_, _, _, _, _]) Tryz.zeroValue44 rfl) ?_
     rintro b5
     refine RG.stAkI (vs := [_, _, _, _, _]) 11 hR rfl rfl rfl rfl Tryz.sizeOf44 rfl rfl (by exact rfl) (by exact rfl) (by exact rfl) ?_
     refine RG.bar 12 hR rfl rfl rfl rfl rfl rfl (Q.asg rfl).toC ?_
     rintro _ _ ⟨rfl, rfl⟩
     refine RG.norm rfl ?_
     refine RG.fin hR rfl ?_
     refine J.norm rfl <| J.then_n <| J.seq <| J.region <| J.m rfl <| J.m rfl ?_
     refine J.cases 23 rfl (fun hb23 => ?_) (fun hb23 => ?_)
     ·
      replace hb23 := X.nm hb23
      try (first | (cases hb23; done) | (exfalso; simp at hb23; done))
      all_goals
       refine J.p rfl (Q.fa (n := 1) Tryz.runUnderlying52 rfl rfl Tryz.sizeOf3 rfl) ?_
       refine J.p rfl (Q.ld Tryz.isAgg3 rfl (rdI (by exact rfl))) ?_
       refine J.call Tryz.call74 (reads_at hrd) [] rfl rfl rfl rfl ?_
       rintro _ _ ⟨rfl, rfl⟩
       refine J.norm rfl <| J.p rfl (Q.not rfl) <| J.p rfl (Q.pick_t rfl rfl) <| J.nil <| J.then_n ?_
       refine J.cases 28 rfl (fun hc28 => ?_) (fun hc28 => ?_)
       ·
        replace hc28 := X.nm hc28
        try (first | (cases hc28; done) | (exfalso; simp at hc28; done))
        all_goals
         refine J.cond_t rfl <| J.seq <| J.region ?_
         refine J.p rfl (Q.ldN (vs := [_, _, _, _, _]) Tryz.isAgg44 Tryz.sizeOf44 rfl rnI) ?_
         refine J.call Tryz.call75 (apart_spec y0.asn y0 hy0) [0] rfl rfl rfl rfl ?_
         rintro _ _ ⟨y, rfl, hy, rfl⟩
         refine J.norm rfl ?_
         refine J.stAI (vs := [_, _, _, _, _]) rfl Tryz.sizeOf44 rfl rfl (by exact rfl) (by exact rfl) (by exact rfl) ?_
         refine J.nil <| J.then_n <| J.cret <| J.cut_r ?_
         refine J.shut [1] (dRep x.o.id y0.r (.agg y0.cells.toArray)) rfl (fun h s => ⟨y0, ⟨rfl, rfl⟩, s⟩) ?_
         refine J.mapSame 0 2 ord3_nat hM.ds hD rfl ?_
         refine J.shut [2, 3, 4, 0] (BktAt m M) rfl (fun h s => ⟨z, s⟩) ?_
         refine J.retC [0, 1, 2, 5] (vs := [_, _, _, _, _]) rfl rfl Tryz.isAgg44 Tryz.sizeOf44 (ReadsN.pt 3 rfl) rfl (B := [_, _, _]) ⟨_, rfl, hy, rfl⟩
       replace hc28 := X.nm hc28
       try (first | (cases hc28; done) | (exfalso; simp at hc28; done))
       all_goals
        refine J.cond_f rfl <| J.cskip ?_
        first
          | (refine J.shut [0] (dRep x.o.id y0.r (.agg y0.cells.toArray)) rfl (fun h s => ⟨y0, ⟨rfl, rfl⟩, s⟩) ?_
             refine J.mapSame 0 1 ord3_nat hM.ds hD rfl ?_
             refine J.shut [1, 2, 3, 0] (BktAt m M) rfl (fun h s => ⟨z, s⟩) ?_)
          | refine J.shut [0, 1, 2, 3] (BktAt m M) rfl (fun h s => ⟨z, s⟩) ?_
        refine J.keep [3, 0, 1, 2, 4] rfl ?_
        refine J.meet () trivial ⟨rfl, rfl, rfl, trivial⟩ rfl
     replace hb23 := X.nm hb23
     try (first | (cases hb23; done) | (exfalso; simp at hb23; done))
     all_goals
      refine J.skip rfl rfl <| J.skip rfl rfl <| J.skip rfl rfl <| J.skip rfl rfl <| J.p rfl (Q.pick_f rfl rfl) <| J.nil <| J.then_n <| J.cond_f rfl <| J.cskip ?_
      first
        | (refine J.shut [0] (dRep x.o.id y0.r (.agg y0.cells.toArray)) rfl (fun h s => ⟨y0, ⟨rfl, rfl⟩, s⟩) ?_
           refine J.mapSame 0 1 ord3_nat hM.ds hD rfl ?_
           refine J.shut [1, 2, 3, 0] (BktAt m M) rfl (fun h s => ⟨z, s⟩) ?_)
        | refine J.shut [0, 1, 2, 3] (BktAt m M) rfl (fun h s => ⟨z, s⟩) ?_
      refine J.keep [3, 0, 1, 2, 4] rfl ?_
      refine J.meet () trivial ⟨rfl, rfl, rfl, trivial⟩ rfl
    refine J.cut (fun w : Nat × RW => w.2.r = (M.act x.o).1) (fun w => [(0, .pointer (some ⟨m, 0, none⟩)), (3, .pointer (some ⟨b3, 0, none⟩)), (4, .pointer (some ⟨b4, 0, none⟩)), (7, .pointer (some ⟨w.1, 0, none⟩))]) (fun w => [pt b3 (.cells x.cells.toArray 52 (0, 0)), BktAt m (M.act x.o).2, w.2.asn, G, pt b4 (.cells [Value.int .i64 0, .int .u64 0, .slice none 0 0, .bool false, .slice none 0 0].toArray 44 (0, 0)), F, pt w.1 (.cells w.2.cells.toArray 44 (0, 0))]) ?_ fun w hw => ?_
    ·
     obtain ⟨fid, hf1, hf2, hf3⟩ := hA
     refine J.drawE [1, 6, 7, 8] 1 Tryz.mixed (by kernel_rfl) rfl rfl fun hR => ?_
     refine RG.p 0 hR rfl (Q.mv rfl) <| RG.p 2 hR rfl (Q.fa (n := 1) Tryz.runUnderlying52 rfl rfl Tryz.sizeOf3 rfl) ?_
     refine RG.p 3 hR rfl (Q.ld Tryz.isAgg3 rfl (rdI (by exact rfl))) ?_
     refine RG.p 5 hR rfl (Q.ldN (vs := [_, _, _, _, _, _, _, _, _]) Tryz.isAgg52 Tryz.sizeOf52 rfl rnI) ?_
     refine RG.many hR 1 [7] rfl ⟨?_, ⟨?_, trivial⟩⟩
     ·
      refine RGi.callk rfl rfl rfl rfl Tryz.call76 (table_spec m) [] rfl rfl ?_
      rintro _ _ ⟨rt, rfl, rfl⟩
      refine ⟨_, X.pick_perm (is := [1]) rfl, ?_⟩
      refine RG.hold ?_
      refine RG.norm rfl ?_
      refine RG.p 4 hR rfl (X.G.Q.lkPlain (i := 1) ord3_int (tab_srt m) Tryz.runUnderlying169 keyI Tryz.zeroValue53 rfl rfl rfl hf1) ?_
      refine RG.many hR 6 [7] rfl ⟨?_, ⟨?_, trivial⟩⟩
      ·
       refine RGi.one rfl rfl rfl rfl (OpC.callv hf2 rfl rfl hf3 [2, 3] rfl) ?_
       rintro _ _ ⟨_, ⟨y, rfl, hy, rfl⟩, rfl⟩
       refine ⟨_, X.pick_perm (is := [3, 4]) rfl, ?_⟩
       refine RG.made 7 hR rfl rfl rfl rfl rfl (C.alloc (l := [_, _, _, _, _]) Tryz.zeroValue44 rfl) ?_
       rintro b7
       refine RG.rot ?_
       refine RG.normE rfl ?_
       refine RG.stAI (vs := [_, _, _, _, _]) 8 hR rfl rfl rfl rfl rfl Tryz.sizeOf44 rfl rfl (by exact rfl) (by exact rfl) (by exact rfl) ?_
       refine RG.fin hR rfl ?_
       refine J.norm rfl ?_
       refine J.keep [0, 2, 3, 4, 5, 6, 7] rfl ?_
       refine J.meet (b7, y) hy ⟨rfl, rfl, rfl, rfl, trivial⟩ rfl
      ·
       refine RGi.made rfl rfl rfl rfl (C.alloc (l := [_, _, _, _, _]) Tryz.zeroValue44 rfl) ?_
       rintro b7
       refine RG.rot ?_
       refine RG.normE rfl ?_
       refine RG.many hR 6 [] rfl ⟨?_, trivial⟩
       ·
        refine RGi.one rfl rfl rfl rfl (OpC.callv hf2 rfl rfl hf3 [2, 3] rfl) ?_
        rintro _ _ ⟨_, ⟨y, rfl, hy, rfl⟩, rfl⟩
        refine ⟨_, X.pick_perm (is := [3, 4]) rfl, ?_⟩
        refine RG.stAI (vs := [_, _, _, _, _]) 8 hR rfl rfl rfl rfl rfl Tryz.sizeOf44 rfl rfl (by exact rfl) (by exact rfl) (by exact rfl) ?_
        refine RG.fin hR rfl ?_
        refine J.norm rfl ?_
        refine J.keep [0, 2, 3, 4, 5, 6, 7] rfl ?_
        refine J.meet (b7, y) hy ⟨rfl, rfl, rfl, rfl, trivial⟩ rfl
     ·
      refine RGi.made rfl rfl rfl rfl (C.alloc (l := [_, _, _, _, _]) Tryz.zeroValue44 rfl) ?_
      rintro b7
      refine RG.rot ?_
      refine RG.normE rfl ?_
      refine RG.callk 1 hR rfl rfl rfl rfl rfl Tryz.call76 (table_spec m) [] rfl rfl ?_
      rintro _ _ ⟨rt, rfl, rfl⟩
      refine ⟨_, X.pick_perm (is := [1]) rfl, ?_⟩
      refine RG.hold ?_
      refine RG.norm rfl ?_
      refine RG.p 4 hR rfl (X.G.Q.lkPlain (i := 1) ord3_int (tab_srt m) Tryz.runUnderlying169 keyI Tryz.zeroValue53 rfl rfl rfl hf1) ?_
      refine RG.many hR 6 [] rfl ⟨?_, trivial⟩
      ·
       refine RGi.one rfl rfl rfl rfl (OpC.callv hf2 rfl rfl hf3 [2, 3] rfl) ?_
       rintro _ _ ⟨_, ⟨y, rfl, hy, rfl⟩, rfl⟩
       refine ⟨_, X.pick_perm (is := [3, 4]) rfl, ?_⟩
       refine RG.stAI (vs := [_, _, _, _, _]) 8 hR rfl rfl rfl rfl rfl Tryz.sizeOf44 rfl rfl (by exact rfl) (by exact rfl) (by exact rfl) ?_
       refine RG.fin hR rfl ?_
       refine J.norm rfl ?_
       refine J.keep [0, 2, 3, 4, 5, 6, 7] rfl ?_
       refine J.meet (b7, y) hy ⟨rfl, rfl, rfl, rfl, trivial⟩ rfl
    obtain ⟨b7, y⟩ := w
    dsimp only at hw
    have hys : y.r.keys.length ≤ 1099511627776 ∧ y.r.data.length ≤ 1099511627776 := by rw [hw]; have := act_small hM hc; omega
    refine J.tells 2 rfl (asn_ok hys) fun hyo => ?_
    refine J.seq <| J.seq <| J.region <| J.p rfl (Q.fa (n := 1) Tryz.runUnderlying52 rfl rfl Tryz.sizeOf3 rfl) ?_
    refine J.p rfl (Q.ld Tryz.isAgg3 rfl (rdI (by exact rfl))) ?_
    refine J.call Tryz.call74 (reads_at hrd) [] rfl rfl rfl rfl ?_
    rintro _ _ ⟨rfl, rfl⟩
    refine J.norm rfl <| J.p rfl (Q.not rfl) <| J.nil <| J.then_n ?_
    refine J.cases 41 rfl (fun hc41 => ?_) (fun hc41 => ?_)
    ·
     replace hc41 := X.nm hc41
     try (first | (cases hc41; done) | (exfalso; simp at hc41; done))
     all_goals
      refine J.cond_t rfl ?_
      refine J.open1 1 rfl (fun _ h => h) fun z => ?_
      refine J.norm rfl ?_
      refine J.keep [0, 4, 9, 1, 2, 3, 5, 6, 7, 8] rfl ?_
      refine J.drawE [7, 8] 3 Tryz.mixed (by kernel_rfl) rfl rfl fun hR => ?_
      refine RG.p 0 hR rfl (Q.mv rfl) <| RG.p 1 hR rfl (Q.nil_ rfl) <| RG.p 2 hR rfl (Q.fa (n := 2) Tryz.runUnderlying167 rfl rfl Tryz.sizeOf165 rfl) ?_
      refine RG.p 3 hR rfl (Q.ld Tryz.isAgg165 rfl (rdI (by exact rfl))) ?_
      refine RG.p 4 hR rfl (Q.fa (n := 0) Tryz.runUnderlying52 rfl rfl Tryz.sizeOf40 rfl) ?_
      refine RG.p 5 hR rfl (Q.ld Tryz.isAgg40 rfl (rdI (by exact rfl))) ?_
      refine RG.p 6 hR rfl (Q.ldN (vs := [_, _, _, _, _]) Tryz.isAgg44 Tryz.sizeOf44 rfl rnI) ?_
      refine RG.callk 7 hR rfl rfl rfl rfl rfl Tryz.call75 (apart_spec y.asn y hyo) [6] rfl rfl ?_
      rintro _ _ ⟨y2, rfl, hy2, rfl⟩
      refine ⟨_, X.pick_perm (is := [2, 3, 4]) rfl, ?_⟩
      refine RG.bar 8 hR rfl rfl rfl rfl rfl rfl (X.G.C.mapPut (rep := dRep) 7 (M.act x.o).1 ord3_nat (by rw [act_done]; exact hM.ds) Tryz.runUnderlying165 keyU rfl rfl rfl rfl) ?_
      rintro _ _ ⟨rfl, rfl⟩
      refine RG.norm rfl ?_
      refine RG.fin hR rfl ?_
      refine J.norm rfl <| J.then_n <| J.seq <| J.region ?_
      refine J.p rfl (Q.ldN (vs := [_, _, _, _, _]) Tryz.isAgg44 Tryz.sizeOf44 rfl rnI) ?_
      refine J.stAI (vs := [_, _, _, _, _]) rfl Tryz.sizeOf44 rfl rfl (by exact rfl) (by exact rfl) (by exact rfl) ?_
      refine J.nil <| J.then_n <| J.cret ?_
      refine J.shut [3] (dRep x.o.id (M.act x.o).1 (.agg y2.cells.toArray)) rfl (fun h s => ⟨y2, ⟨hy2.trans hw, rfl⟩, s⟩) ?_
      refine J.mapBack (lt := ltN) 0 7 (M.act x.o).1 ord3_nat (X.G.srtd_put ord3_nat (by rw [act_done]; exact hM.ds) _ _) rfl ?_
      rw [X.G.sput_put ord3_nat (by rw [act_done]; exact hM.ds), act_done]
      refine J.shut [1, 5, 6, 0] (BktAt m { (M.act x.o).2 with done := sput ltN x.o.id (M.act x.o).1 M.done }) rfl (fun h s => ⟨z, s⟩) ?_
      refine J.retC [0, 3, 4, 6] (vs := [_, _, _, _, _]) rfl rfl Tryz.isAgg44 Tryz.sizeOf44 (ReadsN.pt 5 rfl) rfl (B := [_, _, _]) ⟨y, rfl, hw, rfl⟩
    replace hc41 := X.nm hc41
    try (first | (cases hc41; done) | (exfalso; simp at hc41; done))
    all_goals
     refine J.cond_f rfl <| J.cskip <| J.then_n <| J.seq <| J.region ?_
     refine J.p rfl (Q.ldN (vs := [_, _, _, _, _]) Tryz.isAgg44 Tryz.sizeOf44 rfl rnI) ?_
     refine J.stAI (vs := [_, _, _, _, _]) rfl Tryz.sizeOf44 rfl rfl (by exact rfl) (by exact rfl) (by exact rfl) ?_
     refine J.nil <| J.then_n <| J.cret ?_
     refine J.retC [1, 2, 3, 5] (vs := [_, _, _, _, _]) rfl rfl Tryz.isAgg44 Tryz.sizeOf44 (ReadsN.pt 4 rfl) rfl (B := [_, _, _]) ⟨y, rfl, hw, rfl⟩
theorem do_read0 (hA : HasAct m M x G) (hc : x.o.chkB = true) (hD : sget x.o.id M.done = none) (hrd : readsK x.o.kind = true) : FSpec Tryz.prog 51 [.pointer (some ⟨m, 0, none⟩), .agg x.cells.toArray] [BktAt m M, G] (ActR m G (M.act x.o)) := (do_read0_all m M hM x G hx).1 hA hc hD hrd
theorem do_read1 (hA : HasAct m M x G) (hc : x.o.chkB = true) {r : RM} (hD : sget x.o.id M.done = some r) (hrd : readsK x.o.kind = true) : FSpec Tryz.prog 51 [.pointer (some ⟨m, 0, none⟩), .agg x.cells.toArray] [BktAt m M, G] (ActR m G (M.act x.o)) := (do_read0_all m M hM x G hx).2.1 hA hc hD hrd
theorem do_new (hA : HasAct m M x G) (hc : x.o.chkB = true) (hD : sget x.o.id M.done = none) (hrd : readsK x.o.kind = false) : FSpec Tryz.prog 51 [.pointer (some ⟨m, 0, none⟩), .agg x.cells.toArray] [BktAt m M, G] (ActR m G ((M.act x.o).1, { (M.act x.o).2 with done := sput ltN x.o.id (M.act x.o).1 M.done })) := (do_read0_all m M hM x G hx).2.2 hA hc hD hrd
theorem do_spec (hA : x.o.chkB = true → HasAct m M x G) : FSpec Tryz.prog 51 [.pointer (some ⟨m, 0, none⟩), .agg x.cells.toArray] [BktAt m M, G] (ActR m G (M.run x.o)) := by
  unfold BM.run
  by_cases hc : x.o.chkB = true
  · rw [if_pos hc]
    have hA := hA hc
    by_cases hr : readsK x.o.kind = true
    · rw [if_pos hr]
      cases hD : sget x.o.id M.done with
      | none => exact do_read0 m M hM x G hx hA hc hD hr
      | some r => exact do_read1 m M hM x G hx hA hc hD hr
    · rw [if_neg hr]
      have hr : readsK x.o.kind = false := by simpa using hr
      cases hD : sget x.o.id M.done with
      | none => exact do_new m M hM x G hx hA hc hD hr
      | some r => exact do_kept m M hM x G hx hc hD hr
  · rw [if_neg hc]; exact do_bad m M hM x G hx (by simpa using hc)

theorem hasAct (hc : x.o.chkB = true) (h6 : x.o.kind = 6 → FSpec Tryz.prog 89 [.pointer (some ⟨m, 0, none⟩), .agg x.cells.toArray] [BktAt m M, G] (ActR m G (M.list x.o))) : HasAct m M x G := by
  obtain ⟨k1, k2⟩ := chk_kind hc
  have h9 := chk_9 hc
  by_cases e1 : x.o.kind = 1
  · exact ⟨84, by rw [e1]; rfl, Tryz.call84, by unfold BM.act; rw [if_pos e1]; exact make_spec m M hM x G hx⟩
  by_cases e2 : x.o.kind = 2
  · exact ⟨85, by rw [e2]; rfl, Tryz.call85, by unfold BM.act; rw [if_neg e1, if_pos e2]; exact unmake_spec m M hM x G hx⟩
  by_cases e3 : x.o.kind = 3
  · exact ⟨86, by rw [e3]; rfl, Tryz.call86, by unfold BM.act; rw [if_neg e1, if_neg e2, if_pos e3]; exact put_spec m M hM x G hx (chk_len hc)⟩
  by_cases e4 : x.o.kind = 4
  · exact ⟨87, by rw [e4]; rfl, Tryz.call87, by unfold BM.act; rw [if_neg e1, if_neg e2, if_neg e3, if_pos e4]; exact get_spec m M hM x G hx⟩
  by_cases e5 : x.o.kind = 5
  · exact ⟨88, by rw [e5]; rfl, Tryz.call88, by unfold BM.act; rw [if_neg e1, if_neg e2, if_neg e3, if_neg e4, if_pos e5]; exact delete_spec m M hM x G hx⟩
  by_cases e6 : x.o.kind = 6
  · exact ⟨89, by rw [e6]; rfl, Tryz.call89, by unfold BM.act; rw [if_neg e1, if_neg e2, if_neg e3, if_neg e4, if_neg e5, if_pos e6]; exact h6 e6⟩
  by_cases e7 : x.o.kind = 7
  · exact ⟨90, by rw [e7]; rfl, Tryz.call90, by unfold BM.act; rw [if_neg e1, if_neg e2, if_neg e3, if_neg e4, if_neg e5, if_neg e6, if_pos e7]; exact begin_spec m M hM x G hx⟩
  by_cases e8 : x.o.kind = 8
  · exact ⟨91, by rw [e8]; rfl, Tryz.call91, by unfold BM.act; rw [if_neg e1, if_neg e2, if_neg e3, if_neg e4, if_neg e5, if_neg e6, if_neg e7, if_pos e8]; exact part_spec m M hM x G hx (chk_len hc)⟩
  by_cases e9 : x.o.kind = 9
  · exact ⟨92, by rw [e9]; rfl, Tryz.call92, by unfold BM.act; rw [if_neg e1, if_neg e2, if_neg e3, if_neg e4, if_neg e5, if_neg e6, if_neg e7, if_neg e8, if_pos e9]; exact complete_spec m M hM x G hx (h9 e9)⟩
  · have e10 : x.o.kind = 10 := by omega
    exact ⟨93, by rw [e10]; rfl, Tryz.call93, by unfold BM.act; rw [if_neg e1, if_neg e2, if_neg e3, if_neg e4, if_neg e5, if_neg e6, if_neg e7, if_neg e8, if_neg e9]; exact abort_spec m M hM x G hx⟩
end
end Go.Proofs.YtidbcaimgahllaaGreat
namespace Go.Proofs.YtidbcaimgahllaaGreat
set_option linter.unusedSectionVars false
set_option linter.unusedSimpArgs false
set_option linter.unusedVariables false
open Go.X
open Go.X.G (Ord3 ord3_nat ord3_int ord3_str ltB sget sput sdel Srtd MapAt MapHole)

structure Ops (G : Assn) (lp : Option Addr) (ln lc : Nat) (l : List OW) : Prop where
  rd : SlR [G] 9 (.slice lp ln lc) (l.flatMap OW.cells)
  ok : ∀ x, x ∈ l → x.ok G
  small : ln ≤ 1048576
theorem Ops.len {G : Assn} {lp : Option Addr} {ln lc : Nat} {l : List OW} (h : Ops G lp ln lc l) : l.length = ln := by
  have := h.rd.len
  rw [flat_length OW.cells_length] at this; omega

theorem RW.cells_length (x : RW) : x.cells.length = 5 := rfl
theorem RW.cells_one {l : List RW} : ∀ v, v ∈ l.flatMap RW.cells → oneC v = true := by
  intro v hv
  obtain ⟨x, _, hx⟩ := List.mem_flatMap.1 hv
  simp only [RW.cells, List.mem_cons, List.not_mem_nil, or_false] at hx
  rcases hx with rfl | rfl | rfl | rfl | rfl <;> rfl

end Go.Proofs.YtidbcaimgahllaaGreat
namespace Go.Proofs.YtidbcaimgahllaaGreat
set_option linter.unusedSectionVars false
set_option linter.unusedSimpArgs false
set_option linter.unusedVariables false
open Go.X
open Go.X.G (Ord3 ord3_nat ord3_int ord3_str ltB sget sput sdel Srtd MapAt MapHole)

def bt (l : List UInt8) : ByteArray := ⟨l.toArray⟩
end Go.Proofs.YtidbcaimgahllaaGreat
namespace Go.X
set_option linter.unusedSectionVars false
set_option linter.unusedSimpArgs false
set_option linter.unusedVariables false

def fen (r : Option Nat) : Fence := { Fence.wide with round := r }
theorem callsIn_fen {r : Option Nat} {n : Nat} {P : Program} {f : FuncId} {args : Array Value} {w : World} {R : Ending → World → Prop} (h : Calls P f args w R) : CallsIn (fen r) n P f args w R :=
  ⟨trivial, fun cs _ => let ⟨e, w', fr, q, s, x⟩ := h cs; ⟨e, w', fr, q, comesIn_wide.2 s, x⟩⟩
theorem callsIn_fen_out {r : Option Nat} {n : Nat} {P : Program} {f : FuncId} {args : Array Value} {w : World} {R : Ending → World → Prop} (h : CallsIn (fen r) n P f args w R) : Calls P f args w R :=
  fun cs => let ⟨e, w', fr, q, s, x⟩ := h.2 cs (room_wide _); ⟨e, w', fr, q, comesIn_wide.1 s, x⟩
theorem rowsIn_fen {r : Option Nat} {n : Nat} {P : Program} {row : String} {args : Array Value} {w : World} {R : Value → World → Prop} (h : Rows P row args w R) : RowsIn (fen r) n P row args w R :=
  fun c cs _ => let ⟨v, w', q, s⟩ := h c cs; ⟨v, w', q, stepsIn_wide.2 s⟩
theorem roundIn_fen {r r' : Option Nat} {n m : Nat} {P : Program} {l : Nat} {f : FuncId} {tmps : Array Value} {assign body : Code} {w : World} {R : Ending → World → Prop}
    (h : RoundIn (fen r) n P l f tmps assign body w R) : RoundIn (fen r') m P l f tmps assign body w R :=
  ⟨trivial, fun c cs _ => h.2 c cs (room_wide _)⟩

theorem oper_in {r : Option Nat} {n : Nat} {P : Program} {o : Oper} {a : Act} {w : World} {K : Act → World → Prop} {Q : Exit → Act → World → Prop} (hd : ∀ c, o.op ≠ .defer c) (h : Oper.wp P o a w K Q) : Oper.wpIn (fen r) n P o a w K Q := by
  refine ⟨fun _ _ => trivial, ?_⟩
  rw [Oper.semAt_eq _ _ _ hd]
  unfold Oper.wp at h
  revert h
  cases (execOp a.eval o).run P w with
  | ok x w' =>
    cases x with
    | value v => exact id
    | skip => exact id
    | defer d => exact id
    | enter f args => exact fun h => ⟨fun h => (by cases h), callsIn_fen h⟩
    | row row args => exact fun h => ⟨fun h => (by cases h), rowsIn_fen h⟩
    | _ => exact fun h => h.elim
  | halt x w' =>
    cases x with
    | panic v => exact id
    | _ => exact fun h => h.elim

def LI (r : Option Nat) (P : Program) (ops : Array Oper) (Q : Exit → Act → World → Prop) (ds : List Deferred) (l : List Oper) : Act → World → Prop :=
  fun a w => wpListIn (fen r) 0 P ops Q l { a with defers := ds } w
def CI (r : Option Nat) (P : Program) (c : Code) (Q : Exit → Act → World → Prop) (ds : List Deferred) : Act → World → Prop :=
  fun a w => c.wpIn (fen r) 0 P Q { a with defers := ds } w
def EI (Q : Exit → Act → World → Prop) (ds : List Deferred) (e : Exit) : Act → World → Prop := fun a w => Q e { a with defers := ds } w

def YSpec (P : Program) (l : Nat) (args : List Value) (A : List Assn) (R : Value → List Assn → Prop) : Prop :=
  ∀ (W0 w : World) (F : Assn), Sat W0 w (A ++ [F]) → YieldAt (fen none) 0 P l args.toArray w (RetQ W0 R F)

section lists
variable {P : Program} {W0 : World} {N : Nat} {ops : Array Oper} {Q : Exit → Act → World → Prop} {L : Slots} {A Ain F : List Assn} {rest : List Oper} {r : Option Nat} {ds : List Deferred}
variable {op : Op} {ty : TypeId} {pos : String} {aft : Array Edge} {g : Option (Nat × Bool)} {d : Nat} {v : Value} {argTypes : Array TypeId}

theorem guardL_in {o : Oper} {a : Act} {b : Bool} (f : Fr N a L) (e : guardL ops o.guard L = some b) : Region.wanted o (yielded ops ({ a with defers := ds } : Act).tmps) = b := guardL_wanted (a := a) f e
theorem agree_in {a : Act} (f : Fr N a L) (op : Op) : Agree { a with defers := ds } L op := fun x _ u e => (f.eval (x := x) e : a.eval x = u)

theorem JI.c {R : Value → List Assn → Prop} (hg : guardL ops g L = some true) (hd : Nat.blt d N = true) (hop : ∀ c, op ≠ .defer c) (h : OpC P op ty L A R) (k : ∀ v B, R v B → J W0 N ((d, v) :: L) B (LI r P ops Q ds rest)) :
    J W0 N L A (LI r P ops Q ds (⟨some d, op, ty, pos, aft, g⟩ :: rest)) := by
  refine ⟨fun a w f s => ?_⟩
  unfold LI wpListIn
  rw [if_pos (guardL_in (o := ⟨some d, op, ty, pos, aft, g⟩) f hg)]
  refine oper_in hop (h.wp _ _ _ _ { a with defers := ds } W0 w (agree_in f _) s _ _ ?_)
  intro u B w' q s'
  exact (k u B q).run _ _ (f.put u hd) s'
theorem JI.c0 {R : Value → List Assn → Prop} (hg : guardL ops g L = some true) (hop : ∀ c, op ≠ .defer c) (h : OpC P op ty L A R) (k : ∀ v B, R v B → J W0 N L B (LI r P ops Q ds rest)) :
    J W0 N L A (LI r P ops Q ds (⟨none, op, ty, pos, aft, g⟩ :: rest)) := by
  refine ⟨fun a w f s => ?_⟩
  unfold LI wpListIn
  rw [if_pos (guardL_in (o := ⟨none, op, ty, pos, aft, g⟩) f hg)]
  refine oper_in hop (h.wp _ _ _ _ { a with defers := ds } W0 w (agree_in f _) s _ _ ?_)
  intro u B w' q s'
  exact (k u B q).run _ _ f s'
theorem JI.q (hg : guardL ops g L = some true) (hd : Nat.blt d N = true) (hop : ∀ c, op ≠ .defer c) (h : OpQ P op ty L A v) (k : J W0 N ((d, v) :: L) A (LI r P ops Q ds rest)) :
    J W0 N L A (LI r P ops Q ds (⟨some d, op, ty, pos, aft, g⟩ :: rest)) :=
  JI.c hg hd hop h.toC (by rintro u B ⟨rfl, rfl⟩; exact k)
theorem JI.nil (k : J W0 N L A (EI Q ds .normal)) : J W0 N L A (LI r P ops Q ds []) := ⟨fun a w f s => k.run a w f s⟩

theorem JI.yield {t l : Nat} {R : Value → List Assn → Prop} {xs : List Operand} {args : List Value} (hs : YSpec P l args Ain R) (is : List Nat) (hg : guardL ops g L = some true) (hd : Nat.blt d N = true)
    (hv : find t L = some (.func (.yield l) #[] #[])) (he : evs L xs = some args) (hp : X.pick is A = some (Ain, F)) (k : ∀ v B, R v B → J W0 N ((d, v) :: L) (B ++ F) (LI r P ops Q ds rest)) :
    J W0 N L A (LI r P ops Q ds (⟨some d, .call { callee := .value (.tmp t), args := xs.toArray, argTypes }, ty, pos, aft, g⟩ :: rest)) := by
  refine ⟨fun a w f s => ?_⟩
  unfold LI wpListIn
  rw [if_pos (guardL_in (o := ⟨some d, .call { callee := .value (.tmp t), args := xs.toArray, argTypes }, ty, pos, aft, g⟩) f hg)]
  refine ⟨fun _ _ => trivial, ?_⟩
  rw [Oper.semAt_eq _ _ _ (fun c e => by cases e)]
  have ag := agree_in (ds := ds) f (.call { callee := .value (.tmp t), args := xs.toArray, argTypes })
  have hx : xs.map ({ a with defers := ds } : Act).eval = args := evs_map (fun x hx => ag x (by simp [Op.operands, Call.operands, hx])) he
  have ha : (xs.toArray).map ({ a with defers := ds } : Act).eval = args.toArray := by simp [hx]
  have hf : ({ a with defers := ds } : Act).eval (.tmp t) = .func (.yield l) #[] #[] := ag _ (by simp [Op.operands, Call.operands]) _ hv
  have s' : Sat W0 w (Ain ++ [star F]) := by
    refine (s.perm (pick_perm hp)).imp fun k t => ?_
    obtain ⟨h1, h2, p, q, d, u, v⟩ := t.append
    exact HSat.of_append p (Bs := [star F]) ⟨h2, fun _ => none, q, trivial, fun _ => Or.inr rfl, Sub.refl _, fun _ _ e => nomatch e⟩ d u v
  obtain ⟨fn, tmps, assign, body, hy, hR⟩ := hs W0 w (star F) s'
  have hrun : (execOp ({ a with defers := ds } : Act).eval ⟨some d, .call { callee := .value (.tmp t), args := xs.toArray, argTypes }, ty, pos, aft, g⟩).run P w = .ok (.round l fn tmps assign body) w := by
    simp only [execOp, resolve, hf, Deferred.ofValue, invoke, Sem.run_bind, Sem.run_pure, Result.andThen_ok, ha]
    simpa using hy
  rw [hrun, Oper.uponIn_round]
  refine ⟨fun h => (by cases h), (roundIn_fen hR).mono ?_⟩
  rintro e w' ⟨v, B, rfl, q, t'⟩
  refine (k v B q).run _ _ (f.put v hd) (t'.imp fun k t => ?_)
  obtain ⟨h1, h2, p, ⟨k1, k2, q, _, _, s1, _⟩, d, u, v⟩ := t.append
  exact HSat.of_append p (HSat.mono q s1) d u v
end lists

section control
variable {P : Program} {W0 : World} {N : Nat} {Q : Exit → Act → World → Prop} {L : Slots} {A : List Assn} {x y : Code} {r : Option Nat} {ds : List Deferred}
theorem JI.region {id : Nat} {l : List Oper} (h : J W0 N L A (LI r P l.toArray Q ds l)) : J W0 N L A (CI r P (.region id l.toArray false) Q ds) := ⟨fun a w f s => wpIn_region_lit (h.run a w f s)⟩
theorem JI.block {id : Nat} (h : J W0 N L A (CI r P x (Exit.inBlock id Q) ds)) : J W0 N L A (CI r P (.block id x) Q ds) := ⟨fun a w f s => wpIn_block (h.run a w f s)⟩
theorem JI.blk_n {id : Nat} (h : J W0 N L A (EI Q ds .normal)) : J W0 N L A (EI (Exit.inBlock id Q) ds .normal) := ⟨fun a w f s => h.run a w f s⟩
theorem JI.seq (h : J W0 N L A (CI r P x (Exit.then (y.wpIn (fen r) 0 P Q) Q) ds)) : J W0 N L A (CI r P (.seq x y) Q ds) := ⟨fun a w f s => wpIn_seq (h.run a w f s)⟩
theorem JI.then_n (h : J W0 N L A (CI r P y Q ds)) : J W0 N L A (EI (Exit.then (y.wpIn (fen r) 0 P Q) Q) ds .normal) := ⟨fun a w f s => h.run a w f s⟩
theorem JI.ret (h : J W0 N L A (EI Q ds .ret)) : J W0 N L A (CI r P .ret Q ds) := ⟨fun a w f s => wpIn_ret (h.run a w f s)⟩
theorem J.regionY {id : Nat} {l : List Oper} (h : J W0 N L A (LI none P l.toArray Q [] l)) : J W0 N L A ((Code.region id l.toArray false).wp P Q) :=
  ⟨fun a w f s => (wpIn_wide (n := 0)).1 (wpIn_region_lit (by
    have := h.run a w f s
    have e : ({ a with defers := [] } : Act) = a := by rw [← f.defers]
    unfold LI at this
    rw [e] at this; exact this))⟩
theorem JI.out {e : Exit} (h : J W0 N L A (Q e)) : J W0 N L A (EI Q [] e) :=
  ⟨fun a w f s => by
    have := h.run a w f s
    have e : ({ a with defers := [] } : Act) = a := by rw [← f.defers]
    unfold EI; rw [e]; exact this⟩
end control

def lrec (fn : FuncId) (T : Array Value) (ps : List Tmp) (assign body : Code) (D : Nat) (st : LoopState) (pe : Option Code) : Obj :=
  .loop { state := st, pending := pe, fn, tmps := T, params := ps.toArray, assign, body, defers := D }

structure FrT (N : Nat) (T : Array Value) (L : Slots) : Prop where
  size : T.size = N
  get : ∀ s v, find s L = some v → T[s]? = some v

def zipS : List Tmp → List Value → Slots
  | p :: ps, v :: vs => zipS ps vs ++ [(p, v)]
  | _, _ => []
theorem FrT.puts_ : ∀ {ps : List Tmp} {vs : List Value} {N : Nat} {T : Array Value} {L : Slots}, FrT N T L → (∀ p, p ∈ ps → p < N) → FrT N ((ps.zip vs).foldl (fun t (q : Nat × Value) => t.setIfInBounds q.1 q.2) T) (zipS ps vs ++ L)
  | [], vs, N, T, L, h, _ => by simpa [zipS] using h
  | p :: ps, [], N, T, L, h, _ => by simpa [zipS] using h
  | p :: ps, v :: vs, N, T, L, h, hp => by
    have h1 : FrT N (T.setIfInBounds p v) ((p, v) :: L) := by
      refine ⟨by simp [h.size], fun s u e => ?_⟩
      simp only [find] at e
      rw [Array.getElem?_setIfInBounds]
      cases hb : Nat.beq s p with
      | true =>
        rw [hb] at e; simp at e
        rw [beq_iff] at hb; subst hb; subst e
        have := hp s (by simp)
        simp [h.size, this]
      | false =>
        rw [hb] at e; simp at e
        have hne : p ≠ s := by rintro rfl; rw [Nat.beq_refl] at hb; cases hb
        rw [if_neg hne]; exact h.get s u e
    have := FrT.puts_ (ps := ps) (vs := vs) h1 (fun q hq => hp q (by simp [hq]))
    simpa [zipS, List.append_assoc] using this
theorem FrT.puts {ps : List Tmp} {vs : List Value} {N : Nat} {T : Array Value} {L : Slots} (h : FrT N T L) (hp : ∀ p, p ∈ ps → p < N) : FrT N ((ps.toArray.zip vs.toArray).foldl (fun t (q : Nat × Value) => t.setIfInBounds q.1 q.2) T) (zipS ps vs ++ L) := by
  have := FrT.puts_ (vs := vs) h hp
  rw [← Array.foldl_toList]
  simpa using this

def BodyQ (W0 : World) (A : List Assn) : Exit → Act → World → Prop
  | .normal, _, w => Sat W0 w A
  | _, _, _ => False
def AsgQ (W0 : World) (N : Nat) (L : Slots) (A : List Assn) : Exit → Act → World → Prop
  | .normal, a, w => Fr N a L ∧ Sat W0 w A
  | _, _, _ => False
section ends
variable {W0 : World} {N : Nat} {L M : Slots} {A B : List Assn}
theorem JI.bodyEnd (e : A = B) : J W0 N L A (EI (BodyQ W0 B) [] .normal) := ⟨fun _ _ _ s => e ▸ s⟩
theorem JI.asgEnd (hL : Knows L M) (e : A = B) : J W0 N L A (EI (AsgQ W0 N M B) [] .normal) :=
  ⟨fun a _ f s => ⟨by have := f.weaken hL; exact ⟨this.size, this.get, rfl⟩, e ▸ s⟩⟩
end ends

theorem putObj_sat {W0 w : World} {l : Nat} {o p : Obj} {A : List Assn} (s : Sat W0 w (pt l o :: A)) : Sat W0 (w.putObj l p) (pt l p :: A) := by
  have h0 : hp w l = some o := by obtain ⟨k, hk, hs⟩ := s.heap.at_ (i := 0) rfl; exact hs l o hk
  refine ⟨s.os, s.tape, s.out, ?_⟩
  have e : hp (w.putObj l p) = upd (hp w) l p := hp_set w l p o h0
  rw [e]
  have := HSat.update (i := 0) (b := l) (o := p) (A := pt l o) (B := pt l p) s.heap rfl fun k hk => ⟨⟨o, hk⟩, by simp [pt, upd]⟩
  simpa using this

def ItSpec {α : Type} (P : Program) (gf : FuncId) (lb : List Value) (enc : α → List Value) (Ait : List Assn) (S : List α → Prop) (ok : List α → α → Prop) : Prop :=
  ∀ (l : Nat) (Inv : List α → Assn), (∀ pre x, ok pre x → YSpec P l (enc x) [Inv pre] (fun v B => v = .bool true ∧ B = [Inv (pre ++ [x])])) →
    FSpec P gf (.func (.yield l) #[] #[] :: lb) (Inv [] :: Ait) (fun _ B => ∃ xs, S xs ∧ B = Inv xs :: Ait)

section stmt
variable {P : Program} {W0 : World} {N : Nat} {Q : Exit → Act → World → Prop} {L : Slots} {A Ait C : List Assn}

theorem JI.rangeFunc {α : Type} {gt : Tmp} {ps : List Tmp} {assign body : Code} (gf : FuncId) (lb : List Value) (enc : α → List Value) (S : List α → Prop) (ok : List α → α → Prop) (Ib : List α → List Assn) (L1 : α → Slots)
    (hg : find gt L = some (.func (.func gf) #[] lb.toArray)) (eg : ∀ (args : Array Value) (w : World), (callFunc gf args).run P w = .ok (.enter gf args) w) (hit : ItSpec P gf lb enc Ait S ok)
    (hps : ∀ p, p ∈ ps → p < N) (hen : ∀ x, (enc x).length = ps.length) (is : List Nat) (hp : X.pick is A = some (Ib [] ++ Ait, C))
    (hassign : ∀ (l : Nat) (W0 : World) (F : Assn) pre x, ok pre x → J W0 N (zipS ps (enc x) ++ L) (Ib pre ++ [F]) (CI (some l) P assign (AsgQ W0 N (L1 x) (Ib pre ++ [F])) []))
    (hbody : ∀ (l : Nat) (W0 : World) (F : Assn) pre x, ok pre x → J W0 N (L1 x) (Ib pre ++ [F]) (CI (some l) P body (BodyQ W0 (Ib (pre ++ [x]) ++ [F])) []))
    (k : ∀ D xs, S xs → J W0 N L (pt D (.deferred (some [])) :: (Ib xs ++ Ait ++ C)) (EI Q [{ target := .collected D, args := #[] }] .normal)) :
    J W0 N L A (CI none P (.rangeFunc (.tmp gt) ps.toArray assign body) Q []) := by
  refine ⟨fun a w f s => ?_⟩
  unfold CI
  have ea : ({ a with defers := [] } : Act) = a := by rw [← f.defers]
  rw [ea]
  refine wpIn_rangeFunc ?_
  intro fn _
  obtain ⟨rec, hrec⟩ : ∃ rec : LoopState → Option Code → Obj, rec = lrec fn a.tmps ps assign body w.heap.size := ⟨_, rfl⟩
  have s0 := s.perm (pick_perm hp)
  have s1 : Sat W0 ((w.alloc (.deferred (some []))).alloc (rec .ready none)) (pt (w.heap.size + 1) (rec .ready none) :: pt w.heap.size (.deferred (some [])) :: (Ib [] ++ Ait ++ C)) := by
    have h1 := s0.new (.deferred (some []))
    have h2 := h1.new (rec .ready none)
    rw [show ({ w with heap := w.heap.push (.deferred (some [])) } : World).heap.size = w.heap.size + 1 from by simp] at h2
    exact h2
  obtain ⟨W1, hW1⟩ : ∃ W1, (w.alloc (.deferred (some []))).alloc (rec .ready none) = W1 := ⟨_, rfl⟩
  rw [hW1] at s1
  refine ⟨w.heap.size + 1, [{ target := .collected w.heap.size, args := #[] }], W1, { target := .fn (.func gf) lb.toArray, args := #[.func (.yield (w.heap.size + 1)) #[] #[]] }, W1, gf,
    #[.func (.yield (w.heap.size + 1)) #[] #[]] ++ lb.toArray, W1, ?_, ?_, fun _ _ => trivial, ?_, fun h => (by cases h), ?_⟩
  · rw [← hW1, hrec]; exact run_enterLoop_outer _ _ _ _ _
  · have : a.eval (.tmp gt) = .func (.func gf) #[] lb.toArray := f.eval (x := .tmp gt) hg
    simp only [resolve, this]
    simp [go_sem]
  · simp [invoke, go_sem, eg]
  · have hInv : ∀ pre x, ok pre x → YSpec P (w.heap.size + 1) (enc x) [star (pt (w.heap.size + 1) (rec .ready none) :: pt w.heap.size (.deferred (some [])) :: Ib pre)]
        (fun v B => v = .bool true ∧ B = [star (pt (w.heap.size + 1) (rec .ready none) :: pt w.heap.size (.deferred (some [])) :: Ib (pre ++ [x]))]) := by
      intro pre x hok W0' w' F' s
      have t : Sat W0' w' ((pt (w.heap.size + 1) (rec .ready none) :: pt w.heap.size (.deferred (some [])) :: Ib pre) ++ [F']) :=
        s.imp fun h hh => HSat.unpack (As := pt (w.heap.size + 1) (rec .ready none) :: pt w.heap.size (.deferred (some [])) :: Ib pre) (Bs := [F']) hh
      have hl := t.at_ (i := 0) rfl
      have hl' : w'.heap[w.heap.size + 1]? = some (lrec fn a.tmps ps assign body w.heap.size .ready none) := by rw [← hrec]; exact hl
      refine ⟨fn, _, assign, body, run_yield hl' (by simp [hen]), roundIn_of_wpIn trivial ?_⟩
      have fr0 : Fr N ⟨(ps.toArray.zip (enc x).toArray).foldl (fun t (q : Nat × Value) => t.setIfInBounds q.1 q.2) a.tmps, []⟩ (zipS ps (enc x) ++ L) := by
        have := FrT.puts (vs := enc x) (⟨f.size, f.get⟩ : FrT N a.tmps L) hps
        exact ⟨this.size, this.get, rfl⟩
      have t1 : ∀ (st : Obj) (X : List Assn) {w2 : World}, Sat W0' w2 ((pt (w.heap.size + 1) st :: pt w.heap.size (.deferred (some [])) :: X) ++ [F']) → Sat W0' w2 (X ++ [star [pt (w.heap.size + 1) st, pt w.heap.size (.deferred (some [])), F']]) := by
        intro st X w2 h
        have h2 : Sat W0' w2 ([pt (w.heap.size + 1) st, pt w.heap.size (.deferred (some [])), F'] ++ X) := h.perm (by
          simp only [List.cons_append, List.nil_append]
          exact ((List.perm_append_singleton F' X).cons _).cons _)
        exact (h2.imp fun h hh => HSat.pack hh).perm (List.perm_append_singleton _ X).symm
      have t2 : ∀ (st : Obj) (X : List Assn) {w2 : World}, Sat W0' w2 (X ++ [star [pt (w.heap.size + 1) st, pt w.heap.size (.deferred (some [])), F']]) → Sat W0' w2 ((pt (w.heap.size + 1) st :: pt w.heap.size (.deferred (some [])) :: X) ++ [F']) := by
        intro st X w2 h
        have h1 := (h.perm (List.perm_append_singleton _ X)).imp fun h hh => HSat.unpack hh
        exact h1.perm (by
          simp only [List.cons_append, List.nil_append]
          exact ((List.perm_append_singleton F' X).symm.cons _).cons _)
      refine wpIn_mono ((hassign (w.heap.size + 1) W0' _ pre x hok).run _ w' fr0 (t1 _ _ t)) ?_
      intro e a1 w1 hq
      cases e with
      | normal =>
        obtain ⟨fr1, s1⟩ := hq
        have s1' := t2 _ _ s1
        have hl1 := s1'.at_ (i := 0) rfl
        rw [hrec] at hl1
        refine ⟨_, run_beginRound hl1 rfl, ?_⟩
        have s2 := putObj_sat (p := lrec fn a.tmps ps assign body w.heap.size .busy none) s1'
        have ea1 : ({ a1 with defers := [] } : Act) = a1 := by rw [← fr1.defers]
        have hb := (hbody (w.heap.size + 1) W0' _ pre x hok).run a1 _ fr1 (t1 _ _ s2)
        unfold CI at hb
        rw [ea1] at hb
        refine wpIn_mono hb ?_
        intro e a3 w3 hq3
        cases e with
        | normal =>
          have s3 := t2 _ _ hq3
          have hl3 := s3.at_ (i := 0) rfl
          refine ⟨_, _, run_endRound none hl3, ?_⟩
          have s4 := putObj_sat (p := rec .ready none) s3
          rw [hrec] at s4 ⊢
          exact ⟨_, _, rfl, ⟨rfl, rfl⟩, s4.imp fun h hh => HSat.pack (As := pt (w.heap.size + 1) (lrec fn a.tmps ps assign body w.heap.size .ready none) :: pt w.heap.size (.deferred (some [])) :: Ib (pre ++ [x])) (Bs := [F']) hh⟩
        | _ => exact hq3.elim
      | _ => exact hq.elim
    have s2 : Sat W0 W1 ((star (pt (w.heap.size + 1) (rec .ready none) :: pt w.heap.size (.deferred (some [])) :: Ib []) :: Ait) ++ [star C]) := by
      have e1 : pt (w.heap.size + 1) (rec .ready none) :: pt w.heap.size (.deferred (some [])) :: (Ib [] ++ Ait ++ C) = (pt (w.heap.size + 1) (rec .ready none) :: pt w.heap.size (.deferred (some [])) :: Ib []) ++ (Ait ++ C) := by simp
      rw [e1] at s1
      have h1 := s1.imp fun h hh => HSat.pack hh
      have h2 : Sat W0 W1 (C ++ (star (pt (w.heap.size + 1) (rec .ready none) :: pt w.heap.size (.deferred (some [])) :: Ib []) :: Ait)) := h1.perm (by
        rw [← List.cons_append]; exact List.perm_append_comm)
      exact (h2.imp fun h hh => HSat.pack hh).perm (List.perm_append_singleton _ _).symm
    have hc := (hit (w.heap.size + 1) (fun pre => star (pt (w.heap.size + 1) (rec .ready none) :: pt w.heap.size (.deferred (some [])) :: Ib pre)) hInv).call W0 W1 (star C) s2
    rw [show (Value.func (.yield (w.heap.size + 1)) #[] #[] :: lb).toArray = #[Value.func (.yield (w.heap.size + 1)) #[] #[]] ++ lb.toArray from by simp] at hc
    refine callsIn_fen (hc.mono ?_)
    rintro e w' ⟨v, B, rfl, ⟨xs, hS, rfl⟩, t⟩
    have t1 := (t.perm (List.perm_append_singleton (star C) _)).imp fun h hh => HSat.unpack hh
    have t2 : Sat W0 w' (star (pt (w.heap.size + 1) (rec .ready none) :: pt w.heap.size (.deferred (some [])) :: Ib xs) :: (Ait ++ C)) := t1.perm (by
      rw [← List.cons_append]; exact List.perm_append_comm)
    have t3 := t2.imp fun h hh => HSat.unpack hh
    have hl := t3.at_ (i := 0) rfl
    rw [hrec] at hl
    refine ⟨none, _, run_endLoop hl (by simp), ?_⟩
    have t4 := putObj_sat (p := lrec fn a.tmps ps assign body w.heap.size .exhausted none) t3
    have hk := (k w.heap.size xs hS).run a _ f (t4.imp fun h hh => by
      have := HSat.tail hh
      simpa using this)
    unfold EI at hk
    have ed : ([{ target := .collected w.heap.size, args := #[] }] ++ a.defers : List Deferred) = [{ target := .collected w.heap.size, args := #[] }] := by rw [f.defers]; rfl
    rw [ed]
    exact hk
end stmt

section funcs
variable {P : Program} {f : FuncId} {fn : Func} {c : Code} {N : Nat} {args : List Value} {A B D : List Assn} {R : Value → List Assn → Prop} {W0 : World} {L : Slots} {F : Assn} {v : Value}
theorem FSpec.ofM (hf : P.funcs[f]? = some fn) (hb : fn.body = some c) (hn : fn.ntmps = N) (hl : Nat.ble args.length N = true)
    (h : ∀ (W0 : World) (F : Assn), J W0 N (argSlots 0 args) (A ++ [F]) (CI none P c (bodyPostM (fen none) 0 P fn (RetQ W0 R F)) [])) : FSpec P f args A R := by
  refine ⟨fun W0 w F s => callsIn_fen_out (r := none) (callsIn_of_wp_marks hf hb trivial ((h W0 F).run ⟨args.toArray ++ Array.replicate (fn.ntmps - args.toArray.size) undef, []⟩ w ⟨?_, ?_, rfl⟩ s) rfl)⟩
  · have : args.length ≤ N := Nat.le_of_ble_eq_true hl
    simp [hn]; omega
  · intro t v e
    obtain ⟨_, h2⟩ := find_argSlots _ _ _ _ e
    simp only [Nat.sub_zero] at h2
    rw [Array.getElem?_append_left]
    · simpa using h2
    · rcases Nat.lt_or_ge t args.length with q | q
      · simpa using q
      · rw [List.getElem?_eq_none q] at h2; cases h2

theorem JI.ret1 {s D0 : Nat} (hr : fn.results = #[.tmp s]) (hv : find s L = some v) (hR : R v B) (hA : A = pt D0 (.deferred (some [])) :: (B ++ [F])) :
    J W0 N L A (EI (bodyPostM (fen none) 0 P fn (RetQ W0 R F)) [{ target := .collected D0, args := #[] }] .ret) := by
  subst hA
  refine ⟨fun a w f t => ?_⟩
  have hd := t.at_ (i := 0) rfl
  refine ⟨by simp, .inl ⟨D0, _, rfl, run_takeDeferred hd, v, ?_, v, B, rfl, hR, ?_⟩⟩
  · rw [results_tmp hr]
    rw [Array.getD_eq_getD_getElem?, f.get s v hv]; rfl
  · exact (putObj_sat (p := .deferred none) t).imp fun h hh => HSat.tail hh
end funcs
section loops
variable {α β γ δ : Type} {P : Program} {W0 : World} {N : Nat} {Q : Exit → Act → World → Prop} {L : Slots} {A : List Assn} {c : Code}
theorem J.loop2 (I : α → β → Prop) (m : α → β → Nat) (Ls : α → β → Slots) (As : α → β → List Assn) (x0 : α) (y0 : β) (h0 : I x0 y0) (hL : Knows L (Ls x0 y0)) (hA : A = As x0 y0)
    (round : ∀ x y, I x y → J W0 N (Ls x y) (As x y) (c.wp P (LoopQ W0 N (fun z : α × β => I z.1 z.2) (fun z => m z.1 z.2) (fun z => Ls z.1 z.2) (fun z => As z.1 z.2) (x, y) Q))) : J W0 N L A ((Code.loop c).wp P Q) :=
  J.loop (fun z : α × β => I z.1 z.2) (fun z => m z.1 z.2) (fun z => Ls z.1 z.2) (fun z => As z.1 z.2) (x0, y0) h0 hL hA fun x h => round x.1 x.2 h
theorem J.loop3 (I : α → β → γ → Prop) (m : α → β → γ → Nat) (Ls : α → β → γ → Slots) (As : α → β → γ → List Assn) (x0 : α) (y0 : β) (z0 : γ) (h0 : I x0 y0 z0) (hL : Knows L (Ls x0 y0 z0)) (hA : A = As x0 y0 z0)
    (round : ∀ x y u, I x y u → J W0 N (Ls x y u) (As x y u) (c.wp P (LoopQ W0 N (fun z : α × β × γ => I z.1 z.2.1 z.2.2) (fun z => m z.1 z.2.1 z.2.2) (fun z => Ls z.1 z.2.1 z.2.2) (fun z => As z.1 z.2.1 z.2.2) (x, y, u) Q))) : J W0 N L A ((Code.loop c).wp P Q) :=
  J.loop (fun z : α × β × γ => I z.1 z.2.1 z.2.2) (fun z => m z.1 z.2.1 z.2.2) (fun z => Ls z.1 z.2.1 z.2.2) (fun z => As z.1 z.2.1 z.2.2) (x0, y0, z0) h0 hL hA fun x h => round x.1 x.2.1 x.2.2 h
theorem J.loop4 (I : α → β → γ → δ → Prop) (m : α → β → γ → δ → Nat) (Ls : α → β → γ → δ → Slots) (As : α → β → γ → δ → List Assn) (x0 : α) (y0 : β) (z0 : γ) (w0 : δ) (h0 : I x0 y0 z0 w0) (hL : Knows L (Ls x0 y0 z0 w0)) (hA : A = As x0 y0 z0 w0)
    (round : ∀ x y u v, I x y u v → J W0 N (Ls x y u v) (As x y u v) (c.wp P (LoopQ W0 N (fun z : α × β × γ × δ => I z.1 z.2.1 z.2.2.1 z.2.2.2) (fun z => m z.1 z.2.1 z.2.2.1 z.2.2.2) (fun z => Ls z.1 z.2.1 z.2.2.1 z.2.2.2) (fun z => As z.1 z.2.1 z.2.2.1 z.2.2.2) (x, y, u, v) Q))) : J W0 N L A ((Code.loop c).wp P Q) :=
  J.loop (fun z : α × β × γ × δ => I z.1 z.2.1 z.2.2.1 z.2.2.2) (fun z => m z.1 z.2.1 z.2.2.1 z.2.2.2) (fun z => Ls z.1 z.2.1 z.2.2.1 z.2.2.2) (fun z => As z.1 z.2.1 z.2.2.1 z.2.2.2) (x0, y0, z0, w0) h0 hL hA fun x h => round x.1 x.2.1 x.2.2.1 x.2.2.2 h
end loops
end Go.X

