/-
  The store as plain data, and as it lies in memory; New, known, table.
-/
import Derived.Test.YtdancegklkifaaaBktD
import Derived.Test.YtdancegklkifaaaXw
namespace Go.Proofs.Ytdancegklkifaaa
set_option linter.unusedSectionVars false
set_option linter.unusedSimpArgs false
set_option linter.unusedVariables false
open Go.X
open Go.X.G (Ord3 ord3_nat ord3_int ord3_str ltB sget sput sdel Srtd MapAt MapHole plainRep)

abbrev ltN : Nat → Nat → Bool := fun a b => decide (a < b)
abbrev ltI : Int → Int → Bool := fun a b => decide (a < b)
abbrev Objs := List (ByteArray × List UInt8)
abbrev Parts := List (Int × List UInt8)

structure UM where
  bucket : ByteArray
  key : ByteArray
  parts : Parts

structure BM where
  buckets : List (ByteArray × Objs)
  uploads : List (Nat × UM)
  done : List (Nat × RM)

/-- What holds of a store, with so many things in it at the most. -/
structure BM.ok (k : Nat) (M : BM) : Prop where
  bs : Srtd ltB M.buckets
  os : ∀ n o, sget n M.buckets = some o → Srtd ltB o ∧ o.length ≤ k ∧ ∀ a d, sget a o = some d → d.length ≤ 274877906944
  us : Srtd ltN M.uploads
  ps : ∀ n u, sget n M.uploads = some u → Srtd ltI u.parts ∧ (sget u.bucket M.buckets).isSome = true ∧ ∀ a d, sget a u.parts = some d → d.length ≤ 16777216
  ds : Srtd ltN M.done
  rs : ∀ n r, sget n M.done = some r → r.keys.length ≤ 1000 ∧ r.data.length ≤ 274877906944
  len : M.buckets.length ≤ k ∧ M.uploads.length ≤ k ∧ M.done.length ≤ k

theorem BM.ok.new : BM.ok 0 ⟨[], [], []⟩ := ⟨List.Pairwise.nil, (fun _ _ h => by cases h), List.Pairwise.nil, (fun _ _ h => by cases h), List.Pairwise.nil, (fun _ _ h => by cases h), by simp⟩

/-! ### In memory -/
def encU (n : Nat) : Value := .int .u64 n
theorem keyS : X.G.Keyed Try.prog 9 Value.string := X.G.keyed_str Try.runUnderlying9
theorem keyU : X.G.Keyed Try.prog 22 encU := X.G.keyed_nat .u64 Try.runUnderlying22
theorem keyI : X.G.Keyed Try.prog 3 (Value.int .i64) := X.G.keyed_int .i64 Try.runUnderlying3

/-- Bytes that an entry holds for itself. -/
def datRep {κ : Type} (_ : κ) (bs : List UInt8) (val : Value) : Assn := fun h => ∃ z : Option Addr × Nat, val = .slice z.1 bs.length z.2 ∧ HSat h [own 5 1 (.slice z.1 bs.length z.2) (bytesV bs)]
def bRep (_ : ByteArray) (o : Objs) (val : Value) : Assn := fun h => ∃ r : Nat, val = .map (some r) ∧ HSat h [MapAt Value.string datRep r o]
def uRep (_ : Nat) (u : UM) (val : Value) : Assn := fun h => ∃ z : Nat × Nat, val = .pointer (some ⟨z.1, 0, none⟩) ∧ HSat h [pt z.1 (.cells [.string u.bucket, .string u.key, .map (some z.2)].toArray 80 (0, 0)), MapAt (Value.int .i64) datRep z.2 u.parts]
def dRep (_ : Nat) (r : RM) (val : Value) : Assn := fun h => ∃ x : RW, (x.r = r ∧ val = .agg x.cells.toArray) ∧ HSat h [x.asn]

def bktAsns (m : Nat) (M : BM) (z : Nat × Nat × Nat) : List Assn :=
  [pt m (.cells [.map (some z.1), .map (some z.2.1), .map (some z.2.2)].toArray 62 (0, 0)), MapAt Value.string bRep z.1 M.buckets, MapAt encU uRep z.2.1 M.uploads, MapAt encU dRep z.2.2 M.done]
def BktAt (m : Nat) (M : BM) : Assn := fun h => ∃ z : Nat × Nat × Nat, HSat h (bktAsns m M z)

theorem new_spec : FSpec Try.prog 11 [] [] (fun v B => ∃ m, v = .pointer (some ⟨m, 0, none⟩) ∧ B = [BktAt m ⟨[], [], []⟩]) := by
  refine FSpec.of Try.func11 rfl Try.ntmps11 rfl fun W0 F => ?_
  refine J.seq ?_
  refine J.region ?_
  refine J.q rfl rfl (Q.asg rfl) ?_
  refine J.nil ?_
  refine J.then_n ?_
  refine J.seq ?_
  refine J.region ?_
  refine J.c rfl rfl C.mkMap ?_
  rintro _ _ ⟨b1, rfl, rfl⟩
  refine J.norm rfl ?_
  refine J.c rfl rfl C.mkMap ?_
  rintro _ _ ⟨b2, rfl, rfl⟩
  refine J.norm rfl ?_
  refine J.c rfl rfl C.mkMap ?_
  rintro _ _ ⟨b3, rfl, rfl⟩
  refine J.norm rfl ?_
  refine J.q rfl rfl (Q.bld (l := [_, _, _]) Try.runUnderlying62 Try.zeroValue62 Try.places62 rfl rfl) ?_
  refine J.c rfl rfl (C.box (l := [_, _, _]) rfl rfl) ?_
  rintro _ _ ⟨b5, rfl, rfl⟩
  refine J.norm rfl ?_
  refine J.q rfl rfl (Q.asg rfl) ?_
  refine J.nil ?_
  refine J.then_n ?_
  refine J.cret ?_
  refine J.conv (Y := MapAt encU dRep b3 []) 1 rfl MapAt.new ?_
  refine J.conv (Y := MapAt encU uRep b2 []) 2 rfl MapAt.new ?_
  refine J.conv (Y := MapAt Value.string bRep b1 []) 3 rfl MapAt.new ?_
  refine J.shut [3, 0, 1, 2] (BktAt b5 ⟨[], [], []⟩) rfl (fun h s => ⟨(b1, b2, b3), s⟩) ?_
  refine J.ret1 (B := [BktAt b5 ⟨[], [], []⟩]) rfl rfl ⟨b5, rfl, rfl⟩ rfl

theorem known_no (m : Nat) (M : BM) (x : OW) (hB : sget x.o.bucket M.buckets = none) : FSpec Try.prog 46 [.pointer (some ⟨m, 0, none⟩), .agg x.cells.toArray] [BktAt m M] (fun v B => v = .bool false ∧ B = [BktAt m M]) := by
  refine FSpec.of Try.func46 rfl Try.ntmps46 rfl fun W0 F => ?_
  refine J.seq ?_
  refine J.region ?_
  refine J.c rfl rfl (C.box (l := [_, _, _, _, _, _, _, _, _]) rfl rfl) ?_
  rintro _ _ ⟨b3, rfl, rfl⟩
  refine J.norm rfl ?_
  refine J.q rfl rfl (Q.asg rfl) ?_
  refine J.nil ?_
  refine J.then_n ?_
  refine J.seq ?_
  refine J.open1 1 rfl (fun _ h => h) fun z => ?_
  refine J.norm rfl ?_
  first
    | (refine J.mapFocus 1 hB rfl fun val => ?_
       refine J.norm rfl ?_
       refine J.open_ 0 rfl rfl (fun _ h => h) fun r hr => ?_
       subst hr
       refine J.norm rfl ?_)
    | skip
  refine J.draw [8] Try.mixed (by kernel_rfl) fun hR => ?_
  refine RG.q 0 hR rfl rfl rfl rfl rfl rfl (Q.mv rfl) ?_
  refine RG.q 1 hR rfl rfl rfl rfl rfl rfl (Q.nil_ rfl) ?_
  refine RG.q 2 hR rfl rfl rfl rfl rfl rfl (Q.fa (n := 0) Try.runUnderlying62 rfl rfl Try.sizeOf58 rfl) ?_
  refine RG.q 3 hR rfl rfl rfl rfl rfl rfl (Q.ld Try.isAgg58 rfl (by first | exact Reads.pt 0 rfl rfl | exact Reads.pt 1 rfl rfl | exact Reads.pt 2 rfl rfl | exact Reads.pt 3 rfl rfl | exact Reads.pt 4 rfl rfl | exact Reads.pt 5 rfl rfl | exact Reads.pt 6 rfl rfl | exact Reads.pt 7 rfl rfl | exact Reads.pt 8 rfl rfl | exact Reads.pt 9 rfl rfl | exact Reads.pt 10 rfl rfl | exact Reads.pt 11 rfl rfl | exact Reads.pt 12 rfl rfl | exact Reads.pt 13 rfl rfl)) ?_
  refine RG.q 4 hR rfl rfl rfl rfl rfl rfl (Q.fa (n := 2) Try.runUnderlying26 rfl rfl Try.sizeOf9 rfl) ?_
  refine RG.q 5 hR rfl rfl rfl rfl rfl rfl (Q.ld Try.isAgg9 rfl (by first | exact Reads.pt 0 rfl rfl | exact Reads.pt 1 rfl rfl | exact Reads.pt 2 rfl rfl | exact Reads.pt 3 rfl rfl | exact Reads.pt 4 rfl rfl | exact Reads.pt 5 rfl rfl | exact Reads.pt 6 rfl rfl | exact Reads.pt 7 rfl rfl | exact Reads.pt 8 rfl rfl | exact Reads.pt 9 rfl rfl | exact Reads.pt 10 rfl rfl | exact Reads.pt 11 rfl rfl | exact Reads.pt 12 rfl rfl | exact Reads.pt 13 rfl rfl)) ?_
  refine RG.q 6 hR rfl rfl rfl rfl rfl rfl (by first | exact X.G.Q.lkNo (i := 1) Try.runUnderlying58 keyS Try.zeroValue74 rfl rfl rfl hB | exact X.G.Q.lkYes (i := 1) Try.runUnderlying58 keyS Try.zeroValue74 rfl rfl rfl) ?_
  refine RG.q 7 hR rfl rfl rfl rfl rfl rfl (Q.neqm Try.runUnderlying74 rfl rfl) ?_
  refine RG.bar 8 hR rfl rfl rfl rfl rfl rfl (Q.asg rfl).toC ?_
  rintro _ _ ⟨rfl, rfl⟩
  refine RG.norm rfl ?_
  refine RG.fin hR rfl ?_
  refine J.norm rfl ?_
  refine J.then_n ?_
  refine J.cret ?_
  first
    | (refine J.shut [0] (bRep x.o.bucket objs (.map (some r))) rfl (fun h s => ⟨r, rfl, s⟩) ?_
       refine J.mapSame 0 1 ord3_str hM.bs hB rfl ?_)
    | skip
  first
    | (refine J.shut [0, 1, 2, 3] (BktAt m M) rfl (fun h s => ⟨z, s⟩) ?_
       refine J.keep [0, 2] rfl ?_
       refine J.ret1 (B := [BktAt m M]) rfl rfl ⟨rfl, rfl⟩ rfl)
    | (refine J.shut [1, 0, 2, 3] (BktAt m M) rfl (fun h s => ⟨z, s⟩) ?_
       refine J.keep [0, 2] rfl ?_
       refine J.ret1 (B := [BktAt m M]) rfl rfl ⟨rfl, rfl⟩ rfl)
theorem known_yes {k : Nat} (m : Nat) (M : BM) (hM : M.ok k) (x : OW) {objs : Objs} (hB : sget x.o.bucket M.buckets = some objs) : FSpec Try.prog 46 [.pointer (some ⟨m, 0, none⟩), .agg x.cells.toArray] [BktAt m M] (fun v B => v = .bool true ∧ B = [BktAt m M]) := by
  refine FSpec.of Try.func46 rfl Try.ntmps46 rfl fun W0 F => ?_
  refine J.seq ?_
  refine J.region ?_
  refine J.c rfl rfl (C.box (l := [_, _, _, _, _, _, _, _, _]) rfl rfl) ?_
  rintro _ _ ⟨b3, rfl, rfl⟩
  refine J.norm rfl ?_
  refine J.q rfl rfl (Q.asg rfl) ?_
  refine J.nil ?_
  refine J.then_n ?_
  refine J.seq ?_
  refine J.open1 1 rfl (fun _ h => h) fun z => ?_
  refine J.norm rfl ?_
  first
    | (refine J.mapFocus 1 hB rfl fun val => ?_
       refine J.norm rfl ?_
       refine J.open_ 0 rfl rfl (fun _ h => h) fun r hr => ?_
       subst hr
       refine J.norm rfl ?_)
    | skip
  refine J.draw [8] Try.mixed (by kernel_rfl) fun hR => ?_
  refine RG.q 0 hR rfl rfl rfl rfl rfl rfl (Q.mv rfl) ?_
  refine RG.q 1 hR rfl rfl rfl rfl rfl rfl (Q.nil_ rfl) ?_
  refine RG.q 2 hR rfl rfl rfl rfl rfl rfl (Q.fa (n := 0) Try.runUnderlying62 rfl rfl Try.sizeOf58 rfl) ?_
  refine RG.q 3 hR rfl rfl rfl rfl rfl rfl (Q.ld Try.isAgg58 rfl (by first | exact Reads.pt 0 rfl rfl | exact Reads.pt 1 rfl rfl | exact Reads.pt 2 rfl rfl | exact Reads.pt 3 rfl rfl | exact Reads.pt 4 rfl rfl | exact Reads.pt 5 rfl rfl | exact Reads.pt 6 rfl rfl | exact Reads.pt 7 rfl rfl | exact Reads.pt 8 rfl rfl | exact Reads.pt 9 rfl rfl | exact Reads.pt 10 rfl rfl | exact Reads.pt 11 rfl rfl | exact Reads.pt 12 rfl rfl | exact Reads.pt 13 rfl rfl)) ?_
  refine RG.q 4 hR rfl rfl rfl rfl rfl rfl (Q.fa (n := 2) Try.runUnderlying26 rfl rfl Try.sizeOf9 rfl) ?_
  refine RG.q 5 hR rfl rfl rfl rfl rfl rfl (Q.ld Try.isAgg9 rfl (by first | exact Reads.pt 0 rfl rfl | exact Reads.pt 1 rfl rfl | exact Reads.pt 2 rfl rfl | exact Reads.pt 3 rfl rfl | exact Reads.pt 4 rfl rfl | exact Reads.pt 5 rfl rfl | exact Reads.pt 6 rfl rfl | exact Reads.pt 7 rfl rfl | exact Reads.pt 8 rfl rfl | exact Reads.pt 9 rfl rfl | exact Reads.pt 10 rfl rfl | exact Reads.pt 11 rfl rfl | exact Reads.pt 12 rfl rfl | exact Reads.pt 13 rfl rfl)) ?_
  refine RG.q 6 hR rfl rfl rfl rfl rfl rfl (by first | exact X.G.Q.lkNo (i := 1) Try.runUnderlying58 keyS Try.zeroValue74 rfl rfl rfl hB | exact X.G.Q.lkYes (i := 1) Try.runUnderlying58 keyS Try.zeroValue74 rfl rfl rfl) ?_
  refine RG.q 7 hR rfl rfl rfl rfl rfl rfl (Q.neqm Try.runUnderlying74 rfl rfl) ?_
  refine RG.bar 8 hR rfl rfl rfl rfl rfl rfl (Q.asg rfl).toC ?_
  rintro _ _ ⟨rfl, rfl⟩
  refine RG.norm rfl ?_
  refine RG.fin hR rfl ?_
  refine J.norm rfl ?_
  refine J.then_n ?_
  refine J.cret ?_
  first
    | (refine J.shut [0] (bRep x.o.bucket objs (.map (some r))) rfl (fun h s => ⟨r, rfl, s⟩) ?_
       refine J.mapSame 0 1 ord3_str hM.bs hB rfl ?_)
    | skip
  first
    | (refine J.shut [0, 1, 2, 3] (BktAt m M) rfl (fun h s => ⟨z, s⟩) ?_
       refine J.keep [0, 2] rfl ?_
       refine J.ret1 (B := [BktAt m M]) rfl rfl ⟨rfl, rfl⟩ rfl)
    | (refine J.shut [1, 0, 2, 3] (BktAt m M) rfl (fun h s => ⟨z, s⟩) ?_
       refine J.keep [0, 2] rfl ?_
       refine J.ret1 (B := [BktAt m M]) rfl rfl ⟨rfl, rfl⟩ rfl)

/-! ### The table -/
def tabM (m : Nat) : List (Int × Value) := [(1, .func (.func 33) #[.pointer (some ⟨m, 0, none⟩)] #[]), (2, .func (.func 34) #[.pointer (some ⟨m, 0, none⟩)] #[]), (3, .func (.func 35) #[.pointer (some ⟨m, 0, none⟩)] #[]), (4, .func (.func 36) #[.pointer (some ⟨m, 0, none⟩)] #[]), (5, .func (.func 37) #[.pointer (some ⟨m, 0, none⟩)] #[]),
  (6, .func (.func 38) #[.pointer (some ⟨m, 0, none⟩)] #[]), (7, .func (.func 39) #[.pointer (some ⟨m, 0, none⟩)] #[]), (8, .func (.func 40) #[.pointer (some ⟨m, 0, none⟩)] #[]), (9, .func (.func 41) #[.pointer (some ⟨m, 0, none⟩)] #[]), (10, .func (.func 42) #[.pointer (some ⟨m, 0, none⟩)] #[])]

theorem tab_step {r : Nat} {S : List (Int × Value)} {k : Int} {v : Value} (hS : Srtd ltI S) : ∀ h, MapHole (Value.int .i64) plainRep r (sput ltI k v S) k v h → MapAt (Value.int .i64) plainRep r (sput ltI k v S) h := by
  intro h hh
  have h1 := MapHole.back (rep := plainRep) (v' := v) ord3_int (X.G.srtd_put ord3_int hS k v) h (X.G.HSat.two (h1 := fun _ => none) (show plainRep k v v (fun _ => none) from rfl) hh (fun _ => Or.inl rfl) (fun _ _ e => nomatch e) (Sub.refl _))
  rwa [X.G.sput_put ord3_int hS] at h1

theorem tabIns {L : Slots} {A : List Assn} {ty : TypeId} {x y z : Operand} {r : Nat} {S : List (Int × Value)} {k : Int} {val : Value} (i : Nat) (hS : Srtd ltI S) (ex : ev L x = some (.map (some r))) (ey : ev L y = some (.int .i64 k)) (ez : ev L z = some val)
    (hA : A[i]? = some (MapAt (Value.int .i64) plainRep r S)) : OpC Try.prog (.insert 66 x y z) ty L A (fun u B => ∃ S', S' = sput ltI k val S ∧ Srtd ltI S' ∧ u = undef ∧ B = A.set i (MapAt (Value.int .i64) plainRep r S')) := by
  refine (X.G.C.mapIns (rep := plainRep) i val ord3_int hS Try.runUnderlying66 keyI ex ey ez hA).shutTo ?_
  rintro u B ⟨rfl, rfl⟩
  refine ⟨_, ⟨_, rfl, X.G.srtd_put ord3_int hS _ _, rfl, rfl⟩, fun h s => ?_⟩
  have h1 := set_imp s (X := MapHole (Value.int .i64) plainRep r (sput ltI k val S) k val) (i := i) (by simp [(List.getElem?_eq_some_iff.1 hA).1]) (tab_step hS)
  rwa [List.set_set] at h1

theorem table_spec (m : Nat) : FSpec Try.prog 26 [.pointer (some ⟨m, 0, none⟩)] [] (fun v B => ∃ r, v = .map (some r) ∧ B = [MapAt (Value.int .i64) plainRep r (tabM m)]) := by
  refine FSpec.of Try.func26 rfl Try.ntmps26 rfl fun W0 F => ?_
  refine J.seq ?_
  refine J.region ?_
  refine J.q rfl rfl (Q.asg rfl) ?_
  refine J.nil ?_
  refine J.then_n ?_
  refine J.seq ?_
  refine J.region ?_
  refine J.c rfl rfl C.mkMap ?_
  rintro _ _ ⟨b3, rfl, rfl⟩
  refine J.norm rfl ?_
  refine J.conv (Y := MapAt (Value.int .i64) plainRep b3 []) 0 rfl MapAt.new ?_
  obtain ⟨S, hE, hS⟩ : ∃ S : List (Int × Value), S = [] ∧ Srtd ltI S := ⟨[], rfl, List.Pairwise.nil⟩
  rw [← hE]
  refine J.q rfl rfl (Q.mv rfl) ?_
  refine J.q rfl rfl (Q.func rfl rfl) ?_
  refine J.c0 rfl (tabIns 0 hS rfl rfl rfl rfl) ?_
  rintro _ _ ⟨S, hE, hS, rfl, rfl⟩
  refine J.norm rfl ?_
  refine J.q rfl rfl (Q.mv rfl) ?_
  refine J.q rfl rfl (Q.func rfl rfl) ?_
  refine J.c0 rfl (tabIns 0 hS rfl rfl rfl rfl) ?_
  rintro _ _ ⟨S, hE, hS, rfl, rfl⟩
  refine J.norm rfl ?_
  refine J.q rfl rfl (Q.mv rfl) ?_
  refine J.q rfl rfl (Q.func rfl rfl) ?_
  refine J.c0 rfl (tabIns 0 hS rfl rfl rfl rfl) ?_
  rintro _ _ ⟨S, hE, hS, rfl, rfl⟩
  refine J.norm rfl ?_
  refine J.q rfl rfl (Q.mv rfl) ?_
  refine J.q rfl rfl (Q.func rfl rfl) ?_
  refine J.c0 rfl (tabIns 0 hS rfl rfl rfl rfl) ?_
  rintro _ _ ⟨S, hE, hS, rfl, rfl⟩
  refine J.norm rfl ?_
  refine J.q rfl rfl (Q.mv rfl) ?_
  refine J.q rfl rfl (Q.func rfl rfl) ?_
  refine J.c0 rfl (tabIns 0 hS rfl rfl rfl rfl) ?_
  rintro _ _ ⟨S, hE, hS, rfl, rfl⟩
  refine J.norm rfl ?_
  refine J.q rfl rfl (Q.mv rfl) ?_
  refine J.q rfl rfl (Q.func rfl rfl) ?_
  refine J.c0 rfl (tabIns 0 hS rfl rfl rfl rfl) ?_
  rintro _ _ ⟨S, hE, hS, rfl, rfl⟩
  refine J.norm rfl ?_
  refine J.q rfl rfl (Q.mv rfl) ?_
  refine J.q rfl rfl (Q.func rfl rfl) ?_
  refine J.c0 rfl (tabIns 0 hS rfl rfl rfl rfl) ?_
  rintro _ _ ⟨S, hE, hS, rfl, rfl⟩
  refine J.norm rfl ?_
  refine J.q rfl rfl (Q.mv rfl) ?_
  refine J.q rfl rfl (Q.func rfl rfl) ?_
  refine J.c0 rfl (tabIns 0 hS rfl rfl rfl rfl) ?_
  rintro _ _ ⟨S, hE, hS, rfl, rfl⟩
  refine J.norm rfl ?_
  refine J.q rfl rfl (Q.mv rfl) ?_
  refine J.q rfl rfl (Q.func rfl rfl) ?_
  refine J.c0 rfl (tabIns 0 hS rfl rfl rfl rfl) ?_
  rintro _ _ ⟨S, hE, hS, rfl, rfl⟩
  refine J.norm rfl ?_
  refine J.q rfl rfl (Q.mv rfl) ?_
  refine J.q rfl rfl (Q.func rfl rfl) ?_
  refine J.c0 rfl (tabIns 0 hS rfl rfl rfl rfl) ?_
  rintro _ _ ⟨S, hE, hS, rfl, rfl⟩
  refine J.norm rfl ?_
  refine J.q rfl rfl (Q.mv rfl) ?_
  refine J.q rfl rfl (Q.asg rfl) ?_
  refine J.nil ?_
  refine J.then_n ?_
  refine J.cret ?_
  have e : S = tabM m := by subst_vars; simp [sput, tabM]
  refine J.ret1 (B := [MapAt (Value.int .i64) plainRep b3 (tabM m)]) rfl rfl ⟨b3, rfl, rfl⟩ (by rw [e]; rfl)
end Go.Proofs.Ytdancegklkifaaa
