/-
  The disk's functions: Append, Read, Unsynced, New, Lose.
-/
import Derived.Test.YtkekcdcmmggbaaaDiskA
namespace Go.Proofs.Ytkekcdcmmggbaaa
open Go.X

/-- A copy of bytes. -/
theorem clone_spec (G : Assn) (sp : Option Addr) (sc : Nat) (bs : List UInt8) (hs : SlR [G] 1 (.slice sp bs.length sc) (bytesV bs)) (hn : bs.length ≤ 140737488355328) :
    FSpec Try.prog 33 [.slice sp bs.length sc] [G] (fun v B => ∃ sp' sc', v = .slice sp' bs.length sc' ∧ B = [own 5 1 (.slice sp' bs.length sc') (bytesV bs), G]) := by
  refine FSpec.of Try.func33 rfl Try.ntmps33 rfl fun W0 F => ?_
  refine J.seq ?_
  refine J.region ?_
  refine J.q rfl rfl (Q.asg rfl) ?_
  refine J.nil ?_
  refine J.then_n ?_
  refine J.seq ?_
  refine J.seq ?_
  refine J.region ?_
  refine J.q rfl rfl (Q.mv rfl) ?_
  refine J.q rfl rfl (Q.eqlsl Try.runUnderlying30 rfl rfl) ?_
  refine J.nil ?_
  refine J.then_n ?_
  refine J.cond rfl (fun hc4 => ?_) (fun hc4 => ?_)
  ·
    first | replace hc4 := X.tt_dec hc4 | replace hc4 := X.tt_not hc4 | replace hc4 := X.ff_dec hc4 | replace hc4 := X.ff_not hc4 | skip
    refine J.seq ?_
    refine J.region ?_
    refine J.q rfl rfl (Q.asg rfl) ?_
    refine J.nil ?_
    refine J.then_n ?_
    refine J.cret ?_
    refine J.then_r ?_
    have hb : bs = [] := by
      cases sp with
      | none =>
        rcases hs with ⟨_, c, e, hx⟩ | ⟨b, off, len, cap, e, _⟩
        · simpa [bytesV] using hx
        · cases e
      | some a => simp at hc4
    subst hb
    refine J.give (own.nil 5 1 _) ?_
    refine J.ret1 (B := [own 5 1 (.slice none 0 0) [], G]) rfl rfl ⟨none, 0, rfl, rfl⟩ rfl
  ·
    first | replace hc4 := X.tt_dec hc4 | replace hc4 := X.tt_not hc4 | replace hc4 := X.ff_dec hc4 | replace hc4 := X.ff_not hc4 | skip
    refine J.cskip ?_
    refine J.then_n ?_
    refine J.seq ?_
    refine J.region ?_
    refine J.c rfl rfl (C.bslG (l := []) Try.runUnderlying30 Try.sizeOf5 Try.zeroValue5 (by decide) rfl rfl rfl rfl rfl) ?_
    rintro _ _ ⟨b5, rfl, rfl⟩
    refine J.norm rfl ?_
    refine J.conv (Y := own 5 1 (.slice (some ⟨b5, 0, none⟩) 0 0) []) 0 rfl (own.of_pt rfl (Nat.le_refl _) (by simp) (by simp) (by simp)) ?_
    refine J.q rfl rfl (Q.mv rfl) ?_
    refine J.c rfl rfl (C.app (i := 0) Try.runUnderlying30 Try.runUnderlying30 Try.typeInfo5 Try.sizeOf5 Try.zeroValue5 rfl rfl rfl (hs.within (i := 1) rfl) (bytesV_one bs) (by rw [show Try.t5.bytes = 1 from rfl]; omega) (by decide)) ?_
    rintro _ _ ⟨p7, c7, rfl, rfl⟩
    refine J.norm rfl ?_
    refine J.q rfl rfl (Q.asg rfl) ?_
    refine J.nil ?_
    refine J.then_n ?_
    refine J.cret ?_
    refine J.ret1 (B := [own 5 1 (.slice p7 (0 + bs.length) c7) ([] ++ bytesV bs), G]) rfl rfl ⟨p7, c7, by rw [Nat.zero_add], by rw [Nat.zero_add, List.nil_append]⟩ rfl

/-- Bytes that are handed in. -/
structure Part where
  sp : Option Addr
  sc : Nat
  bs : List UInt8
def Part.val (q : Part) : Value := .slice q.sp q.bs.length q.sc
def pcat : List Part → List UInt8
  | [] => []
  | q :: l => q.bs ++ pcat l
theorem pcat_snoc (l : List Part) (q : Part) : pcat (l ++ [q]) = pcat l ++ q.bs := by
  induction l with
  | nil => simp [pcat]
  | cons x l ih => simp [pcat, ih]
theorem pcat_take {l : List Part} {k : Nat} {q : Part} (h : l[k]? = some q) : pcat (l.take (k + 1)) = pcat (l.take k) ++ q.bs := by
  obtain ⟨h1, h2⟩ := List.getElem?_eq_some_iff.1 h
  rw [List.take_succ_eq_append_getElem h1, h2, pcat_snoc]
theorem pcat_app (l m : List Part) : pcat (l ++ m) = pcat l ++ pcat m := by
  induction l with
  | nil => simp [pcat]
  | cons x l ih => simp [pcat, ih]
theorem pcat_le (l : List Part) (k : Nat) : (pcat (l.take k)).length ≤ (pcat l).length := by
  conv => rhs; rw [← List.take_append_drop k l, pcat_app]
  simp

def fens (n : ByteArray) (l : List FM) : List FM := match fget n l with | some _ => l | none => l ++ [⟨n, [], 0⟩]
def fput (n : ByteArray) (bs : List UInt8) (l : List FM) : List FM := match fget n (fens n l) with | some f => fset ⟨n, f.bs ++ bs, f.sy⟩ (fens n l) | none => l
def DM.append (d : DM) (name : ByteArray) (bs : List UInt8) : Int × DM :=
  if nameOK name.data.toList = false then (1, d) else if d.size < d.used + bs.length then (5, d) else (0, { d with files := fput name bs d.files })

theorem found_of {n : ByteArray} {xs : List FW} (i : Nat) (y : FW) (h : fget n (xs.map (·.f)) = none) (e : i = xs.length) (hy : y.f.name = n) : Found n (xs ++ [y]) i y := by
  subst e
  induction xs with
  | nil => refine ⟨rfl, hy, ?_, ?_, fun g hg => by simp [fset, hg, hy], ?_, ?_, ?_, ?_⟩ <;> simp [mget, fget, fdel, mdel, mset, kidx, FW.ent, hy]
  | cons x xs ih =>
    simp only [List.map_cons, fget] at h
    split at h
    · cases h
    · rename_i hne
      have e : ¬ n = (FW.ent x).key := hne
      obtain ⟨h1, h2, h3, h4, h5, h6, h7, h8, h9⟩ := ih h
      refine ⟨by simp, h2, ?_, ?_, ?_, ?_, ?_, ?_, by simp only [List.cons_append, List.map_cons, kidx, hne, if_false, h9, Option.map_some, List.length_cons]⟩
      · simp only [List.cons_append, List.map_cons, X.mget, e, if_false, h3]
      · simp only [List.cons_append, List.map_cons, Ytkekcdcmmggbaaa.fget, hne, if_false, h4]
      · intro g hg
        have : ¬ g.name = x.f.name := by rw [hg]; exact hne
        simp only [List.cons_append, List.map_cons, Ytkekcdcmmggbaaa.fset, this, if_false, h5 g hg, List.length_cons, List.set_cons_succ]
      · simp only [List.cons_append, List.map_cons, Ytkekcdcmmggbaaa.fdel, hne, if_false, h6, List.length_cons, List.eraseIdx_cons_succ]
      · simp only [List.cons_append, List.map_cons, X.mdel, e, if_false, h7, List.length_cons, List.eraseIdx_cons_succ]
      · intro v; simp only [List.cons_append, List.map_cons, X.mset, e, if_false, h8 v, List.length_cons, List.set_cons_succ]

/-- A disk that has a file of the name, with that file at hand. -/
structure AtFile (d : DM) (name : ByteArray) where
  x : DW
  i : Nat
  y : FW
  ok : x.ok { d with files := fens name d.files }
  found : Found name x.fs i y

def AtFile.asns {d : DM} {name : ByteArray} (t : AtFile d name) (p : Nat) (bs : List UInt8) (sp : Option Addr) (sc : Nat) : List Assn :=
  [pt t.y.p (.cells [.slice sp bs.length sc, .int .i64 t.y.f.sy].toArray 71 (0, 0)), own 5 1 (.slice sp bs.length sc) (bytesV bs), star ((t.x.fs.eraseIdx t.i).map FW.asn),
   pt p (.cells [.int .i64 d.size, .int .i64 d.used, .int .i64 d.born, .map (some t.x.r)].toArray 67 (0, 0)), pt t.x.r (mobj (t.x.fs.map FW.ent) t.x.c)]

theorem fens_lost {n : ByteArray} {l : List FM} (h : fget n l = none) : fens n l = l ++ [⟨n, [], 0⟩] := by unfold fens; rw [h]
theorem fens_found {n : ByteArray} {l : List FM} {f : FM} (h : fget n l = some f) : fens n l = l := by unfold fens; rw [h]
theorem lenSum_fens (n : ByteArray) (l : List FM) : lenSum (fens n l) = lenSum l := by
  unfold fens; split
  · rfl
  · rw [lenSum_append]; simp [lenSum]

theorem append_spec (p : Nat) (d : DM) (hd : d.wf) (name : ByteArray) (hnm : name.size ≤ 140737488355328) (G : Assn) (pp : Option Addr) (pn pc : Nat) (parts : List Part) (hp : SlR [G] 1 (.slice pp pn pc) (parts.map Part.val)) (hpn : pn ≤ 1000000)
    (hq : ∀ q, q ∈ parts → SlR [G] 1 q.val (bytesV q.bs)) (htot : (pcat parts).length ≤ 1099511627776) :
    FSpec Try.prog 10 [.pointer (some ⟨p, 0, none⟩), .string name, .slice pp pn pc] [DiskAt p d, G] (fun v B => v = .int .i64 (d.append name (pcat parts)).1 ∧ B = [DiskAt p (d.append name (pcat parts)).2, G]) := by
  refine FSpec.of Try.func10 rfl Try.ntmps10 rfl fun W0 F => ?_
  refine J.seq ?_
  refine J.region ?_
  refine J.q rfl rfl (Q.asg rfl) ?_
  refine J.nil ?_
  refine J.then_n ?_
  refine J.seq ?_
  refine J.region ?_
  refine J.q rfl rfl (Q.asg rfl) ?_
  refine J.nil ?_
  refine J.then_n ?_
  refine J.seq ?_
  refine J.seq ?_
  refine J.region ?_
  refine J.q rfl rfl (Q.mv rfl) ?_
  refine J.q rfl rfl (Q.lenSl Try.runUnderlying68 rfl) ?_
  refine J.q rfl rfl (Q.mv rfl) ?_
  refine J.nil ?_
  refine J.then_n ?_
  refine J.block ?_
  have hlen : parts.length = pn := by have := hp.len; simpa using this
  refine J.loop (fun k : Nat => k ≤ pn) (fun k => pn - k) (fun k => [(0, .pointer (some ⟨p, 0, none⟩)), (1, .string name), (2, .slice pp pn pc), (13, .slice pp pn pc), (14, .int .i64 pn), (15, .int .i64 k), (7, .int .i64 (pcat (parts.take k)).length)]) (fun _ => [DiskAt p d, G, F]) 0 (by omega) ⟨rfl, rfl, rfl, rfl, rfl, rfl, rfl, trivial⟩ rfl fun k hk => ?_
  refine J.seq ?_
  refine J.region ?_
  refine J.q rfl rfl (Q.lss rfl rfl) ?_
  refine J.nil ?_
  refine J.then_n ?_
  refine J.seq ?_
  refine J.cond rfl (fun hc16 => ?_) (fun hc16 => ?_)
  ·
    first | replace hc16 := X.tt_dec hc16 | replace hc16 := X.tt_not hc16 | replace hc16 := X.ff_dec hc16 | replace hc16 := X.ff_not hc16 | skip
    refine J.cskip ?_
    refine J.then_n ?_
    refine J.seq ?_
    refine J.block ?_
    refine J.seq ?_
    refine J.region ?_
    obtain ⟨b, off, rfl, hrd⟩ := hp.some_ (by omega)
    obtain ⟨q, hqk⟩ : ∃ q, parts[k]? = some q := ⟨_, List.getElem?_eq_getElem (by omega)⟩
    have hps := congrArg List.length (pcat_take hqk)
    rw [List.length_append] at hps
    have hle := pcat_le parts (k + 1)
    refine J.q rfl rfl (Q.ia Try.runUnderlying68 Try.sizeOf30 rfl rfl (by omega) (by omega)) ?_
    refine J.q rfl rfl (Q.ld Try.isAgg30 rfl (((hrd k q.val (by simp [hqk])).within (i := 1) rfl).cast (by simp))) ?_
    refine J.q rfl rfl (Q.asg rfl) ?_
    refine J.nil ?_
    refine J.then_n ?_
    refine J.region ?_
    refine J.q rfl rfl (Q.mv rfl) ?_
    refine J.q rfl rfl (Q.mv rfl) ?_
    refine J.q rfl rfl (Q.lenSl Try.runUnderlying30 rfl) ?_
    refine J.q rfl rfl (Q.add64 rfl rfl (by omega)) ?_
    refine J.q rfl rfl (Q.asg rfl) ?_
    refine J.nil ?_
    refine J.blk_n ?_
    refine J.then_n ?_
    refine J.region ?_
    refine J.q rfl rfl (Q.add64 rfl rfl (by omega)) ?_
    refine J.q rfl rfl (Q.mv rfl) ?_
    refine J.nil ?_
    refine J.again (k + 1) (by omega) (by omega) ⟨rfl, rfl, rfl, rfl, rfl, rfl, by rw [hps]; rfl, trivial⟩ rfl
  ·
    first | replace hc16 := X.tt_dec hc16 | replace hc16 := X.tt_not hc16 | replace hc16 := X.ff_dec hc16 | replace hc16 := X.ff_not hc16 | skip
    refine J.exit ?_
    refine J.then_x ?_
    refine J.lp_x ?_
    refine J.blk_x ?_
    refine J.then_n ?_
    refine J.seq ?_
    refine J.block ?_
    refine J.seq ?_
    refine J.region ?_
    have hkn : k = pn := by omega
    subst hkn
    rw [List.take_of_length_le (by omega)]
    refine J.q rfl rfl (Q.mv rfl) ?_
    refine J.call Try.call30 (name_spec name hnm) [] rfl rfl rfl rfl ?_
    rintro _ _ ⟨rfl, rfl⟩
    refine J.norm rfl ?_
    refine J.q rfl rfl (Q.not rfl) ?_
    refine J.q rfl rfl (Q.asg rfl) ?_
    refine J.nil ?_
    refine J.then_n ?_
    refine J.cond rfl (fun hc24 => ?_) (fun hc24 => ?_)
    ·
      first | replace hc24 := X.tt_dec hc24 | replace hc24 := X.tt_not hc24 | replace hc24 := X.ff_dec hc24 | replace hc24 := X.ff_not hc24 | skip
      refine J.seq ?_
      refine J.region ?_
      refine J.q rfl rfl (Q.asg rfl) ?_
      refine J.nil ?_
      refine J.then_n ?_
      refine J.cret ?_
      refine J.blk_r ?_
      refine J.then_r ?_
      have hno : nameOK name.data.toList = false := by simpa using hc24
      have hap : d.append name (pcat parts) = (1, d) := by unfold DM.append; rw [if_pos hno]
      refine J.ret1 (B := [DiskAt p d, G]) rfl rfl ⟨by rw [hap], by rw [hap]⟩ rfl
    ·
      first | replace hc24 := X.tt_dec hc24 | replace hc24 := X.tt_not hc24 | replace hc24 := X.ff_dec hc24 | replace hc24 := X.ff_not hc24 | skip
      refine J.seq ?_
      have hok : nameOK name.data.toList = true := by simpa using hc24
      refine J.open_ 0 rfl rfl DiskAt.open_ fun x hx => ?_
      refine J.norm rfl ?_
      have hu := hd.used
      have hsz := hd.size
      refine J.draw [11] Try.mixed (by kernel_rfl) fun hR => ?_
      refine RG.q 0 hR rfl rfl rfl rfl rfl rfl (Q.mv rfl) ?_
      refine RG.q 1 hR rfl rfl rfl rfl rfl rfl (Q.nil_ rfl) ?_
      refine RG.q 2 hR rfl rfl rfl rfl rfl rfl (Q.fa (n := 1) Try.runUnderlying67 rfl rfl Try.sizeOf3 rfl) ?_
      refine RG.q 3 hR rfl rfl rfl rfl rfl rfl (Q.ld Try.isAgg3 rfl (by first | exact Reads.pt 0 rfl rfl | exact Reads.pt 1 rfl rfl | exact Reads.pt 2 rfl rfl | exact Reads.pt 3 rfl rfl | exact Reads.pt 4 rfl rfl | exact Reads.pt 5 rfl rfl | exact Reads.pt 6 rfl rfl | exact Reads.pt 7 rfl rfl)) ?_
      refine RG.q 4 hR rfl rfl rfl rfl rfl rfl (Q.mv rfl) ?_
      refine RG.q 5 hR rfl rfl rfl rfl rfl rfl (Q.add64 rfl rfl (by omega)) ?_
      refine RG.q 6 hR rfl rfl rfl rfl rfl rfl (Q.mv rfl) ?_
      refine RG.q 7 hR rfl rfl rfl rfl rfl rfl (Q.nil_ rfl) ?_
      refine RG.q 8 hR rfl rfl rfl rfl rfl rfl (Q.fa (n := 0) Try.runUnderlying67 rfl rfl Try.sizeOf3 rfl) ?_
      refine RG.q 9 hR rfl rfl rfl rfl rfl rfl (Q.ld Try.isAgg3 rfl (by first | exact Reads.pt 0 rfl rfl | exact Reads.pt 1 rfl rfl | exact Reads.pt 2 rfl rfl | exact Reads.pt 3 rfl rfl | exact Reads.pt 4 rfl rfl | exact Reads.pt 5 rfl rfl | exact Reads.pt 6 rfl rfl | exact Reads.pt 7 rfl rfl)) ?_
      refine RG.q 10 hR rfl rfl rfl rfl rfl rfl (Q.gtr rfl rfl) ?_
      refine RG.bar 11 hR rfl rfl rfl rfl rfl rfl (Q.asg rfl).toC ?_
      rintro _ _ ⟨rfl, rfl⟩
      refine RG.norm rfl ?_
      refine RG.fin hR rfl ?_
      refine J.norm rfl ?_
      refine J.then_n ?_
      refine J.cond rfl (fun hc28 => ?_) (fun hc28 => ?_)
      ·
        first | replace hc28 := X.tt_dec hc28 | replace hc28 := X.tt_not hc28 | replace hc28 := X.ff_dec hc28 | replace hc28 := X.ff_not hc28 | skip
        refine J.seq ?_
        refine J.region ?_
        refine J.q rfl rfl (Q.asg rfl) ?_
        refine J.nil ?_
        refine J.then_n ?_
        refine J.cret ?_
        refine J.blk_r ?_
        refine J.then_r ?_
        have hap : d.append name (pcat parts) = (5, d) := by unfold DM.append; rw [if_neg (by rw [hok]; simp), if_pos (by omega)]
        refine J.shut [0, 1, 2] (DiskAt p d) rfl (fun h s => ⟨x, hx, s⟩) ?_
        refine J.ret1 (B := [DiskAt p d, G]) rfl rfl ⟨by rw [hap], by rw [hap]⟩ rfl
      ·
        first | replace hc28 := X.tt_dec hc28 | replace hc28 := X.tt_not hc28 | replace hc28 := X.ff_dec hc28 | replace hc28 := X.ff_not hc28 | skip
        refine J.cskip ?_
        refine J.blk_n ?_
        refine J.then_n ?_
        refine J.seq ?_
        refine J.region ?_
        refine J.q rfl rfl (Q.mv rfl) ?_
        refine J.q rfl rfl (Q.nil_ rfl) ?_
        refine J.q rfl rfl (Q.fa (n := 3) Try.runUnderlying67 rfl rfl Try.sizeOf65 rfl) ?_
        refine J.q rfl rfl (Q.ld Try.isAgg65 rfl (by first | exact Reads.pt 0 rfl rfl | exact Reads.pt 1 rfl rfl | exact Reads.pt 2 rfl rfl | exact Reads.pt 3 rfl rfl | exact Reads.pt 4 rfl rfl | exact Reads.pt 5 rfl rfl | exact Reads.pt 6 rfl rfl | exact Reads.pt 7 rfl rfl)) ?_
        refine J.q rfl rfl (Q.mv rfl) ?_
        obtain ⟨o, ho, hlk⟩ := look' name x.fs
        refine J.q rfl rfl (Q.lk (i := 1) Try.runUnderlying65 Try.runUnderlying9 Try.zeroValue69 rfl rfl rfl ho) ?_
        refine J.q rfl rfl (Q.asg rfl) ?_
        refine J.nil ?_
        refine J.then_n ?_
        have hfull : ¬ d.size < d.used + (pcat parts).length := by omega
        refine J.cut (fun _ : AtFile d name => True) (fun t : AtFile d name => [(0, .pointer (some ⟨p, 0, none⟩)), (1, .string name), (2, .slice pp k pc), (7, .int .i64 (pcat parts).length), (10, t.y.ptr)]) (fun t : AtFile d name => t.asns p t.y.f.bs t.y.sp t.y.sc ++ [G, F]) ?_ fun t _ => ?_
        ·
          refine J.seq ?_
          refine J.region ?_
          refine J.q rfl rfl (Q.mv rfl) ?_
          refine J.q rfl rfl (Q.eqlp Try.runUnderlying69 rfl rfl) ?_
          refine J.nil ?_
          refine J.then_n ?_
          refine J.cond rfl (fun hc47 => ?_) (fun hc47 => ?_)
          ·
            first | replace hc47 := X.tt_dec hc47 | replace hc47 := X.tt_not hc47 | replace hc47 := X.ff_dec hc47 | replace hc47 := X.ff_not hc47 | skip
            obtain ⟨rfl, hl⟩ := look_none hlk hc47
            refine J.seq ?_
            refine J.region ?_
            refine J.q rfl rfl (Q.bld (l := [_, _]) Try.runUnderlying71 Try.zeroValue71 Try.places71 rfl rfl) ?_
            refine J.c rfl rfl (C.box (l := [_, _]) rfl rfl) ?_
            rintro _ _ ⟨b49, rfl, rfl⟩
            refine J.norm rfl ?_
            refine J.q rfl rfl (Q.asg rfl) ?_
            refine J.nil ?_
            refine J.then_n ?_
            refine J.region ?_
            refine J.q rfl rfl (Q.mv rfl) ?_
            refine J.q rfl rfl (Q.nil_ rfl) ?_
            refine J.q rfl rfl (Q.fa (n := 3) Try.runUnderlying67 rfl rfl Try.sizeOf65 rfl) ?_
            refine J.q rfl rfl (Q.ld Try.isAgg65 rfl (by first | exact Reads.pt 0 rfl rfl | exact Reads.pt 1 rfl rfl | exact Reads.pt 2 rfl rfl | exact Reads.pt 3 rfl rfl | exact Reads.pt 4 rfl rfl | exact Reads.pt 5 rfl rfl | exact Reads.pt 6 rfl rfl | exact Reads.pt 7 rfl rfl)) ?_
            refine J.q rfl rfl (Q.mv rfl) ?_
            refine J.q rfl rfl (Q.mv rfl) ?_
            refine J.c0 rfl (C.mput (i := 2) Try.runUnderlying65 Try.runUnderlying9 rfl rfl rfl rfl) ?_
            rintro _ _ ⟨rfl, rfl⟩
            refine J.norm rfl ?_
            refine J.nil ?_
            have hmp : mput name (Value.pointer (some ⟨b49, 0, none⟩)) (x.fs.map FW.ent) x.c = ((x.fs ++ [(⟨⟨name, [], 0⟩, b49, none, 0, x.c⟩ : FW)]).map FW.ent, x.c + 1) := by
              unfold mput; rw [hl.mget]; simp [FW.ent, FW.ptr]
            have her : (x.fs ++ [(⟨⟨name, [], 0⟩, b49, none, 0, x.c⟩ : FW)]).eraseIdx x.fs.length = x.fs := by rw [List.eraseIdx_append_of_length_le (Nat.le_refl _)]; simp
            have hxok : DW.ok ⟨x.r, x.c + 1, x.fs ++ [⟨⟨name, [], 0⟩, b49, none, 0, x.c⟩]⟩ { d with files := fens name d.files } := by
              refine ⟨?_, ?_, ?_⟩
              · show _ = fens name d.files
                rw [fens_lost (by rw [← hx.files]; exact hl.fget), ← hx.files]; simp
              · rw [List.map_append, List.nodup_append]
                refine ⟨hx.nodup, by simp, ?_⟩
                intro a ha b hb
                simp only [List.map_cons, List.map_nil, List.mem_singleton] at hb
                simp only [List.mem_map] at ha
                obtain ⟨f, hf, rfl⟩ := ha
                have := hx.born f hf
                omega
              · intro f hf
                rcases List.mem_append.1 hf with hf | hf
                · have := hx.born f hf; show f.born < x.c + 1; omega
                · simp only [List.mem_singleton] at hf; subst hf; show x.c < x.c + 1; omega
            refine J.give (own.nil 5 1 _) ?_
            refine J.pick [1, 0, 4, 2, 3] rfl ?_
            refine J.meet (⟨⟨x.r, x.c + 1, x.fs ++ [⟨⟨name, [], 0⟩, b49, none, 0, x.c⟩]⟩, x.fs.length, ⟨⟨name, [], 0⟩, b49, none, 0, x.c⟩, hxok, found_of _ _ hl.fget rfl rfl⟩ : AtFile d name) trivial ⟨rfl, rfl, rfl, rfl, rfl, trivial⟩ ?_
            rw [hmp]
            unfold AtFile.asns
            rw [her]
            rfl
          ·
            first | replace hc47 := X.tt_dec hc47 | replace hc47 := X.tt_not hc47 | replace hc47 := X.ff_dec hc47 | replace hc47 := X.ff_not hc47 | skip
            obtain ⟨i, y, rfl, hl⟩ := look_some hlk hc47
            refine J.cskip ?_
            have hxok : x.ok { d with files := fens name d.files } := ⟨by rw [fens_found (by rw [← hx.files]; exact hl.fget)]; exact hx.files, hx.nodup, hx.born⟩
            refine J.focus 2 i rfl hl.at_ ?_
            refine J.conv (Y := star y.asns) 0 rfl (fun _ h => h) ?_
            refine J.unpack 0 rfl rfl ?_
            refine J.meet (⟨x, i, y, hxok, hl⟩ : AtFile d name) trivial ⟨rfl, rfl, rfl, rfl, rfl, trivial⟩ ?_
            rfl
        ·
          refine J.seq ?_
          refine J.seq ?_
          refine J.region ?_
          refine J.q rfl rfl (Q.mv rfl) ?_
          refine J.q rfl rfl (Q.lenSl Try.runUnderlying68 rfl) ?_
          refine J.q rfl rfl (Q.mv rfl) ?_
          refine J.nil ?_
          refine J.then_n ?_
          refine J.block ?_
          have hu := hd.used
          have hsz := hd.size
          have hyb : t.y.f.bs.length ≤ d.used := by
            have h1 : t.y.f ∈ t.x.fs.map (·.f) := List.mem_map_of_mem (List.mem_of_getElem? t.found.at_)
            rw [t.ok.files] at h1
            have h2 := lenSum_mem h1
            change t.y.f.bs.length ≤ lenSum (fens name d.files) at h2
            rw [lenSum_fens] at h2; exact h2
          refine J.loop (fun z : Nat × Option Addr × Nat => z.1 ≤ k) (fun z => k - z.1) (fun z => [(0, .pointer (some ⟨p, 0, none⟩)), (7, .int .i64 (pcat parts).length), (10, t.y.ptr), (56, .slice pp k pc), (57, .int .i64 k), (58, .int .i64 z.1)]) (fun z => t.asns p (t.y.f.bs ++ pcat (parts.take z.1)) z.2.1 z.2.2 ++ [G, F]) (0, t.y.sp, t.y.sc) (by simp) ⟨rfl, rfl, rfl, rfl, rfl, rfl, trivial⟩ (by simp [pcat]) fun z hz => ?_
          refine J.norm rfl ?_
          replace hz : z.1 ≤ k := hz
          refine J.seq ?_
          refine J.region ?_
          refine J.q rfl rfl (Q.lss rfl rfl) ?_
          refine J.nil ?_
          refine J.then_n ?_
          refine J.seq ?_
          refine J.cond rfl (fun hc59 => ?_) (fun hc59 => ?_)
          ·
            first | replace hc59 := X.tt_dec hc59 | replace hc59 := X.tt_not hc59 | replace hc59 := X.ff_dec hc59 | replace hc59 := X.ff_not hc59 | skip
            refine J.cskip ?_
            refine J.then_n ?_
            refine J.seq ?_
            refine J.block ?_
            refine J.seq ?_
            refine J.region ?_
            obtain ⟨b, off, rfl, hrd⟩ := hp.some_ (by omega)
            obtain ⟨q, hqk⟩ : ∃ q, parts[z.1]? = some q := ⟨_, List.getElem?_eq_getElem (by omega)⟩
            have hps := pcat_take hqk
            have hle := pcat_le parts (z.1 + 1)
            have hle' := congrArg List.length hps
            rw [List.length_append] at hle'
            refine J.q rfl rfl (Q.ia Try.runUnderlying68 Try.sizeOf30 rfl rfl (by omega) (by omega)) ?_
            refine J.q rfl rfl (Q.ld Try.isAgg30 rfl (((hrd z.1 q.val (by simp [hqk])).within (i := 5) rfl).cast (by simp))) ?_
            refine J.q rfl rfl (Q.asg rfl) ?_
            refine J.nil ?_
            refine J.then_n ?_
            refine J.region ?_
            refine J.q rfl rfl (Q.mv rfl) ?_
            refine J.q rfl rfl (Q.mv rfl) ?_
            refine J.q rfl rfl (Q.nil_ rfl) ?_
            refine J.q rfl rfl (Q.fa (n := 0) Try.runUnderlying71 rfl rfl Try.sizeOf30 rfl) ?_
            refine J.q rfl rfl (Q.ld Try.isAgg30 rfl (by first | exact Reads.pt 0 rfl rfl | exact Reads.pt 1 rfl rfl | exact Reads.pt 2 rfl rfl | exact Reads.pt 3 rfl rfl | exact Reads.pt 4 rfl rfl | exact Reads.pt 5 rfl rfl | exact Reads.pt 6 rfl rfl | exact Reads.pt 7 rfl rfl)) ?_
            refine J.q rfl rfl (Q.mv rfl) ?_
            refine J.c rfl rfl (C.app (i := 1) Try.runUnderlying30 Try.runUnderlying30 Try.typeInfo5 Try.sizeOf5 Try.zeroValue5 rfl rfl rfl ((hq q (List.mem_of_getElem? hqk)).within (i := 5) rfl) (bytesV_one q.bs) (by rw [show Try.t5.bytes = 1 from rfl, List.length_append]; omega) (by decide)) ?_
            rintro _ _ ⟨p68, c68, rfl, rfl⟩
            refine J.norm rfl ?_
            refine J.q rfl rfl (Q.nil_ rfl) ?_
            refine J.q rfl rfl (Q.fa (n := 0) Try.runUnderlying71 rfl rfl Try.sizeOf30 rfl) ?_
            first | refine J.st (i := 0) rfl Try.sizeOf30 rfl rfl rfl rfl rfl rfl rfl ?_ | refine J.st (i := 1) rfl Try.sizeOf30 rfl rfl rfl rfl rfl rfl rfl ?_ | refine J.st (i := 2) rfl Try.sizeOf30 rfl rfl rfl rfl rfl rfl rfl ?_ | refine J.st (i := 3) rfl Try.sizeOf30 rfl rfl rfl rfl rfl rfl rfl ?_ | refine J.st (i := 4) rfl Try.sizeOf30 rfl rfl rfl rfl rfl rfl rfl ?_ | refine J.st (i := 5) rfl Try.sizeOf30 rfl rfl rfl rfl rfl rfl rfl ?_
            refine J.nil ?_
            refine J.blk_n ?_
            refine J.then_n ?_
            refine J.region ?_
            refine J.q rfl rfl (Q.add64 rfl rfl (by omega)) ?_
            refine J.q rfl rfl (Q.mv rfl) ?_
            refine J.nil ?_
            refine J.again (z.1 + 1, p68, c68) (by show z.1 + 1 ≤ k; omega) (by show k - (z.1 + 1) < k - z.1; omega) ⟨rfl, rfl, rfl, rfl, rfl, rfl, trivial⟩ ?_
            simp only [AtFile.asns, hps, bytesV_append, List.length_append, List.append_assoc, Nat.add_assoc]
            rfl
          ·
            first | replace hc59 := X.tt_dec hc59 | replace hc59 := X.tt_not hc59 | replace hc59 := X.ff_dec hc59 | replace hc59 := X.ff_not hc59 | skip
            refine J.exit ?_
            refine J.then_x ?_
            refine J.lp_x ?_
            refine J.blk_x ?_
            refine J.then_n ?_
            refine J.seq ?_
            refine J.region ?_
            refine J.q rfl rfl (Q.mv rfl) ?_
            refine J.q rfl rfl (Q.nil_ rfl) ?_
            refine J.q rfl rfl (Q.fa (n := 1) Try.runUnderlying67 rfl rfl Try.sizeOf3 rfl) ?_
            refine J.q rfl rfl (Q.ld Try.isAgg3 rfl (by first | exact Reads.pt 0 rfl rfl | exact Reads.pt 1 rfl rfl | exact Reads.pt 2 rfl rfl | exact Reads.pt 3 rfl rfl | exact Reads.pt 4 rfl rfl | exact Reads.pt 5 rfl rfl | exact Reads.pt 6 rfl rfl | exact Reads.pt 7 rfl rfl)) ?_
            refine J.q rfl rfl (Q.mv rfl) ?_
            refine J.q rfl rfl (Q.add64 rfl rfl (by omega)) ?_
            refine J.q rfl rfl (Q.nil_ rfl) ?_
            refine J.q rfl rfl (Q.fa (n := 1) Try.runUnderlying67 rfl rfl Try.sizeOf3 rfl) ?_
            first | refine J.st (i := 0) rfl Try.sizeOf3 rfl rfl rfl rfl rfl rfl rfl ?_ | refine J.st (i := 1) rfl Try.sizeOf3 rfl rfl rfl rfl rfl rfl rfl ?_ | refine J.st (i := 2) rfl Try.sizeOf3 rfl rfl rfl rfl rfl rfl rfl ?_ | refine J.st (i := 3) rfl Try.sizeOf3 rfl rfl rfl rfl rfl rfl rfl ?_ | refine J.st (i := 4) rfl Try.sizeOf3 rfl rfl rfl rfl rfl rfl rfl ?_ | refine J.st (i := 5) rfl Try.sizeOf3 rfl rfl rfl rfl rfl rfl rfl ?_
            refine J.nil ?_
            refine J.then_n ?_
            refine J.seq ?_
            refine J.region ?_
            refine J.q rfl rfl (Q.asg rfl) ?_
            refine J.nil ?_
            refine J.then_n ?_
            refine J.cret ?_
            have hzk : z.1 = k := by omega
            have hall : parts.take k = parts := List.take_of_length_le (by omega)
            rw [hzk, hall]
            have hnf : nameOK name.data.toList = true := hok
            obtain ⟨hxok, hent⟩ := DW.put t.ok t.found.at_ ⟨⟨name, t.y.f.bs ++ pcat parts, t.y.f.sy⟩, t.y.p, z.2.1, z.2.2, t.y.born⟩ t.found.name.symm rfl rfl
            have hget : fget name (fens name d.files) = some t.y.f := by have := t.found.fget; rwa [t.ok.files] at this
            have hset := t.found.fset ⟨name, t.y.f.bs ++ pcat parts, t.y.f.sy⟩ rfl
            rw [t.ok.files] at hset
            have hput : fput name (pcat parts) d.files = (fens name d.files).set t.i ⟨name, t.y.f.bs ++ pcat parts, t.y.f.sy⟩ := by unfold fput; rw [hget]; exact hset
            have hat : (fens name d.files)[t.i]? = some t.y.f := by
              have h1 : (t.x.fs.map (·.f))[t.i]? = some t.y.f := by rw [List.getElem?_map, t.found.at_]; rfl
              rwa [t.ok.files] at h1
            have hus : ((d.used : Int) + (pcat parts).length) = ((lenSum (fput name (pcat parts) d.files) : Nat) : Int) := by
              have h1 := lenSum_set (g := ⟨name, t.y.f.bs ++ pcat parts, t.y.f.sy⟩) hat
              rw [lenSum_fens, ← hput, List.length_append] at h1
              have h2 : lenSum d.files = d.used := rfl
              omega
            have hap : d.append name (pcat parts) = (0, { d with files := fput name (pcat parts) d.files }) := by unfold DM.append; rw [if_neg (by rw [hnf]; simp), if_neg hfull]
            refine J.pack [0, 1] rfl ?_
            refine J.conv (Y := FW.asn ⟨⟨name, t.y.f.bs ++ pcat parts, t.y.f.sy⟩, t.y.p, z.2.1, z.2.2, t.y.born⟩) 0 rfl (fun _ h => h) ?_
            refine J.unfocus 0 1 t.i ⟨⟨name, t.y.f.bs ++ pcat parts, t.y.f.sy⟩, t.y.p, z.2.1, z.2.2, t.y.born⟩ rfl (List.getElem?_eq_some_iff.1 t.found.at_).1 ?_
            refine J.shut [1, 2, 0] (DiskAt p { d with files := fput name (pcat parts) d.files }) rfl (fun h s => ⟨⟨t.x.r, t.x.c, t.x.fs.set t.i ⟨⟨name, t.y.f.bs ++ pcat parts, t.y.f.sy⟩, t.y.p, z.2.1, z.2.2, t.y.born⟩⟩, by rw [hput]; exact hxok, by unfold DW.asns; rw [hent]; rw [hus] at s; exact s⟩) ?_
            refine J.ret1 (B := [DiskAt p { d with files := fput name (pcat parts) d.files }, G]) rfl rfl ⟨by rw [hap], by rw [hap]⟩ rfl

end Go.Proofs.Ytkekcdcmmggbaaa
