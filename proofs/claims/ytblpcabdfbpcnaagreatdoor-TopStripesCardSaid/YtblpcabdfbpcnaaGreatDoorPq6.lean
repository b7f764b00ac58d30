/-
  TopStripes' card: for every input, where the listed package variables start as the program's text lays them, the law returns true, and the input reads as it did.
-/
import Derived.Test.YtblpcabdfbpcnaaGreatDoorRows
import Derived.KernelRfl
import Derived.Test.YtblpcabdfbpcnaaGreatDoorProg
import Derived.WalkKit
import Derived.Shelf.SortM.Plain
import Derived.Shelf.SortM.SortNone
import Derived.Ground.SlgmProg
import Derived.Shelf.Strconv.Clone
import Derived.Ground.MpProg
import Derived.LaidEql
import Derived.Stop.Asserts
import Derived.RowKitTokens
import Derived.LaidLaws
import Derived.ProofKit
import Derived.OpenShut
import Derived.ShutString
import Derived.ChangeOld
import Derived.Below
import Derived.WideShapes
import Derived.ChangeArms
import Derived.Stop.LaidTwo
import Derived.LaidMore
import Derived.Stop.Joined
import Derived.JoinedCond
import Derived.LaidByTextLater
import Derived.SevenTiedAt
import Derived.Test.YtblpcabdfbpcnaaGreatDoorCards
import Derived.Test.YtblpcabdfbpcnaaGreatDoorPq5
set_option linter.unusedSectionVars false
set_option linter.unusedVariables false
set_option linter.unusedSimpArgs false
namespace Go.Proofs.YtblpcabdfbpcnaaGreatDoor.Dk
open Go.X Go.X.T

def DM.hasAll (d : DM) (names : List ByteArray) : Bool := names.all fun s => (fget s d.files).isSome
def fsync (n : ByteArray) (l : List FM) : List FM := match fget n l with | some f => fset ⟨n, f.bs, f.bs.length⟩ l | none => l
def fsyncs (names : List ByteArray) (l : List FM) : List FM := names.foldl (fun l n => fsync n l) l
def DM.sync (d : DM) (names : List ByteArray) : Int × DM := if d.hasAll names then (0, { d with files := fsyncs names d.files }) else (4, d)
def fdels (names : List ByteArray) (l : List FM) : List FM := names.foldl (fun l n => fdel n l) l
def DM.delete (d : DM) (names : List ByteArray) : Int × DM := if d.hasAll names then (0, { d with files := fdels names d.files }) else (4, d)

theorem foldl_take {α β : Type} (f : β → α → β) {l : List α} {k : Nat} {a : α} (b : β) (h : l[k]? = some a) : (l.take (k + 1)).foldl f b = f ((l.take k).foldl f b) a := by
  obtain ⟨h1, h2⟩ := List.getElem?_eq_some_iff.1 h
  rw [List.take_succ_eq_append_getElem h1, h2, List.foldl_append]; rfl

theorem fsyncs_take {names : List ByteArray} {k : Nat} {n : ByteArray} (h : names[k]? = some n) {l : List FM} : fsyncs (names.take (k + 1)) l = fsync n (fsyncs (names.take k) l) := foldl_take _ _ h
theorem fsync_of {n : ByteArray} {l : List FM} {f : FM} (h : fget n l = some f) : fsync n l = fset ⟨n, f.bs, f.bs.length⟩ l := by unfold fsync; rw [h]
theorem fdels_take {names : List ByteArray} {k : Nat} {n : ByteArray} (h : names[k]? = some n) (l : List FM) : fdels (names.take (k + 1)) l = fdel n (fdels (names.take k) l) := foldl_take _ _ h

theorem fget_name {n : ByteArray} : ∀ {l : List FM} {f : FM}, fget n l = some f → f.name = n
  | [], _, h => by cases h
  | x :: l, f, h => by
    simp only [fget] at h
    split at h
    · rename_i e; cases h; exact e.symm
    · exact fget_name h
theorem fget_fset (n : ByteArray) (g : FM) : ∀ l : List FM, (fget n (fset g l)).isSome = (fget n l).isSome
  | [] => rfl
  | x :: l => by
    simp only [fset]
    split
    · rename_i e
      simp only [fget, e]
      split <;> rfl
    · simp only [fget]
      split
      · rfl
      · exact fget_fset n g l
theorem fget_fsync (n m : ByteArray) (l : List FM) : (fget n (fsync m l)).isSome = (fget n l).isSome := by
  unfold fsync; split
  · exact fget_fset n _ l
  · rfl
theorem fget_fsyncs (n : ByteArray) : ∀ (names : List ByteArray) (l : List FM), (fget n (fsyncs names l)).isSome = (fget n l).isSome
  | [], l => rfl
  | m :: ns, l => by
    show (fget n (fsyncs ns (fsync m l))).isSome = _
    rw [fget_fsyncs n ns, fget_fsync]
theorem lenSum_fset {n : ByteArray} {g : FM} : ∀ {l : List FM} {f : FM}, fget n l = some f → g.name = n → lenSum (fset g l) + f.bs.length = lenSum l + g.bs.length
  | [], _, h, _ => by cases h
  | x :: l, f, h, e => by
    simp only [fget] at h
    simp only [fset, e]
    split at h
    · rename_i e'
      cases h
      rw [if_pos e']; simp only [lenSum]; omega
    · rename_i e'
      rw [if_neg e']
      have := lenSum_fset (l := l) h e
      simp only [lenSum]; omega
theorem lenSum_fsync (n : ByteArray) (l : List FM) : lenSum (fsync n l) = lenSum l := by
  unfold fsync; split
  · rename_i f h
    have := lenSum_fset (g := ⟨n, f.bs, f.bs.length⟩) h rfl
    simp only at this; omega
  · rfl
theorem lenSum_fsyncs : ∀ (names : List ByteArray) (l : List FM), lenSum (fsyncs names l) = lenSum l
  | [], l => rfl
  | m :: ns, l => by
    show lenSum (fsyncs ns (fsync m l)) = _
    rw [lenSum_fsyncs ns, lenSum_fsync]
theorem fget_mem {n : ByteArray} : ∀ {l : List FM} {f : FM}, fget n l = some f → f ∈ l
  | [], _, h => by cases h
  | x :: l, f, h => by
    simp only [fget] at h
    split at h
    · cases h; simp
    · exact List.mem_cons_of_mem _ (fget_mem h)

theorem DiskAt.of_put {p : Nat} {d : DM} {x : DW} (ok : x.ok d) {i : Nat} {y : FW} {n : ByteArray} (hf : Found n x.fs i y) (y' : FW) (hn : y'.f.name = n) (hp : y'.p = y.p) (hb : y'.born = y.born) {u : Int} (hu : u = ((lenSum (fset y'.f d.files) : Nat) : Int)) :
    ∀ h, HSat h [star ((x.fs.set i y').map FW.asn), pt p (.cells [.int .i64 d.size, .int .i64 u, .int .i64 d.born, .map (some x.r)].toArray 78 (0, 0)), pt x.r (mobj (x.fs.map FW.ent) x.c)] → DiskAt p { d with files := fset y'.f d.files } h := by
  intro h s
  obtain ⟨hok, hent⟩ := DW.put ok hf.at_ y' (by rw [hn, hf.name]) hp hb
  have hset := hf.fset y'.f hn
  rw [ok.files] at hset
  refine ⟨⟨x.r, x.c, x.fs.set i y'⟩, by rw [hset]; exact hok, ?_⟩
  unfold DW.asns
  rw [hent]
  subst hu
  exact HSat.perm ((List.Perm.swap _ _ _).trans ((List.Perm.swap _ _ _).cons _)) s

theorem lenSum_fdel {n : ByteArray} : ∀ {l : List FM} {f : FM}, fget n l = some f → lenSum (fdel n l) + f.bs.length = lenSum l
  | [], _, h => by cases h
  | x :: l, f, h => by
    simp only [fget] at h
    simp only [fdel]
    split at h
    · rename_i e'; cases h; rw [if_pos e']; simp only [lenSum]; omega
    · rename_i e'
      rw [if_neg e']
      have := lenSum_fdel (l := l) h
      simp only [lenSum]; omega
theorem fdel_none {n : ByteArray} : ∀ {l : List FM}, fget n l = none → fdel n l = l
  | [], _ => rfl
  | x :: l, h => by
    simp only [fget] at h
    simp only [fdel]
    split at h
    · cases h
    · rename_i e; rw [if_neg e, fdel_none h]
theorem lenSum_fdel_le (n : ByteArray) (l : List FM) : lenSum (fdel n l) ≤ lenSum l := by
  cases h : fget n l with
  | none => rw [fdel_none h]; exact Nat.le_refl _
  | some f => have := lenSum_fdel h; omega
theorem lenSum_fdels_le : ∀ (names : List ByteArray) (l : List FM), lenSum (fdels names l) ≤ lenSum l
  | [], _ => Nat.le_refl _
  | n :: ns, l => Nat.le_trans (lenSum_fdels_le ns (fdel n l)) (lenSum_fdel_le n l)

theorem eraseIdx_map' {α β : Type} (g : α → β) : ∀ (l : List α) (i : Nat), (l.map g).eraseIdx i = (l.eraseIdx i).map g
  | [], _ => rfl
  | _ :: _, 0 => rfl
  | a :: l, i + 1 => by simp only [List.map_cons, List.eraseIdx_cons_succ, eraseIdx_map' g l i]

theorem star_erase {xs : List FW} {i : Nat} {y : FW} (h : xs[i]? = some y) (k : Hp) (s : HSat k (xs.map FW.asn)) : HSat k ((xs.eraseIdx i).map FW.asn) := (s.perm (perm_focus FW.asn h)).tail

theorem DW.del {x : DW} {d : DM} (ok : x.ok d) {i : Nat} {y : FW} {n : ByteArray} (hf : Found n x.fs i y) : DW.ok ⟨x.r, x.c, x.fs.eraseIdx i⟩ { d with files := fdel n d.files } ∧ mdel n (x.fs.map FW.ent) = (x.fs.eraseIdx i).map FW.ent := by
  have he : ∀ {β : Type} (g : FW → β), (x.fs.map g).eraseIdx i = (x.fs.eraseIdx i).map g := by
    intro β g
    generalize x.fs = l
    exact eraseIdx_map' g l i
  refine ⟨⟨?_, ?_, ?_⟩, by rw [hf.mdel, he]⟩
  · show (x.fs.eraseIdx i).map (·.f) = fdel n d.files
    have := hf.fdel
    rw [ok.files] at this
    rw [this, ← ok.files, he]
  · show ((x.fs.eraseIdx i).map (·.born)).Nodup
    rw [← he]; exact (List.eraseIdx_sublist _ _).nodup ok.nodup
  · intro f hf'
    exact ok.born f ((List.eraseIdx_sublist _ _).mem hf')

theorem sync_spec (p : Nat) (d : DM) (G : Assn) (sp : Option Addr) (sn sc : Nat) (names : List ByteArray) (hs : SlR [G] 1 (.slice sp sn sc) (names.map Value.string)) (hn : sn ≤ 140737488355328) :
    FSpec Tryz.prog 28 [.pointer (some ⟨p, 0, none⟩), .slice sp sn sc] [DiskAt p d, G] (fun v B => v = .int .i64 (d.sync names).1 ∧ B = [DiskAt p (d.sync names).2, G]) := by
  refine FSpec.of Tryz.func28 rfl Tryz.ntmps28 rfl fun W0 F => ?_
  refine J.seq <| J.region <| J.p rfl (Q.asg rfl) <| J.nil <| J.then_n <| J.seq <| J.seq <| J.region <| J.m rfl <| J.m rfl ?_
  refine J.call Tryz.call61 (all_spec p d G sp sn sc names hs hn) [0, 1] rfl rfl rfl rfl ?_
  rintro _ _ ⟨rfl, rfl⟩
  refine J.norm rfl <| J.p rfl (Q.not rfl) <| J.nil <| J.then_n ?_
  refine J.kases 10 rfl (fun hc10 => ?_) (fun hc10 => ?_)
  ·
   refine J.cond_t rfl <| J.seq <| J.region <| J.p rfl (Q.asg rfl) <| J.nil <| J.then_n <| J.cret <| J.then_r ?_
   have hno : d.hasAll names = false := by simpa [DM.hasAll] using hc10
   have hap : d.sync names = (4, d) := by unfold DM.sync; rw [hno]; rfl
   refine J.ret1 (B := [DiskAt p d, G]) rfl rfl ⟨by rw [hap], by rw [hap]⟩ rfl
  refine J.cond_f rfl <| J.cskip <| J.then_n <| J.seq <| J.seq <| J.region <| J.m rfl <| J.p rfl (Q.lenSl Tryz.runUnderlying116 rfl) <| J.m rfl <| J.nil <| J.then_n <| J.block ?_
  have hall : d.hasAll names = true := by
    cases h : d.hasAll names with
    | true => rfl
    | false => unfold DM.hasAll at h; rw [h] at hc10; cases hc10
  have hlen : names.length = sn := by have := hs.len; simpa using this
  refine J.loop (fun k : Nat => k ≤ sn) (fun k => sn - k) (fun k => [(0, .pointer (some ⟨p, 0, none⟩)), (11, .slice sp sn sc), (12, .int .i64 sn), (13, .int .i64 k)]) (fun k => [DiskAt p { d with files := fsyncs (names.take k) d.files }, G, F]) 0 (by omega) ⟨rfl, rfl, rfl, rfl, trivial⟩ rfl fun k hk => ?_
  refine J.seq <| J.region <| J.p rfl (Q.lss rfl rfl) <| J.nil <| J.then_n <| J.seq ?_
  refine J.kases 14 rfl (fun hc14 => ?_) (fun hc14 => ?_)
  ·
   refine J.cond_t rfl <| J.cskip <| J.then_n <| J.seq <| J.block <| J.seq <| J.region ?_
   obtain ⟨b, off, rfl, hrd⟩ := hs.some_ (by omega)
   obtain ⟨nm, hnm⟩ : ∃ nm, names[k]? = some nm := ⟨_, List.getElem?_eq_getElem (by omega)⟩
   refine J.p rfl (Q.ia Tryz.runUnderlying116 Tryz.sizeOf9 rfl rfl (by omega) (by omega)) ?_
   refine J.p rfl (Q.ld Tryz.isAgg9 rfl (((hrd k (.string nm) (by simp [hnm])).within (i := 1) rfl).cast (by simp))) ?_
   refine J.p rfl (Q.asg rfl) <| J.nil <| J.then_n ?_
   refine J.open_ 0 rfl rfl DiskAt.open_ fun x hx => ?_
   refine J.norm rfl ?_
   obtain ⟨o, ho, hlk⟩ := look' nm x.fs
   have hsome : (fget nm (fsyncs (names.take k) d.files)).isSome = true := by
     rw [fget_fsyncs]
     unfold DM.hasAll at hall
     rw [List.all_eq_true] at hall
     exact hall nm (List.mem_of_getElem? hnm)
   have hol : o.isNone = false := by
     rcases hlk with ⟨rfl, hl⟩ | ⟨i, y, rfl, hl⟩
     · have := hl.fget; rw [hx.files] at this; rw [this] at hsome; cases hsome
     · rfl
   obtain ⟨i, y, rfl, hl⟩ := look_some hlk hol
   have hg : fget nm (fsyncs (names.take k) d.files) = some y.f := by have := hl.fget; rwa [hx.files] at this
   refine J.focus 2 i rfl hl.at_ ?_
   refine J.conv (Y := star y.asns) 0 rfl (fun _ h => h) ?_
   refine J.unpack 0 rfl rfl ?_
   refine J.draw [18] Tryz.mixed (by kernel_rfl) fun hR => ?_
   refine RG.p 0 hR rfl (Q.mv rfl) <| RG.p 1 hR rfl (Q.nil_ rfl) <| RG.p 2 hR rfl (Q.fa (n := 3) Tryz.runUnderlying78 rfl rfl Tryz.sizeOf76 rfl) ?_
   refine RG.p 3 hR rfl (Q.ldI Tryz.isAgg76 rfl) ?_
   refine RG.p 4 hR rfl (Q.mv rfl) ?_
   refine RG.p 5 hR rfl (Q.lk (i := 4) Tryz.runUnderlying76 Tryz.runUnderlying9 Tryz.zeroValue146 rfl rfl rfl ho) ?_
   refine RG.p 6 hR rfl (Q.mv rfl) <| RG.p 7 hR rfl (Q.nil_ rfl) <| RG.p 8 hR rfl (Q.fa (n := 3) Tryz.runUnderlying78 rfl rfl Tryz.sizeOf76 rfl) ?_
   refine RG.p 9 hR rfl (Q.ldI Tryz.isAgg76 rfl) ?_
   refine RG.p 10 hR rfl (Q.mv rfl) ?_
   refine RG.p 11 hR rfl (Q.lk (i := 4) Tryz.runUnderlying76 Tryz.runUnderlying9 Tryz.zeroValue146 rfl rfl rfl ho) ?_
   refine RG.p 12 hR rfl (Q.nil_ rfl) <| RG.p 13 hR rfl (Q.fa (n := 0) Tryz.runUnderlying148 rfl rfl Tryz.sizeOf22 rfl) ?_
   refine RG.p 14 hR rfl (Q.ldI Tryz.isAgg22 rfl) ?_
   refine RG.p 15 hR rfl (Q.lenSl Tryz.runUnderlying22 rfl) <| RG.p 16 hR rfl (Q.nil_ rfl) <| RG.p 17 hR rfl (Q.fa (n := 1) Tryz.runUnderlying148 rfl rfl Tryz.sizeOf3 rfl) ?_
   refine RG.stI 18 hR rfl rfl rfl rfl rfl Tryz.sizeOf3 rfl rfl rfl (by exact rfl) (by exact rfl) (by exact rfl) ?_
   refine RG.fin hR rfl ?_
   refine J.norm rfl <| J.blk_n <| J.then_n <| J.region <| J.p rfl (Q.add64 rfl rfl (by omega)) <| J.m rfl <| J.nil ?_
   have hfs : fsyncs (names.take (k + 1)) d.files = fset ⟨nm, y.f.bs, y.f.bs.length⟩ (fsyncs (names.take k) d.files) := by
     rw [fsyncs_take hnm, fsync_of hg]
   refine J.pack [0, 1] rfl ?_
   refine J.conv (Y := FW.asn ⟨⟨nm, y.f.bs, y.f.bs.length⟩, y.p, y.sp, y.sc, y.born⟩) 0 rfl (fun _ h => h) ?_
   refine J.unfocus 0 1 i ⟨⟨nm, y.f.bs, y.f.bs.length⟩, y.p, y.sp, y.sc, y.born⟩ rfl (List.getElem?_eq_some_iff.1 hl.at_).1 ?_
   refine J.shut [0, 1, 2] (DiskAt p { d with files := fset ⟨nm, y.f.bs, y.f.bs.length⟩ (fsyncs (names.take k) d.files) }) rfl (DiskAt.of_put (d := { d with files := fsyncs (names.take k) d.files }) hx hl ⟨⟨nm, y.f.bs, y.f.bs.length⟩, y.p, y.sp, y.sc, y.born⟩ rfl rfl rfl (by
     have h1 := lenSum_fset (g := ⟨nm, y.f.bs, y.f.bs.length⟩) hg rfl
     simp only at h1
     show ((lenSum (fsyncs (names.take k) d.files) : Nat) : Int) = ((lenSum (fset ⟨nm, y.f.bs, y.f.bs.length⟩ (fsyncs (names.take k) d.files)) : Nat) : Int)
     omega)) ?_
   refine J.again (k + 1) (by omega) (by omega) ⟨rfl, rfl, rfl, rfl, trivial⟩ ?_
   rw [hfs]
  refine J.cond_f rfl <| J.exit <| J.then_x <| J.lp_x <| J.blk_x <| J.then_n <| J.seq <| J.region <| J.p rfl (Q.asg rfl) <| J.nil <| J.then_n <| J.cret ?_
  have hkn : k = sn := by omega
  have hap : d.sync names = (0, { d with files := fsyncs (names.take k) d.files }) := by unfold DM.sync; rw [hall, List.take_of_length_le (by omega)]; rfl
  refine J.ret1 (B := [DiskAt p { d with files := fsyncs (names.take k) d.files }, G]) rfl rfl ⟨by rw [hap], by rw [hap]⟩ rfl

theorem kidx_append {k : ByteArray} : ∀ {l : List ByteArray} {i : Nat}, kidx k l = some i → ∀ m, kidx k (l ++ m) = some i
  | [], _, h, _ => by cases h
  | n :: l, i, h, m => by
    simp only [List.cons_append, kidx] at h ⊢
    split at h
    · rename_i e; rw [if_pos e]; exact h
    · rename_i e
      rw [if_neg e]
      cases hk : kidx k l with
      | none => rw [hk] at h; cases h
      | some j => rw [hk] at h; rw [kidx_append hk m]; exact h

def frename (a b : ByteArray) (f : FM) (l : List FM) : List FM :=
  fdel a (match fget b l with | some _ => fset ⟨b, f.bs, f.sy⟩ l | none => l ++ [⟨b, f.bs, f.sy⟩])
def DM.rename (d : DM) (a b : ByteArray) : Int × DM :=
  match fget a d.files with
  | none => (4, d)
  | some f => if nameOK b.data.toList = false then (1, d) else if a = b then (0, d) else (0, { d with files := frename a b f d.files })

theorem rename_over {x : DW} {d : DM} (ok : x.ok d) {i j : Nat} {y z : FW} {a b : ByteArray} (hy : Found a x.fs i y) (hz : Found b x.fs j z) :
    ∃ fs, DW.ok ⟨x.r, x.c, fs⟩ { d with files := frename a b y.f d.files } ∧ mdel a (mset b y.ptr (x.fs.map FW.ent)) = fs.map FW.ent ∧ ∀ k, HSat k (x.fs.map FW.asn) → HSat k (fs.map FW.asn) := by
  obtain ⟨y2, hy2⟩ : ∃ y2 : FW, y2 = ⟨⟨b, y.f.bs, y.f.sy⟩, y.p, y.sp, y.sc, z.born⟩ := ⟨_, rfl⟩
  have hnm : (x.fs.set j y2).map (·.f.name) = x.fs.map (·.f.name) := map_set_same hz.at_ (by rw [hy2, hz.name])
  have hok1 : DW.ok ⟨x.r, x.c, x.fs.set j y2⟩ { d with files := fset ⟨b, y.f.bs, y.f.sy⟩ d.files } := by
    refine ⟨?_, ?_, ?_⟩
    · show (x.fs.set j y2).map (·.f) = fset ⟨b, y.f.bs, y.f.sy⟩ d.files
      have := hz.fset ⟨b, y.f.bs, y.f.sy⟩ rfl
      rw [ok.files] at this
      rw [this, List.map_set, ok.files, hy2]
    · show ((x.fs.set j y2).map (·.born)).Nodup
      rw [map_set_same hz.at_ (by rw [hy2])]; exact ok.nodup
    · intro f hf
      rcases List.mem_or_eq_of_mem_set hf with h | rfl
      · exact ok.born f h
      · rw [hy2]; exact ok.born z (List.mem_of_getElem? hz.at_)
  obtain ⟨y3, hy3⟩ := Found.of_idx (xs := x.fs.set j y2) (k := a) (i := i) (by rw [hnm]; exact hy.idx)
  obtain ⟨hok2, hmd⟩ := DW.del hok1 hy3
  refine ⟨(x.fs.set j y2).eraseIdx i, ?_, ?_, ?_⟩
  · have hfr : frename a b y.f d.files = fdel a (fset ⟨b, y.f.bs, y.f.sy⟩ d.files) := by
      unfold frename
      have := hz.fget; rw [ok.files] at this; rw [this]
    rw [hfr]; exact hok2
  · rw [← hmd]
    congr 1
    rw [hz.mset, List.map_set]
    congr 1
    rw [hy2]; rfl
  · intro k s
    have hij : i ≠ j ∨ i = j := by omega
    have h1 : HSat k ((x.fs.eraseIdx j).map FW.asn) := star_erase hz.at_ k s
    have hlt : j < x.fs.length := (List.getElem?_eq_some_iff.1 hz.at_).1
    have hj : (x.fs.set j y2)[j]? = some y2 := by simp [hlt]
    have e1 : (x.fs.set j y2).eraseIdx j = x.fs.eraseIdx j := by rw [List.eraseIdx_set_eq]
    have p1 := perm_focus FW.asn hj
    have p2 := perm_focus FW.asn hy3.at_
    rw [e1] at p1
    have ha : FW.asn y3 = FW.asn y2 := by
      rcases Nat.lt_or_ge i j with h | h
      · have h3 : (x.fs.set j y2)[i]? = some y := by rw [List.getElem?_set_ne (by omega)]; exact hy.at_
        rw [hy3.at_] at h3; cases h3; rw [hy2]; rfl
      · rcases Nat.eq_or_lt_of_le h with rfl | h
        · have := hy3.at_; rw [hj] at this; cases this; rfl
        · have h3 : (x.fs.set j y2)[i]? = some y := by rw [List.getElem?_set_ne (by omega)]; exact hy.at_
          rw [hy3.at_] at h3; cases h3; rw [hy2]; rfl
    rw [ha] at p2
    exact h1.perm ((List.perm_cons _).1 (p1.symm.trans p2))

theorem rename_new {x : DW} {d : DM} (ok : x.ok d) {i : Nat} {y : FW} {a b : ByteArray} (hy : Found a x.fs i y) (hz : Lost b x.fs) :
    ∃ fs, DW.ok ⟨x.r, x.c + 1, fs⟩ { d with files := frename a b y.f d.files } ∧ mdel a (x.fs.map FW.ent ++ [⟨b, y.ptr, x.c⟩]) = fs.map FW.ent ∧ ∀ k, HSat k (x.fs.map FW.asn) → HSat k (fs.map FW.asn) := by
  obtain ⟨y2, hy2⟩ : ∃ y2 : FW, y2 = ⟨⟨b, y.f.bs, y.f.sy⟩, y.p, y.sp, y.sc, x.c⟩ := ⟨_, rfl⟩
  have hok1 : DW.ok ⟨x.r, x.c + 1, x.fs ++ [y2]⟩ { d with files := d.files ++ [⟨b, y.f.bs, y.f.sy⟩] } := by
    refine ⟨?_, ?_, ?_⟩
    · show (x.fs ++ [y2]).map (·.f) = d.files ++ [⟨b, y.f.bs, y.f.sy⟩]
      rw [List.map_append, ok.files, hy2]; rfl
    · show ((x.fs ++ [y2]).map (·.born)).Nodup
      rw [List.map_append, List.nodup_append]
      refine ⟨ok.nodup, by simp, ?_⟩
      intro u hu v hv
      simp only [List.map_cons, List.map_nil, List.mem_singleton] at hv
      simp only [List.mem_map] at hu
      obtain ⟨f, hf, rfl⟩ := hu
      have := ok.born f hf
      rw [hv, hy2]; show f.born ≠ x.c; omega
    · intro f hf
      rcases List.mem_append.1 hf with hf | hf
      · have := ok.born f hf; show f.born < x.c + 1; omega
      · simp only [List.mem_singleton] at hf; subst hf; rw [hy2]; show x.c < x.c + 1; omega
  obtain ⟨y3, hy3⟩ := Found.of_idx (xs := x.fs ++ [y2]) (k := a) (i := i) (by rw [List.map_append]; exact kidx_append hy.idx _)
  obtain ⟨hok2, hmd⟩ := DW.del hok1 hy3
  refine ⟨(x.fs ++ [y2]).eraseIdx i, ?_, ?_, ?_⟩
  · have hfr : frename a b y.f d.files = fdel a (d.files ++ [⟨b, y.f.bs, y.f.sy⟩]) := by
      unfold frename
      have := hz.fget; rw [ok.files] at this; rw [this]
    rw [hfr]; exact hok2
  · rw [← hmd, List.map_append, hy2]; rfl
  · intro k s
    have p2 := perm_focus FW.asn hy3.at_
    have hlt : i < x.fs.length := (List.getElem?_eq_some_iff.1 hy.at_).1
    have h3 : (x.fs ++ [y2])[i]? = some y := by rw [List.getElem?_append_left hlt]; exact hy.at_
    have ha : FW.asn y3 = FW.asn y2 := by
      have := hy3.at_; rw [h3] at this; cases this; rw [hy2]; rfl
    have p1 : ((x.fs ++ [y2]).map FW.asn).Perm (FW.asn y2 :: x.fs.map FW.asn) := by
      rw [List.map_append]; exact List.perm_append_singleton _ _
    rw [ha] at p2
    exact s.perm ((List.perm_cons _).1 (p1.symm.trans p2))

theorem fget_fset_ne {a : ByteArray} {g : FM} (h : a ≠ g.name) : ∀ {l : List FM} {f : FM}, fget a l = some f → ∃ f', fget a (fset g l) = some f' ∧ f'.bs.length = f.bs.length
  | [], _, e => by cases e
  | x :: l, f, e => by
    simp only [fget] at e
    simp only [fset]
    by_cases hx : a = x.name
    · rw [if_pos hx] at e; cases e
      have : ¬ g.name = x.name := fun q => h (hx.trans q.symm)
      rw [if_neg this]
      exact ⟨x, by simp only [fget, hx, if_true], rfl⟩
    · rw [if_neg hx] at e
      by_cases hg : g.name = x.name
      · rw [if_pos hg]; exact ⟨f, by simp only [fget, h, if_false, e], rfl⟩
      · rw [if_neg hg]
        obtain ⟨f', h1, h2⟩ := fget_fset_ne h (l := l) e
        exact ⟨f', by simp only [fget, hx, if_false, h1], h2⟩
theorem fget_append {a : ByteArray} : ∀ {l : List FM} {f : FM}, fget a l = some f → ∀ m, fget a (l ++ m) = some f
  | [], _, e, _ => by cases e
  | x :: l, f, e, m => by
    simp only [List.cons_append, fget] at e ⊢
    by_cases hx : a = x.name
    · rw [if_pos hx] at e ⊢; exact e
    · rw [if_neg hx] at e ⊢; exact fget_append e m

theorem rename_spec (p : Nat) (d : DM) (hd : d.wf) (a b : ByteArray) (hb : b.size ≤ 140737488355328) :
    FSpec Tryz.prog 281 [.pointer (some ⟨p, 0, none⟩), .string a, .string b] [DiskAt p d] (fun v B => v = .int .i64 (d.rename a b).1 ∧ B = [DiskAt p (d.rename a b).2]) := by
  refine FSpec.of Tryz.func281 rfl Tryz.ntmps281 rfl fun W0 F => ?_
  refine J.seq <| J.region <| J.p rfl (Q.asg rfl) <| J.nil <| J.then_n <| J.seq ?_
  refine J.open_ 0 rfl rfl DiskAt.open_ fun x hx => ?_
  refine J.norm rfl ?_
  obtain ⟨o, ho, hlk⟩ := look' a x.fs
  have hu := hd.used
  have hsz := hd.size
  have hdu : d.used = lenSum d.files := rfl
  refine J.region <| J.m rfl <| J.p rfl (Q.nil_ rfl) <| J.p rfl (Q.fa (n := 3) Tryz.runUnderlying78 rfl rfl Tryz.sizeOf76 rfl) ?_
  refine J.p rfl (Q.ldI Tryz.isAgg76 rfl) ?_
  refine J.m rfl ?_
  refine J.p rfl (Q.lk (i := 1) Tryz.runUnderlying76 Tryz.runUnderlying9 Tryz.zeroValue146 rfl rfl rfl ho) ?_
  refine J.p rfl (Q.asg rfl) <| J.nil <| J.then_n <| J.seq <| J.block <| J.seq <| J.region <| J.m rfl <| J.p rfl (Q.eqlp Tryz.runUnderlying146 rfl rfl) <| J.p rfl (Q.asg rfl) <| J.nil <| J.then_n ?_
  refine J.kases 15 rfl (fun hc15 => ?_) (fun hc15 => ?_)
  ·
   obtain ⟨rfl, hl⟩ := look_none hlk hc15
   refine J.cond_t rfl <| J.seq <| J.region <| J.p rfl (Q.asg rfl) <| J.nil <| J.then_n <| J.cret <| J.blk_r <| J.then_r ?_
   have hg : fget a d.files = none := by rw [← hx.files]; exact hl.fget
   have hap : d.rename a b = (4, d) := by unfold DM.rename; rw [hg]
   refine J.shut [0, 1, 2] (DiskAt p d) rfl (fun h s => ⟨x, hx, s⟩) ?_
   refine J.ret1 (B := [DiskAt p d]) rfl rfl ⟨by rw [hap], by rw [hap]⟩ rfl
  obtain ⟨i, y, rfl, hl⟩ := look_some hlk hc15
  refine J.cond_f rfl <| J.seq <| J.region <| J.m rfl ?_
  refine J.call Tryz.call60 (name_spec b hb) [] rfl rfl rfl rfl ?_
  rintro _ _ ⟨rfl, rfl⟩
  refine J.norm rfl <| J.p rfl (Q.not rfl) <| J.p rfl (Q.asg rfl) <| J.nil <| J.then_n ?_
  refine J.kases 18 rfl (fun hc18 => ?_) (fun hc18 => ?_)
  ·
   refine J.cond_t rfl <| J.seq <| J.region <| J.p rfl (Q.asg rfl) <| J.nil <| J.then_n <| J.cret <| J.blk_r <| J.then_r ?_
   have hg : fget a d.files = some y.f := by rw [← hx.files]; exact hl.fget
   have hap : d.rename a b = (1, d) := by unfold DM.rename; rw [hg]; exact if_pos (by simpa using hc18)
   refine J.shut [0, 1, 2] (DiskAt p d) rfl (fun h s => ⟨x, hx, s⟩) ?_
   refine J.ret1 (B := [DiskAt p d]) rfl rfl ⟨by rw [hap], by rw [hap]⟩ rfl
  refine J.cond_f rfl <| J.seq <| J.region <| J.m rfl <| J.m rfl <| J.p rfl (Q.eqls rfl rfl) <| J.p rfl (Q.asg rfl) <| J.nil <| J.then_n ?_
  refine J.kases 22 rfl (fun hc22 => ?_) (fun hc22 => ?_)
  ·
   have hab : a = b := by cases a; cases b; simp at hc22; simpa using hc22
   refine J.cond_t rfl <| J.seq <| J.region <| J.p rfl (Q.asg rfl) <| J.nil <| J.then_n <| J.cret <| J.blk_r <| J.then_r ?_
   have hg : fget a d.files = some y.f := by rw [← hx.files]; exact hl.fget
   have hap : d.rename a b = (0, d) := by unfold DM.rename; rw [hg]; exact (if_neg (by simpa using hc18)).trans (if_pos hab)
   refine J.shut [0, 1, 2] (DiskAt p d) rfl (fun h s => ⟨x, hx, s⟩) ?_
   refine J.ret1 (B := [DiskAt p d]) rfl rfl ⟨by rw [hap], by rw [hap]⟩ rfl
  have hab : a ≠ b := by rintro rfl; exact hc22 rfl
  refine J.cond_f rfl <| J.cskip <| J.blk_n <| J.then_n <| J.seq <| J.seq <| J.region ?_
  have hg : fget a d.files = some y.f := by rw [← hx.files]; exact hl.fget
  have hap : d.rename a b = (0, { d with files := frename a b y.f d.files }) := by unfold DM.rename; rw [hg]; exact (if_neg (by simpa using hc18)).trans (if_neg hab)
  obtain ⟨o2, ho2, hlk2⟩ := look' b x.fs
  refine J.m rfl <| J.p rfl (Q.nil_ rfl) <| J.p rfl (Q.fa (n := 3) Tryz.runUnderlying78 rfl rfl Tryz.sizeOf76 rfl) ?_
  refine J.p rfl (Q.ldI Tryz.isAgg76 rfl) ?_
  refine J.m rfl ?_
  refine J.p rfl (Q.lk (i := 1) Tryz.runUnderlying76 Tryz.runUnderlying9 Tryz.zeroValue146 rfl rfl rfl ho2) ?_
  refine J.p rfl (Q.asg rfl) <| J.nil <| J.then_n <| J.seq <| J.region <| J.m rfl <| J.p rfl (Q.neqp Tryz.runUnderlying146 rfl rfl) <| J.nil <| J.then_n ?_
  refine J.kases 33 rfl (fun hc33 => ?_) (fun hc33 => ?_)
  ·
   obtain ⟨j, z, rfl, hz⟩ := look_some hlk2 (by simpa using hc33)
   refine J.cond_t rfl ?_
   have hgz : fget b d.files = some z.f := by rw [← hx.files]; exact hz.fget
   obtain ⟨_, hzl, _⟩ := hd.len hgz
   have hzu := lenSum_mem (fget_mem hgz)
   refine J.focus 2 j rfl hz.at_ ?_
   refine J.conv (Y := star z.asns) 0 rfl (fun _ h => h) ?_
   refine J.unpack 0 rfl rfl ?_
   refine J.draw [12] Tryz.mixed (by kernel_rfl) fun hR => ?_
   refine RG.p 0 hR rfl (Q.mv rfl) <| RG.p 1 hR rfl (Q.nil_ rfl) <| RG.p 2 hR rfl (Q.fa (n := 1) Tryz.runUnderlying78 rfl rfl Tryz.sizeOf3 rfl) ?_
   refine RG.p 3 hR rfl (Q.ldI Tryz.isAgg3 rfl) ?_
   refine RG.p 4 hR rfl (Q.mv rfl) <| RG.p 5 hR rfl (Q.nil_ rfl) <| RG.p 6 hR rfl (Q.fa (n := 0) Tryz.runUnderlying148 rfl rfl Tryz.sizeOf22 rfl) ?_
   refine RG.p 7 hR rfl (Q.ldI Tryz.isAgg22 rfl) ?_
   refine RG.p 8 hR rfl (Q.lenSl Tryz.runUnderlying22 rfl) <| RG.p 9 hR rfl (Q.sub64 rfl rfl (by omega)) <| RG.p 10 hR rfl (Q.nil_ rfl) <| RG.p 11 hR rfl (Q.fa (n := 1) Tryz.runUnderlying78 rfl rfl Tryz.sizeOf3 rfl) ?_
   refine RG.stI 12 hR rfl rfl rfl rfl rfl Tryz.sizeOf3 rfl rfl rfl (by exact rfl) (by exact rfl) (by exact rfl) ?_
   refine RG.fin hR rfl ?_
   refine J.norm rfl <| J.then_n <| J.seq <| J.region ?_
   first
     | (refine J.pack [0, 1] rfl ?_
        refine J.conv (Y := FW.asn z) 0 rfl (fun _ h => h) ?_
        refine J.refocus 0 1 j z rfl hz.at_ ?_
        refine J.pick [1, 2, 0] rfl ?_
        refine J.norm rfl ?_)
     | skip
   refine J.m rfl <| J.p rfl (Q.nil_ rfl) <| J.p rfl (Q.fa (n := 3) Tryz.runUnderlying78 rfl rfl Tryz.sizeOf76 rfl) ?_
   refine J.p rfl (Q.ldI Tryz.isAgg76 rfl) ?_
   refine J.m rfl <| J.m rfl ?_
   refine J.c0 rfl (C.mput (i := 1) Tryz.runUnderlying76 Tryz.runUnderlying9 rfl rfl rfl rfl) ?_
   rintro _ _ ⟨rfl, rfl⟩
   refine J.norm rfl <| J.nil <| J.then_n <| J.seq <| J.region <| J.m rfl <| J.p rfl (Q.nil_ rfl) <| J.p rfl (Q.fa (n := 3) Tryz.runUnderlying78 rfl rfl Tryz.sizeOf76 rfl) ?_
   refine J.p rfl (Q.ldI Tryz.isAgg76 rfl) ?_
   refine J.m rfl ?_
   refine J.c0 rfl (C.mdel (i := 1) Tryz.runUnderlying76 Tryz.runUnderlying9 rfl rfl) ?_
   rintro _ _ ⟨rfl, rfl⟩
   refine J.norm rfl <| J.nil <| J.then_n <| J.seq <| J.region <| J.p rfl (Q.asg rfl) <| J.nil <| J.then_n <| J.cret ?_
   have hmp : mput b (Value.pointer (some ⟨y.p, 0, none⟩)) (x.fs.map FW.ent) x.c = (mset b y.ptr (x.fs.map FW.ent), x.c) := by unfold mput; rw [hz.mget]; rfl
   obtain ⟨fs, hok, hmd, hst⟩ := rename_over hx hl hz
   rw [hmp]
   refine J.shut [0, 1, 2] (DiskAt p { d with files := frename a b y.f d.files }) rfl (fun h s => ⟨⟨x.r, x.c, fs⟩, hok, by
     unfold DW.asns
     rw [← hmd]
     have hz2 : ((d.used : Int) - z.f.bs.length) = ((({ d with files := frename a b y.f d.files } : DM).used : Nat) : Int) := by
       unfold DM.used frename
       rw [hgz]
       simp only
       have h1 := lenSum_fset (g := ⟨b, y.f.bs, y.f.sy⟩) hgz rfl
       have h2 : ∃ f, fget a (fset ⟨b, y.f.bs, y.f.sy⟩ d.files) = some f ∧ f.bs.length = y.f.bs.length := fget_fset_ne hab hg
       obtain ⟨f, h3, h4⟩ := h2
       have h5 := lenSum_fdel h3
       simp only at h1
       omega
     rw [hz2] at s
     exact HSat.under s fun _ s => HSat.under s fun _ s => HSat.imp s hst⟩) ?_
   refine J.ret1 (B := [DiskAt p { d with files := frename a b y.f d.files }]) rfl rfl ⟨by rw [hap], by rw [hap]⟩ rfl
  obtain ⟨rfl, hz⟩ := look_none hlk2 (by simpa using hc33)
  refine J.cond_f rfl <| J.cskip <| J.then_n <| J.seq <| J.region ?_
  first
    | (refine J.pack [0, 1] rfl ?_
       refine J.conv (Y := FW.asn z) 0 rfl (fun _ h => h) ?_
       refine J.refocus 0 1 j z rfl hz.at_ ?_
       refine J.pick [1, 2, 0] rfl ?_
       refine J.norm rfl ?_)
    | skip
  refine J.m rfl <| J.p rfl (Q.nil_ rfl) <| J.p rfl (Q.fa (n := 3) Tryz.runUnderlying78 rfl rfl Tryz.sizeOf76 rfl) ?_
  refine J.p rfl (Q.ldI Tryz.isAgg76 rfl) ?_
  refine J.m rfl <| J.m rfl ?_
  refine J.c0 rfl (C.mput (i := 1) Tryz.runUnderlying76 Tryz.runUnderlying9 rfl rfl rfl rfl) ?_
  rintro _ _ ⟨rfl, rfl⟩
  refine J.norm rfl <| J.nil <| J.then_n <| J.seq <| J.region <| J.m rfl <| J.p rfl (Q.nil_ rfl) <| J.p rfl (Q.fa (n := 3) Tryz.runUnderlying78 rfl rfl Tryz.sizeOf76 rfl) ?_
  refine J.p rfl (Q.ldI Tryz.isAgg76 rfl) ?_
  refine J.m rfl ?_
  refine J.c0 rfl (C.mdel (i := 1) Tryz.runUnderlying76 Tryz.runUnderlying9 rfl rfl) ?_
  rintro _ _ ⟨rfl, rfl⟩
  refine J.norm rfl <| J.nil <| J.then_n <| J.seq <| J.region <| J.p rfl (Q.asg rfl) <| J.nil <| J.then_n <| J.cret ?_
  have hmp : mput b (Value.pointer (some ⟨y.p, 0, none⟩)) (x.fs.map FW.ent) x.c = (x.fs.map FW.ent ++ [⟨b, y.ptr, x.c⟩], x.c + 1) := by unfold mput; rw [hz.mget]; rfl
  obtain ⟨fs, hok, hmd, hst⟩ := rename_new hx hl hz
  have hgz : fget b d.files = none := by rw [← hx.files]; exact hz.fget
  rw [hmp]
  refine J.shut [0, 1, 2] (DiskAt p { d with files := frename a b y.f d.files }) rfl (fun h s => ⟨⟨x.r, x.c + 1, fs⟩, hok, by
    unfold DW.asns
    rw [← hmd]
    have hz2 : (d.used : Int) = ((({ d with files := frename a b y.f d.files } : DM).used : Nat) : Int) := by
      unfold DM.used frename
      rw [hgz]
      simp only
      have h3 : fget a (d.files ++ [⟨b, y.f.bs, y.f.sy⟩]) = some y.f := fget_append hg _
      have h5 := lenSum_fdel h3
      rw [lenSum_append] at h5
      simp only [lenSum] at h5
      omega
    rw [hz2] at s
    exact HSat.under s fun _ s => HSat.under s fun _ s => HSat.imp s hst⟩) ?_
  refine J.ret1 (B := [DiskAt p { d with files := frename a b y.f d.files }]) rfl rfl ⟨by rw [hap], by rw [hap]⟩ rfl

theorem delete_spec (p : Nat) (d : DM) (hd : d.wf) (G : Assn) (sp : Option Addr) (sn sc : Nat) (names : List ByteArray) (hs : SlR [G] 1 (.slice sp sn sc) (names.map Value.string)) (hn : sn ≤ 140737488355328) :
    FSpec Tryz.prog 163 [.pointer (some ⟨p, 0, none⟩), .slice sp sn sc] [DiskAt p d, G] (fun v B => v = .int .i64 (d.delete names).1 ∧ B = [DiskAt p (d.delete names).2, G]) := by
  refine FSpec.of Tryz.func163 rfl Tryz.ntmps163 rfl fun W0 F => ?_
  refine J.seq <| J.region <| J.p rfl (Q.asg rfl) <| J.nil <| J.then_n <| J.seq <| J.seq <| J.region <| J.m rfl <| J.m rfl ?_
  refine J.call Tryz.call61 (all_spec p d G sp sn sc names hs hn) [0, 1] rfl rfl rfl rfl ?_
  rintro _ _ ⟨rfl, rfl⟩
  refine J.norm rfl <| J.p rfl (Q.not rfl) <| J.nil <| J.then_n ?_
  refine J.kases 11 rfl (fun hc11 => ?_) (fun hc11 => ?_)
  ·
   refine J.cond_t rfl <| J.seq <| J.region <| J.p rfl (Q.asg rfl) <| J.nil <| J.then_n <| J.cret <| J.then_r ?_
   have hno : d.hasAll names = false := by simpa [DM.hasAll] using hc11
   have hap : d.delete names = (4, d) := by unfold DM.delete; rw [hno]; rfl
   refine J.ret1 (B := [DiskAt p d, G]) rfl rfl ⟨by rw [hap], by rw [hap]⟩ rfl
  refine J.cond_f rfl <| J.cskip <| J.then_n <| J.seq <| J.seq <| J.region <| J.m rfl <| J.p rfl (Q.lenSl Tryz.runUnderlying116 rfl) <| J.m rfl <| J.nil <| J.then_n <| J.block ?_
  have hall : d.hasAll names = true := by
    cases h : d.hasAll names with
    | true => rfl
    | false => unfold DM.hasAll at h; rw [h] at hc11; cases hc11
  have hlen : names.length = sn := by have := hs.len; simpa using this
  refine J.loop (fun k : Nat => k ≤ sn) (fun k => sn - k) (fun k => [(0, .pointer (some ⟨p, 0, none⟩)), (12, .slice sp sn sc), (13, .int .i64 sn), (14, .int .i64 k)]) (fun k => [DiskAt p { d with files := fdels (names.take k) d.files }, G, F]) 0 (by omega) ⟨rfl, rfl, rfl, rfl, trivial⟩ rfl fun k hk => ?_
  refine J.seq <| J.region <| J.p rfl (Q.lss rfl rfl) <| J.nil <| J.then_n <| J.seq ?_
  refine J.kases 15 rfl (fun hc15 => ?_) (fun hc15 => ?_)
  ·
   refine J.cond_t rfl <| J.cskip <| J.then_n <| J.seq <| J.block <| J.seq <| J.region ?_
   obtain ⟨b, off, rfl, hrd⟩ := hs.some_ (by omega)
   obtain ⟨nm, hnm⟩ : ∃ nm, names[k]? = some nm := ⟨_, List.getElem?_eq_getElem (by omega)⟩
   refine J.p rfl (Q.ia Tryz.runUnderlying116 Tryz.sizeOf9 rfl rfl (by omega) (by omega)) ?_
   refine J.p rfl (Q.ld Tryz.isAgg9 rfl (((hrd k (.string nm) (by simp [hnm])).within (i := 1) rfl).cast (by simp))) ?_
   refine J.p rfl (Q.asg rfl) <| J.nil <| J.then_n <| J.seq <| J.region ?_
   refine J.open_ 0 rfl rfl DiskAt.open_ fun x hx => ?_
   refine J.norm rfl ?_
   obtain ⟨o, ho, hlk⟩ := look' nm x.fs
   have hus := lenSum_fdels_le (names.take k) d.files
   have hu := hd.used
   have hsz := hd.size
   have hdu : d.used = lenSum d.files := rfl
   refine J.m rfl <| J.p rfl (Q.nil_ rfl) <| J.p rfl (Q.fa (n := 3) Tryz.runUnderlying78 rfl rfl Tryz.sizeOf76 rfl) ?_
   refine J.p rfl (Q.ldI Tryz.isAgg76 rfl) ?_
   refine J.m rfl ?_
   refine J.p rfl (Q.lk (i := 1) Tryz.runUnderlying76 Tryz.runUnderlying9 Tryz.zeroValue146 rfl rfl rfl ho) ?_
   refine J.p rfl (Q.asg rfl) <| J.nil <| J.then_n <| J.seq <| J.region <| J.m rfl <| J.p rfl (Q.neqp Tryz.runUnderlying146 rfl rfl) <| J.nil <| J.then_n ?_
   refine J.kases 25 rfl (fun hc25 => ?_) (fun hc25 => ?_)
   ·
    obtain ⟨i, y, rfl, hl⟩ := look_some hlk (by simpa using hc25)
    refine J.cond_t rfl <| J.seq ?_
    have hg : fget nm (fdels (names.take k) d.files) = some y.f := by have := hl.fget; rwa [hx.files] at this
    have hsub := lenSum_fdel hg
    have hdk : ({ d with files := fdels (names.take k) d.files } : DM).used = lenSum (fdels (names.take k) d.files) := rfl
    refine J.focus 2 i rfl hl.at_ ?_
    refine J.conv (Y := star y.asns) 0 rfl (fun _ h => h) ?_
    refine J.unpack 0 rfl rfl ?_
    refine J.draw [12] Tryz.mixed (by kernel_rfl) fun hR => ?_
    refine RG.p 0 hR rfl (Q.mv rfl) <| RG.p 1 hR rfl (Q.nil_ rfl) <| RG.p 2 hR rfl (Q.fa (n := 1) Tryz.runUnderlying78 rfl rfl Tryz.sizeOf3 rfl) ?_
    refine RG.p 3 hR rfl (Q.ldI Tryz.isAgg3 rfl) ?_
    refine RG.p 4 hR rfl (Q.mv rfl) <| RG.p 5 hR rfl (Q.nil_ rfl) <| RG.p 6 hR rfl (Q.fa (n := 0) Tryz.runUnderlying148 rfl rfl Tryz.sizeOf22 rfl) ?_
    refine RG.p 7 hR rfl (Q.ldI Tryz.isAgg22 rfl) ?_
    refine RG.p 8 hR rfl (Q.lenSl Tryz.runUnderlying22 rfl) <| RG.p 9 hR rfl (Q.sub64 rfl rfl (by omega)) <| RG.p 10 hR rfl (Q.nil_ rfl) <| RG.p 11 hR rfl (Q.fa (n := 1) Tryz.runUnderlying78 rfl rfl Tryz.sizeOf3 rfl) ?_
    refine RG.stI 12 hR rfl rfl rfl rfl rfl Tryz.sizeOf3 rfl rfl rfl (by exact rfl) (by exact rfl) (by exact rfl) ?_
    refine RG.fin hR rfl ?_
    refine J.norm rfl <| J.then_n <| J.region <| J.m rfl <| J.p rfl (Q.nil_ rfl) <| J.p rfl (Q.fa (n := 3) Tryz.runUnderlying78 rfl rfl Tryz.sizeOf76 rfl) ?_
    refine J.p rfl (Q.ldI Tryz.isAgg76 rfl) ?_
    refine J.m rfl ?_
    refine J.c0 rfl (C.mdel (i := 4) Tryz.runUnderlying76 Tryz.runUnderlying9 rfl rfl) ?_
    rintro _ _ ⟨rfl, rfl⟩
    refine J.norm rfl <| J.nil <| J.blk_n <| J.then_n <| J.region <| J.p rfl (Q.add64 rfl rfl (by omega)) <| J.m rfl <| J.nil ?_
    obtain ⟨hok, hme⟩ := DW.del hx hl
    refine J.keep [3, 4, 2, 5, 6] rfl ?_
    refine J.shut [0, 1, 2] (DiskAt p { d with files := fdels (names.take (k + 1)) d.files }) rfl (fun h s => ⟨⟨x.r, x.c, x.fs.eraseIdx i⟩, by rw [fdels_take hnm]; exact hok, by
      unfold DW.asns
      rw [← hme]
      have hz : (({ d with files := fdels (names.take k) d.files } : DM).used : Int) - y.f.bs.length = ((({ d with files := fdels (names.take (k + 1)) d.files } : DM).used : Nat) : Int) := by
        unfold DM.used; rw [fdels_take hnm]; simp only; omega
      rw [hz] at s
      exact s⟩) ?_
    refine J.again (k + 1) (by omega) (by omega) ⟨rfl, rfl, rfl, rfl, trivial⟩ rfl
   obtain ⟨rfl, hl⟩ := look_none hlk (by simpa using hc25)
   refine J.cond_f rfl <| J.cskip <| J.blk_n <| J.then_n <| J.region <| J.p rfl (Q.add64 rfl rfl (by omega)) <| J.m rfl <| J.nil ?_
   have hg : fget nm (fdels (names.take k) d.files) = none := by have := hl.fget; rwa [hx.files] at this
   have hfd : fdels (names.take (k + 1)) d.files = fdels (names.take k) d.files := by rw [fdels_take hnm, fdel_none hg]
   refine J.shut [0, 1, 2] (DiskAt p { d with files := fdels (names.take k) d.files }) rfl (fun h s => ⟨x, hx, s⟩) ?_
   refine J.again (k + 1) (by omega) (by omega) ⟨rfl, rfl, rfl, rfl, trivial⟩ ?_
   rw [hfd]
  refine J.cond_f rfl <| J.exit <| J.then_x <| J.lp_x <| J.blk_x <| J.then_n <| J.seq <| J.region <| J.p rfl (Q.asg rfl) <| J.nil <| J.then_n <| J.cret ?_
  have hkn : k = sn := by omega
  have hap : d.delete names = (0, { d with files := fdels (names.take k) d.files }) := by unfold DM.delete; rw [hall, List.take_of_length_le (by omega)]; rfl
  refine J.ret1 (B := [DiskAt p { d with files := fdels (names.take k) d.files }, G]) rfl rfl ⟨by rw [hap], by rw [hap]⟩ rfl

end Go.Proofs.YtblpcabdfbpcnaaGreatDoor.Dk
namespace Go.Proofs
open Go.Shelf
def Tryz.sort122_ren : Go.Shelf.Ren := ⟨fun | 6 => 122 | 8 => 190 | 9 => 189 | 19 => 295 | 20 => 296 | 21 => 286 | 22 => 287 | 23 => 288 | 24 => 289 | 25 => 290 | 26 => 291 | 27 => 292 | 28 => 293 | 29 => 294 | 36 => 417 | 31 => 418 | 32 => 419 | 37 => 420 | 38 => 421 | 39 => 409 | 41 => 516 | n => n, fun | 27 => 116 | 29 => 9 | 3 => 3 | 32 => 143 | 26 => 116 | 0 => 0 | 44 => 31 | 46 => 30 | 4 => 4 | 36 => 486 | 35 => 485 | 41 => 447 | 5 => 5 | 9 => 9 | 53 => 620 | 57 => 623 | 63 => 738 | 64 => 395 | n => n, fun | n => n⟩
theorem Tryz.sort122 : Go.Proofs.SlLaysM.n6 Tryz.prog Tryz.sort122_ren := {
  mixed := by kernel_rfl
  f6 := ⟨Tryz.f122.name, by decide, Tryz.func122.trans (congrArg some (by kernel_rfl))⟩
  f8 := Tryz.func190.trans (congrArg some (by kernel_rfl))
  f9 := ⟨Tryz.f189.name, by decide, Tryz.func189.trans (congrArg some (by kernel_rfl))⟩
  f19 := Tryz.func295.trans (congrArg some (by kernel_rfl))
  f20 := Tryz.func296.trans (congrArg some (by kernel_rfl))
  f21 := ⟨Tryz.f286.name, by decide, Tryz.func286.trans (congrArg some (by kernel_rfl))⟩
  f22 := ⟨Tryz.f287.name, by decide, Tryz.func287.trans (congrArg some (by kernel_rfl))⟩
  f23 := ⟨Tryz.f288.name, by decide, Tryz.func288.trans (congrArg some (by kernel_rfl))⟩
  f24 := ⟨Tryz.f289.name, by decide, Tryz.func289.trans (congrArg some (by kernel_rfl))⟩
  f25 := ⟨Tryz.f290.name, by decide, Tryz.func290.trans (congrArg some (by kernel_rfl))⟩
  f26 := ⟨Tryz.f291.name, by decide, Tryz.func291.trans (congrArg some (by kernel_rfl))⟩
  f27 := ⟨Tryz.f292.name, by decide, Tryz.func292.trans (congrArg some (by kernel_rfl))⟩
  f28 := ⟨Tryz.f293.name, by decide, Tryz.func293.trans (congrArg some (by kernel_rfl))⟩
  f29 := ⟨Tryz.f294.name, by decide, Tryz.func294.trans (congrArg some (by kernel_rfl))⟩
  f31 := Tryz.func418.trans (congrArg some (by kernel_rfl))
  f32 := Tryz.func419.trans (congrArg some (by kernel_rfl))
  f36 := ⟨Tryz.f417.name, by decide, Tryz.func417.trans (congrArg some (by kernel_rfl))⟩
  f37 := ⟨Tryz.f420.name, by decide, Tryz.func420.trans (congrArg some (by kernel_rfl))⟩
  f38 := ⟨Tryz.f421.name, by decide, Tryz.func421.trans (congrArg some (by kernel_rfl))⟩
  f39 := ⟨Tryz.f409.name, by decide, Tryz.func409.trans (congrArg some (by kernel_rfl))⟩
  f41 := ⟨Tryz.f516.name, by decide, Tryz.func516.trans (congrArg some (by kernel_rfl))⟩
  t0 := Tryz.underlying0
  a0 := Tryz.isAgg0
  z0 := Tryz.sizeOf0
  v0 := Tryz.zeroValue0
  t3 := Tryz.underlying3
  a3 := Tryz.isAgg3
  z3 := Tryz.sizeOf3
  v3 := Tryz.zeroValue3
  t4 := Tryz.underlying4
  a4 := Tryz.isAgg4
  z4 := Tryz.sizeOf4
  v4 := Tryz.zeroValue4
  t5 := Tryz.underlying5
  a5 := Tryz.isAgg5
  z5 := Tryz.sizeOf5
  v5 := Tryz.zeroValue5
  t9 := Tryz.underlying9
  a9 := Tryz.isAgg9
  z9 := Tryz.sizeOf9
  v9 := Tryz.zeroValue9
  t26 := Tryz.underlying116
  a26 := Tryz.isAgg116
  z26 := Tryz.sizeOf116
  v26 := Tryz.zeroValue116
  t27 := Tryz.underlying116
  a27 := Tryz.isAgg116
  z27 := Tryz.sizeOf116
  v27 := Tryz.zeroValue116
  t29 := Tryz.underlying9
  a29 := Tryz.isAgg9
  z29 := Tryz.sizeOf9
  v29 := Tryz.zeroValue9
  t32 := Tryz.underlying143
  a32 := Tryz.isAgg143
  z32 := Tryz.sizeOf143
  v32 := Tryz.zeroValue143
  t35 := Tryz.underlying485
  a35 := Tryz.isAgg485
  z35 := Tryz.sizeOf485
  v35 := Tryz.zeroValue485
  t36 := Tryz.underlying486
  a36 := Tryz.isAgg486
  z36 := Tryz.sizeOf486
  v36 := Tryz.zeroValue486
  t41 := Tryz.underlying447
  a41 := Tryz.isAgg447
  z41 := Tryz.sizeOf447
  v41 := Tryz.zeroValue447
  t44 := Tryz.underlying31
  a44 := Tryz.isAgg31
  z44 := Tryz.sizeOf31
  v44 := Tryz.zeroValue31
  t46 := Tryz.underlying30
  a46 := Tryz.isAgg30
  z46 := Tryz.sizeOf30
  v46 := Tryz.zeroValue30
  t53 := Tryz.underlying620
  a53 := Tryz.isAgg620
  z53 := Tryz.sizeOf620
  v53 := Tryz.zeroValue620
  t57 := Tryz.underlying623
  a57 := Tryz.isAgg623
  z57 := Tryz.sizeOf623
  v57 := Tryz.zeroValue623
  t63 := Tryz.underlying738
  a63 := Tryz.isAgg738
  z63 := Tryz.sizeOf738
  v63 := Tryz.zeroValue738
  t64 := Tryz.underlying395
  a64 := Tryz.isAgg395
  z64 := Tryz.sizeOf395
  v64 := Tryz.zeroValue395 }
end Go.Proofs
namespace Go.Proofs.YtblpcabdfbpcnaaGreatDoor.Dk
open Go.X Go.X.T
open Go.Sort (Holds putRow putCells grow mapBlock onCells)

section
variable {α : Type} [Inhabited α] {enc : α → Value} {W0 w : World} {E b off n c : Nat} {zs zs' : List α} {F : List Assn}
theorem own_open (s : Sat W0 w (own E 1 (.slice (some ⟨b, off, none⟩) n c) (zs.map enc) :: F)) : ∃ o : Lies, o.ok 1 (.slice (some ⟨b, off, none⟩) n c) (zs.map enc) ∧ o.b = b ∧ o.off = off ∧ Sat W0 w (pt b (.cells o.l.toArray E o.z) :: F) := by
  obtain ⟨h1, h2, a, q, d, x, y⟩ := s.heap
  rcases a with ⟨h, _⟩ | ⟨o, ho, hp⟩
  · cases h
  · have hv := ho.val
    simp only [Value.slice.injEq, Option.some.injEq, Addr.mk.injEq] at hv
    obtain ⟨⟨e1, e2, _⟩, _, _⟩ := hv
    exact ⟨o, ho, e1.symm, e2.symm, s.os, s.tape, s.out, h1, h2, e1 ▸ hp, q, d, x, y⟩
theorem own_holds (s : Sat W0 w (own E 1 (.slice (some ⟨b, off, none⟩) n c) (zs.map enc) :: F)) : Holds enc w b off zs.toArray ∧ b < w.heap.size := by
  obtain ⟨o, ho, rfl, rfl, t⟩ := own_open s
  have hb := t.at_ (i := 0) rfl
  refine ⟨fun j hj => ?_, (Array.getElem?_eq_some_iff.1 hb).1⟩
  have hj' : j < zs.length := by simpa using hj
  have hg := ho.get j (enc zs[j]!) (by simp [hj'])
  have hlt := (List.getElem?_eq_some_iff.1 hg).1
  refine ⟨?_, ?_⟩
  · simp only [World.cell?, hb]
    simpa [hj'] using hg
  · have := ho.free (o.off + j) hlt
    simp only [World.frozen?, hb]
    simpa using this
theorem own_putRow (s : Sat W0 w (own E 1 (.slice (some ⟨b, off, none⟩) n c) (zs.map enc) :: F)) (hl : zs'.length = zs.length) (m : Nat) (os : Array Obj) :
    Sat W0 (grow (putRow enc (Go.Sort.ahead w m) b off zs'.toArray) os) (own E 1 (.slice (some ⟨b, off, none⟩) n c) (zs'.map enc) :: F) := by
  obtain ⟨o, ho, rfl, rfl, t⟩ := own_open s
  have hb : hp w o.b = some (.cells o.l.toArray E o.z) := t.at_ (i := 0) rfl
  have hlen : zs.length = n := by have := ho.len; have hv := ho.val; simp only [Value.slice.injEq] at hv; rw [← hv.2.1] at this; simpa using this
  have e1 : hp (putRow enc (Go.Sort.ahead w m) o.b o.off zs'.toArray) = upd (hp w) o.b (.cells (putCells enc o.off zs'.toArray o.l.toArray) E o.z) := hp_modify w o.b (onCells (putCells enc o.off zs'.toArray)) _ hb
  have hsub : Sub (hp (putRow enc (Go.Sort.ahead w m) o.b o.off zs'.toArray)) (hp (grow (putRow enc (Go.Sort.ahead w m) o.b o.off zs'.toArray) os)) := by
    intro x p hx
    have hlt := (Array.getElem?_eq_some_iff.1 (show (putRow enc (Go.Sort.ahead w m) o.b o.off zs'.toArray).heap[x]? = some p from hx)).1
    show ((putRow enc (Go.Sort.ahead w m) o.b o.off zs'.toArray).heap ++ os)[x]? = some p
    rw [Array.getElem?_append_left hlt]; exact hx
  have hu : HSat (upd (hp w) o.b (.cells (putCells enc o.off zs'.toArray o.l.toArray) E o.z)) (pt o.b (.cells (putCells enc o.off zs'.toArray o.l.toArray) E o.z) :: F) := by
    have := HSat.update (i := 0) (b := o.b) (o := .cells (putCells enc o.off zs'.toArray o.l.toArray) E o.z) (A := pt o.b (.cells o.l.toArray E o.z)) (B := pt o.b (.cells (putCells enc o.off zs'.toArray o.l.toArray) E o.z)) t.heap rfl fun k hk => ⟨⟨_, hk⟩, by simp [pt, upd]⟩
    simpa using this
  refine ⟨t.os, t.tape, t.out, (HSat.mono ?_ (e1 ▸ hsub))⟩
  refine hu.imp fun h hh => .inr ⟨{ o with l := (putCells enc o.off zs'.toArray o.l.toArray).toList }, ⟨ho.val, ?_, ho.cap, ?_, ?_, ?_⟩, hh⟩
  · have := ho.len; simp only [List.length_map] at this ⊢; omega
  · have := ho.fits; simpa [putCells] using this
  · intro j u hj
    have hj' : j < zs'.length := by have := (List.getElem?_eq_some_iff.1 hj).1; simpa using this
    have hg := ho.get j (enc zs[j]!) (by simp [show j < zs.length by omega])
    have hlt := (List.getElem?_eq_some_iff.1 hg).1
    simp only [List.getElem?_map, List.getElem?_eq_getElem hj', Option.map_some, Option.some.injEq] at hj
    subst hj
    simp only [putCells, Array.getElem?_toList, Array.getElem?_mapIdx, List.getElem?_toArray, hg, Option.map_some, List.size_toArray]
    rw [if_pos (by omega)]
    simp [hj']
  · intro k hk
    exact ho.free k (by simpa [putCells] using hk)
end


def sortN (l : List (List UInt8)) : List (List UInt8) := l.mergeSort fun x y => decide (x ≤ y)
theorem sortN_perm (l : List (List UInt8)) : (sortN l).Perm l := List.mergeSort_perm l _
theorem sortN_length (l : List (List UInt8)) : (sortN l).length = l.length := (sortN_perm l).length_eq

theorem sort_spec (sp : Option Addr) (sc : Nat) (ss : List (List UInt8)) (hsz : ss.length < 4611686018427387904) :
    FSpec Tryz.prog 122 [.slice sp ss.length sc] [own 9 1 (.slice sp ss.length sc) (ss.map encStr)] (fun v B => v = .tuple #[] ∧ B = [own 9 1 (.slice sp ss.length sc) ((sortN ss).map encStr)]) := by
  refine ⟨fun W0 w F s => ?_⟩
  obtain ⟨k, hk, _⟩ := s.heap.at_ (i := 0) rfl
  rcases hk with ⟨h1, h2⟩ | ⟨o, ho, _⟩
  · have hl : ss = [] := by simpa using h2
    subst hl
    refine (AnyM.slices_Sort_string_none Tryz.sort122 sp sc w).mono ?_
    rintro e w' ⟨rfl, rfl⟩
    exact ⟨_, _, rfl, ⟨rfl, rfl⟩, by simpa [sortN] using s⟩
  · have hv := ho.val
    simp only [Value.slice.injEq] at hv
    obtain ⟨rfl, _, _⟩ := hv
    obtain ⟨q1, q2⟩ := own_holds (F := [F]) s
    refine (AnyM.slices_Sort_string Tryz.sort122 o.b o.off sc ss w q1 q2 (by omega)).mono ?_
    rintro e w' ⟨rfl, m, os, rfl⟩
    exact ⟨_, _, rfl, ⟨rfl, rfl⟩, own_putRow (F := [F]) s (sortN_length ss) m os⟩

end Go.Proofs.YtblpcabdfbpcnaaGreatDoor.Dk
namespace Go.Proofs.YtblpcabdfbpcnaaGreatDoor.Dk
open Go.X Go.X.T

def beg (s p : ByteArray) : Bool := decide (p.size ≤ s.size) && decide ((s.extract 0 p.size).data.toList = p.data.toList)

theorem hasPrefix_spec (s p : ByteArray) : FSpec Tryz.prog 188 [.string s, .string p] [] (fun v B => v = .bool (beg s p) ∧ B = []) := by
  refine FSpec.of Tryz.func188 rfl Tryz.ntmps188 rfl fun W0 F => ?_
  refine J.seq <| J.region <| J.p rfl (Q.asg rfl) <| J.nil <| J.then_n <| J.seq <| J.region <| J.m rfl <| J.p rfl (Q.lenS Tryz.runUnderlying9 rfl) <| J.m rfl <| J.p rfl (Q.lenS Tryz.runUnderlying9 rfl) <| J.p rfl (Q.geq rfl rfl) <| J.m rfl ?_
  refine J.kases 10 rfl (fun hb10 => ?_) (fun hb10 => ?_)
  ·
   refine J.m rfl <| J.m rfl <| J.p rfl (Q.lenS Tryz.runUnderlying9 rfl) <| J.p rfl (Q.strH Tryz.runUnderlying9 rfl rfl (by omega) (by omega)) <| J.m rfl <| J.p rfl (Q.eqls rfl rfl) <| J.p rfl (Q.pick_t rfl rfl) <| J.p rfl (Q.asg rfl) <| J.nil <| J.then_n <| J.cret ?_
   refine J.ret1 (B := []) rfl rfl ⟨?_, rfl⟩ rfl
   unfold beg
   first
     | (rw [decide_eq_true (show p.size ≤ s.size by omega)]; simp only [Bool.true_and, Int.toNat_natCast]; done)
     | (rw [decide_eq_true (show p.size ≤ s.size by omega)]; rfl)
     | (rw [decide_eq_false (show ¬ p.size ≤ s.size by omega)]; rfl)
  refine J.k rfl <| J.k rfl <| J.k rfl <| J.k rfl <| J.k rfl <| J.k rfl <| J.p rfl (Q.pick_f rfl rfl) <| J.p rfl (Q.asg rfl) <| J.nil <| J.then_n <| J.cret ?_
  refine J.ret1 (B := []) rfl rfl ⟨?_, rfl⟩ rfl
  unfold beg
  first
    | (rw [decide_eq_true (show p.size ≤ s.size by omega)]; simp only [Bool.true_and, Int.toNat_natCast]; done)
    | (rw [decide_eq_true (show p.size ≤ s.size by omega)]; rfl)
    | (rw [decide_eq_false (show ¬ p.size ≤ s.size by omega)]; rfl)

theorem hasPrefix_spec' (s p : ByteArray) : FSpec Tryz.prog 121 [.string s, .string p] [] (fun v B => v = .bool (beg s p) ∧ B = []) := by
  refine FSpec.of Tryz.func121 rfl Tryz.ntmps121 rfl fun W0 F => ?_
  refine J.seq <| J.region <| J.p rfl (Q.asg rfl) <| J.nil <| J.then_n <| J.seq <| J.region <| J.m rfl <| J.m rfl ?_
  refine J.call Tryz.call188 (hasPrefix_spec s p) [] rfl rfl rfl rfl ?_
  rintro _ _ ⟨rfl, rfl⟩
  refine J.norm rfl <| J.p rfl (Q.asg rfl) <| J.nil <| J.then_n <| J.cret ?_
  refine J.ret1 (B := []) rfl rfl ⟨rfl, rfl⟩ rfl

theorem list1_spec (b : Nat) (s p : ByteArray) :
    FSpec Tryz.prog 120 [.string p, .pointer (some ⟨b, 0, none⟩)] [pt b (.cells [Value.string s].toArray 9 (0, 0))] (fun v B => v = .bool (beg s p) ∧ B = [pt b (.cells [Value.string s].toArray 9 (0, 0))]) := by
  refine FSpec.of Tryz.func120 rfl Tryz.ntmps120 rfl fun W0 F => ?_
  refine J.seq <| J.region <| J.p rfl (Q.asg rfl) <| J.nil <| J.then_n <| J.seq <| J.region ?_
  refine J.p rfl (Q.ldI Tryz.isAgg9 rfl) ?_
  refine J.m rfl ?_
  refine J.call Tryz.call121 (hasPrefix_spec' s p) [] rfl rfl rfl rfl ?_
  rintro _ _ ⟨rfl, rfl⟩
  refine J.norm rfl <| J.p rfl (Q.asg rfl) <| J.nil <| J.then_n <| J.cret ?_
  refine J.ret1 (B := [pt b (.cells [Value.string s].toArray 9 (0, 0))]) rfl rfl ⟨rfl, rfl⟩ rfl

def nmOf (y : FW) : List UInt8 := y.f.name.data.toList
def doneOf (fs : List FW) (seen : List Nat) : List FW := fs.filter fun y => seen.contains y.born
def leftOf (fs : List FW) (seen : List Nat) : List FW := fs.filter fun y => !seen.contains y.born
def selB (pre : List ByteArray) (n : ByteArray) : Bool := pre.isEmpty || pre.any (beg n)
def DM.list (d : DM) (pre : List ByteArray) : List (List UInt8) := sortN (((d.files.map (·.name)).filter (selB pre)).map (·.data.toList))

theorem mleft_fs (fs : List FW) (seen : List Nat) : mleft (fs.map FW.ent) seen = (leftOf fs seen).map FW.ent := by
  unfold mleft leftOf; rw [List.filter_map]; rfl

theorem done_step {fs : List FW} {seen : List Nat} {y : FW} (hn : (fs.map (·.born)).Nodup) (hy : y ∈ leftOf fs seen) :
    (doneOf fs (seen ++ [y.born])).Perm (y :: doneOf fs seen) ∧ (leftOf fs (seen ++ [y.born])).length < (leftOf fs seen).length := by
  induction fs with
  | nil => cases hy
  | cons x fs ih =>
    simp only [List.map_cons, List.nodup_cons] at hn
    by_cases hxy : x.born = y.born
    · -- x is y
      have hyx : y = x := by
        unfold leftOf at hy
        rw [List.mem_filter] at hy
        rcases List.mem_cons.1 hy.1 with h | h
        · exact h
        · exact absurd (hxy ▸ List.mem_map_of_mem h) hn.1
      subst hyx
      have hns : seen.contains y.born = false := by
        unfold leftOf at hy; rw [List.mem_filter] at hy; simpa using hy.2
      have hrest : ∀ z, z ∈ fs → (seen ++ [y.born]).contains z.born = seen.contains z.born := by
        intro z hz
        have : z.born ≠ y.born := fun e => hn.1 (e ▸ List.mem_map_of_mem hz)
        simp [this]
      have e1 : doneOf fs (seen ++ [y.born]) = doneOf fs seen := List.filter_congr hrest
      have e2 : leftOf fs (seen ++ [y.born]) = leftOf fs seen := List.filter_congr fun z hz => by rw [hrest z hz]
      have h1 : (seen ++ [y.born]).contains y.born = true := by simp
      refine ⟨?_, ?_⟩
      · unfold doneOf at e1 ⊢; rw [List.filter_cons, List.filter_cons, h1, hns, if_pos rfl, e1]; simp
      · unfold leftOf at e2 ⊢; rw [List.filter_cons, List.filter_cons, h1, hns, e2]; simp
    · have hy' : y ∈ leftOf fs seen := by
        unfold leftOf at hy ⊢
        rw [List.mem_filter] at hy ⊢
        rcases List.mem_cons.1 hy.1 with h | h
        · exact absurd (by rw [h]) hxy
        · exact ⟨h, hy.2⟩
      obtain ⟨i1, i2⟩ := ih hn.2 hy'
      have hc : (seen ++ [y.born]).contains x.born = seen.contains x.born := by simp [hxy]
      unfold doneOf leftOf at *
      rw [List.filter_cons, List.filter_cons, List.filter_cons, List.filter_cons, hc]
      cases seen.contains x.born with
      | true => exact ⟨by simp only [if_true]; exact (i1.cons x).trans (List.Perm.swap _ _ _), by simpa using i2⟩
      | false => exact ⟨by simpa using i1, by simpa using i2⟩

theorem sortN_congr {l m : List (List UInt8)} (h : l.Perm m) : sortN l = sortN m := by
  unfold sortN
  have tot : ∀ a b : List UInt8, (decide (a ≤ b) || decide (b ≤ a)) = true := by intro a b; simpa using List.le_total a b
  have tr : ∀ a b c : List UInt8, decide (a ≤ b) = true → decide (b ≤ c) = true → decide (a ≤ c) = true := by
    intro a b c h1 h2; simp only [decide_eq_true_eq] at *; exact List.le_trans h1 h2
  refine List.Perm.eq_of_pairwise (le := fun x y : List UInt8 => decide (x ≤ y) = true) ?_ (List.pairwise_mergeSort tr tot l) (List.pairwise_mergeSort tr tot m) (((List.mergeSort_perm l _).trans h).trans (List.mergeSort_perm m _).symm)
  intro a b _ _ h1 h2
  simp only [decide_eq_true_eq] at h1 h2
  exact List.le_antisymm h1 h2

theorem acc_len {fs : List FW} {seen : List Nat} {pre : List ByteArray} {acc : List (List UInt8)} (h : acc.Perm (((doneOf fs seen).filter fun y => selB pre y.f.name).map nmOf)) : acc.length ≤ fs.length := by
  rw [h.length_eq, List.length_map]
  exact Nat.le_trans (List.length_filter_le _ _) (List.length_filter_le _ _)
theorem acc_yes {fs : List FW} {seen : List Nat} {pre : List ByteArray} {acc : List (List UInt8)} {y : FW} (hn : (fs.map (·.born)).Nodup) (hy : y ∈ leftOf fs seen) (hs : selB pre y.f.name = true) (h : acc.Perm (((doneOf fs seen).filter fun y => selB pre y.f.name).map nmOf)) :
    (acc ++ [nmOf y]).Perm (((doneOf fs (seen ++ [y.born])).filter fun y => selB pre y.f.name).map nmOf) := by
  have h1 := (((done_step hn hy).1.filter fun y => selB pre y.f.name).map nmOf).symm
  rw [List.filter_cons, if_pos hs, List.map_cons] at h1
  exact (List.perm_append_singleton _ _).trans ((h.cons _).trans h1)
theorem acc_no {fs : List FW} {seen : List Nat} {pre : List ByteArray} {acc : List (List UInt8)} {y : FW} (hn : (fs.map (·.born)).Nodup) (hy : y ∈ leftOf fs seen) (hs : selB pre y.f.name = false) (h : acc.Perm (((doneOf fs seen).filter fun y => selB pre y.f.name).map nmOf)) :
    acc.Perm (((doneOf fs (seen ++ [y.born])).filter fun y => selB pre y.f.name).map nmOf) := by
  have h1 := (((done_step hn hy).1.filter fun y => selB pre y.f.name).map nmOf).symm
  rw [List.filter_cons, if_neg (by rw [hs]; exact Bool.false_ne_true)] at h1
  exact h.trans h1
theorem acc_all {fs : List FW} {seen : List Nat} (h : (leftOf fs seen).map FW.ent = []) : doneOf fs seen = fs := by
  have h1 : leftOf fs seen = [] := List.map_eq_nil_iff.1 h
  unfold leftOf at h1
  unfold doneOf
  rw [List.filter_eq_self]
  intro y hy
  rw [List.filter_eq_nil_iff] at h1
  have := h1 y hy
  simpa using this

theorem list_spec (p : Nat) (d : DM) (G : Assn) (pp : Option Addr) (pn pc : Nat) (pre : List ByteArray) (hp : SlR [G] 1 (.slice pp pn pc) (pre.map Value.string)) (hpn : pn ≤ 140737488355328)
    (hfl : d.files.length ≤ 1073741824) :
    FSpec Tryz.prog 62 [.pointer (some ⟨p, 0, none⟩), .slice pp pn pc] [DiskAt p d, G] (fun v B => ∃ sp sc, v = .slice sp (d.list pre).length sc ∧ B = [own 9 1 (.slice sp (d.list pre).length sc) ((d.list pre).map encStr), DiskAt p d, G]) := by
  refine FSpec.of Tryz.func62 rfl Tryz.ntmps62 rfl fun W0 F => ?_
  refine J.seq <| J.region <| J.p rfl (Q.asg rfl) <| J.nil <| J.then_n <| J.seq <| J.region <| J.p rfl (Q.asg rfl) <| J.nil <| J.then_n <| J.seq <| J.seq ?_
  refine J.open_ 0 rfl rfl DiskAt.open_ fun x hx => ?_
  refine J.norm rfl <| J.region <| J.m rfl <| J.p rfl (Q.nil_ rfl) <| J.p rfl (Q.fa (n := 3) Tryz.runUnderlying78 rfl rfl Tryz.sizeOf76 rfl) ?_
  refine J.p rfl (Q.ldI Tryz.isAgg76 rfl) ?_
  refine J.c rfl rfl (C.range (i := 1) Tryz.runUnderlying76 rfl rfl) ?_
  rintro _ _ ⟨b11, rfl, rfl⟩
  refine J.norm rfl <| J.nil <| J.then_n <| J.block ?_
  have hnd : ((x.fs.map FW.ent).map (·.born)).Nodup := by rw [List.map_map]; exact hx.nodup
  have hbn : ∀ e, e ∈ x.fs.map FW.ent → e.born < x.c := by
    intro e he
    simp only [List.mem_map] at he
    obtain ⟨y, hy, rfl⟩ := he
    exact hx.born y hy
  have hplen : pre.length = pn := by have := hp.len; simpa using this
  refine J.give (own.nil 9 1 _) ?_
  refine J.loop (fun z : List Nat × Option Addr × Nat × List (List UInt8) => z.2.2.2.Perm (((doneOf x.fs z.1).filter fun y => selB pre y.f.name).map nmOf)) (fun z => (leftOf x.fs z.1).length) (fun z => [(0, .pointer (some ⟨p, 0, none⟩)), (1, .slice pp pn pc), (5, .slice z.2.1 z.2.2.2.length z.2.2.1), (11, .pointer (some ⟨b11, 0, none⟩))])
    (fun z => [own 9 1 (.slice z.2.1 z.2.2.2.length z.2.2.1) (z.2.2.2.map encStr), pt b11 (miter x.r x.c z.1), pt p (.cells [.int .i64 d.size, .int .i64 d.used, .int .i64 d.born, .map (some x.r)].toArray 78 (0, 0)), pt x.r (mobj (x.fs.map FW.ent) x.c), star (x.fs.map FW.asn), G, F])
    ([], none, 0, []) (by simp [doneOf]) ⟨rfl, rfl, rfl, rfl, trivial⟩ rfl fun z hz => ?_
  refine J.seq <| J.region ?_
  refine J.c rfl rfl (C.next1 (i := 1) (j := 3) rfl rfl rfl hbn) ?_
  rintro _ _ ⟨t, rest, seen', rfl, rfl, hst⟩
  refine J.norm rfl <| J.p rfl (Q.ext rfl rfl) <| J.nil <| J.then_n <| J.seq ?_
  refine J.kases 13 rfl (fun hc13 => ?_) (fun hc13 => ?_)
  ·
   obtain ⟨e, he, rfl⟩ : ∃ e, e ∈ mleft (x.fs.map FW.ent) z.1 ∧ seen' = z.1 ++ [e.born] := by rcases hst with ⟨h, _⟩ | ⟨_, h⟩; exact absurd hc13 (by rw [h]; decide); exact h
   refine J.cond_t rfl <| J.cskip <| J.then_n <| J.block <| J.seq <| J.region ?_
   rw [mleft_fs] at he
   simp only [List.mem_map] at he
   obtain ⟨y, hy, rfl⟩ := he
   have hym : y ∈ x.fs := (List.mem_filter.1 hy).1
   refine J.p rfl (Q.entry (i := 1) (j := 3) rfl rfl rfl (List.mem_map_of_mem hym) hnd) ?_
   refine J.p rfl (Q.ext rfl rfl) ?_
   refine J.c rfl rfl (C.alloc (l := [_]) Tryz.zeroValue9 rfl) ?_
   rintro _ _ ⟨b6, rfl, rfl⟩
   refine J.norm rfl ?_
   refine J.stJ rfl Tryz.sizeOf9 rfl rfl rfl ?_
   refine J.nil <| J.then_n <| J.seq <| J.region <| J.m rfl <| J.p rfl (Q.lenSl Tryz.runUnderlying116 rfl) <| J.p rfl (Q.eql rfl rfl) <| J.m rfl ?_
   refine J.kases 19 rfl (fun hb19 => ?_) (fun hb19 => ?_)
   ·
    refine J.k rfl <| J.k rfl <| J.k rfl <| J.p rfl (Q.pick_t rfl rfl) <| J.nil <| J.then_n <| J.cond_t rfl <| J.region <| J.m rfl ?_
    refine J.p rfl (Q.ldI Tryz.isAgg9 rfl) ?_
    refine J.c rfl rfl (C.bslG (l := [_]) Tryz.runUnderlying116 Tryz.sizeOf9 Tryz.zeroValue9 (by decide) rfl rfl rfl rfl rfl) ?_
    rintro _ _ ⟨b26, rfl, rfl⟩
    refine J.norm rfl ?_
    have hfl' : x.fs.length ≤ 1073741824 := by have := congrArg List.length hx.files; simp only [List.length_map] at this; omega
    have hal := acc_len hz
    refine J.c rfl rfl (C.app (i := 2) Tryz.runUnderlying116 Tryz.runUnderlying116 Tryz.typeInfo9 Tryz.sizeOf9 Tryz.zeroValue9 rfl rfl rfl (SlR.pt (xs := [Value.string y.f.name]) 0 rfl rfl (fun j u h => by rw [Nat.zero_add]; exact h)) (by intro v hv; simp only [List.mem_singleton] at hv; subst hv; rfl) (by rw [show Tryz.t9.bytes = 16 from rfl]; omega) (by decide)) ?_
    rintro _ _ ⟨p27, c27, rfl, rfl⟩
    refine J.norm rfl <| J.p rfl (Q.asg rfl) <| J.nil <| J.blk_n ?_
    have hp0 : pre = [] := List.length_eq_zero_iff.1 (by omega)
    refine J.keep [2, 3, 4, 5, 6, 7, 8] rfl ?_
    refine J.again (z.1 ++ [y.born], p27, c27, z.2.2.2 ++ [nmOf y]) (acc_yes hx.nodup hy (by rw [hp0]; rfl) hz) (done_step hx.nodup hy).2 ⟨rfl, rfl, by rw [List.length_append]; rfl, rfl, trivial⟩ ?_
    rw [List.map_append, List.length_append]
    rfl
   refine J.m rfl <| J.p rfl (Q.func rfl rfl) ?_
   refine J.pack [0, 6] rfl ?_
   have hcl : ∀ q, q ∈ pre → FSpec Tryz.prog 120 ([] ++ [.string q] ++ [.pointer (some ⟨b6, 0, none⟩)]) [star [pt b6 (.cells [Value.string y.f.name].toArray 9 (0, 0)), G]] (fun v B => v = .bool (beg y.f.name q) ∧ B = [star [pt b6 (.cells [Value.string y.f.name].toArray 9 (0, 0)), G]]) := fun q _ =>
     FSpec.packed ((list1_spec b6 y.f.name q).frame [G]) (by rintro v B ⟨B1, ⟨rfl, rfl⟩, rfl⟩; exact ⟨rfl, rfl⟩)
   refine J.call Tryz.call118 (containsFunc_spec (star [pt b6 (.cells [Value.string y.f.name].toArray 9 (0, 0)), G]) pp pn pc pre 120 [.pointer (some ⟨b6, 0, none⟩)] (beg y.f.name) Tryz.call120 (hp.into 1 rfl) hpn hcl) [0] rfl rfl rfl rfl ?_
   rintro _ _ ⟨rfl, rfl⟩
   refine J.norm rfl ?_
   refine J.unpack 0 rfl rfl ?_
   refine J.pick [0, 2, 3, 4, 5, 6, 1] rfl ?_
   refine J.norm rfl <| J.p rfl (Q.pick_f rfl rfl) <| J.nil <| J.then_n ?_
   refine J.kases 23 rfl (fun hc23 => ?_) (fun hc23 => ?_)
   ·
    refine J.cond_t rfl <| J.region <| J.m rfl ?_
    refine J.p rfl (Q.ldI Tryz.isAgg9 rfl) ?_
    refine J.c rfl rfl (C.bslG (l := [_]) Tryz.runUnderlying116 Tryz.sizeOf9 Tryz.zeroValue9 (by decide) rfl rfl rfl rfl rfl) ?_
    rintro _ _ ⟨b26, rfl, rfl⟩
    refine J.norm rfl ?_
    have hfl' : x.fs.length ≤ 1073741824 := by have := congrArg List.length hx.files; simp only [List.length_map] at this; omega
    have hal := acc_len hz
    refine J.c rfl rfl (C.app (i := 2) Tryz.runUnderlying116 Tryz.runUnderlying116 Tryz.typeInfo9 Tryz.sizeOf9 Tryz.zeroValue9 rfl rfl rfl (SlR.pt (xs := [Value.string y.f.name]) 0 rfl rfl (fun j u h => by rw [Nat.zero_add]; exact h)) (by intro v hv; simp only [List.mem_singleton] at hv; subst hv; rfl) (by rw [show Tryz.t9.bytes = 16 from rfl]; omega) (by decide)) ?_
    rintro _ _ ⟨p27, c27, rfl, rfl⟩
    refine J.norm rfl <| J.p rfl (Q.asg rfl) <| J.nil <| J.blk_n ?_
    refine J.keep [2, 3, 4, 5, 6, 7, 8] rfl ?_
    refine J.again (z.1 ++ [y.born], p27, c27, z.2.2.2 ++ [nmOf y]) (acc_yes hx.nodup hy (by unfold selB; rw [hc23, Bool.or_true]) hz) (done_step hx.nodup hy).2 ⟨rfl, rfl, by rw [List.length_append]; rfl, rfl, trivial⟩ ?_
    rw [List.map_append, List.length_append]
    rfl
   refine J.cond_f rfl <| J.cskip <| J.blk_n ?_
   have hpe : pre.isEmpty = false := by
     cases pre with
     | nil => simp at hplen; omega
     | cons _ _ => rfl
   refine J.keep [1, 2, 3, 4, 5, 6, 7] rfl ?_
   refine J.again (z.1 ++ [y.born], z.2.1, z.2.2.1, z.2.2.2) (acc_no hx.nodup hy (by unfold selB; rw [hc23, hpe]; rfl) hz) (done_step hx.nodup hy).2 ⟨rfl, rfl, rfl, rfl, trivial⟩ rfl
  obtain ⟨hml, rfl⟩ : mleft (x.fs.map FW.ent) z.1 = [] ∧ seen' = z.1 := by rcases hst with ⟨_, h⟩ | ⟨h, _⟩; exact h; exact absurd hc13 (by rw [h]; decide)
  refine J.cond_f rfl <| J.exit <| J.then_x <| J.lp_x <| J.blk_x <| J.then_n <| J.seq <| J.region ?_
  rw [mleft_fs] at hml
  have hdone := acc_all hml
  rw [hdone] at hz
  have hfl' : x.fs.length ≤ 1073741824 := by have := congrArg List.length hx.files; simp only [List.length_map] at this; omega
  have hal : z.2.2.2.length ≤ x.fs.length := by rw [hz.length_eq, List.length_map]; exact List.length_filter_le _ _
  refine J.m rfl ?_
  refine J.call Tryz.call122 (sort_spec z.2.1 z.2.2.1 z.2.2.2 (by omega)) [0] rfl rfl rfl rfl ?_
  rintro _ _ ⟨rfl, rfl⟩
  refine J.norm rfl <| J.nil <| J.then_n <| J.seq <| J.region <| J.m rfl <| J.p rfl (Q.asg rfl) <| J.nil <| J.then_n <| J.cret ?_
  have hL : sortN z.2.2.2 = d.list pre := by
    unfold DM.list
    refine sortN_congr (hz.trans ?_)
    rw [← hx.files, List.map_map, List.filter_map, List.map_map]
    exact List.Perm.refl _
  have hLn : z.2.2.2.length = (d.list pre).length := by rw [← hL, sortN_length]
  refine J.shut [2, 3, 4] (DiskAt p d) rfl (fun h s => ⟨x, hx, s⟩) ?_
  refine J.keep [1, 0, 3, 4] rfl ?_
  rw [hL, hLn]
  refine J.ret1 (B := [own 9 1 (.slice z.2.1 (d.list pre).length z.2.2.1) ((d.list pre).map encStr), DiskAt p d, G]) rfl rfl ⟨_, _, rfl, rfl⟩ rfl

end Go.Proofs.YtblpcabdfbpcnaaGreatDoor.Dk
namespace Go.Proofs.YtblpcabdfbpcnaaGreatDoor.Dk
open Go.X Go.X.T

def keptOf (f : FM) (pk : Option Int) : Nat :=
  match pk with
  | some v => if 0 ≤ v then f.sy + (v % ((f.bs.length : Int) - f.sy + 1)).toNat else f.sy
  | none => f.sy
def fcrash (n : ByteArray) (pk : Option Int) (l : List FM) : List FM :=
  match fget n l with
  | some f => fset ⟨n, f.bs.take (keptOf f pk), keptOf f pk⟩ l
  | none => l
def crashN (names : List (List UInt8)) (picks : List Int) : Nat → List FM → List FM
  | 0, l => l
  | k + 1, l => match names[k]? with
    | some n => fcrash ⟨n.toArray⟩ picks[k]? (crashN names picks k l)
    | none => crashN names picks k l
def DM.crash (d : DM) (picks : List Int) : DM := { d with files := crashN (d.list []) picks (d.list []).length d.files }

theorem keptOf_le (f : FM) (h : f.sy ≤ f.bs.length) (pk : Option Int) : f.sy ≤ keptOf f pk ∧ keptOf f pk ≤ f.bs.length := by
  unfold keptOf
  split
  · rename_i v
    split
    · have h1 : 0 ≤ v % ((f.bs.length : Int) - f.sy + 1) := Int.emod_nonneg _ (by omega)
      have h2 : v % ((f.bs.length : Int) - f.sy + 1) < (f.bs.length : Int) - f.sy + 1 := Int.emod_lt_of_pos _ (by omega)
      omega
    · omega
  · omega

theorem mem_fset {g f : FM} : ∀ {l : List FM}, f ∈ fset g l → f = g ∨ f ∈ l
  | [], h => by cases h
  | x :: l, h => by
    simp only [fset] at h
    split at h
    · rcases List.mem_cons.1 h with h | h
      · exact .inl h
      · exact .inr (List.mem_cons_of_mem _ h)
    · rcases List.mem_cons.1 h with h | h
      · exact .inr (by rw [h]; simp)
      · rcases mem_fset h with h | h
        · exact .inl h
        · exact .inr (List.mem_cons_of_mem _ h)
theorem names_fset (g : FM) : ∀ l : List FM, (fset g l).map (·.name) = l.map (·.name)
  | [] => rfl
  | x :: l => by
    simp only [fset]
    split
    · rename_i e; simp [e]
    · simp [names_fset g l]

theorem crash_keeps (names : List (List UInt8)) (picks : List Int) (l : List FM) (hs : ∀ f, f ∈ l → f.sy ≤ f.bs.length) : ∀ k,
    (∀ f, f ∈ crashN names picks k l → f.sy ≤ f.bs.length) ∧ lenSum (crashN names picks k l) ≤ lenSum l ∧ (crashN names picks k l).map (·.name) = l.map (·.name) ∧ (∀ n, (fget n (crashN names picks k l)).isSome = (fget n l).isSome)
  | 0 => ⟨hs, Nat.le_refl _, rfl, fun _ => rfl⟩
  | k + 1 => by
    obtain ⟨h1, h2, h3, h4⟩ := crash_keeps names picks l hs k
    simp only [crashN]
    split
    · rename_i n hn
      unfold fcrash
      split
      · rename_i f hf
        have hk := keptOf_le f (h1 f (fget_mem hf)) picks[k]?
        refine ⟨?_, ?_, by rw [names_fset]; exact h3, fun m => by rw [fget_fset]; exact h4 m⟩
        · intro g hg
          rcases mem_fset hg with rfl | hg
          · simp only [List.length_take]; omega
          · exact h1 g hg
        · have := lenSum_fset (g := ⟨⟨n.toArray⟩, f.bs.take (keptOf f picks[k]?), keptOf f picks[k]?⟩) hf rfl
          simp only [List.length_take] at this
          omega
      · exact ⟨h1, h2, h3, h4⟩
    · exact ⟨h1, h2, h3, h4⟩

theorem own.cut {E : TypeId} {p : Option Addr} {n c : Nat} {xs : List Value} (k : Nat) (hk : k ≤ n) : ∀ h, own E 1 (.slice p n c) xs h → own E 1 (.slice p k k) (xs.take k) h := by
  rintro h (⟨e1, e2⟩ | ⟨o, ho, hb⟩)
  · cases e1; subst e2
    have : k = 0 := by omega
    subst this; exact .inl ⟨rfl, rfl⟩
  · have hv := ho.val
    simp only [Value.slice.injEq] at hv
    obtain ⟨rfl, rfl, rfl⟩ := hv
    have h1 := ho.len
    have h2 := ho.fits
    have h3 := ho.cap
    refine .inr ⟨{ o with len := k, cap := k }, ⟨rfl, by simp; omega, Nat.le_refl _, by simp; omega, ?_, ho.free⟩, hb⟩
    intro j u hj
    have hjk : j < k := by
      have := (List.getElem?_eq_some_iff.1 hj).1
      simp at this; omega
    rw [List.getElem?_take_of_lt hjk] at hj
    exact ho.get j u hj

theorem list_mem {d : DM} {pre : List ByteArray} {n : List UInt8} (h : n ∈ d.list pre) : ∃ f, f ∈ d.files ∧ f.name = ⟨n.toArray⟩ := by
  unfold DM.list at h
  have h1 := (sortN_perm _).mem_iff.1 h
  simp only [List.mem_map, List.mem_filter] at h1
  obtain ⟨a, ⟨⟨f, hf, rfl⟩, _⟩, rfl⟩ := h1
  exact ⟨f, hf, rfl⟩
theorem fget_of_mem {n : ByteArray} : ∀ {l : List FM} {f : FM}, f ∈ l → f.name = n → (fget n l).isSome = true
  | [], _, h, _ => by cases h
  | x :: l, f, h, e => by
    simp only [fget]
    split
    · rfl
    · rename_i hx
      rcases List.mem_cons.1 h with rfl | h
      · exact absurd e.symm hx
      · exact fget_of_mem h e

theorem crash_spec (p : Nat) (d : DM) (hd : d.wf) (hfl : d.files.length ≤ 1073741824) (G : Assn) (qp : Option Addr) (qn qc : Nat) (picks : List Int) (hq : SlR [G] 1 (.slice qp qn qc) (picks.map (Value.int .i64))) (hqn : qn ≤ 140737488355328)
    (hqr : ∀ v, v ∈ picks → -9223372036854775808 ≤ v ∧ v ≤ 9223372036854775807) :
    FSpec Tryz.prog 30 [.pointer (some ⟨p, 0, none⟩), .slice qp qn qc] [DiskAt p d, G] (fun v B => v = .tuple #[] ∧ B = [DiskAt p (d.crash picks), G]) := by
  refine FSpec.of Tryz.func30 rfl Tryz.ntmps30 rfl fun W0 F => ?_
  refine J.seq <| J.region <| J.m rfl ?_
  refine J.call Tryz.call62 (list_spec p d G none 0 0 [] (.inl ⟨none, 0, rfl, rfl⟩) (by omega) hfl) [0, 1] rfl rfl rfl rfl ?_
  rintro _ _ ⟨sp, sc, rfl, rfl⟩
  refine J.norm rfl <| J.p rfl (Q.lenSl Tryz.runUnderlying116 rfl) <| J.m rfl <| J.nil <| J.then_n <| J.block ?_
  refine J.slr1 0 rfl fun hsl => ?_
  have hql : picks.length = qn := by have := hq.len; simpa using this
  have hll : (d.list []).length ≤ d.files.length := by
    unfold DM.list; rw [sortN_length, List.length_map]; exact Nat.le_trans (List.length_filter_le _ _) (by simp)
  refine J.loop (fun k : Nat => k ≤ (d.list []).length) (fun k => (d.list []).length - k) (fun k => [(0, .pointer (some ⟨p, 0, none⟩)), (1, .slice qp qn qc), (9, .slice sp (d.list []).length sc), (10, .int .i64 (d.list []).length), (11, .int .i64 k)])
    (fun k => [own 9 1 (.slice sp (d.list []).length sc) ((d.list []).map encStr), DiskAt p { d with files := crashN (d.list []) picks k d.files }, G, F]) 0 (by omega) ⟨rfl, rfl, rfl, rfl, rfl, trivial⟩ rfl fun k hk => ?_
  refine J.seq <| J.region <| J.p rfl (Q.lss rfl rfl) <| J.nil <| J.then_n <| J.seq ?_
  refine J.kases 12 rfl (fun hc12 => ?_) (fun hc12 => ?_)
  ·
   refine J.cond_t rfl <| J.cskip <| J.then_n <| J.seq <| J.block <| J.seq <| J.region <| J.m rfl ?_
   obtain ⟨b, off, rfl, hrd⟩ := hsl.some_ (by omega)
   obtain ⟨nm, hnm⟩ : ∃ nm, (d.list [])[k]? = some nm := ⟨_, List.getElem?_eq_getElem (by omega)⟩
   refine J.p rfl (Q.ia Tryz.runUnderlying116 Tryz.sizeOf9 rfl rfl (by omega) (by omega)) ?_
   refine J.p rfl (Q.ld Tryz.isAgg9 rfl (((hrd k (encStr nm) (by simp [hnm])).within (i := 0) rfl).cast (by simp))) ?_
   refine J.p rfl (Q.asg rfl) <| J.p rfl (Q.asg rfl) <| J.nil <| J.then_n <| J.seq ?_
   obtain ⟨hs1, hs2, hs3, hs4⟩ := crash_keeps (d.list []) picks d.files hd.sy k
   refine J.open_ 1 rfl rfl DiskAt.open_ fun x hx => ?_
   refine J.norm rfl ?_
   obtain ⟨o, ho, hlk⟩ := look' ⟨nm.toArray⟩ x.fs
   have hu := hd.used
   have hsz := hd.size
   have hdu : d.used = lenSum d.files := rfl
   have hdk : ({ d with files := crashN (d.list []) picks k d.files } : DM).used = lenSum (crashN (d.list []) picks k d.files) := rfl
   have hsome : (fget ⟨nm.toArray⟩ (crashN (d.list []) picks k d.files)).isSome = true := by
     rw [hs4]
     obtain ⟨f, hf, hfn⟩ := list_mem (List.mem_of_getElem? hnm)
     exact fget_of_mem hf hfn
   have hol : o.isNone = false := by
     rcases hlk with ⟨rfl, hl⟩ | ⟨i, y, rfl, hl⟩
     · have := hl.fget; rw [hx.files] at this; rw [this] at hsome; cases hsome
     · rfl
   obtain ⟨i, y, rfl, hl⟩ := look_some hlk hol
   have hg : fget ⟨nm.toArray⟩ (crashN (d.list []) picks k d.files) = some y.f := by have := hl.fget; rwa [hx.files] at this
   have hym := fget_mem hg
   have hysy := hs1 y.f hym
   have hylen := lenSum_mem hym
   have hkp := keptOf_le y.f hysy picks[k]?
   refine J.focus 2 i rfl hl.at_ ?_
   refine J.conv (Y := star y.asns) 0 rfl (fun _ h => h) ?_
   refine J.unpack 0 rfl rfl ?_
   refine J.region <| J.m rfl <| J.p rfl (Q.nil_ rfl) <| J.p rfl (Q.fa (n := 3) Tryz.runUnderlying78 rfl rfl Tryz.sizeOf76 rfl) ?_
   refine J.p rfl (Q.ldI Tryz.isAgg76 rfl) ?_
   refine J.m rfl ?_
   refine J.p rfl (Q.lk (i := 4) Tryz.runUnderlying76 Tryz.runUnderlying9 Tryz.zeroValue146 rfl rfl rfl ho) ?_
   refine J.p rfl (Q.asg rfl) <| J.nil <| J.then_n <| J.seq <| J.region <| J.m rfl <| J.p rfl (Q.nil_ rfl) <| J.p rfl (Q.fa (n := 1) Tryz.runUnderlying148 rfl rfl Tryz.sizeOf3 rfl) ?_
   refine J.p rfl (Q.ldI Tryz.isAgg3 rfl) ?_
   refine J.p rfl (Q.asg rfl) <| J.nil <| J.then_n <| J.seq <| J.seq <| J.region <| J.m rfl <| J.m rfl <| J.p rfl (Q.lenSl Tryz.runUnderlying23 rfl) <| J.p rfl (Q.lss rfl rfl) <| J.m rfl ?_
   refine J.kases 30 rfl (fun hb30 => ?_) (fun hb30 => ?_)
   ·
    refine J.m rfl <| J.m rfl ?_
    obtain ⟨qb, qo, rfl, hqrd⟩ := hq.some_ (by omega)
    obtain ⟨pk, hpk⟩ : ∃ pk, picks[k]? = some pk := ⟨_, List.getElem?_eq_getElem (by omega)⟩
    have hpkr := hqr pk (List.mem_of_getElem? hpk)
    refine J.p rfl (Q.ia Tryz.runUnderlying23 Tryz.sizeOf3 rfl rfl (by omega) (by omega)) ?_
    refine J.p rfl (Q.ld Tryz.isAgg3 rfl (((hqrd k (.int .i64 pk) (by simp [hpk])).within (i := 6) rfl).cast (by simp))) ?_
    refine J.p rfl (Q.geq rfl rfl) <| J.p rfl (Q.pick_t rfl rfl) <| J.nil <| J.then_n ?_
    refine J.kases 36 rfl (fun hc36 => ?_) (fun hc36 => ?_)
    ·
     refine J.cond_t rfl ?_
     have hm1 : 0 ≤ pk % ((y.f.bs.length : Int) - y.f.sy + 1) := Int.emod_nonneg _ (by omega)
     have hm2 : pk % ((y.f.bs.length : Int) - y.f.sy + 1) < (y.f.bs.length : Int) - y.f.sy + 1 := Int.emod_lt_of_pos _ (by omega)
     refine J.draw [18] Tryz.mixed (by kernel_rfl) fun hR => ?_
     refine RG.p 0 hR rfl (Q.mv rfl) <| RG.p 1 hR rfl (Q.mv rfl) <| RG.p 2 hR rfl (Q.mv rfl) <| RG.p 3 hR rfl (Q.ia Tryz.runUnderlying23 Tryz.sizeOf3 rfl rfl (by omega) (by omega)) ?_
     refine RG.p 4 hR rfl (Q.ld Tryz.isAgg3 rfl (((hqrd k (.int .i64 pk) (by simp [hpk])).within (i := 6) rfl).cast (by simp))) ?_
     refine RG.p 5 hR rfl (Q.mv rfl) <| RG.p 6 hR rfl (Q.nil_ rfl) <| RG.p 7 hR rfl (Q.fa (n := 0) Tryz.runUnderlying148 rfl rfl Tryz.sizeOf22 rfl) ?_
     refine RG.p 8 hR rfl (Q.ldI Tryz.isAgg22 rfl) ?_
     refine RG.p 9 hR rfl (Q.lenSl Tryz.runUnderlying22 rfl) <| RG.p 10 hR rfl (Q.mv rfl) <| RG.p 11 hR rfl (Q.nil_ rfl) <| RG.p 12 hR rfl (Q.fa (n := 1) Tryz.runUnderlying148 rfl rfl Tryz.sizeOf3 rfl) ?_
     refine RG.p 13 hR rfl (Q.ldI Tryz.isAgg3 rfl) ?_
     refine RG.p 14 hR rfl (Q.sub64 rfl rfl (by omega)) <| RG.p 15 hR rfl (Q.add64 rfl rfl (by omega)) <| RG.p 16 hR rfl (Q.rem64 rfl rfl (by omega) (by omega)) <| RG.p 17 hR rfl (Q.add64 rfl rfl (by omega)) ?_
     refine RG.bar 18 hR rfl rfl rfl rfl rfl rfl (Q.asg rfl).toC ?_
     rintro _ _ ⟨rfl, rfl⟩
     refine RG.norm rfl ?_
     refine RG.fin hR rfl ?_
     refine J.norm rfl <| J.then_n <| J.seq ?_
     first
       | (have hke : (y.f.sy : Int) + pk % ((y.f.bs.length : Int) - y.f.sy + 1) = ((keptOf y.f picks[k]? : Nat) : Int) := by
            unfold keptOf; rw [hpk]; simp only; rw [if_pos (by omega)]; omega
          refine J.slot 7 (.int .i64 (keptOf y.f picks[k]?)) rfl (congrArg (Value.int .i64) hke) ?_)
       | (have hke : (y.f.sy : Int) = ((keptOf y.f picks[k]? : Nat) : Int) := by
            unfold keptOf; rw [hpk]; simp only; rw [if_neg (by omega)]
          refine J.slot 7 (.int .i64 (keptOf y.f picks[k]?)) rfl (congrArg (Value.int .i64) hke) ?_)
       | (have hke : (y.f.sy : Int) = ((keptOf y.f picks[k]? : Nat) : Int) := by
            unfold keptOf; rw [List.getElem?_eq_none (by omega)]
          refine J.slot 7 (.int .i64 (keptOf y.f picks[k]?)) rfl (congrArg (Value.int .i64) hke) ?_)
     refine J.tells (p := y.f.bs.length ≤ y.sc) 1 rfl (fun h hh => (own.len h hh).2) fun hcap => ?_
     refine J.draw [14] Tryz.mixed (by kernel_rfl) fun hR => ?_
     refine RG.p 0 hR rfl (Q.mv rfl) <| RG.p 1 hR rfl (Q.nil_ rfl) <| RG.p 2 hR rfl (Q.fa (n := 1) Tryz.runUnderlying78 rfl rfl Tryz.sizeOf3 rfl) ?_
     refine RG.p 3 hR rfl (Q.ldI Tryz.isAgg3 rfl) ?_
     refine RG.p 4 hR rfl (Q.mv rfl) <| RG.p 5 hR rfl (Q.nil_ rfl) <| RG.p 6 hR rfl (Q.fa (n := 0) Tryz.runUnderlying148 rfl rfl Tryz.sizeOf22 rfl) ?_
     refine RG.p 7 hR rfl (Q.ldI Tryz.isAgg22 rfl) ?_
     refine RG.p 8 hR rfl (Q.lenSl Tryz.runUnderlying22 rfl) <| RG.p 9 hR rfl (Q.mv rfl) <| RG.p 10 hR rfl (Q.sub64 rfl rfl (by omega)) <| RG.p 11 hR rfl (Q.sub64 rfl rfl (by omega)) <| RG.p 12 hR rfl (Q.nil_ rfl) <| RG.p 13 hR rfl (Q.fa (n := 1) Tryz.runUnderlying78 rfl rfl Tryz.sizeOf3 rfl) ?_
     refine RG.stI 14 hR rfl rfl rfl rfl rfl Tryz.sizeOf3 rfl rfl rfl (by exact rfl) (by exact rfl) (by exact rfl) ?_
     refine RG.fin hR rfl ?_
     refine J.norm rfl <| J.then_n <| J.region <| J.m rfl <| J.m rfl <| J.m rfl <| J.p rfl (Q.nil_ rfl) <| J.p rfl (Q.fa (n := 0) Tryz.runUnderlying148 rfl rfl Tryz.sizeOf22 rfl) ?_
     refine J.p rfl (Q.ldI Tryz.isAgg22 rfl) ?_
     refine J.m rfl <| J.m rfl <| J.p rfl (Q.slHM Tryz.runUnderlying22 Tryz.sizeOf5 rfl rfl rfl (by omega) (by omega) (by omega)) ?_
     refine J.slot 77 (.slice y.sp (keptOf y.f picks[k]?) (keptOf y.f picks[k]?)) rfl (by simp only [Int.toNat_natCast]) ?_
     refine J.m rfl <| J.p rfl (Q.nil_ rfl) <| J.p rfl (Q.fa (n := 0) Tryz.runUnderlying148 rfl rfl Tryz.sizeOf22 rfl) ?_
     refine J.stJ rfl Tryz.sizeOf22 rfl rfl rfl ?_
     refine J.p rfl (Q.nil_ rfl) <| J.p rfl (Q.fa (n := 1) Tryz.runUnderlying148 rfl rfl Tryz.sizeOf3 rfl) ?_
     refine J.stJ rfl Tryz.sizeOf3 rfl rfl rfl ?_
     refine J.nil <| J.blk_n <| J.then_n <| J.region <| J.p rfl (Q.add64 rfl rfl (by omega)) <| J.m rfl <| J.nil ?_
     have hcr : crashN (d.list []) picks (k + 1) d.files = fset ⟨⟨nm.toArray⟩, y.f.bs.take (keptOf y.f picks[k]?), keptOf y.f picks[k]?⟩ (crashN (d.list []) picks k d.files) := by
       simp only [crashN, hnm]; unfold fcrash; rw [hg]
     have hmin : (y.f.bs.take (keptOf y.f picks[k]?)).length = keptOf y.f picks[k]? := by rw [List.length_take]; omega
     refine J.conv (Y := own 5 1 (.slice y.sp (keptOf y.f picks[k]?) (keptOf y.f picks[k]?)) (bytesV (y.f.bs.take (keptOf y.f picks[k]?)))) 1 rfl (fun h hh => by have := own.cut (keptOf y.f picks[k]?) hkp.2 h hh; unfold bytesV at this ⊢; rw [List.map_take]; exact this) ?_
     refine J.pack [1, 0] rfl ?_
     refine J.conv (Y := FW.asn ⟨⟨⟨nm.toArray⟩, y.f.bs.take (keptOf y.f picks[k]?), keptOf y.f picks[k]?⟩, y.p, y.sp, keptOf y.f picks[k]?, y.born⟩) 0 rfl (fun _ h => by unfold FW.asn FW.asns FW.sl; simp only; rw [hmin]; exact h) ?_
     refine J.unfocus 0 1 i ⟨⟨⟨nm.toArray⟩, y.f.bs.take (keptOf y.f picks[k]?), keptOf y.f picks[k]?⟩, y.p, y.sp, keptOf y.f picks[k]?, y.born⟩ rfl (List.getElem?_eq_some_iff.1 hl.at_).1 ?_
     refine J.shut [0, 1, 2] (DiskAt p { d with files := crashN (d.list []) picks (k + 1) d.files }) rfl (by
       rw [hcr]
       exact DiskAt.of_put (d := { d with files := crashN (d.list []) picks k d.files }) hx hl ⟨⟨⟨nm.toArray⟩, y.f.bs.take (keptOf y.f picks[k]?), keptOf y.f picks[k]?⟩, y.p, y.sp, keptOf y.f picks[k]?, y.born⟩ rfl rfl rfl (by
         have h1 := lenSum_fset (g := ⟨⟨nm.toArray⟩, y.f.bs.take (keptOf y.f picks[k]?), keptOf y.f picks[k]?⟩) hg rfl
         simp only [hmin] at h1
         show ((lenSum (crashN (d.list []) picks k d.files) : Nat) : Int) - _ = ((lenSum (fset ⟨⟨nm.toArray⟩, y.f.bs.take (keptOf y.f picks[k]?), keptOf y.f picks[k]?⟩ (crashN (d.list []) picks k d.files)) : Nat) : Int)
         omega)) ?_
     refine J.pick [1, 0, 2] rfl ?_
     refine J.again (k + 1) (by omega) (by omega) ⟨rfl, rfl, rfl, rfl, rfl, trivial⟩ rfl
    refine J.cond_f rfl <| J.cskip <| J.then_n <| J.seq ?_
    first
      | (have hke : (y.f.sy : Int) + pk % ((y.f.bs.length : Int) - y.f.sy + 1) = ((keptOf y.f picks[k]? : Nat) : Int) := by
           unfold keptOf; rw [hpk]; simp only; rw [if_pos (by omega)]; omega
         refine J.slot 7 (.int .i64 (keptOf y.f picks[k]?)) rfl (congrArg (Value.int .i64) hke) ?_)
      | (have hke : (y.f.sy : Int) = ((keptOf y.f picks[k]? : Nat) : Int) := by
           unfold keptOf; rw [hpk]; simp only; rw [if_neg (by omega)]
         refine J.slot 7 (.int .i64 (keptOf y.f picks[k]?)) rfl (congrArg (Value.int .i64) hke) ?_)
      | (have hke : (y.f.sy : Int) = ((keptOf y.f picks[k]? : Nat) : Int) := by
           unfold keptOf; rw [List.getElem?_eq_none (by omega)]
         refine J.slot 7 (.int .i64 (keptOf y.f picks[k]?)) rfl (congrArg (Value.int .i64) hke) ?_)
    refine J.tells (p := y.f.bs.length ≤ y.sc) 1 rfl (fun h hh => (own.len h hh).2) fun hcap => ?_
    refine J.draw [14] Tryz.mixed (by kernel_rfl) fun hR => ?_
    refine RG.p 0 hR rfl (Q.mv rfl) <| RG.p 1 hR rfl (Q.nil_ rfl) <| RG.p 2 hR rfl (Q.fa (n := 1) Tryz.runUnderlying78 rfl rfl Tryz.sizeOf3 rfl) ?_
    refine RG.p 3 hR rfl (Q.ldI Tryz.isAgg3 rfl) ?_
    refine RG.p 4 hR rfl (Q.mv rfl) <| RG.p 5 hR rfl (Q.nil_ rfl) <| RG.p 6 hR rfl (Q.fa (n := 0) Tryz.runUnderlying148 rfl rfl Tryz.sizeOf22 rfl) ?_
    refine RG.p 7 hR rfl (Q.ldI Tryz.isAgg22 rfl) ?_
    refine RG.p 8 hR rfl (Q.lenSl Tryz.runUnderlying22 rfl) <| RG.p 9 hR rfl (Q.mv rfl) <| RG.p 10 hR rfl (Q.sub64 rfl rfl (by omega)) <| RG.p 11 hR rfl (Q.sub64 rfl rfl (by omega)) <| RG.p 12 hR rfl (Q.nil_ rfl) <| RG.p 13 hR rfl (Q.fa (n := 1) Tryz.runUnderlying78 rfl rfl Tryz.sizeOf3 rfl) ?_
    refine RG.stI 14 hR rfl rfl rfl rfl rfl Tryz.sizeOf3 rfl rfl rfl (by exact rfl) (by exact rfl) (by exact rfl) ?_
    refine RG.fin hR rfl ?_
    refine J.norm rfl <| J.then_n <| J.region <| J.m rfl <| J.m rfl <| J.m rfl <| J.p rfl (Q.nil_ rfl) <| J.p rfl (Q.fa (n := 0) Tryz.runUnderlying148 rfl rfl Tryz.sizeOf22 rfl) ?_
    refine J.p rfl (Q.ldI Tryz.isAgg22 rfl) ?_
    refine J.m rfl <| J.m rfl <| J.p rfl (Q.slHM Tryz.runUnderlying22 Tryz.sizeOf5 rfl rfl rfl (by omega) (by omega) (by omega)) ?_
    refine J.slot 77 (.slice y.sp (keptOf y.f picks[k]?) (keptOf y.f picks[k]?)) rfl (by simp only [Int.toNat_natCast]) ?_
    refine J.m rfl <| J.p rfl (Q.nil_ rfl) <| J.p rfl (Q.fa (n := 0) Tryz.runUnderlying148 rfl rfl Tryz.sizeOf22 rfl) ?_
    refine J.stJ rfl Tryz.sizeOf22 rfl rfl rfl ?_
    refine J.p rfl (Q.nil_ rfl) <| J.p rfl (Q.fa (n := 1) Tryz.runUnderlying148 rfl rfl Tryz.sizeOf3 rfl) ?_
    refine J.stJ rfl Tryz.sizeOf3 rfl rfl rfl ?_
    refine J.nil <| J.blk_n <| J.then_n <| J.region <| J.p rfl (Q.add64 rfl rfl (by omega)) <| J.m rfl <| J.nil ?_
    have hcr : crashN (d.list []) picks (k + 1) d.files = fset ⟨⟨nm.toArray⟩, y.f.bs.take (keptOf y.f picks[k]?), keptOf y.f picks[k]?⟩ (crashN (d.list []) picks k d.files) := by
      simp only [crashN, hnm]; unfold fcrash; rw [hg]
    have hmin : (y.f.bs.take (keptOf y.f picks[k]?)).length = keptOf y.f picks[k]? := by rw [List.length_take]; omega
    refine J.conv (Y := own 5 1 (.slice y.sp (keptOf y.f picks[k]?) (keptOf y.f picks[k]?)) (bytesV (y.f.bs.take (keptOf y.f picks[k]?)))) 1 rfl (fun h hh => by have := own.cut (keptOf y.f picks[k]?) hkp.2 h hh; unfold bytesV at this ⊢; rw [List.map_take]; exact this) ?_
    refine J.pack [1, 0] rfl ?_
    refine J.conv (Y := FW.asn ⟨⟨⟨nm.toArray⟩, y.f.bs.take (keptOf y.f picks[k]?), keptOf y.f picks[k]?⟩, y.p, y.sp, keptOf y.f picks[k]?, y.born⟩) 0 rfl (fun _ h => by unfold FW.asn FW.asns FW.sl; simp only; rw [hmin]; exact h) ?_
    refine J.unfocus 0 1 i ⟨⟨⟨nm.toArray⟩, y.f.bs.take (keptOf y.f picks[k]?), keptOf y.f picks[k]?⟩, y.p, y.sp, keptOf y.f picks[k]?, y.born⟩ rfl (List.getElem?_eq_some_iff.1 hl.at_).1 ?_
    refine J.shut [0, 1, 2] (DiskAt p { d with files := crashN (d.list []) picks (k + 1) d.files }) rfl (by
      rw [hcr]
      exact DiskAt.of_put (d := { d with files := crashN (d.list []) picks k d.files }) hx hl ⟨⟨⟨nm.toArray⟩, y.f.bs.take (keptOf y.f picks[k]?), keptOf y.f picks[k]?⟩, y.p, y.sp, keptOf y.f picks[k]?, y.born⟩ rfl rfl rfl (by
        have h1 := lenSum_fset (g := ⟨⟨nm.toArray⟩, y.f.bs.take (keptOf y.f picks[k]?), keptOf y.f picks[k]?⟩) hg rfl
        simp only [hmin] at h1
        show ((lenSum (crashN (d.list []) picks k d.files) : Nat) : Int) - _ = ((lenSum (fset ⟨⟨nm.toArray⟩, y.f.bs.take (keptOf y.f picks[k]?), keptOf y.f picks[k]?⟩ (crashN (d.list []) picks k d.files)) : Nat) : Int)
        omega)) ?_
    refine J.pick [1, 0, 2] rfl ?_
    refine J.again (k + 1) (by omega) (by omega) ⟨rfl, rfl, rfl, rfl, rfl, trivial⟩ rfl
   refine J.k rfl <| J.k rfl <| J.k rfl <| J.k rfl <| J.k rfl <| J.p rfl (Q.pick_f rfl rfl) <| J.nil <| J.then_n <| J.cond_f rfl <| J.cskip <| J.then_n <| J.seq ?_
   first
     | (have hke : (y.f.sy : Int) + pk % ((y.f.bs.length : Int) - y.f.sy + 1) = ((keptOf y.f picks[k]? : Nat) : Int) := by
          unfold keptOf; rw [hpk]; simp only; rw [if_pos (by omega)]; omega
        refine J.slot 7 (.int .i64 (keptOf y.f picks[k]?)) rfl (congrArg (Value.int .i64) hke) ?_)
     | (have hke : (y.f.sy : Int) = ((keptOf y.f picks[k]? : Nat) : Int) := by
          unfold keptOf; rw [hpk]; simp only; rw [if_neg (by omega)]
        refine J.slot 7 (.int .i64 (keptOf y.f picks[k]?)) rfl (congrArg (Value.int .i64) hke) ?_)
     | (have hke : (y.f.sy : Int) = ((keptOf y.f picks[k]? : Nat) : Int) := by
          unfold keptOf; rw [List.getElem?_eq_none (by omega)]
        refine J.slot 7 (.int .i64 (keptOf y.f picks[k]?)) rfl (congrArg (Value.int .i64) hke) ?_)
   refine J.tells (p := y.f.bs.length ≤ y.sc) 1 rfl (fun h hh => (own.len h hh).2) fun hcap => ?_
   refine J.draw [14] Tryz.mixed (by kernel_rfl) fun hR => ?_
   refine RG.p 0 hR rfl (Q.mv rfl) <| RG.p 1 hR rfl (Q.nil_ rfl) <| RG.p 2 hR rfl (Q.fa (n := 1) Tryz.runUnderlying78 rfl rfl Tryz.sizeOf3 rfl) ?_
   refine RG.p 3 hR rfl (Q.ldI Tryz.isAgg3 rfl) ?_
   refine RG.p 4 hR rfl (Q.mv rfl) <| RG.p 5 hR rfl (Q.nil_ rfl) <| RG.p 6 hR rfl (Q.fa (n := 0) Tryz.runUnderlying148 rfl rfl Tryz.sizeOf22 rfl) ?_
   refine RG.p 7 hR rfl (Q.ldI Tryz.isAgg22 rfl) ?_
   refine RG.p 8 hR rfl (Q.lenSl Tryz.runUnderlying22 rfl) <| RG.p 9 hR rfl (Q.mv rfl) <| RG.p 10 hR rfl (Q.sub64 rfl rfl (by omega)) <| RG.p 11 hR rfl (Q.sub64 rfl rfl (by omega)) <| RG.p 12 hR rfl (Q.nil_ rfl) <| RG.p 13 hR rfl (Q.fa (n := 1) Tryz.runUnderlying78 rfl rfl Tryz.sizeOf3 rfl) ?_
   refine RG.stI 14 hR rfl rfl rfl rfl rfl Tryz.sizeOf3 rfl rfl rfl (by exact rfl) (by exact rfl) (by exact rfl) ?_
   refine RG.fin hR rfl ?_
   refine J.norm rfl <| J.then_n <| J.region <| J.m rfl <| J.m rfl <| J.m rfl <| J.p rfl (Q.nil_ rfl) <| J.p rfl (Q.fa (n := 0) Tryz.runUnderlying148 rfl rfl Tryz.sizeOf22 rfl) ?_
   refine J.p rfl (Q.ldI Tryz.isAgg22 rfl) ?_
   refine J.m rfl <| J.m rfl <| J.p rfl (Q.slHM Tryz.runUnderlying22 Tryz.sizeOf5 rfl rfl rfl (by omega) (by omega) (by omega)) ?_
   refine J.slot 77 (.slice y.sp (keptOf y.f picks[k]?) (keptOf y.f picks[k]?)) rfl (by simp only [Int.toNat_natCast]) ?_
   refine J.m rfl <| J.p rfl (Q.nil_ rfl) <| J.p rfl (Q.fa (n := 0) Tryz.runUnderlying148 rfl rfl Tryz.sizeOf22 rfl) ?_
   refine J.stJ rfl Tryz.sizeOf22 rfl rfl rfl ?_
   refine J.p rfl (Q.nil_ rfl) <| J.p rfl (Q.fa (n := 1) Tryz.runUnderlying148 rfl rfl Tryz.sizeOf3 rfl) ?_
   refine J.stJ rfl Tryz.sizeOf3 rfl rfl rfl ?_
   refine J.nil <| J.blk_n <| J.then_n <| J.region <| J.p rfl (Q.add64 rfl rfl (by omega)) <| J.m rfl <| J.nil ?_
   have hcr : crashN (d.list []) picks (k + 1) d.files = fset ⟨⟨nm.toArray⟩, y.f.bs.take (keptOf y.f picks[k]?), keptOf y.f picks[k]?⟩ (crashN (d.list []) picks k d.files) := by
     simp only [crashN, hnm]; unfold fcrash; rw [hg]
   have hmin : (y.f.bs.take (keptOf y.f picks[k]?)).length = keptOf y.f picks[k]? := by rw [List.length_take]; omega
   refine J.conv (Y := own 5 1 (.slice y.sp (keptOf y.f picks[k]?) (keptOf y.f picks[k]?)) (bytesV (y.f.bs.take (keptOf y.f picks[k]?)))) 1 rfl (fun h hh => by have := own.cut (keptOf y.f picks[k]?) hkp.2 h hh; unfold bytesV at this ⊢; rw [List.map_take]; exact this) ?_
   refine J.pack [1, 0] rfl ?_
   refine J.conv (Y := FW.asn ⟨⟨⟨nm.toArray⟩, y.f.bs.take (keptOf y.f picks[k]?), keptOf y.f picks[k]?⟩, y.p, y.sp, keptOf y.f picks[k]?, y.born⟩) 0 rfl (fun _ h => by unfold FW.asn FW.asns FW.sl; simp only; rw [hmin]; exact h) ?_
   refine J.unfocus 0 1 i ⟨⟨⟨nm.toArray⟩, y.f.bs.take (keptOf y.f picks[k]?), keptOf y.f picks[k]?⟩, y.p, y.sp, keptOf y.f picks[k]?, y.born⟩ rfl (List.getElem?_eq_some_iff.1 hl.at_).1 ?_
   refine J.shut [0, 1, 2] (DiskAt p { d with files := crashN (d.list []) picks (k + 1) d.files }) rfl (by
     rw [hcr]
     exact DiskAt.of_put (d := { d with files := crashN (d.list []) picks k d.files }) hx hl ⟨⟨⟨nm.toArray⟩, y.f.bs.take (keptOf y.f picks[k]?), keptOf y.f picks[k]?⟩, y.p, y.sp, keptOf y.f picks[k]?, y.born⟩ rfl rfl rfl (by
       have h1 := lenSum_fset (g := ⟨⟨nm.toArray⟩, y.f.bs.take (keptOf y.f picks[k]?), keptOf y.f picks[k]?⟩) hg rfl
       simp only [hmin] at h1
       show ((lenSum (crashN (d.list []) picks k d.files) : Nat) : Int) - _ = ((lenSum (fset ⟨⟨nm.toArray⟩, y.f.bs.take (keptOf y.f picks[k]?), keptOf y.f picks[k]?⟩ (crashN (d.list []) picks k d.files)) : Nat) : Int)
       omega)) ?_
   refine J.pick [1, 0, 2] rfl ?_
   refine J.again (k + 1) (by omega) (by omega) ⟨rfl, rfl, rfl, rfl, rfl, trivial⟩ rfl
  refine J.cond_f rfl <| J.exit <| J.then_x <| J.lp_x <| J.blk_x ?_
  have hkn : k = (d.list []).length := by omega
  subst hkn
  refine J.keep [1, 2, 3] rfl ?_
  refine J.end0 (B := [DiskAt p (d.crash picks), G]) rfl ⟨rfl, rfl⟩ rfl

end Go.Proofs.YtblpcabdfbpcnaaGreatDoor.Dk
namespace Go.Proofs.YtblpcabdfbpcnaaGreatDoor
open Go.X Go.X.T Go.X.E Dk

inductive XO where
  | disk (d : DM)
  | code (k m : Nat)

abbrev SumF := List Value → Hs XO → Option (Value × Hs XO)
def ptrV (b : Nat) : Value := .pointer (some ⟨b, 0, none⟩)
def i0 : Value := .int .i64 0
def glK : Nat → Option (List Value)
  | 5 => some (tab64.map fun n => .int .u8 n)
  | 2 => some [.iface 831 (.pointer (some ⟨16, 0, none⟩))]
  | _ => none
def onOwn (H : Hs XO) (p : Value) (k : Nat → XO → Hs XO → Option (Value × Hs XO)) : Option (Value × Hs XO) :=
  match p with
  | .pointer (some ⟨b, 0, none⟩) =>
    (match H.get b with
     | some (.own x) => (match H.del b with | some H1 => k b x H1 | none => none)
     | _ => none)
  | _ => none
def back (H1 : Hs XO) (b : Nat) (x : XO) (v : Value) : Option (Value × Hs XO) := match H1.put b (.own x) with | some H2 => some (v, H2) | none => none
def made (H : Hs XO) (o : AObj XO) (f : Nat → Value) : Option (Value × Hs XO) := match H.new o with | some (b, H1) => some (f b, H1) | none => none
def strsOf : List Value → Option (List ByteArray)
  | [] => some []
  | .string s :: l => match strsOf l with | some r => some (s :: r) | none => none
  | _ => none
def rowsOf (H : Hs XO) : List Value → Option (List (List UInt8))
  | [] => some []
  | v :: l => match slCells glK H 1 v with
    | some cs => (match bytesOf cs, rowsOf H l with | some a, some r => some (a :: r) | _, _ => none)
    | none => none
def insS (x : ByteArray) : List ByteArray → List ByteArray
  | [] => [x]
  | y :: l => if y.data.toList ≤ x.data.toList then y :: insS x l else x :: y :: l
def sortS : List ByteArray → List ByteArray
  | [] => []
  | x :: l => insS x (sortS l)

def pwB : List ByteArray → Bool
  | [] => true
  | x :: l => l.all (fun y => decide (x.data.toList ≤ y.data.toList)) && pwB l

def kNew : SumF := fun args H => match args with
  | [.int .i64 (.ofNat n)] => bif Nat.blt 0 n && Nat.ble n 1073741824 then made H (.own (.disk ⟨n, 0, []⟩)) fun b => .tuple #[ptrV b, i0] else none
  | _ => none
def kBorn : SumF := fun args H => match args with
  | [p] => onOwn H p fun b x H1 => match x with | .disk d => back H1 b (.disk d) (.int .i64 d.born) | _ => none
  | _ => none
def kAppend : SumF := fun args H => match args with
  | [p, .string s, l] => onOwn H p fun b x H1 => match x with
    | .disk d => (match slCells glK H1 1 l with
      | some cs => (match rowsOf H1 cs with
        | some r => bif Nat.ble s.size 1000 && Nat.ble r.length 1000 && Nat.ble r.flatten.length 1000000 then back H1 b (.disk (d.append s r.flatten).2) (.int .i64 (d.append s r.flatten).1) else none
        | none => none)
      | none => none)
    | _ => none
  | _ => none
def kSync : SumF := fun args H => match args with
  | [p, l] => onOwn H p fun b x H1 => match x with
    | .disk d => (match slCells glK H1 1 l with
      | some cs => (match strsOf cs with
        | some ns => bif Nat.ble ns.length 1000 then back H1 b (.disk (d.sync ns).2) (.int .i64 (d.sync ns).1) else none
        | none => none)
      | none => none)
    | _ => none
  | _ => none
def kDelete : SumF := fun args H => match args with
  | [p, l] => onOwn H p fun b x H1 => match x with
    | .disk d => (match slCells glK H1 1 l with
      | some cs => (match strsOf cs with
        | some ns => bif Nat.ble ns.length 1000 then back H1 b (.disk (d.delete ns).2) (.int .i64 (d.delete ns).1) else none
        | none => none)
      | none => none)
    | _ => none
  | _ => none
def kRename : SumF := fun args H => match args with
  | [p, .string s, .string t] => onOwn H p fun b x H1 => match x with
    | .disk d => bif Nat.ble t.size 1000 then back H1 b (.disk (d.rename s t).2) (.int .i64 (d.rename s t).1) else none
    | _ => none
  | _ => none
def kRead : SumF := fun args H => match args with
  | [p, .string s] => onOwn H p fun b x H1 => match x with
    | .disk d => (match fget s d.files with
      | none => back H1 b (.disk d) (.tuple #[.slice none 0 0, .int .i64 4])
      | some f => (match f.bs with
        | [] => none
        | u :: l => (match H1.put b (.own (.disk d)) with
          | some H2 => made H2 (.cells (bytesV (u :: l))) fun q => .tuple #[.slice (some ⟨q, 0, none⟩) (l.length + 1) (grown + 1), i0]
          | none => none)))
    | _ => none
  | _ => none
def kList : SumF := fun args H => match args with
  | [p, l] => onOwn H p fun b x H1 => match x with
    | .disk d => (match slCells glK H1 1 l with
      | some cs => (match strsOf cs with
        | some pre => bif Nat.ble pre.length 1000 && Nat.ble d.files.length 1000 then (match H1.put b (.own (.disk d)) with
          | some H2 => (match sortS ((d.files.map (·.name)).filter (selB pre)) with
            | [] => none
            | n :: r => bif pwB (n :: r) then made H2 (.cells ((n :: r).map .string)) fun q => .slice (some ⟨q, 0, none⟩) (r.length + 1) (grown + 1) else none)
          | none => none) else none
        | none => none)
      | none => none)
    | _ => none
  | _ => none
def kIs : SumF := fun args H => match args with
  | [.iface t (.int .i64 a), .iface u (.int .i64 b)] => bif Nat.beq t 27 && Nat.beq u 27 then some (.bool (decide (a = b)), H) else none
  | _ => none
def kCode : SumF := fun args H => match args with
  | [.int .i64 (.ofNat k), .int .i64 (.ofNat m)] => bif Nat.blt 0 k && Nat.ble (k + m) 255 then made H (.own (.code k m)) fun b => .tuple #[ptrV b, i0] else none
  | _ => none
def kEncode : SumF := fun args H => match args with
  | [p, l] => onOwn H p fun b x H1 => match x with
    | .code k m => (match slCells glK H1 1 l with
      | some cs => (match bytesOf cs with
        | some bs => bif Nat.ble bs.length 1000 && Nat.blt 0 k && Nat.ble (k + m) 255 then (match H1.put b (.own (.code k m)) with
          | some H2 => made H2 (.cells []) fun q => .slice (some ⟨q, 0, none⟩) (k + m) (grown + 1)
          | none => none) else none
        | none => none)
      | none => none)
    | _ => none
  | _ => none
def kClone : SumF := fun args H => match args with
  | [.string s] => bif Nat.ble s.size 1000000 then some (.string s, H) else none
  | _ => none
def sumsK : Sums XO := fun f =>
  bif Nat.beq f 5 then some kNew
  else bif Nat.beq f 136 then some kBorn
  else bif Nat.beq f 27 then some kAppend
  else bif Nat.beq f 28 then some kSync
  else bif Nat.beq f 163 then some kDelete
  else bif Nat.beq f 281 then some kRename
  else bif Nat.beq f 35 then some kRead
  else bif Nat.beq f 62 then some kList
  else bif Nat.beq f 262 then some kIs
  else bif Nat.beq f 15 then some kCode
  else bif Nat.beq f 19 then some kEncode
  else bif Nat.beq f 511 then some kClone
  else none
def toldB {X : Type} : Option (Value × Hs X) → Bool
  | some (.bool b, _) => b
  | _ => false
theorem toldB_of {X : Type} {r : Option (Value × Hs X)} (h : toldB r = true) : ∃ H, r = some (.bool true, H) := by
  unfold toldB at h
  split at h
  · rename_i b H
    subst h
    exact ⟨H, rfl⟩
  · cases h
end Go.Proofs.YtblpcabdfbpcnaaGreatDoor
namespace Go.Proofs.YtblpcabdfbpcnaaGreatDoor.Dk
open Go.X Go.X.T

theorem fget_none_iff {n : ByteArray} : ∀ {l : List FM}, fget n l = none ↔ n ∉ l.map (·.name)
  | [] => by simp [fget]
  | x :: l => by
    simp only [fget, List.map_cons, List.mem_cons]
    by_cases h : n = x.name
    · simp [h]
    · simp [h, fget_none_iff (l := l)]
theorem names_fens (n : ByteArray) (l : List FM) (h : (l.map (·.name)).Nodup) : ((fens n l).map (·.name)).Nodup := by
  unfold fens; split
  · exact h
  · rename_i hn
    rw [List.map_append, List.nodup_append]
    refine ⟨h, by simp, ?_⟩
    intro a ha b hb
    simp only [List.map_cons, List.map_nil, List.mem_singleton] at hb
    subst hb
    rintro rfl
    exact fget_none_iff.1 hn ha
theorem fget_snoc {n : ByteArray} : ∀ {l : List FM}, fget n l = none → fget n (l ++ [⟨n, [], 0⟩]) = some ⟨n, [], 0⟩
  | [], _ => by simp [fget]
  | x :: l, h => by
    simp only [fget] at h
    split at h
    · cases h
    · rename_i hx
      simp only [List.cons_append, fget, hx, if_false]
      exact fget_snoc h
theorem fget_fens (n : ByteArray) (l : List FM) : ∃ f, fget n (fens n l) = some f ∧ (f.bs.length = (match fget n l with | some g => g.bs.length | none => 0)) ∧ (fget n l = some f ∨ f = ⟨n, [], 0⟩) := by
  unfold fens
  cases h : fget n l with
  | some f => exact ⟨f, h, rfl, .inl rfl⟩
  | none => exact ⟨⟨n, [], 0⟩, fget_snoc h, rfl, .inr rfl⟩
theorem mem_fens {n : ByteArray} {l : List FM} {f : FM} (h : f ∈ fens n l) : f ∈ l ∨ f = ⟨n, [], 0⟩ := by
  unfold fens at h
  split at h
  · exact .inl h
  · rcases List.mem_append.1 h with h | h
    · exact .inl h
    · exact .inr (by simpa using h)

theorem fput_keeps {l : List FM} (hn : (l.map (·.name)).Nodup) (hs : ∀ f, f ∈ l → f.sy ≤ f.bs.length) (n : ByteArray) (bs : List UInt8) :
    ((fput n bs l).map (·.name)).Nodup ∧ (∀ f, f ∈ fput n bs l → f.sy ≤ f.bs.length) ∧ lenSum (fput n bs l) = lenSum l + bs.length := by
  obtain ⟨f, hf, _, _⟩ := fget_fens n l
  have he : fput n bs l = fset ⟨n, f.bs ++ bs, f.sy⟩ (fens n l) := by unfold fput; rw [hf]
  have hs' : ∀ g, g ∈ fens n l → g.sy ≤ g.bs.length := by
    intro g hg
    rcases mem_fens hg with h | rfl
    · exact hs g h
    · exact Nat.le_refl _
  rw [he]
  refine ⟨by rw [names_fset]; exact names_fens n l hn, ?_, ?_⟩
  · intro g hg
    rcases mem_fset hg with rfl | hg
    · have := hs' f (fget_mem hf); simp only [List.length_append]; omega
    · exact hs' g hg
  · have := lenSum_fset (g := ⟨n, f.bs ++ bs, f.sy⟩) hf rfl
    rw [lenSum_fens] at this
    simp only [List.length_append] at this
    omega

theorem wf_put {d : DM} (hd : d.wf) (n : ByteArray) (bs : List UInt8) (h : d.used + bs.length ≤ d.size) : DM.wf { d with files := fput n bs d.files } ∧ DM.used { d with files := fput n bs d.files } = d.used + bs.length := by
  obtain ⟨h1, h2, h3⟩ := fput_keeps hd.names hd.sy n bs
  exact ⟨⟨h1, h2, by show lenSum _ ≤ _; rw [h3]; exact h, hd.size, hd.born⟩, h3⟩
theorem wf_append {d : DM} (hd : d.wf) (n : ByteArray) (bs : List UInt8) : (d.append n bs).2.wf := by
  unfold DM.append
  split
  · exact hd
  · split
    · exact hd
    · exact (wf_put hd n bs (by omega)).1

theorem fdel_sub (n : ByteArray) : ∀ l : List FM, (fdel n l).Sublist l
  | [] => List.Sublist.refl _
  | x :: l => by
    simp only [fdel]; split
    · exact List.sublist_cons_self _ _
    · exact (fdel_sub n l).cons_cons _
theorem fdels_sub : ∀ (names : List ByteArray) (l : List FM), (fdels names l).Sublist l
  | [], _ => List.Sublist.refl _
  | n :: ns, l => (fdels_sub ns (fdel n l)).trans (fdel_sub n l)
theorem wf_sub {d : DM} (hd : d.wf) {l : List FM} (h : l.Sublist d.files) (hu : lenSum l ≤ lenSum d.files) : DM.wf { d with files := l } :=
  ⟨(h.map _).nodup hd.names, fun f hf => hd.sy f (h.mem hf), Nat.le_trans hu hd.used, hd.size, hd.born⟩
theorem wf_delete {d : DM} (hd : d.wf) (names : List ByteArray) : (d.delete names).2.wf := by
  unfold DM.delete; split
  · exact wf_sub hd (fdels_sub _ _) (lenSum_fdels_le _ _)
  · exact hd

end Go.Proofs.YtblpcabdfbpcnaaGreatDoor.Dk
namespace Go.Proofs.YtblpcabdfbpcnaaGreatDoor.Dk
open Go.X Go.X.T

theorem fget_set (a : ByteArray) (g : FM) : ∀ l : List FM, fget a (fset g l) = if a = g.name then (fget a l).map (fun _ => g) else fget a l
  | [] => by simp [fset, fget]
  | x :: l => by
    have ih := fget_set a g l
    simp only [fset]
    by_cases h : g.name = x.name
    · rw [if_pos h]
      by_cases ha : a = g.name
      · subst ha; simp [fget, h]
      · have : a ≠ x.name := by rw [← h]; exact ha
        simp [fget, ha, this]
    · rw [if_neg h]
      by_cases hx : a = x.name
      · have : a ≠ g.name := by rintro rfl; exact h hx
        rw [if_neg this]; simp only [fget, if_pos hx]
      · simp only [fget, if_neg hx, ih]

theorem fget_snoc' (a : ByteArray) (g : FM) : ∀ l : List FM, fget a (l ++ [g]) = match fget a l with | some f => some f | none => if a = g.name then some g else none
  | [] => by simp [fget]
  | x :: l => by
    simp only [List.cons_append, fget]
    by_cases hx : a = x.name
    · simp [hx]
    · simp only [if_neg hx]; exact fget_snoc' a g l

def bytesOf (n : ByteArray) (l : List FM) : List UInt8 := match fget n l with | some f => f.bs | none => []
theorem nodup_snoc {l : List FM} {g : FM} (h : (l.map (·.name)).Nodup) (hg : fget g.name l = none) : ((l ++ [g]).map (·.name)).Nodup := by
  rw [List.map_append, List.nodup_append]
  refine ⟨h, by simp, ?_⟩
  intro a ha b hb
  simp only [List.map_cons, List.map_nil, List.mem_singleton] at hb
  subst hb
  rintro rfl
  exact fget_none_iff.1 hg ha

def fboth (b : ByteArray) (f : FM) (l : List FM) : List FM := match fget b l with | some _ => fset ⟨b, f.bs, f.sy⟩ l | none => l ++ [⟨b, f.bs, f.sy⟩]
theorem frename_eq (a b : ByteArray) (f : FM) (l : List FM) : frename a b f l = fdel a (fboth b f l) := rfl
theorem both_names {b : ByteArray} {f : FM} {l : List FM} (h : (l.map (·.name)).Nodup) : ((fboth b f l).map (·.name)).Nodup := by
  unfold fboth; split
  · rw [names_fset]; exact h
  · rename_i hn; exact nodup_snoc h hn
theorem both_get (a b : ByteArray) (f : FM) (l : List FM) : fget a (fboth b f l) = if a = b then some ⟨b, f.bs, f.sy⟩ else fget a l := by
  unfold fboth
  cases h : fget b l with
  | some g =>
    simp only [fget_set]
    by_cases ha : a = b
    · subst ha; simp [h]
    · simp [ha]
  | none =>
    simp only [fget_snoc']
    by_cases ha : a = b
    · subst ha; simp [h]
    · simp only [if_neg ha]; cases fget a l <;> rfl
theorem both_mem {b : ByteArray} {f g : FM} {l : List FM} (h : g ∈ fboth b f l) : g ∈ l ∨ g = ⟨b, f.bs, f.sy⟩ := by
  unfold fboth at h; split at h
  · rcases mem_fset h with h | h
    · exact .inr h
    · exact .inl h
  · rcases List.mem_append.1 h with h | h
    · exact .inl h
    · exact .inr (by simpa using h)
theorem both_sum (b : ByteArray) (f : FM) (l : List FM) : lenSum (fboth b f l) + (bytesOf b l).length = lenSum l + f.bs.length := by
  unfold fboth bytesOf
  cases h : fget b l with
  | some g => exact lenSum_fset h rfl
  | none => simp [lenSum_append, lenSum]

theorem sum_rename {a b : ByteArray} {f : FM} {l : List FM} (hab : a ≠ b) (hf : fget a l = some f) : lenSum (frename a b f l) + (bytesOf b l).length = lenSum l := by
  have h1 := both_sum b f l
  have h2 : fget a (fboth b f l) = some f := by rw [both_get, if_neg hab]; exact hf
  have h3 := lenSum_fdel h2
  rw [frename_eq]; omega

theorem wf_sync {d : DM} (hd : d.wf) (names : List ByteArray) : (d.sync names).2.wf := by
  have h : ∀ (names : List ByteArray) (l : List FM), (l.map (·.name)).Nodup → (∀ f, f ∈ l → f.sy ≤ f.bs.length) → ((fsyncs names l).map (·.name)).Nodup ∧ (∀ f, f ∈ fsyncs names l → f.sy ≤ f.bs.length) := by
    intro names
    induction names with
    | nil => exact fun l a b => ⟨a, b⟩
    | cons n ns ih =>
      intro l a b
      refine ih (fsync n l) ?_ ?_
      · unfold fsync; split
        · rw [names_fset]; exact a
        · exact a
      · unfold fsync; split
        · intro g hg
          rcases mem_fset hg with rfl | h
          · exact Nat.le_refl _
          · exact b g h
        · exact b
  obtain ⟨h1, h2⟩ := h names d.files hd.names hd.sy
  unfold DM.sync; split
  · exact ⟨h1, h2, by show lenSum _ ≤ _; rw [lenSum_fsyncs]; exact hd.used, hd.size, hd.born⟩
  · exact hd

theorem wf_rename {d : DM} (hd : d.wf) (a b : ByteArray) : (d.rename a b).2.wf := by
  unfold DM.rename
  split
  · exact hd
  · rename_i f hf
    split
    · exact hd
    · split
      · exact hd
      · rename_i hab
        refine ⟨(List.Sublist.map _ (fdel_sub _ _)).nodup (both_names hd.names), ?_, ?_, hd.size, hd.born⟩
        · intro g hg
          rcases both_mem ((fdel_sub _ _).mem hg) with h | rfl
          · exact hd.sy g h
          · exact hd.sy f (fget_mem hf)
        · have := sum_rename hab hf
          have := hd.used
          simp only [DM.used] at *; omega

end Go.Proofs.YtblpcabdfbpcnaaGreatDoor.Dk
namespace Go.Proofs.YtblpcabdfbpcnaaGreatDoor
open Go.X Go.X.T Go.X.E Dk

def OWK : XO → Nat → Assn
  | .disk d, b => fun h => d.wf ∧ DiskAt b d h
  | .code k m, b => CodeAt b k m

theorem onOwn_inv {H : Hs XO} {p : Value} {k : Nat → XO → Hs XO → Option (Value × Hs XO)} {r : Value × Hs XO} (h : onOwn H p k = some r) :
    ∃ b x H1, p = .pointer (some ⟨b, 0, none⟩) ∧ H.get b = some (.own x) ∧ H.del b = some H1 ∧ k b x H1 = some r := by
  unfold onOwn at h
  split at h
  · rename_i b
    split at h
    · rename_i x hx
      split at h
      · rename_i H1 hd
        exact ⟨b, x, H1, rfl, hx, hd, h⟩
      · cases h
    · cases h
  · cases h
theorem back_inv {H1 H' : Hs XO} {b : Nat} {x : XO} {v r : Value} (h : back H1 b x v = some (r, H')) : H1.put b (.own x) = some H' ∧ r = v := by
  unfold back at h
  split at h
  · rename_i H2 hp
    cases h; exact ⟨hp, rfl⟩
  · cases h
theorem made_inv {H H' : Hs XO} {o : AObj XO} {g : Nat → Value} {r : Value} (h : made H o g = some (r, H')) : ∃ b, H.new o = some (b, H') ∧ r = g b := by
  unfold made at h
  split at h
  · rename_i b H1 hn
    cases h; exact ⟨b, hn, rfl⟩
  · cases h
theorem add_star {h : Hp} {As : List Assn} (s : HSat h As) : HSat h (As ++ [star []]) :=
  HSat.of_append (h1 := h) (h2 := fun _ => none) s ⟨fun _ => none, fun _ => none, trivial, trivial, fun _ => .inl rfl, Sub.refl _, Sub.refl _⟩ (fun _ => .inr rfl) (Sub.refl _) (fun _ _ e => nomatch e)

section
variable {σ : Sg} {H H1 H2 : Hs XO} {F : Assn} {f : FuncId} {args : List Value} {b : Nat} {x x' : XO} {v : Value}

theorem put_HG (hg : HG σ H) (hb : H.get b = some (.own x)) (hd : H.del b = some H1) (hp : H1.put b (.own x') = some H2) : HG σ H2 := by
  obtain ⟨d1, d2⟩ := Hs.del_get hd
  obtain ⟨p1, p2⟩ := Hs.put_get hp
  refine hg.put (o' := .own x') hb (by rw [p1, d1]) (fun m => ?_) (fun cs e => by cases e) (fun r e => by cases e)
  rw [p2, d2]
  by_cases h : m = b
  · rw [if_pos h, if_pos h]
  · rw [if_neg h, if_neg h, if_neg h]
theorem del_HG (hg : HG σ H) (hd : H.del b = some H1) : HG σ H1 := hg.del (Hs.del_get hd).1 (Hs.del_get hd).2
theorem own_sat {W0 w : World} (hg : HG σ H) (hb : H.get b = some (.own x)) (hd : H.del b = some H1) (s : Sat W0 w [conc OWK σ H F]) :
    ∃ loc, σ b = some loc ∧ loc.o = 0 ∧ Sat W0 w [OWK x loc.b, conc OWK σ H1 F] := by
  obtain ⟨loc, hl⟩ := hg.loc b _ hb
  obtain ⟨h1, _, c, _, _, s1, _⟩ := s.heap
  obtain ⟨k1, k2, ⟨ho, hx⟩, r, d, u, v⟩ := concF.focus c hb hl (Hs.del_get hd).2
  exact ⟨loc, hl, ho, s.os, s.tape, s.out, HSat.mono ⟨k1, k2, hx, r, d, u, v⟩ s1⟩
theorem own_back {k : Hp} {loc : E.Loc} (hd : H.del b = some H1) (hp : H1.put b (.own x') = some H2) (hl : σ b = some loc) (ho : loc.o = 0) (s : HSat k [OWK x' loc.b, conc OWK σ H1 F]) : conc OWK σ H2 F k := by
  have e : H1.get b = none := by rw [(Hs.del_get hd).2, if_pos rfl]
  refine concF.unfocus (o := .own x') (loc := loc) ?_ e hl (Hs.put_get hp).2
  exact s.imp fun _ t => ⟨ho, t⟩

theorem own_call (hb : H.get b = some (.own x)) (hd : H.del b = some H1) (hp : H1.put b (.own x') = some H2) (hv : ∀ τ, VR τ v v)
    (hc : ∀ (σ : Sg) (F : Assn) (args' : List Value) (loc : E.Loc), HG σ H1 → GG glK σ F → σ b = some loc → loc.o = 0 → VRs σ args args' → FSpec Tryz.prog f args' [OWK x loc.b, conc OWK σ H1 F] (fun u B => u = v ∧ B = [OWK x' loc.b, conc OWK σ H1 F])) :
    CallOK Tryz.prog OWK glK f args H v H2 := by
  intro σ F args' W0 w hg gg ha s
  obtain ⟨loc, hl, ho, s1⟩ := own_sat hg hb hd s
  refine ((hc σ F args' loc (del_HG hg hd) gg hl ho ha).call W0 w (star []) ⟨s1.os, s1.tape, s1.out, add_star s1.heap⟩).mono ?_
  rintro e w' ⟨u, B, rfl, ⟨rfl, rfl⟩, t⟩
  refine ⟨u, _, rfl, ⟨σ, Ext.refl σ, put_HG hg hb hd hp, hv σ, rfl⟩, t.os, t.tape, t.out, ?_⟩
  exact one_sat (own_back hd hp hl ho (t.heap.perm (X.pick_perm (is := [2, 0, 1]) rfl)).tail)
theorem disk_call {d d' : DM} (hb : H.get b = some (.own (.disk d))) (hd : H.del b = some H1) (hp : H1.put b (.own (.disk d')) = some H2) (hv : ∀ τ, VR τ v v) (hw : d.wf → d'.wf)
    (hc : ∀ (σ : Sg) (F : Assn) (args' : List Value) (loc : E.Loc), HG σ H1 → GG glK σ F → σ b = some loc → loc.o = 0 → VRs σ args args' → d.wf → FSpec Tryz.prog f args' [DiskAt loc.b d, conc OWK σ H1 F] (fun u B => u = v ∧ B = [DiskAt loc.b d', conc OWK σ H1 F])) :
    CallOK Tryz.prog OWK glK f args H v H2 :=
  own_call hb hd hp hv fun σ F args' loc hg gg hl ho ha => FSpec.knowHd (p := d.wf) (fun h s => s.1) fun hwf => (hc σ F args' loc hg gg hl ho ha hwf).conv (fun h s => s.imp fun _ t => t.2) (by
    rintro u B ⟨rfl, rfl⟩; exact ⟨_, ⟨rfl, rfl⟩, fun h s => s.imp fun _ t => ⟨hw hwf, t⟩⟩)

theorem ptr_in {loc : E.Loc} {u : Value} (hl : σ b = some loc) (ho : loc.o = 0) (h : VR σ (.pointer (some ⟨b, 0, none⟩)) u) : u = .pointer (some ⟨loc.b, 0, none⟩) := by
  cases h with
  | ptr e => rw [hl] at e; cases e; rw [ho]
theorem str_in {s : ByteArray} {u : Value} (h : VR σ (.string s) u) : u = .string s := by cases h; rfl
theorem sl_in {l u : Value} {cs : List Value} (hg : HG σ H) (gg : GG glK σ F) (e : slCells glK H 1 l = some cs) (h : VR σ l u) : ∃ us p n c, u = .slice p n c ∧ cs.length = n ∧ VRs σ cs us ∧ SlR [conc OWK σ H F] 1 (.slice p n c) us := by
  have : ∃ p n c, l = .slice p n c := by
    unfold slCells at e
    split at e
    · exact ⟨_, _, _, rfl⟩
    · exact ⟨_, _, _, rfl⟩
    · cases e
  obtain ⟨p, n, c, rfl⟩ := this
  obtain ⟨us, p', c', rfl, h1, h2, h3, _⟩ := slCells_ok (OW := OWK) hg gg h e
  exact ⟨us, p', n, c', rfl, by simpa using h2, h1, h3⟩
theorem strs_in : ∀ {cs us : List Value} {ns : List ByteArray}, strsOf cs = some ns → VRs σ cs us → us = ns.map Value.string ∧ ns.length = cs.length
  | [], _, ns, h, .nil => by simp only [strsOf, Option.some.injEq] at h; subst h; exact ⟨rfl, rfl⟩
  | v :: l, _, ns, h, .cons a r => by
    cases v <;> simp only [strsOf] at h <;> try (cases h; done)
    rename_i s
    split at h
    · rename_i ns' hr
      simp only [Option.some.injEq] at h; subst h
      obtain ⟨h1, h2⟩ := strs_in hr r
      obtain rfl := str_in a
      exact ⟨by rw [h1]; rfl, by simp [h2]⟩
    · cases h
theorem rows_in (hg : HG σ H) (gg : GG glK σ F) : ∀ {cs us : List Value} {r : List (List UInt8)}, rowsOf H cs = some r → VRs σ cs us →
    ∃ parts : List Part, us = parts.map Part.val ∧ pcat parts = r.flatten ∧ r.length = cs.length ∧ ∀ q, q ∈ parts → SlR [conc OWK σ H F] 1 q.val (bytesV q.bs)
  | [], _, r, h, .nil => by simp only [rowsOf, Option.some.injEq] at h; subst h; exact ⟨[], rfl, rfl, rfl, by simp⟩
  | v :: l, _, r, h, .cons a rs => by
    simp only [rowsOf] at h
    split at h
    · rename_i cs hcs
      split at h
      · rename_i bs r' hb hr
        simp only [Option.some.injEq] at h; subst h
        obtain ⟨us, p, n, c, rfl, h1, h2, h3⟩ := sl_in hg gg hcs a
        obtain rfl := bytesOf_ok hb h2
        obtain ⟨parts, h4, h5, h6, h7⟩ := rows_in hg gg hr rs
        have hn : bs.length = n := by have := h2.length; simp [bytesV] at this; omega
        subst hn
        refine ⟨⟨p, c, bs⟩ :: parts, by rw [h4]; rfl, by simp [pcat, h5], by simp [h6], ?_⟩
        intro q hq
        rcases List.mem_cons.1 hq with rfl | hq
        · exact h3
        · exact h7 q hq
      · cases h
    · cases h
end

theorem kBorn_ok : ∀ args H r H', kBorn args H = some (r, H') → CallOK Tryz.prog OWK glK 136 args H r H' := by
  intro args H r H' h
  unfold kBorn at h
  split at h
  · obtain ⟨b, x, H1, rfl, hb, hd, hk⟩ := onOwn_inv h
    split at hk
    · rename_i d
      obtain ⟨hp, rfl⟩ := back_inv hk
      refine disk_call hb hd hp (fun τ => .int _ _) id fun σ F args' loc hg gg hl ho ha hwf => ?_
      cases ha with
      | cons a r =>
        cases r
        obtain rfl := ptr_in hl ho a
        exact ((born_spec loc.b d).frame [conc OWK σ H1 F]).conv (fun h s => s) (by rintro u B ⟨B1, ⟨rfl, rfl⟩, rfl⟩; exact ⟨_, ⟨rfl, rfl⟩, fun h s => s⟩)
    · cases hk
  · cases h
theorem kRename_ok : ∀ args H r H', kRename args H = some (r, H') → CallOK Tryz.prog OWK glK 281 args H r H' := by
  intro args H r H' h
  unfold kRename at h
  split at h
  · rename_i p s t
    obtain ⟨b, x, H1, rfl, hb, hd, hk⟩ := onOwn_inv h
    split at hk
    · rename_i d
      simp only [ble_dec, cond_decide] at hk
      split at hk
      · rename_i hsz
        obtain ⟨hp, rfl⟩ := back_inv hk
        refine disk_call hb hd hp (fun τ => .int _ _) (fun hw => wf_rename hw s t) fun σ F args' loc hg gg hl ho ha hwf => ?_
        cases ha with
        | cons a r => cases r with
          | cons a2 r => cases r with
            | cons a3 r =>
              cases r
              obtain rfl := ptr_in hl ho a
              obtain rfl := str_in a2
              obtain rfl := str_in a3
              exact ((rename_spec loc.b d hwf s t (by omega)).frame [conc OWK σ H1 F]).conv (fun h s => s) (by rintro u B ⟨B1, ⟨rfl, rfl⟩, rfl⟩; exact ⟨_, ⟨rfl, rfl⟩, fun h s => s⟩)
      · cases hk
    · cases hk
  · cases h
theorem kAppend_ok : ∀ args H r H', kAppend args H = some (r, H') → CallOK Tryz.prog OWK glK 27 args H r H' := by
  intro args H r H' h
  unfold kAppend at h
  split at h
  · rename_i p s l
    obtain ⟨b, x, H1, rfl, hb, hd, hk⟩ := onOwn_inv h
    split at hk
    · rename_i d
      split at hk
      · rename_i cs hcs
        split at hk
        · rename_i rw hrw
          simp only [ble_dec, ← Bool.decide_and, cond_decide] at hk
          split at hk
          · rename_i hsz
            obtain ⟨hp, rfl⟩ := back_inv hk
            refine disk_call hb hd hp (fun τ => .int _ _) (fun hw => wf_append hw s _) fun σ F args' loc hg gg hl ho ha hwf => ?_
            cases ha with
            | cons a r => cases r with
              | cons a2 r => cases r with
                | cons a3 r =>
                  cases r
                  obtain rfl := ptr_in hl ho a
                  obtain rfl := str_in a2
                  obtain ⟨us, q, n, c, rfl, h1, h2, h3⟩ := sl_in hg gg hcs a3
                  obtain ⟨parts, rfl, h5, h6, h7⟩ := rows_in hg gg hrw h2
                  rw [← h5] at hsz ⊢
                  exact append_spec loc.b d hwf s (by omega) (conc OWK σ H1 F) q n c parts h3 (by omega) h7 (by omega)
          · cases hk
        · cases hk
      · cases hk
    · cases hk
  · cases h
theorem kSync_ok : ∀ args H r H', kSync args H = some (r, H') → CallOK Tryz.prog OWK glK 28 args H r H' := by
  intro args H r H' h
  unfold kSync at h
  split at h
  · rename_i p l
    obtain ⟨b, x, H1, rfl, hb, hd, hk⟩ := onOwn_inv h
    split at hk
    · rename_i d
      split at hk
      · rename_i cs hcs
        split at hk
        · rename_i ns hns
          simp only [ble_dec, cond_decide] at hk
          split at hk
          · rename_i hsz
            obtain ⟨hp, rfl⟩ := back_inv hk
            refine disk_call hb hd hp (fun τ => .int _ _) (fun hw => wf_sync hw ns) fun σ F args' loc hg gg hl ho ha hwf => ?_
            cases ha with
            | cons a r => cases r with
              | cons a3 r =>
                cases r
                obtain rfl := ptr_in hl ho a
                obtain ⟨us, q, n, c, rfl, h1, h2, h3⟩ := sl_in hg gg hcs a3
                obtain ⟨rfl, h5⟩ := strs_in hns h2
                exact sync_spec loc.b d (conc OWK σ H1 F) q n c ns h3 (by omega)
          · cases hk
        · cases hk
      · cases hk
    · cases hk
  · cases h
theorem kDelete_ok : ∀ args H r H', kDelete args H = some (r, H') → CallOK Tryz.prog OWK glK 163 args H r H' := by
  intro args H r H' h
  unfold kDelete at h
  split at h
  · rename_i p l
    obtain ⟨b, x, H1, rfl, hb, hd, hk⟩ := onOwn_inv h
    split at hk
    · rename_i d
      split at hk
      · rename_i cs hcs
        split at hk
        · rename_i ns hns
          simp only [ble_dec, cond_decide] at hk
          split at hk
          · rename_i hsz
            obtain ⟨hp, rfl⟩ := back_inv hk
            refine disk_call hb hd hp (fun τ => .int _ _) (fun hw => wf_delete hw ns) fun σ F args' loc hg gg hl ho ha hwf => ?_
            cases ha with
            | cons a r => cases r with
              | cons a3 r =>
                cases r
                obtain rfl := ptr_in hl ho a
                obtain ⟨us, q, n, c, rfl, h1, h2, h3⟩ := sl_in hg gg hcs a3
                obtain ⟨rfl, h5⟩ := strs_in hns h2
                exact delete_spec loc.b d hwf (conc OWK σ H1 F) q n c ns h3 (by omega)
          · cases hk
        · cases hk
      · cases hk
    · cases hk
  · cases h

section
variable {σ : Sg} {H H' H1 H2 : Hs XO} {F : Assn} {b : Nat} {x : XO}

theorem own_objO {E0 sz n c : Nat} {sp : Option Addr} {us vs cs : List Value} (hn : 0 < n) (hpre : ∀ (i : Nat) v, vs[i]? = some v → us[i]? = some v) (hle : vs.length ≤ us.length) (hv : VRs σ cs vs) {k : Hp} (s : own E0 sz (.slice sp n c) us k) :
    ∃ loc : E.Loc, sp = some ⟨loc.b, loc.o, none⟩ ∧ loc.cap = c ∧ loc.sz = sz ∧ n ≤ c ∧ ObjA OWK σ loc (.cells cs) k := by
  rcases s with ⟨h1, h2⟩ | ⟨o, ho, hk⟩
  · simp only [Value.slice.injEq] at h1; omega
  · have hv' := ho.val
    simp only [Value.slice.injEq] at hv'
    obtain ⟨rfl, rfl, rfl⟩ := hv'
    have hm : o.len * sz ≤ o.cap * sz := Nat.mul_le_mul_right sz ho.cap
    have h3 := ho.fits
    have h4 := ho.len
    exact ⟨⟨o.b, o.off, o.cap, sz⟩, rfl, rfl, rfl, ho.cap, vs, o.l, E0, o.z, hv, ⟨fun i v hi => ho.get i v (hpre i v hi), by simp only; omega, by simp only; omega⟩, hk, ho.free⟩

theorem made_ok {E0 n c : Nat} {sp : Option Addr} {us vs cs : List Value} {W0 w : World} (hg : HG σ H2) (hnew : H2.new (.cells cs) = some (b, H')) (hn : 0 < n) (hpre : ∀ (i : Nat) v, vs[i]? = some v → us[i]? = some v) (hle : vs.length ≤ us.length) (hv : VRs σ cs vs)
    (s : Sat W0 w [own E0 1 (.slice sp n c) us, conc OWK σ H2 F]) : ∃ τ, Ext σ τ ∧ HG τ H' ∧ VR τ (.slice (some ⟨b, 0, none⟩) n (grown + 1)) (.slice sp n c) ∧ Sat W0 w [conc OWK τ H' F] := by
  obtain ⟨h1, h2, ho, ⟨h3, h4, hc, hr, d2, s3, s4⟩, d, s1, s2⟩ := s.heap
  obtain ⟨loc, rfl, rfl, hsz, hcap, hobj⟩ := own_objO hn hpre hle hv ho
  obtain ⟨n1, n2, n3⟩ := Hs.new_get hnew
  have hfr : σ b = none := by rw [n1]; exact hg.fresh _ (Nat.le_refl _)
  have he : Ext σ (updS σ b loc) := updS_ext hfr
  obtain ⟨hg', _⟩ := hg.new (l := loc) hnew (fun cs' hcs => by cases hcs; exact ⟨vs, hv.mono he⟩) (fun r hr => by cases hr)
  have hl : updS σ b loc b = some loc := by simp [updS]
  refine ⟨updS σ b loc, he, hg', ?_, s.os, s.tape, s.out, ?_⟩
  · have := VR.slg (σ := updS σ b loc) (b := b) (off := 0) (n := n) (k := 0) (loc := loc) hl (by omega) (by simp) (by simpa using hcap)
    rw [hsz] at this
    simpa using this
  · refine one_sat ?_
    have hnone : H2.get b = none := by rw [n1]; exact hg.none _ (Nat.le_refl _)
    refine concF.unfocus (g := H2.get) (o := .cells cs) (loc := loc) ?_ hnone hl (by rw [n1]; exact n3)
    exact ⟨h1, h2, ObjA.ext he _ hobj, ⟨h3, h4, concF.ext he _ hc, hr, d2, s3, s4⟩, d, s1, s2⟩

theorem new_own {p : Nat} {W0 w : World} (hg : HG σ H) (hnew : H.new (.own x) = some (b, H')) (s : Sat W0 w [OWK x p, conc OWK σ H F]) :
    ∃ τ, Ext σ τ ∧ HG τ H' ∧ VR τ (ptrV b) (.pointer (some ⟨p, 0, none⟩)) ∧ Sat W0 w [conc OWK τ H' F] := by
  obtain ⟨n1, n2, n3⟩ := Hs.new_get hnew
  have hfr : σ b = none := by rw [n1]; exact hg.fresh _ (Nat.le_refl _)
  have he : Ext σ (updS σ b ⟨p, 0, 0, 0⟩) := updS_ext hfr
  obtain ⟨hg', _⟩ := hg.new (l := ⟨p, 0, 0, 0⟩) hnew (fun cs' hcs => by cases hcs) (fun r hr => by cases hr)
  have hl : updS σ b ⟨p, 0, 0, 0⟩ b = some ⟨p, 0, 0, 0⟩ := by simp [updS]
  refine ⟨_, he, hg', VR.ptr hl, s.os, s.tape, s.out, ?_⟩
  refine one_sat ?_
  have hnone : H.get b = none := by rw [n1]; exact hg.none _ (Nat.le_refl _)
  refine concF.unfocus (g := H.get) (o := .own x) (loc := ⟨p, 0, 0, 0⟩) ?_ hnone hl (by rw [n1]; exact n3)
  have t := s.heap.imp (B := ObjA OWK (updS σ b ⟨p, 0, 0, 0⟩) ⟨p, 0, 0, 0⟩ (.own x)) fun _ t => ⟨rfl, t⟩
  exact (((t.perm (X.pick_perm (is := [1, 0]) rfl)).imp fun _ t => concF.ext he _ t).perm (X.pick_perm (is := [1, 0]) rfl))
end

theorem kNew_ok : ∀ args H r H', kNew args H = some (r, H') → CallOK Tryz.prog OWK glK 5 args H r H' := by
  intro args H r H' h
  unfold kNew at h
  split at h
  · rename_i n
    simp only [ble_dec, blt_dec, ← Bool.decide_and, cond_decide] at h
    split at h
    · rename_i hn
      obtain ⟨b, hnew, rfl⟩ := made_inv h
      intro σ F args' W0 w hg gg ha s
      cases ha with
      | cons a rr =>
        cases rr; cases a
        refine ((new_yes n (by omega) hn.2).call W0 w (conc OWK σ H F) s).mono ?_
        rintro e w' ⟨u, B, rfl, ⟨p, rfl, rfl⟩, t⟩
        have t2 : Sat W0 w' [OWK (.disk ⟨n, 0, []⟩) p, conc OWK σ H F] := t.imp fun _ z => z.imp fun _ q => ⟨⟨List.nodup_nil, fun f hf => by (cases hf), by simp [DM.used, lenSum], hn.2, by simp⟩, q⟩
        obtain ⟨τ, h1, h2, h3, h4⟩ := new_own hg hnew t2
        exact ⟨_, _, rfl, ⟨τ, h1, h2, .tuple (.cons h3 (.cons (.int _ _) .nil)), rfl⟩, h4⟩
    · cases h
  · cases h
theorem kCode_ok : ∀ args H r H', kCode args H = some (r, H') → CallOK Tryz.prog OWK glK 15 args H r H' := by
  intro args H r H' h
  unfold kCode at h
  split at h
  · rename_i k m
    simp only [ble_dec, blt_dec, ← Bool.decide_and, cond_decide] at h
    split at h
    · rename_i hn
      obtain ⟨b, hnew, rfl⟩ := made_inv h
      intro σ F args' W0 w hg gg ha s
      cases ha with
      | cons a rr => cases rr with
        | cons a2 rr =>
          cases rr; cases a; cases a2
          refine ((new_spec k m hn.1 hn.2).call W0 w (conc OWK σ H F) s).mono ?_
          rintro e w' ⟨u, B, rfl, ⟨p, rfl, rfl⟩, t⟩
          have t2 : Sat W0 w' [OWK (.code k m) p, conc OWK σ H F] := t
          obtain ⟨τ, h1, h2, h3, h4⟩ := new_own hg hnew t2
          exact ⟨_, _, rfl, ⟨τ, h1, h2, .tuple (.cons h3 (.cons (.int _ _) .nil)), rfl⟩, h4⟩
    · cases h
  · cases h
theorem kRead_ok : ∀ args H r H', kRead args H = some (r, H') → CallOK Tryz.prog OWK glK 35 args H r H' := by
  intro args H r H' h
  unfold kRead at h
  split at h
  · rename_i p s
    obtain ⟨b, x, H1, rfl, hb, hd, hk⟩ := onOwn_inv h
    split at hk
    · rename_i d
      split at hk
      · rename_i hf
        obtain ⟨hp, rfl⟩ := back_inv hk
        refine disk_call hb hd hp (fun τ => .tuple (.cons (.sl0 _ _) (.cons (.int _ _) .nil))) id fun σ F args' loc hg gg hl ho ha hwf => ?_
        cases ha with
        | cons a r => cases r with
          | cons a2 r =>
            cases r
            obtain rfl := ptr_in hl ho a
            obtain rfl := str_in a2
            refine ((read_spec loc.b d hwf s).frame [conc OWK σ H1 F]).conv (fun h s => s) ?_
            rintro u B ⟨B1, ⟨sp, sc, h0, rfl, rfl⟩, rfl⟩
            obtain ⟨rfl, rfl⟩ := h0 hf
            exact ⟨_, ⟨by simp [DM.bytes, DM.found, hf], rfl⟩, fun h s => HSat.tail s⟩
      · rename_i f hf
        split at hk
        · cases hk
        · rename_i c l hbs
          split at hk
          · rename_i H2 hp
            obtain ⟨q, hnew, rfl⟩ := made_inv hk
            have hby : d.bytes s = c :: l := by simp [DM.bytes, hf, hbs]
            have hfo : d.found s = 0 := by simp [DM.found, hf]
            intro σ F args' W0 w hg gg ha st
            obtain ⟨loc, hl, ho, s1⟩ := own_sat hg hb hd st
            have hwf : d.wf := by obtain ⟨_, _, ⟨q, _⟩, _⟩ := s1.heap; exact q
            cases ha with
            | cons a r => cases r with
              | cons a2 r =>
                cases r
                obtain rfl := ptr_in hl ho a
                obtain rfl := str_in a2
                refine ((read_spec loc.b d hwf s).call W0 w (conc OWK σ H1 F) (s1.imp fun _ z => z.imp fun _ t => t.2)).mono ?_
                rintro e w' ⟨u, B, rfl, ⟨sp, sc, _, rfl, rfl⟩, t⟩
                rw [hby] at t ⊢
                rw [hfo]
                have t2 : Sat W0 w' [own 5 1 (.slice sp (c :: l).length sc) (bytesV (c :: l)), conc OWK σ H2 F] := by
                  refine ⟨t.os, t.tape, t.out, ?_⟩
                  have t3 := HSat.pack (As := [DiskAt loc.b d, conc OWK σ H1 F]) (Bs := [own 5 1 (.slice sp (c :: l).length sc) (bytesV (c :: l))]) (t.heap.perm (X.pick_perm (is := [1, 2]) rfl))
                  exact ((t3.imp fun k y => own_back (x' := .disk d) hd hp hl ho (HSat.imp y fun _ z => ⟨hwf, z⟩)).perm (X.pick_perm (is := [1, 0]) rfl))
                obtain ⟨τ, h1, h2, h3, h4⟩ := made_ok (vs := bytesV (c :: l)) (put_HG hg hb hd hp) hnew (by simp) (fun _ _ h => h) (Nat.le_refl _) (bytes_VRs (c :: l)) t2
                exact ⟨_, _, rfl, ⟨τ, h1, h2, .tuple (.cons h3 (.cons (.int _ _) .nil)), rfl⟩, h4⟩
          · cases hk
    · cases hk
  · cases h
theorem kEncode_ok : ∀ args H r H', kEncode args H = some (r, H') → CallOK Tryz.prog OWK glK 19 args H r H' := by
  intro args H r H' h
  unfold kEncode at h
  split at h
  · rename_i p l
    obtain ⟨b, x, H1, rfl, hb, hd, hk⟩ := onOwn_inv h
    split at hk
    · rename_i k m
      split at hk
      · rename_i cs hcs
        split at hk
        · rename_i bs hbs
          simp only [ble_dec, blt_dec, ← Bool.decide_and, cond_decide] at hk
          split at hk
          · rename_i hn
            split at hk
            · rename_i H2 hp
              obtain ⟨q, hnew, rfl⟩ := made_inv hk
              intro σ F args' W0 w hg gg ha st
              obtain ⟨loc, hl, ho, s1⟩ := own_sat hg hb hd st
              cases ha with
              | cons a r => cases r with
                | cons a2 r =>
                  cases r
                  obtain rfl := ptr_in hl ho a
                  obtain ⟨us, dp, n, dc, rfl, h1, h2, h3⟩ := sl_in (del_HG hg hd) gg hcs a2
                  obtain rfl := bytesOf_ok hbs h2
                  have hnl : bs.length = n := by have := h2.length; simp [bytesV] at this; omega
                  subst hnl
                  refine ((encode_spec loc.b k m (by omega) (by omega) (conc OWK σ H1 F) dp dc bs h3 (by omega)).call W0 w (star []) ⟨s1.os, s1.tape, s1.out, add_star s1.heap⟩).mono ?_
                  rintro e w' ⟨u, B, rfl, ⟨ep, ec, rfl, rfl⟩, t⟩
                  have hfl : (fullL k m (dataL k bs)).length = k + m := (fullL_rect (m := m) (dataL_rect (k := k) (data := bs) (by omega)) (by omega)).len
                  obtain ⟨rws, hrw⟩ : ∃ rws : List RowH, Sat W0 w' [own 22 1 (.slice ep (k + m) ec) (rws.map RowH.val), conc OWK σ H2 F] := by
                    obtain ⟨h1, h2, ⟨rws, hr1, hr2⟩, s2, d, u1, u2⟩ := t.heap
                    rw [hfl] at hr2
                    refine ⟨rws, t.os, t.tape, t.out, ?_⟩
                    have t3 : HSat (X.hp w') (star [own 22 1 (.slice ep (k + m) ec) (rws.map RowH.val), star (rws.map RowH.asn)] :: [CodeAt loc.b k m, conc OWK σ H1 F, star []]) := ⟨h1, h2, hr2, s2, d, u1, u2⟩
                    have t4 := HSat.unpack t3
                    have t5 := HSat.pack (As := [CodeAt loc.b k m, conc OWK σ H1 F]) (Bs := [own 22 1 (.slice ep (k + m) ec) (rws.map RowH.val), star (rws.map RowH.asn), star []]) (t4.perm (X.pick_perm (is := [2, 3]) rfl))
                    have t6 := (t5.imp fun z y => own_back (x' := .code k m) hd hp hl ho y)
                    exact ((t6.perm (X.pick_perm (is := [2, 3, 1, 0]) rfl)).tail.tail)
                  obtain ⟨τ, e1, e2, e3, e4⟩ := made_ok (vs := []) (put_HG hg hb hd hp) hnew (by omega) (fun _ _ h => by simp at h) (Nat.zero_le _) .nil hrw
                  exact ⟨_, _, rfl, ⟨τ, e1, e2, e3, rfl⟩, e4⟩
            · cases hk
          · cases hk
        · cases hk
      · cases hk
    · cases hk
  · cases h

theorem insS_perm (x : ByteArray) : ∀ l, (insS x l).Perm (x :: l)
  | [] => List.Perm.refl _
  | y :: l => by
    unfold insS
    split
    · exact ((insS_perm x l).cons y).trans (List.Perm.swap _ _ _)
    · exact List.Perm.refl _
theorem sortS_perm : ∀ l, (sortS l).Perm l
  | [] => List.Perm.refl _
  | x :: l => by
    unfold sortS
    exact (insS_perm x _).trans ((sortS_perm l).cons x)
theorem pwB_pw : ∀ {l : List ByteArray}, pwB l = true → (l.map (·.data.toList)).Pairwise fun x y => decide (x ≤ y) = true
  | [], _ => List.Pairwise.nil
  | x :: l, h => by
    simp only [pwB, Bool.and_eq_true, List.all_eq_true] at h
    refine List.Pairwise.cons ?_ (pwB_pw h.2)
    intro y hy
    obtain ⟨z, hz, rfl⟩ := List.mem_map.1 hy
    exact h.1 z hz
theorem list_sorted (d : DM) (pre : List ByteArray) (h : pwB (sortS ((d.files.map (·.name)).filter (selB pre))) = true) : (d.list pre).map encStr = (sortS ((d.files.map (·.name)).filter (selB pre))).map Value.string := by
  have h1 : d.list pre = (sortS ((d.files.map (·.name)).filter (selB pre))).map (·.data.toList) := by
    unfold DM.list
    rw [sortN_congr ((sortS_perm ((d.files.map (·.name)).filter (selB pre))).map (·.data.toList)).symm]
    exact List.mergeSort_of_pairwise (pwB_pw h)
  rw [h1, List.map_map]
  refine List.map_congr_left fun p _ => ?_
  show Value.string ⟨p.data.toList.toArray⟩ = Value.string p
  rw [Array.toArray_toList]
theorem kList_ok : ∀ args H r H', kList args H = some (r, H') → CallOK Tryz.prog OWK glK 62 args H r H' := by
  intro args H r H' h
  unfold kList at h
  split at h
  · rename_i p l
    obtain ⟨b, x, H1, rfl, hb, hd, hk⟩ := onOwn_inv h
    split at hk
    · rename_i d
      split at hk
      · rename_i cs hcs
        split at hk
        · rename_i pre hpre
          simp only [ble_dec, ← Bool.decide_and, cond_decide] at hk
          split at hk
          · rename_i hn
            split at hk
            · rename_i H2 hp
              split at hk
              · cases hk
              · rename_i n r hsr
                cases hpw : pwB (n :: r) with
                | false => rw [hpw] at hk; cases hk
                | true =>
                  rw [hpw] at hk
                  simp only [bif_t] at hk
                  obtain ⟨q, hnew, rfl⟩ := made_inv hk
                  have hls := list_sorted d pre (by rw [hsr]; exact hpw)
                  rw [hsr] at hls
                  have hlen : (d.list pre).length = (n :: r).length := by have := congrArg List.length hls; simpa using this
                  intro σ F args' W0 w hg gg ha st
                  obtain ⟨loc, hl, ho, s1⟩ := own_sat hg hb hd st
                  have hwf : d.wf := by obtain ⟨_, _, ⟨q, _⟩, _⟩ := s1.heap; exact q
                  cases ha with
                  | cons a rr => cases rr with
                    | cons a2 rr =>
                      cases rr
                      obtain rfl := ptr_in hl ho a
                      obtain ⟨us, dp, dn, dc, rfl, h1, h2, h3⟩ := sl_in (del_HG hg hd) gg hcs a2
                      obtain ⟨rfl, h5⟩ := strs_in hpre h2
                      refine ((list_spec loc.b d (conc OWK σ H1 F) dp dn dc pre h3 (by omega) (by omega)).call W0 w (star []) ⟨s1.os, s1.tape, s1.out, add_star (s1.heap.imp fun _ t => t.2)⟩).mono ?_
                      rintro e w' ⟨u, B, rfl, ⟨sp, sc, rfl, rfl⟩, t⟩
                      rw [hls, hlen] at t
                      rw [hlen]
                      have t2 : Sat W0 w' [own 9 1 (.slice sp (n :: r).length sc) ((n :: r).map Value.string), conc OWK σ H2 F] := by
                        refine ⟨t.os, t.tape, t.out, ?_⟩
                        have t3 := HSat.pack (As := [DiskAt loc.b d, conc OWK σ H1 F]) (Bs := [own 9 1 (.slice sp (n :: r).length sc) ((n :: r).map Value.string), star []]) (t.heap.perm (X.pick_perm (is := [1, 2]) rfl))
                        have t6 := t3.imp fun k y => own_back (x' := .disk d) hd hp hl ho (HSat.imp y fun _ z => ⟨hwf, z⟩)
                        exact (t6.perm (X.pick_perm (is := [2, 1, 0]) rfl)).tail
                      have hv : VRs σ ((n :: r).map Value.string) ((n :: r).map Value.string) := flat_VRs 4 _ fun v hv => by obtain ⟨_, _, rfl⟩ := List.mem_map.1 hv; rfl
                      obtain ⟨τ, e1, e2, e3, e4⟩ := made_ok (vs := (n :: r).map Value.string) (put_HG hg hb hd hp) hnew (by simp) (fun _ _ h => h) (Nat.le_refl _) hv t2
                      exact ⟨_, _, rfl, ⟨τ, e1, e2, e3, rfl⟩, e4⟩
            · cases hk
          · cases hk
        · cases hk
      · cases hk
    · cases hk
  · cases h
end Go.Proofs.YtblpcabdfbpcnaaGreatDoor
namespace Go.Proofs
open Go.Shelf
def Tryz.laysM316_ren : Go.Shelf.Ren := ⟨fun | 316 => 511 | n => n, fun | 9 => 9 | 3 => 3 | 4 => 4 | 37 => 22 | 0 => 0 | 127 => 367 | 5 => 5 | n => n, fun | n => n⟩
theorem Tryz.laysM316 : Go.Proofs.LaysM.n316 Tryz.prog Tryz.laysM316_ren := {
  mixed := by kernel_rfl
  f316 := Tryz.func511.trans (congrArg some (by kernel_rfl))
  t0 := Tryz.underlying0
  a0 := Tryz.isAgg0
  z0 := Tryz.sizeOf0
  v0 := Tryz.zeroValue0
  t3 := Tryz.underlying3
  a3 := Tryz.isAgg3
  z3 := Tryz.sizeOf3
  v3 := Tryz.zeroValue3
  t4 := Tryz.underlying4
  a4 := Tryz.isAgg4
  z4 := Tryz.sizeOf4
  v4 := Tryz.zeroValue4
  t9 := Tryz.underlying9
  a9 := Tryz.isAgg9
  z9 := Tryz.sizeOf9
  v9 := Tryz.zeroValue9
  t37 := Tryz.underlying22
  a37 := Tryz.isAgg22
  z37 := Tryz.sizeOf22
  v37 := Tryz.zeroValue22
  t127 := Tryz.underlying367
  a127 := Tryz.isAgg367
  z127 := Tryz.sizeOf367
  v127 := Tryz.zeroValue367
  t5 := Tryz.underlying5
  a5 := Tryz.isAgg5
  z5 := Tryz.sizeOf5
  v5 := Tryz.zeroValue5
  i0 := by kernel_rfl
  i3 := by kernel_rfl
  i4 := by kernel_rfl
  i5 := by kernel_rfl
  i9 := by kernel_rfl
  i37 := by kernel_rfl
  i127 := by kernel_rfl }
end Go.Proofs
namespace Go.Proofs.YtblpcabdfbpcnaaGreatDoor
open Go.Proofs.Tryz
section
open Go Go.Proofs Go.RowKit Go.Extern.Stop Go.Stop Go.Extern

theorem isTypeOf (v : Value) (w : World) : (Extern.ReflectliteType.typeOf #[.iface 27 v]).run Tryz.prog w = .ok (.iface 717 (.agg #[.pointer (some ⟨8, 27, none⟩)])) w := by kernel_rfl
theorem isComparable : ∃ e : Array Value → Sem Value, Extern.find Tryz.f782 = some e ∧ ∀ w : World, (e #[.agg #[.pointer (some ⟨8, 27, none⟩)]]).run Tryz.prog w = .ok (.bool true) w :=
  ⟨ReflectliteType.method fun t => do Rtype.noPackHeld "Comparable" t; pure (.bool (← typeInfo t).comparable), by kernel_rfl, fun _ => by kernel_rfl⟩
theorem isMethodComparable (v : Value) (w : World) : (Go.method 1043 717 v "Comparable").run Tryz.prog w = .ok (782, v) w := by kernel_rfl
theorem isComp : (Tryz.prog.info? 27).map (·.comparable) = some true := by kernel_rfl
theorem noIsE (v : Value) (xT : TypeId) (w : World) : (Instr.typeAssert (.iface 27 v) xT 719 true).run Tryz.prog w = .ok (.tuple #[.nilIface, .bool false]) w := run_typeAssert_lacksB underlying719 (by kernel_rfl) (by kernel_rfl) v xT w
theorem noUnwrapE (v : Value) (xT : TypeId) (w : World) : (Instr.typeAssert (.iface 27 v) xT 722 true).run Tryz.prog w = .ok (.tuple #[.nilIface, .bool false]) w := run_typeAssert_lacksB underlying722 (by kernel_rfl) (by kernel_rfl) v xT w
theorem noUnwrapsE (v : Value) (xT : TypeId) (w : World) : (Instr.typeAssert (.iface 27 v) xT 723 true).run Tryz.prog w = .ok (.tuple #[.nilIface, .bool false]) w := run_typeAssert_lacksB underlying723 (by kernel_rfl) (by kernel_rfl) v xT w
theorem eqlErrno (a b : Int) (w : World) : (binOp .eql 68 (.iface 27 (.int .i64 a)) (.iface 27 (.int .i64 b))).run Tryz.prog w = .ok (.bool (decide (a = b))) w := by
  obtain ⟨i, hi, hcmp⟩ := Option.map_eq_some_iff.1 isComp
  have h : ∀ d : Nat, (Op.equalIn (d + 2) 68 (.iface 27 (.int .i64 a)) (.iface 27 (.int .i64 b))).run Tryz.prog w = .ok (decide (a = b)) w := fun d => by
    simp [Op.equalIn, run_underlying underlying68, run_underlying underlying27, typeInfo, hi, hcmp]; rfl
  simp only [binOp]
  simp [Op.equal, Op.maxDepth, h 9998]
set_option maxHeartbeats 4000000 in
set_option maxRecDepth 100000 in
theorem is_errno (a b : Int) (w : World) : Calls Tryz.prog 262 #[.iface 27 (.int .i64 a), .iface 27 (.int .i64 b)] w fun e w' => e = .returned (.bool (decide (a = b))) ∧ w' = w := by
  have h8 := @run_callFunc_extern Tryz.prog 393 _ Extern.ReflectliteType.typeOf func393 (by kernel_rfl) (by kernel_rfl) (by kernel_rfl) (by kernel_rfl)
  obtain ⟨ec, hec, cT⟩ := isComparable
  have h32 := @run_callFunc_extern Tryz.prog 782 _ ec func782 (by kernel_rfl) (by kernel_rfl) (by kernel_rfl) hec
  have tT := isTypeOf
  have mR := isMethodComparable
  have nE := noIsE
  have uE := noUnwrapE
  have vE := noUnwrapsE
  have heq := eqlErrno a b
  by_cases hab : a = b
  · subst hab
    rw [show decide (a = a) = true from decide_eq_true rfl] at heq ⊢
    go_enter func262, ntmps262
    go_wp2
    refine wp_loop_rounds 1 ?_
    rw [rounds_succ]
    go_wp2
    go_ret
    exact ⟨rfl, rfl⟩
  · rw [show decide (a = b) = false from decide_eq_false hab] at heq ⊢
    go_enter func262, ntmps262
    go_wp2
    refine wp_loop_rounds 1 ?_
    rw [rounds_succ]
    go_wp2
    go_ret
    exact ⟨rfl, rfl⟩
end

open Go.X Go.X.T Go.X.E Dk Go.RowKit
theorem clone_str (s : ByteArray) (w : World) (h : s.size ≤ 281474976710656) : Calls Tryz.prog 511 #[.string s] w fun e w' => e = .returned (.string s) ∧ Below w.heap.size w w' := Any.stringslite_Clone Tryz.laysM316 s w h
theorem err_in {σ : Sg} {t : TypeId} {a : Int} {u : Value} (h : VR σ (.iface t (.int .i64 a)) u) : u = .iface t (.int .i64 a) := flat_eq (n := 1) rfl h
theorem kIs_ok : ∀ args H r H', kIs args H = some (r, H') → CallOK Tryz.prog OWK glK 262 args H r H' := by
  intro args H r H' h
  unfold kIs at h
  split at h
  · rename_i t a u b
    simp only [nbeq, ← Bool.decide_and, cond_decide] at h
    split at h
    · rename_i he
      obtain ⟨rfl, rfl⟩ := he
      cases h
      intro σ F args' W0 w hg gg ha s
      cases ha with
      | cons a1 rr => cases rr with
        | cons a2 rr =>
          cases rr
          obtain rfl := err_in a1
          obtain rfl := err_in a2
          refine (is_errno a b w).mono ?_
          rintro e w' ⟨rfl, rfl⟩
          exact ⟨_, _, rfl, ⟨σ, Ext.refl σ, hg, .bool _, rfl⟩, s⟩
    · cases h
  · cases h
theorem kClone_ok : ∀ args H r H', kClone args H = some (r, H') → CallOK Tryz.prog OWK glK 511 args H r H' := by
  intro args H r H' h
  unfold kClone at h
  split at h
  · rename_i s
    simp only [ble_dec, cond_decide] at h
    split at h
    · rename_i hs
      cases h
      intro σ F args' W0 w hg gg ha st
      cases ha with
      | cons a1 rr =>
        cases rr
        obtain rfl := str_in a1
        refine (clone_str s w (by omega)).mono ?_
        rintro e w' ⟨rfl, bel⟩
        refine ⟨_, _, rfl, ⟨σ, Ext.refl σ, hg, .string s, rfl⟩, bel.os.trans st.os, bel.tape.trans st.tape, bel.output.trans st.out, HSat.mono st.heap fun k o ho => ?_⟩
        have hlt : k < w.heap.size := (Array.getElem?_eq_some_iff.1 ho).1
        show w'.heap[k]? = some o
        rw [bel.block k hlt]; exact ho
    · cases h
  · cases h

set_option maxHeartbeats 4000000 in
theorem sumsK_ok : SumsOK Tryz.prog OWK glK sumsK := by
  intro f s h
  unfold sumsK at h
  simp only [nbeq, cond_decide] at h
  split at h
  · rename_i e; subst e; cases h; exact ⟨call5, kNew_ok⟩
  split at h
  · rename_i e; subst e; cases h; exact ⟨call136, kBorn_ok⟩
  split at h
  · rename_i e; subst e; cases h; exact ⟨call27, kAppend_ok⟩
  split at h
  · rename_i e; subst e; cases h; exact ⟨call28, kSync_ok⟩
  split at h
  · rename_i e; subst e; cases h; exact ⟨call163, kDelete_ok⟩
  split at h
  · rename_i e; subst e; cases h; exact ⟨call281, kRename_ok⟩
  split at h
  · rename_i e; subst e; cases h; exact ⟨call35, kRead_ok⟩
  split at h
  · rename_i e; subst e; cases h; exact ⟨call62, kList_ok⟩
  split at h
  · rename_i e; subst e; cases h; exact ⟨call262, kIs_ok⟩
  split at h
  · rename_i e; subst e; cases h; exact ⟨call15, kCode_ok⟩
  split at h
  · rename_i e; subst e; cases h; exact ⟨call19, kEncode_ok⟩
  split at h
  · rename_i e; subst e; cases h; exact ⟨call511, kClone_ok⟩
  cases h
end Go.Proofs.YtblpcabdfbpcnaaGreatDoor
namespace Go.Proofs.YtblpcabdfbpcnaaGreatDoor
open Go.X Go.X.T Go.X.E Dk

structure GlobK (q o : Nat) (G : Assn) : Prop where
  tab : ∀ h, G h → ∃ e z, h 5 = some (.cells (tab64.map fun n => Value.int .u8 n).toArray e z)
  err : ∀ h, G h → ∃ e z, h 2 = some (.cells #[.iface 831 (.pointer (some ⟨q, o, none⟩))] e z)

def sigK (q o : Nat) : Sg := fun g => if g < 16 then some ⟨g, 0, 0, 0⟩ else if g = 16 then some ⟨q, o, 0, 0⟩ else none
theorem HG_K {n q o : Nat} (hn : 17 ≤ n) : HG (sigK q o) (⟨.leaf, n⟩ : Hs XO) where
  fresh := fun b hb => by simp only at hb; unfold sigK; rw [if_neg (by omega), if_neg (by omega)]
  none := fun b _ => by simp [Hs.get, Tr.get]
  cells := fun b o cs e => by simp [Hs.get, Tr.get] at e
  loc := fun b o e => by simp [Hs.get, Tr.get] at e
  iter := fun b r e => by simp [Hs.get, Tr.get] at e
theorem glK_some {g : Nat} {cs : List Value} (h : glK g = some cs) : (g = 5 ∧ cs = tab64.map fun n => .int .u8 n) ∨ (g = 2 ∧ cs = [.iface 831 (.pointer (some ⟨16, 0, none⟩))]) := by
  unfold glK at h
  split at h
  · exact .inl ⟨rfl, (Option.some.inj h).symm⟩
  · exact .inr ⟨rfl, (Option.some.inj h).symm⟩
  · cases h
theorem GG_K {q o : Nat} {G F : Assn} (hG : GlobK q o G) : GG glK (sigK q o) (star [G, F]) where
  lo := fun g hg => by unfold sigK; rw [if_pos hg]
  gl := fun g cs e => by
    rcases glK_some e with ⟨rfl, rfl⟩ | ⟨rfl, rfl⟩
    · refine ⟨_, flat_VRs 4 _ (fun v hv => by obtain ⟨n, _, rfl⟩ := List.mem_map.1 hv; rfl), by unfold sigK; rw [if_pos (by decide)], fun h s => ?_⟩
      obtain ⟨h1, _, a, _, _, s1, _⟩ := s
      obtain ⟨t, z, h2⟩ := hG.tab h1 a
      exact ⟨t, z, s1 _ _ h2⟩
    · have hl : sigK q o 16 = some ⟨q, o, 0, 0⟩ := by unfold sigK; rw [if_neg (by decide), if_pos rfl]
      refine ⟨[.iface 831 (.pointer (some ⟨q, o + 0, none⟩))], .cons (.iface _ (.ptr hl)) .nil, by unfold sigK; rw [if_pos (by decide)], fun h s => ?_⟩
      obtain ⟨h1, _, a, _, _, s1, _⟩ := s
      obtain ⟨t, z, h2⟩ := hG.err h1 a
      exact ⟨t, z, s1 _ _ h2⟩

theorem known_run : toldB (callA Tryz.prog glK sumsK (exec Tryz.prog glK sumsK 100000) 4 [] ⟨.leaf, 20⟩) = true := by kernel_rfl
theorem known_of {q o : Nat} {G : Assn} (hG : GlobK q o G) : FSpec Tryz.prog 4 [] [G] (fun v B => v = .bool true ∧ B = [G]) := by
  obtain ⟨H', e⟩ := toldB_of known_run
  obtain ⟨_, hok⟩ := run_ok sumsK_ok Tryz.mixed 100000 e
  refine ⟨fun W0 w F s => ?_⟩
  have s1 : Sat W0 w [conc OWK (sigK q o) (⟨.leaf, 20⟩ : Hs XO) (star [G, F])] := ⟨s.os, s.tape, s.out, hp w, fun _ => none, conc_zero _ _ s.heap, trivial, fun _ => .inr rfl, Sub.refl _, fun _ _ e => nomatch e⟩
  refine (hok (sigK q o) (star [G, F]) [] W0 w (HG_K (by decide)) (GG_K hG) .nil s1).mono ?_
  rintro e w' ⟨u, B, rfl, ⟨τ, _, _, hv, rfl⟩, t⟩
  refine ⟨u, [G], rfl, ⟨by cases hv; rfl, rfl⟩, t.os, t.tape, t.out, ?_⟩
  obtain ⟨h1, _, ⟨_, hF, a, b, _⟩, _, _, c, _⟩ := t.heap
  exact HSat.mono a (b.trans c)
end Go.Proofs.YtblpcabdfbpcnaaGreatDoor
namespace Go.Proofs.YtblpcabdfbpcnaaGreatDoor
open Go

theorem sixParts {f : Nat → Bool} (h1 : (List.range' 0 200).all f = true) (h2 : (List.range' 200 200).all f = true) (h3 : (List.range' 400 200).all f = true) (h4 : (List.range' 600 200).all f = true) (h5 : (List.range' 800 143).all f = true) : (List.range 943).all f = true := by
  rw [List.all_eq_true] at *
  intro x hx
  have hx' := List.mem_range.1 hx
  rcases Nat.lt_or_ge x 200 with h | h
  · exact h1 x (List.mem_range'_1.2 ⟨by omega, by omega⟩)
  rcases Nat.lt_or_ge x 400 with h' | h'
  · exact h2 x (List.mem_range'_1.2 ⟨by omega, by omega⟩)
  rcases Nat.lt_or_ge x 600 with h'' | h''
  · exact h3 x (List.mem_range'_1.2 ⟨by omega, by omega⟩)
  rcases Nat.lt_or_ge x 800 with h''' | h'''
  · exact h4 x (List.mem_range'_1.2 ⟨by omega, by omega⟩)
  · exact h5 x (List.mem_range'_1.2 ⟨by omega, by omega⟩)
theorem types_size : Tryz.prog.types.size = 943 := by kernel_rfl
theorem spelt1a : (List.range' 0 200).all (fun u => Tryz.prog.typeName? 3 u != some "*errors.errorString" || u == 831) = true := by kernel_rfl
theorem spelt1b : (List.range' 200 200).all (fun u => Tryz.prog.typeName? 3 u != some "*errors.errorString" || u == 831) = true := by kernel_rfl
theorem spelt1c : (List.range' 400 200).all (fun u => Tryz.prog.typeName? 3 u != some "*errors.errorString" || u == 831) = true := by kernel_rfl
theorem spelt1d : (List.range' 600 200).all (fun u => Tryz.prog.typeName? 3 u != some "*errors.errorString" || u == 831) = true := by kernel_rfl
theorem spelt1e : (List.range' 800 143).all (fun u => Tryz.prog.typeName? 3 u != some "*errors.errorString" || u == 831) = true := by kernel_rfl
theorem spelt2a : (List.range' 0 200).all (fun e => Tryz.prog.typeName? 2 e != some "errors.errorString" || (match (Tryz.prog.info? e).map (·.desc) with | some (TypeDesc.named _ _) => true | _ => false)) = true := by kernel_rfl
theorem spelt2b : (List.range' 200 200).all (fun e => Tryz.prog.typeName? 2 e != some "errors.errorString" || (match (Tryz.prog.info? e).map (·.desc) with | some (TypeDesc.named _ _) => true | _ => false)) = true := by kernel_rfl
theorem spelt2c : (List.range' 400 200).all (fun e => Tryz.prog.typeName? 2 e != some "errors.errorString" || (match (Tryz.prog.info? e).map (·.desc) with | some (TypeDesc.named _ _) => true | _ => false)) = true := by kernel_rfl
theorem spelt2d : (List.range' 600 200).all (fun e => Tryz.prog.typeName? 2 e != some "errors.errorString" || (match (Tryz.prog.info? e).map (·.desc) with | some (TypeDesc.named _ _) => true | _ => false)) = true := by kernel_rfl
theorem spelt2e : (List.range' 800 143).all (fun e => Tryz.prog.typeName? 2 e != some "errors.errorString" || (match (Tryz.prog.info? e).map (·.desc) with | some (TypeDesc.named _ _) => true | _ => false)) = true := by kernel_rfl
set_option maxRecDepth 20000 in
theorem errRow1 : ((List.range Tryz.prog.types.size).all fun u => Tryz.prog.typeName? 3 u != some "*errors.errorString" || u == 831) = true := by
  rw [types_size]; exact sixParts  spelt1a spelt1b spelt1c spelt1d spelt1e
set_option maxRecDepth 20000 in
theorem errRow2 : ((List.range Tryz.prog.types.size).all fun e => Tryz.prog.typeName? 2 e != some "errors.errorString" || (match (Tryz.prog.info? e).map (·.desc) with | some (TypeDesc.named _ _) => true | _ => false)) = true := by
  rw [types_size]; exact sixParts  spelt2a spelt2b spelt2c spelt2d spelt2e
theorem errStar : "*" ++ "errors.errorString" = "*errors.errorString" := by decide
set_option maxRecDepth 20000 in
theorem errRow (u : TypeId) (h : Tryz.prog.typeName? 3 u = some "*errors.errorString") : u = 831 :=
  typeName_ptr_named (nm := "errors.errorString") (by rw [errStar]; exact errRow1) errRow2 (by decide) u (by rw [errStar]; exact h)
end Go.Proofs.YtblpcabdfbpcnaaGreatDoor
namespace Go.Proofs.YtblpcabdfbpcnaaGreatDoor.Dk
open Go.X Go.X.T

def junkB : ByteArray := ⟨#[106, 117, 110, 107]⟩
def notS : List UInt8 := [110, 111, 116, 32, 115, 121, 110, 99, 101, 100]

structure Blank (B : Nat) (d : DM) : Prop where
  size : d.size = 1048576
  born : d.born ≤ B
  files : d.files = []
structure Stands (B : Nat) (d : DM) (n : ByteArray) (b : List UInt8) : Prop where
  size : d.size = 1048576
  born : d.born ≤ B
  files : ∃ js sy, sy ≤ js.length ∧ js.length ≤ 10 ∧ d.files = [⟨n, b, b.length⟩, ⟨junkB, js, sy⟩]

theorem one_wf {B s bo sy : Nat} {n : ByteArray} {b : List UInt8} (hs : s = 1048576) (hbo : bo ≤ B) (hB : B ≤ 1000) (hsy : sy ≤ b.length) (hb : b.length ≤ 1000000) : DM.wf ⟨s, bo, [⟨n, b, sy⟩]⟩ where
  names := by simp
  sy := fun f hf => by obtain rfl := List.mem_singleton.1 hf; exact hsy
  used := by simp [DM.used, lenSum]; omega
  size := by show s ≤ _; omega
  born := by show bo ≤ _; omega
theorem Blank.wf {B : Nat} {d : DM} (h : Blank B d) (hB : B ≤ 1000) : d.wf where
  names := by rw [h.files]; exact List.nodup_nil
  sy := fun f hf => by rw [h.files] at hf; cases hf
  used := by simp [DM.used, h.files, lenSum]
  size := by rw [h.size]; omega
  born := by have := h.born; omega
theorem Stands.wf {B : Nat} {d : DM} {n : ByteArray} {b : List UInt8} (h : Stands B d n b) (hB : B ≤ 1000) (hn : n ≠ junkB) (hb : b.length ≤ 1000000) : d.wf := by
  obtain ⟨js, sy, h1, h2, h3⟩ := h.files
  have hsz := h.size
  have hbo := h.born
  refine ⟨?_, ?_, ?_, by omega, by omega⟩
  · rw [h3]; simp [hn]
  · intro f hf
    rw [h3] at hf
    rcases List.mem_cons.1 hf with rfl | hf
    · exact Nat.le_refl _
    · obtain rfl := List.mem_singleton.1 hf; exact h1
  · simp only [DM.used, h3, lenSum]; omega

def laid (d : DM) (n : ByteArray) (b : List UInt8) : DM := ⟨d.size, d.born, [⟨n, b, b.length⟩, ⟨junkB, notS, 0⟩]⟩
theorem laid_stands {B : Nat} {d : DM} {n : ByteArray} {b : List UInt8} (h : Blank B d) : Stands B (laid d n b) n b := ⟨h.size, h.born, notS, 0, by omega, by decide, rfl⟩

theorem lay1 {B : Nat} {d : DM} (h : Blank B d) {n : ByteArray} {b : List UInt8} (hn : nameOK n.data.toList = true) (hb : b.length ≤ 1000000) : d.append n b = (0, ⟨d.size, d.born, [⟨n, b, 0⟩]⟩) := by
  have hs := h.size
  unfold DM.append
  rw [if_neg (by rw [hn]; simp), if_neg (by simp only [DM.used, h.files, lenSum]; omega), h.files]
  simp [fput, fens, fget, fset]
theorem lay2 {n : ByteArray} {b : List UInt8} {s bo : Nat} : (⟨s, bo, [⟨n, b, 0⟩]⟩ : DM).sync [n] = (0, ⟨s, bo, [⟨n, b, b.length⟩]⟩) := by
  simp [DM.sync, DM.hasAll, fget, fsyncs, fsync, fset]
theorem lay3 {n : ByteArray} {b : List UInt8} {d : DM} (hs : d.size = 1048576) (hn : n ≠ junkB) (hb : b.length ≤ 1000000) : (⟨d.size, d.born, [⟨n, b, b.length⟩]⟩ : DM).append junkB notS = (0, laid d n b) := by
  have h1 : junkB ≠ n := fun e => hn e.symm
  have h2 : nameOK junkB.data.toList = true := by decide
  have h3 : notS.length = 10 := rfl
  unfold DM.append laid
  rw [if_neg (by rw [h2]; simp), if_neg (by simp only [DM.used, lenSum]; omega)]
  simp [fput, fens, fget, fset, h1]

theorem keptOf_all {f : FM} (h : f.sy = f.bs.length) (pk : Option Int) : keptOf f pk = f.bs.length := by
  unfold keptOf
  split
  · split
    · rw [h]; simp [Int.emod_one]
    · exact h
  · exact h
theorem crashN_stands {n : ByteArray} {b : List UInt8} (hn : n ≠ junkB) (names : List (List UInt8)) (picks : List Int) : ∀ (k : Nat) (js : List UInt8) (sy : Nat), sy ≤ js.length → js.length ≤ 10 →
    ∃ js' sy', sy' ≤ js'.length ∧ js'.length ≤ 10 ∧ crashN names picks k [⟨n, b, b.length⟩, ⟨junkB, js, sy⟩] = [⟨n, b, b.length⟩, ⟨junkB, js', sy'⟩]
  | 0, js, sy, h1, h2 => ⟨js, sy, h1, h2, rfl⟩
  | k + 1, js, sy, h1, h2 => by
    obtain ⟨js', sy', h3, h4, h5⟩ := crashN_stands (b := b) hn names picks k js sy h1 h2
    simp only [crashN, h5]
    split
    · rename_i m hm
      by_cases e1 : (⟨m.toArray⟩ : ByteArray) = n
      · refine ⟨js', sy', h3, h4, ?_⟩
        unfold fcrash
        simp only [fget, e1, if_true]
        rw [keptOf_all rfl]
        simp [fset]
      · by_cases e2 : (⟨m.toArray⟩ : ByteArray) = junkB
        · have hk := keptOf_le ⟨junkB, js', sy'⟩ h3 picks[k]?
          refine ⟨js'.take (keptOf ⟨junkB, js', sy'⟩ picks[k]?), keptOf ⟨junkB, js', sy'⟩ picks[k]?, by rw [List.length_take]; have := hk.2; simp only at this; omega, by rw [List.length_take]; omega, ?_⟩
          unfold fcrash
          simp only [fget, e1, e2, if_false, if_true]
          have h6 : junkB ≠ n := fun e => hn e.symm
          simp [fset, h6]
        · exact ⟨js', sy', h3, h4, by unfold fcrash; simp [fget, e1, e2]⟩
    · exact ⟨js', sy', h3, h4, rfl⟩
theorem Stands.crash {B : Nat} {d : DM} {n : ByteArray} {b : List UInt8} (h : Stands B d n b) (hn : n ≠ junkB) (picks : List Int) : Stands B (d.crash picks) n b := by
  obtain ⟨js, sy, h1, h2, h3⟩ := h.files
  obtain ⟨js', sy', h4, h5, h6⟩ := crashN_stands (b := b) hn (d.list []) picks (d.list []).length js sy h1 h2
  exact ⟨h.size, h.born, js', sy', h4, h5, by show crashN _ _ _ d.files = _; rw [h3]; exact h6⟩
theorem crashN_nil (names : List (List UInt8)) (picks : List Int) : ∀ k, crashN names picks k [] = []
  | 0 => rfl
  | k + 1 => by
    simp only [crashN, crashN_nil names picks k]
    split <;> simp [fcrash, fget]
theorem Blank.crash {B : Nat} {d : DM} (h : Blank B d) (picks : List Int) : Blank B (d.crash picks) := ⟨h.size, h.born, by show crashN _ _ _ d.files = _; rw [h.files, crashN_nil]⟩
theorem lose_blank {B : Nat} {d : DM} (hs : d.size = 1048576) (hb : d.born ≤ B) : Blank (B + 1) d.lose := ⟨hs, by show d.born + 1 ≤ _; omega, rfl⟩
theorem Stands.bytes {B : Nat} {d : DM} {n : ByteArray} {b : List UInt8} (h : Stands B d n b) : d.bytes n = b ∧ d.found n = 0 := by
  obtain ⟨js, sy, h1, h2, h3⟩ := h.files
  simp [DM.bytes, DM.found, h3, fget]
theorem Blank.bytes {B : Nat} {d : DM} (h : Blank B d) (n : ByteArray) : d.bytes n = [] ∧ d.found n = 4 := by simp [DM.bytes, DM.found, h.files, fget]
theorem Blank.more {B C : Nat} {d : DM} (h : Blank B d) (hc : B ≤ C) : Blank C d := ⟨h.size, Nat.le_trans h.born hc, h.files⟩
theorem Stands.more {B C : Nat} {d : DM} {n : ByteArray} {b : List UInt8} (h : Stands B d n b) (hc : B ≤ C) : Stands C d n b := ⟨h.size, Nat.le_trans h.born hc, h.files⟩

theorem nameB_ok : ∀ i, i < 15 → nameOK (nameB i).data.toList = true ∧ nameB i ≠ junkB ∧ (nameB i).size = 22 := by decide
structure DP where
  p : Nat
  d : DM
def DP.asn (x : DP) : Assn := DiskAt x.p x.d
def DP.val (x : DP) : Value := .pointer (some ⟨x.p, 0, none⟩)

def Std (B : Nat) (fl : Nat → List UInt8) (has : Bool) (i : Nat) (d : DM) : Prop := if has then Stands B d (nameB i) (fl i) else Blank B d
structure St (B : Nat) (has : Nat → Bool) (fl : Nat → List UInt8) (n : Nat) (xs : List DP) : Prop where
  len : xs.length = n
  at_ : ∀ i x, xs[i]? = some x → Std B fl (has i) i x.d
  few : ∀ i, i < n → (fl i).length ≤ 1000000
  n15 : n < 15
  b : B ≤ 900
def goneL (lost : List Int) (n i : Nat) : Bool := lost.any fun v => v % (n : Int) == (i : Int)

theorem Std.wf {B : Nat} {fl : Nat → List UInt8} {has : Bool} {i : Nat} {d : DM} (h : Std B fl has i d) (hi : i < 15) (hB : B ≤ 900) (hf : (fl i).length ≤ 1000000) : d.wf := by
  unfold Std at h
  cases has with
  | true => exact Stands.wf h (by omega) (nameB_ok i hi).2.1 hf
  | false => exact Blank.wf h (by omega)
theorem Std.few {B : Nat} {fl : Nat → List UInt8} {has : Bool} {i : Nat} {d : DM} (h : Std B fl has i d) : d.files.length ≤ 2 := by
  unfold Std at h
  cases has with
  | true => obtain ⟨_, _, _, _, e⟩ := Stands.files h; rw [e]; simp
  | false => rw [Blank.files h]; simp
theorem Std.crash {B : Nat} {fl : Nat → List UInt8} {has : Bool} {i : Nat} {d : DM} (h : Std B fl has i d) (hi : i < 15) (picks : List Int) : Std B fl has i (d.crash picks) := by
  unfold Std at h ⊢
  cases has with
  | true => exact Stands.crash h (nameB_ok i hi).2.1 picks
  | false => exact Blank.crash h picks
theorem Std.lose {B : Nat} {fl : Nat → List UInt8} {has : Bool} {i : Nat} {d : DM} (h : Std B fl has i d) : Std (B + 1) fl false i d.lose := by
  unfold Std at h ⊢
  cases has with
  | true => exact lose_blank (Stands.size h) (Stands.born h)
  | false => exact lose_blank (Blank.size h) (Blank.born h)
theorem Std.more {B C : Nat} {fl : Nat → List UInt8} {has : Bool} {i : Nat} {d : DM} (h : Std B fl has i d) (hc : B ≤ C) : Std C fl has i d := by
  unfold Std at h ⊢
  cases has with
  | true => exact Stands.more h hc
  | false => exact Blank.more h hc
theorem Std.bytes {B : Nat} {fl : Nat → List UInt8} {has : Bool} {i : Nat} {d : DM} (h : Std B fl has i d) : d.bytes (nameB i) = if has then fl i else [] := by
  unfold Std at h
  cases has with
  | true => exact (Stands.bytes h).1
  | false => exact (Blank.bytes h _).1
end Go.Proofs.YtblpcabdfbpcnaaGreatDoor.Dk
namespace Go.Proofs.YtblpcabdfbpcnaaGreatDoor
open Go.Proofs.Tryz
open Go.X Go.X.T Dk

theorem tmod_facts (v : Int) {n : Nat} (hn : 0 < n) : -(n : Int) < v.tmod n ∧ v.tmod n < n ∧ v % (n : Int) = if v.tmod n < 0 then v.tmod n + n else v.tmod n := by
  have h1 : 0 ≤ v % (n : Int) := Int.emod_nonneg _ (by omega)
  have h2 : v % (n : Int) < n := Int.emod_lt_of_pos _ (by omega)
  have h3 := Int.tmod_eq_emod (a := v) (b := n)
  rw [Int.natAbs_natCast] at h3
  split at h3
  · split <;> omega
  · rename_i h4
    have h5 : v % (n : Int) ≠ 0 := fun e => h4 (.inr (Int.dvd_of_emod_eq_zero e))
    split <;> omega

theorem place_spec (v : Int) (n : Nat) (hn : 0 < n) (hn15 : n < 15) : FSpec Tryz.prog 29 [.int .i64 v, .int .i64 n] [] (fun u B => u = .int .i64 (v % (n : Int)) ∧ B = []) := by
  refine FSpec.of func29 rfl ntmps29 rfl fun W0 F => ?_
  refine J.seq <| J.region <| J.p rfl (Q.asg rfl) <| J.nil <| J.then_n <| J.seq ?_
  have hm := tmod_facts v hn
  refine J.region <| J.m rfl <| J.m rfl <| J.p rfl (Q.rem rfl rfl (by omega)) <| J.p rfl (Q.asg rfl) <| J.nil <| J.then_n <| J.seq <| J.seq <| J.region <| J.m rfl <| J.p rfl (Q.lss rfl rfl) <| J.nil <| J.then_n ?_
  refine J.kases 9 rfl (fun hc9 => ?_) (fun hc9 => ?_)
  ·
   refine J.cond_t rfl <| J.region <| J.m rfl <| J.m rfl <| J.p rfl (Q.add64 rfl rfl (by omega)) <| J.p rfl (Q.asg rfl) <| J.nil <| J.then_n <| J.seq <| J.region <| J.m rfl <| J.p rfl (Q.asg rfl) <| J.nil <| J.then_n <| J.cret ?_
   exact J.ret1I [] rfl rfl ⟨by congr 1; have := hm.2.2; split at this <;> omega, rfl⟩
  refine J.cond_f rfl <| J.cskip <| J.then_n <| J.seq <| J.region <| J.m rfl <| J.p rfl (Q.asg rfl) <| J.nil <| J.then_n <| J.cret ?_
  exact J.ret1I [] rfl rfl ⟨by congr 1; have := hm.2.2; split at this <;> omega, rfl⟩

def goneF (lost : List Int) (n k : Nat) : List Value := (List.range n).map fun i => Value.bool (goneL (lost.take k) n i)
def leftN (lost : List Int) (n k : Nat) : Nat := ((List.range k).filter fun i => !goneL lost n i).length
theorem goneF_len {lost : List Int} {n k : Nat} : (goneF lost n k).length = n := by simp [goneF]
theorem goneF_at {lost : List Int} {n k i : Nat} (h : i < n) : (goneF lost n k)[i]? = some (.bool (goneL (lost.take k) n i)) := by
  unfold goneF; rw [List.getElem?_map, List.getElem?_range h]; rfl
theorem goneF_zero {lost : List Int} {n : Nat} : goneF lost n 0 = List.replicate n (Value.bool false) := by
  refine List.ext_getElem? fun i => ?_
  rcases Nat.lt_or_ge i n with h | h
  · rw [goneF_at h, List.getElem?_replicate, if_pos h]; rfl
  · rw [List.getElem?_eq_none (by rw [goneF_len]; exact h), List.getElem?_eq_none (by simpa using h)]
theorem goneF_succ {lost : List Int} {n k : Nat} {v : Int} (hn : 0 < n) (hv : lost[k]? = some v) : (goneF lost n k).set (v % (n : Int)).toNat (.bool true) = goneF lost n (k + 1) := by
  have h1 : 0 ≤ v % (n : Int) := Int.emod_nonneg _ (by omega)
  have h2 : v % (n : Int) < n := Int.emod_lt_of_pos _ (by omega)
  obtain ⟨h3, h4⟩ := List.getElem?_eq_some_iff.1 hv
  have ht : lost.take (k + 1) = lost.take k ++ [v] := by rw [List.take_succ_eq_append_getElem h3, h4]
  refine List.ext_getElem? fun i => ?_
  rcases Nat.lt_or_ge i n with h | h
  · rw [goneF_at h, List.getElem?_set]
    split
    · rename_i e
      rw [if_pos (by rw [goneF_len]; omega)]
      congr 2
      unfold goneL
      rw [ht, List.any_append]
      simp; right; omega
    · rename_i e
      rw [goneF_at h]
      congr 2
      unfold goneL
      rw [ht, List.any_append]
      simp; intro h5; omega
  · rw [List.getElem?_eq_none (by rw [List.length_set, goneF_len]; exact h), List.getElem?_eq_none (by rw [goneF_len]; exact h)]
theorem leftN_succ {lost : List Int} {n k : Nat} : leftN lost n (k + 1) = leftN lost n k + if goneL lost n k then 0 else 1 := by
  unfold leftN
  rw [List.range_succ, List.filter_append, List.length_append]
  congr 1
  cases h : goneL lost n k <;> simp [h]
theorem leftN_le {lost : List Int} {n k : Nat} : leftN lost n k ≤ k := by
  unfold leftN; exact Nat.le_trans (List.length_filter_le _ _) (by simp)

structure Half (B : Nat) (has : Nat → Bool) (lost : List Int) (fl : Nat → List UInt8) (n j : Nat) (xs ys : List DP) : Prop where
  vals : ys.map DP.val = xs.map DP.val
  done : ∀ i x, i < j → ys[i]? = some x → Std (B + 1) fl (has i && !goneL lost n i) i x.d
  rest : ∀ i x, j ≤ i → ys[i]? = some x → Std B fl (has i) i x.d
theorem Half.step {B : Nat} {has : Nat → Bool} {lost : List Int} {fl : Nat → List UInt8} {n j : Nat} {xs ys : List DP} (h : Half B has lost fl n j xs ys) {x : DP} (hx : ys[j]? = some x) {d : DM} (hd : Std (B + 1) fl (has j && !goneL lost n j) j d) : Half B has lost fl n (j + 1) xs (ys.set j ⟨x.p, d⟩) := by
  have hl := (List.getElem?_eq_some_iff.1 hx).1
  refine ⟨?_, ?_, ?_⟩
  · rw [List.map_set, ← h.vals]
    exact set_self (by rw [List.getElem?_map, hx]; rfl)
  · intro i y hi hy
    rw [List.getElem?_set] at hy
    split at hy
    · rename_i e
      subst e
      first | (rw [if_pos hl] at hy; cases hy; exact hd) | (cases hy; exact hd)
    · exact h.done i y (by omega) hy
  · intro i y hi hy
    rw [List.getElem?_set_ne (by omega)] at hy
    exact h.rest i y (by omega) hy

section
variable (B n : Nat) (has : Nat → Bool) (fl : Nat → List UInt8) (xs : List DP) (hx : St B has fl n xs) (hB1 : B < 900) (hn : 0 < n) (GP : Assn) (qp : Option Addr) (qc : Nat) (hq : SlR [GP] 1 (.slice qp n qc) (xs.map DP.val))
include hx hB1 hn hq
theorem lose_spec (G : Assn) (lp kp : Option Addr) (lc kc : Nat) (lost picks : List Int) (hl : SlR [G] 1 (.slice lp lost.length lc) (lost.map (Value.int .i64))) (hll : lost.length ≤ 30) (hpk : SlR [G] 1 (.slice kp picks.length kc) (picks.map (Value.int .i64))) (hkl : picks.length ≤ 30)
    (hkr : ∀ v, v ∈ picks → -9223372036854775808 ≤ v ∧ v ≤ 9223372036854775807) :
    FSpec Tryz.prog 9 [.slice qp n qc, .slice lp lost.length lc, .slice kp picks.length kc] [star (xs.map DP.asn), GP, G]
      (fun v D => ∃ ys : List DP, v = .int .i64 (leftN lost n n) ∧ ys.map DP.val = xs.map DP.val ∧ St (B + 1) (fun i => has i && !goneL lost n i) fl n ys ∧ D = [star (ys.map DP.asn), GP, G]) := by
  refine FSpec.of func9 rfl ntmps9 rfl fun W0 F => ?_
  refine J.seq ?_
  have hxl := hx.len
  have hn15 := hx.n15
  have hB := hx.b
  have hz0 : goneF lost n 0 = List.replicate n (Value.bool false) := goneF_zero
  refine J.region <| J.p rfl (Q.asg rfl) <| J.nil <| J.then_n <| J.seq <| J.region <| J.m rfl <| J.p rfl (Q.lenSl runUnderlying25 rfl) ?_
  refine J.c rfl rfl (C.mksl runUnderlying90 typeInfo4 sizeOf4 zeroValue4 rfl rfl rfl (by omega) (by omega) (by simp [Tryz.t4]; omega) (by omega)) ?_
  rintro _ _ ⟨b13, rfl, rfl⟩
  refine J.norm rfl ?_
  refine J.slot 13 (.slice (some ⟨b13, 0, none⟩) n n) rfl rfl ?_
  refine J.conv (Y := own 4 1 (.slice (some ⟨b13, 0, none⟩) n n) (goneF lost n 0)) 0 rfl (by rw [hz0]; exact own_of_block (by simp)) ?_
  refine J.p rfl (Q.asg rfl) <| J.nil <| J.then_n <| J.seq <| J.seq <| J.region <| J.p rfl (Q.asg rfl) <| J.nil <| J.then_n <| J.block ?_
  refine J.loopI (fun k : Nat => k ≤ lost.length) (fun k => lost.length - k) (fun k => [(0, .slice qp n qc), (1, .slice lp lost.length lc), (2, .slice kp picks.length kc), (7, .slice (some ⟨b13, 0, none⟩) n n), (8, .int .i64 k)])
   (fun k => [own 4 1 (.slice (some ⟨b13, 0, none⟩) n n) (goneF lost n k), star (xs.map DP.asn), GP, G, F]) 0 (Nat.zero_le _) ⟨rfl, rfl, rfl, rfl, rfl, trivial⟩ fun k hk => ?_
  refine J.seq <| J.seq <| J.region <| J.m rfl <| J.m rfl <| J.p rfl (Q.lenSl runUnderlying23 rfl) <| J.p rfl (Q.lss rfl rfl) <| J.nil <| J.then_n ?_
  refine J.kases 17 rfl (fun hc17 => ?_) (fun hc17 => ?_)
  ·
   try (first | fail)
   all_goals
    refine J.cond_t rfl <| J.cskip <| J.then_n <| J.seq <| J.block ?_
    obtain ⟨lb, lo, rfl, hrd⟩ := hl.some_ (by omega)
    obtain ⟨u, hu⟩ : ∃ u, lost[k]? = some u := ⟨_, List.getElem?_eq_getElem (by omega)⟩
    have huv : (lost.map (Value.int .i64))[k]? = some (.int .i64 u) := by rw [List.getElem?_map, hu]; rfl
    have hm1 : 0 ≤ u % (n : Int) := Int.emod_nonneg _ (by omega)
    have hm2 : u % (n : Int) < n := Int.emod_lt_of_pos _ (by omega)
    refine J.region <| J.m rfl <| J.m rfl <| J.m rfl <| J.p rfl (Q.ia runUnderlying23 sizeOf3 rfl rfl (by omega) (by omega)) <| J.p rfl (Q.ld isAgg3 rfl (((hrd k _ huv).inI).cast (by simp))) <| J.m rfl <| J.p rfl (Q.lenSl runUnderlying25 rfl) ?_
    refine J.callI call29 (place_spec u n hn hn15) rfl rfl rfl ?_
    rintro _ _ ⟨rfl, rfl⟩
    refine J.norm rfl ?_
    refine J.slot 27 (.int .i64 ((u % (n : Int)).toNat : Nat)) rfl (by congr 1; omega) ?_
    refine J.p rfl (Q.ia runUnderlying90 sizeOf4 rfl rfl (by omega) (by omega)) ?_
    refine J.c0 rfl (C.st1O (b := b13) (u % (n : Int)).toNat sizeOf4 rfl rfl rfl (by omega) (by rw [goneF_len]; omega)) ?_
    rintro _ _ ⟨rfl, rfl⟩
    refine J.norm rfl ?_
    rw [goneF_succ hn hu]
    refine J.nil <| J.blk_n <| J.then_n <| J.region <| J.m rfl <| J.p rfl (Q.add64 rfl rfl (by omega)) <| J.p rfl (Q.asg rfl) <| J.nil ?_
    refine J.againI (k + 1) (by show k + 1 ≤ lost.length; omega) (by show lost.length - (k + 1) < lost.length - k; omega) ⟨rfl, rfl, rfl, rfl, rfl, trivial⟩
  try (first | fail)
  all_goals
   refine J.cond_f rfl <| J.exit <| J.then_x <| J.lp_x <| J.blk_x <| J.then_n <| J.seq <| J.region <| J.p rfl (Q.asg rfl) <| J.nil <| J.then_n <| J.seq <| J.seq <| J.region <| J.p rfl (Q.asg rfl) <| J.nil <| J.then_n <| J.block ?_
   obtain rfl : k = lost.length := by omega
   have hgt : lost.take lost.length = lost := List.take_length
   refine J.loop2I (fun (j : Nat) (ys : List DP) => j ≤ n ∧ Half B has lost fl n j xs ys) (fun j _ => n - j) (fun j _ => [(0, .slice qp n qc), (2, .slice kp picks.length kc), (7, .slice (some ⟨b13, 0, none⟩) n n), (9, .int .i64 (leftN lost n j)), (10, .int .i64 j)])
    (fun _ ys => [own 4 1 (.slice (some ⟨b13, 0, none⟩) n n) (goneF lost n lost.length), star (ys.map DP.asn), GP, G, F]) 0 xs ⟨Nat.zero_le _, rfl, fun i x h => absurd h (by omega), fun i x _ h => hx.at_ i x h⟩ ⟨rfl, rfl, rfl, rfl, rfl, trivial⟩ fun j ys hz => ?_
   obtain ⟨hj, hy⟩ := hz
   have hlf := @leftN_le lost n j
   refine J.seq <| J.seq <| J.region <| J.m rfl <| J.m rfl <| J.p rfl (Q.lenSl runUnderlying25 rfl) <| J.p rfl (Q.lss rfl rfl) <| J.nil <| J.then_n ?_
   refine J.kases 32 rfl (fun hc32 => ?_) (fun hc32 => ?_)
   ·
    try (first | fail)
    all_goals
     refine J.cond_t rfl <| J.cskip <| J.then_n <| J.seq <| J.block <| J.seq ?_
     have hyl : ys.length = n := by have := congrArg List.length hy.vals; simpa [hxl] using this
     obtain ⟨qb, qo, rfl, hqd⟩ := hq.some_ (by omega)
     obtain ⟨y, hyj⟩ : ∃ y, ys[j]? = some y := ⟨_, List.getElem?_eq_getElem (by omega)⟩
     have hyv : (xs.map DP.val)[j]? = some (.pointer (some ⟨y.p, 0, none⟩)) := by rw [← hy.vals, List.getElem?_map, hyj]; rfl
     have hstd := hy.rest j y (Nat.le_refl _) hyj
     have hwf := hstd.wf (by omega) hB (hx.few j (by omega))
     have hfew := hstd.few
     have hgj := @goneF_at lost n lost.length j (by omega)
     rw [hgt] at hgj
     refine J.focusI (f := DP.asn) (l := ys) j hyj ?_
     refine J.convI (DP.asn y) (DiskAt y.p y.d) (fun _ s => s) ?_
     refine J.norm rfl <| J.region <| J.m rfl <| J.m rfl <| J.p rfl (Q.ia runUnderlying25 sizeOf26 rfl rfl (by omega) (by omega)) <| J.p rfl (Q.ld isAgg26 rfl (((hqd j _ hyv).inI).cast (by simp))) <| J.m rfl ?_
     refine J.callI call30 (crash_spec y.p y.d hwf (by omega) G kp picks.length kc picks hpk (by omega) hkr) rfl rfl rfl ?_
     rintro _ _ ⟨rfl, rfl⟩
     refine J.norm rfl <| J.nil <| J.then_n <| J.seq <| J.region <| J.m rfl <| J.m rfl <| J.p rfl (Q.ia runUnderlying90 sizeOf4 rfl rfl (by omega) (by omega)) <| J.p rfl (Q.ld isAgg4 rfl (rdO (b := b13) hgj (by omega))) <| J.nil <| J.then_n ?_
     refine J.kases 44 rfl (fun hc44 => ?_) (fun hc44 => ?_)
     ·
      try (first | fail)
      all_goals
       refine J.cond_t rfl ?_
       have hst2 := hstd.crash (by omega) picks
       refine J.region <| J.m rfl <| J.m rfl <| J.p rfl (Q.ia runUnderlying25 sizeOf26 rfl rfl (by omega) (by omega)) <| J.p rfl (Q.ld isAgg26 rfl (((hqd j _ hyv).inI).cast (by simp))) ?_
       refine J.callI call31 (Dk.lose_spec y.p (y.d.crash picks) (hst2.wf (by omega) hB (hx.few j (by omega)))) rfl rfl rfl ?_
       rintro _ _ ⟨rfl, rfl⟩
       refine J.norm rfl <| J.nil <| J.blk_n <| J.then_n <| J.region <| J.m rfl <| J.p rfl (Q.add64 rfl rfl (by omega)) <| J.p rfl (Q.asg rfl) <| J.nil ?_
       have hg : goneL lost n j = true := hc44
       have hle : leftN lost n j = leftN lost n (j + 1) := by have := @leftN_succ lost n j; rw [hg] at this; simp at this; omega
       have hf := hy.step hyj (d := (y.d.crash picks).lose) (by rw [hg, Bool.not_true, Bool.and_false]; exact hst2.lose)
       refine J.convI (DiskAt y.p (y.d.crash picks).lose) (DP.asn ⟨y.p, (y.d.crash picks).lose⟩) (fun _ s => s) ?_
       refine J.unfocusI (f := DP.asn) (l := ys) j ⟨y.p, (y.d.crash picks).lose⟩ (by omega) ?_
       rw [hle]
       exact J.againI (j + 1, ys.set j ⟨y.p, (y.d.crash picks).lose⟩) ⟨by show j + 1 ≤ n; omega, hf⟩ (by show n - (j + 1) < n - j; omega) ⟨rfl, rfl, rfl, rfl, rfl, trivial⟩
     try (first | fail)
     all_goals
      refine J.cond_f rfl <| J.region <| J.m rfl <| J.p rfl (Q.add64 rfl rfl (by omega)) <| J.p rfl (Q.asg rfl) <| J.nil <| J.blk_n <| J.then_n <| J.region <| J.m rfl <| J.p rfl (Q.add64 rfl rfl (by omega)) <| J.p rfl (Q.asg rfl) <| J.nil ?_
      have hg : goneL lost n j = false := hc44
      have hle : leftN lost n (j + 1) = leftN lost n j + 1 := by have := @leftN_succ lost n j; rw [hg] at this; simpa using this
      have hf := hy.step hyj (d := y.d.crash picks) (by rw [hg, Bool.not_false, Bool.and_true]; exact (hstd.crash (by omega) picks).more (by omega))
      refine J.convI (DiskAt y.p (y.d.crash picks)) (DP.asn ⟨y.p, y.d.crash picks⟩) (fun _ s => s) ?_
      refine J.unfocusI (f := DP.asn) (l := ys) j ⟨y.p, y.d.crash picks⟩ (by omega) ?_
      exact J.againI (j + 1, ys.set j ⟨y.p, y.d.crash picks⟩) ⟨by show j + 1 ≤ n; omega, hf⟩ (by show n - (j + 1) < n - j; omega) ⟨rfl, rfl, rfl, by show _ = some (Value.int .i64 (leftN lost n (j + 1) : Nat)); rw [hle]; rfl, rfl, trivial⟩
   try (first | fail)
   all_goals
    refine J.cond_f rfl <| J.exit <| J.then_x <| J.lp_x <| J.blk_x <| J.then_n <| J.seq <| J.region <| J.m rfl <| J.p rfl (Q.asg rfl) <| J.nil <| J.then_n <| J.cret ?_
    obtain rfl : j = n := by omega
    exact J.ret1I [star (ys.map DP.asn), GP, G] rfl rfl ⟨ys, rfl, hy.vals, ⟨by have := congrArg List.length hy.vals; simpa [hxl] using this, fun i x hi => hy.done i x (by have := (List.getElem?_eq_some_iff.1 hi).1; have := congrArg List.length hy.vals; simp only [List.length_map, hxl] at this; omega) hi, hx.few, hn15, by omega⟩, rfl⟩
end

def filesO (has : Nat → Bool) (fl : Nat → List U) (n : Nat) : Ml := (List.range n).map fun i => if has i then fl i else []
theorem filesO_succ {has : Nat → Bool} {fl : Nat → List U} {n : Nat} : filesO has fl (n + 1) = filesO has fl n ++ [if has n then fl n else []] := by
  unfold filesO; rw [List.range_succ, List.map_append]; rfl

theorem append2_spec (p : Nat) (d : DM) (hd : d.wf) (name : ByteArray) (hnm : name.size ≤ 140737488355328) (P G : Assn) (pp : Option Addr) (pn pc : Nat) (parts : List Part) (hp : SlR [P] 1 (.slice pp pn pc) (parts.map Part.val)) (hpn : pn ≤ 1000000)
    (hq : ∀ q, q ∈ parts → SlR [G] 1 q.val (bytesV q.bs)) (htot : (pcat parts).length ≤ 1099511627776) :
    FSpec Tryz.prog 27 [.pointer (some ⟨p, 0, none⟩), .string name, .slice pp pn pc] [DiskAt p d, P, G] (fun v B => v = .int .i64 (d.append name (pcat parts)).1 ∧ B = [DiskAt p (d.append name (pcat parts)).2, P, G]) := by
  refine (append_spec p d hd name hnm (star [P, G]) pp pn pc parts (hp.into 0 rfl) hpn (fun q hq' => (hq q hq').into 1 rfl) htot).conv (fun h s => (HSat.pack (As := [P, G]) (Bs := [DiskAt p d]) (s.perm (X.pick_perm (is := [1, 2]) rfl))).perm (X.pick_perm (is := [1, 0]) rfl)) ?_
  rintro v B ⟨rfl, rfl⟩
  exact ⟨_, ⟨rfl, rfl⟩, fun h s => (HSat.unpack (As := [P, G]) (Bs := [DiskAt p (d.append name (pcat parts)).2]) (s.perm (X.pick_perm (is := [1, 0]) rfl))).perm (X.pick_perm (is := [2, 0, 1]) rfl)⟩

def layH (has : Nat → Bool) (zs : List SHR) (j : Nat) : Nat → Bool := fun i => has i || (zs.take j).any fun z => z.i == i
theorem layH_zero {has : Nat → Bool} {zs : List SHR} : layH has zs 0 = has := by funext i; simp [layH]
theorem layH_succ {has : Nat → Bool} {zs : List SHR} {j : Nat} {z : SHR} (h : zs[j]? = some z) (i : Nat) : layH has zs (j + 1) i = (layH has zs j i || z.i == i) := by
  obtain ⟨h1, h2⟩ := List.getElem?_eq_some_iff.1 h
  unfold layH
  rw [List.take_succ_eq_append_getElem h1, h2, List.any_append]
  simp [Bool.or_assoc]
theorem St.put (B n : Nat) (has : Nat → Bool) (fl : Nat → List U) {ys : List DP} (h : St B has fl n ys) {i : Nat} {y : DP} (hy : ys[i]? = some y) {d : DM} (hd : Stands B d (nameB i) (fl i)) : St B (fun k => has k || i == k) fl n (ys.set i ⟨y.p, d⟩) := by
  have hl := (List.getElem?_eq_some_iff.1 hy).1
  refine ⟨by rw [List.length_set]; exact h.len, ?_, h.few, h.n15, h.b⟩
  intro k w hk
  by_cases e : i = k
  · subst e
    rw [List.getElem?_set_self hl] at hk
    cases hk
    simp [Std]; exact hd
  · rw [List.getElem?_set_ne e] at hk
    have := h.at_ k w hk
    have e2 : (i == k) = false := by simpa using e
    simp only [e2, Bool.or_false]; exact this


section
variable (B n : Nat) (has : Nat → Bool) (fl : Nat → List U) (xs : List DP) (hx : St B has fl n xs) (hn : 0 < n) (GP : Assn) (qp : Option Addr) (qc : Nat) (hq : SlR [GP] 1 (.slice qp n qc) (xs.map DP.val))
include hx hn hq
theorem files_spec (x : PX) (Gl : Assn) (hname : NameOK Gl) :
    FSpec Tryz.prog 11 [.slice qp n qc, .agg x.cells.toArray] [star (xs.map DP.asn), GP, Gl]
      (fun v D => ∃ (p : Option Addr) (c : Nat) (hs : List RowH), v = .slice p n c ∧ hs.map RowH.bs = filesO has fl n ∧ D = [own 22 1 (.slice p n c) (hs.map RowH.val), star (hs.map RowH.asn), star (xs.map DP.asn), GP, Gl]) := by
  refine FSpec.of func11 rfl ntmps11 rfl fun W0 F => ?_
  refine J.seq <| J.region ?_
  refine J.c rfl rfl (C.box (l := [_, _, _, _, _, _, _, _, _]) rfl rfl) ?_
  rintro _ _ ⟨b3, rfl, rfl⟩
  refine J.norm rfl <| J.p rfl (Q.asg rfl) <| J.nil <| J.then_n <| J.seq <| J.region <| J.p rfl (Q.asg rfl) <| J.nil <| J.then_n <| J.seq <| J.seq <| J.region <| J.p rfl (Q.asg rfl) <| J.nil <| J.then_n <| J.block ?_
  refine J.give (X := star (([] : List RowH).map RowH.asn)) trivial ?_
  refine J.give (X := own 22 1 (.slice none 0 0) (([] : List RowH).map RowH.val)) (own.nil _ _ _) ?_
  refine J.loop3I (fun (hs : List RowH) (_ : Option Addr) (_ : Nat) => hs.length ≤ n ∧ hs.map RowH.bs = filesO has fl hs.length) (fun hs _ _ => n - hs.length) (fun hs p c => [(0, .slice qp n qc), (3, .pointer (some ⟨b3, 0, none⟩)), (5, .slice p hs.length c), (6, .int .i64 hs.length)])
   (fun hs p c => [pt b3 (.cells x.cells.toArray 33 (0, 0)), GP, own 22 1 (.slice p hs.length c) (hs.map RowH.val), star (hs.map RowH.asn), star (xs.map DP.asn), Gl, F]) [] none 0 ⟨by simp, rfl⟩ ⟨rfl, rfl, rfl, rfl, trivial⟩ fun hs p c hz => ?_
  obtain ⟨hz1, hz2⟩ := hz
  refine J.seq <| J.seq ?_
  have hxl := hx.len
  have hn15 := hx.n15
  have hB := hx.b
  refine J.region <| J.m rfl <| J.m rfl <| J.p rfl (Q.lenSl runUnderlying25 rfl) <| J.p rfl (Q.lss rfl rfl) <| J.nil <| J.then_n ?_
  refine J.kases 12 rfl (fun hc12 => ?_) (fun hc12 => ?_)
  ·
   try (first | fail)
   all_goals
    refine J.cond_t rfl <| J.cskip <| J.then_n <| J.seq <| J.block <| J.seq ?_
    obtain ⟨i, hi⟩ : ∃ i, i = hs.length := ⟨_, rfl⟩
    rw [← hi] at hz1 hz2 ⊢
    obtain ⟨qb, qo, rfl, hqd⟩ := hq.some_ (by omega)
    obtain ⟨y, hyj⟩ : ∃ y, xs[i]? = some y := ⟨_, List.getElem?_eq_getElem (by omega)⟩
    have hyv : (xs.map DP.val)[i]? = some (.pointer (some ⟨y.p, 0, none⟩)) := by rw [List.getElem?_map, hyj]; rfl
    have hstd := hx.at_ i y hyj
    have hwf := hstd.wf (by omega) hB (hx.few i (by omega))
    have hbb := hstd.bytes
    refine J.focusI (f := DP.asn) (l := xs) i hyj ?_
    refine J.convI (DP.asn y) (DiskAt y.p y.d) (fun _ s => s) ?_
    refine J.pickI [pt b3 (.cells x.cells.toArray 33 (0, 0)), GP] ?_
    refine J.norm rfl ?_
    refine J.drawE [7, 8, 12, 13] 2 Tryz.mixed (by kernel_rfl) rfl rfl fun hR => ?_
    refine RG.p 0 hR rfl (Q.mv rfl) <| RG.p 1 hR rfl (Q.mv rfl) <| RG.p 2 hR rfl (Q.ia runUnderlying25 sizeOf26 rfl rfl (by omega) (by omega)) <| RG.p 3 hR rfl (Q.ld isAgg26 rfl (((hqd i _ hyv).inI).cast (by simp))) <| RG.p 4 hR rfl (Q.fa (n := 3) runUnderlying33 rfl rfl sizeOf30 rfl) ?_
    refine RG.p 5 hR rfl (Q.ldI isAgg30 rfl) ?_
    refine RG.p 6 hR rfl (Q.mv rfl) ?_
    refine RG.callkI 7 hR rfl rfl rfl rfl rfl call36 (hname i (by omega)) rfl ?_
    rintro _ _ ⟨rfl, rfl⟩
    refine RG.normE rfl ?_
    refine RG.callI 8 hR rfl rfl rfl rfl rfl rfl call35 (read_spec y.p y.d hwf (nameB i)) rfl ?_
    rintro _ _ ⟨rp, rc, _, rfl, rfl⟩
    refine RG.norm rfl <| RG.p 9 hR rfl (Q.mv rfl) <| RG.p 10 hR rfl (Q.ext rfl rfl) <| RG.p 11 hR rfl (Q.ext rfl rfl) ?_
    refine RG.keep 12 hR rfl rfl rfl rfl rfl (Q.asg rfl) ?_
    refine RG.bar 13 hR rfl rfl rfl rfl rfl rfl (Q.asg rfl).toC ?_
    rintro _ _ ⟨rfl, rfl⟩
    refine RG.norm rfl ?_
    refine RG.fin hR rfl ?_
    refine J.norm rfl <| J.then_n ?_
    obtain ⟨bs, hbs⟩ : ∃ bs, bs = y.d.bytes (nameB i) := ⟨_, rfl⟩
    rw [← hbs] at hbb ⊢
    refine J.region <| J.m rfl <| J.m rfl ?_
    refine J.c rfl rfl (C.bslG (l := [_]) runUnderlying45 sizeOf22 zeroValue22 (by decide) rfl rfl rfl rfl rfl) ?_
    rintro _ _ ⟨b29, rfl, rfl⟩
    refine J.norm rfl ?_
    refine J.c rfl rfl (C.appI runUnderlying45 runUnderlying45 typeInfo22 sizeOf22 zeroValue22 rfl rfl (SlR.ptI rfl) (by simp [oneC]) (by simp [Tryz.t22] <;> omega) (by decide)) ?_
    rintro _ _ ⟨p30, c30, rfl, rfl⟩
    refine J.norm rfl <| J.p rfl (Q.asg rfl) <| J.nil <| J.blk_n <| J.then_n <| J.region <| J.m rfl <| J.p rfl (Q.add64 rfl rfl (by omega)) <| J.p rfl (Q.asg rfl) <| J.nil ?_
    obtain ⟨r, hr⟩ : ∃ r : RowH, r = ⟨rp, rc, bs⟩ := ⟨_, rfl⟩
    have hrv : r.val = .slice rp bs.length rc := by subst hr; rfl
    refine J.convI (own 5 1 (.slice rp bs.length rc) (bytesV bs)) r.asn (fun h s => by subst hr; exact s) ?_
    refine J.addoneI (f := RowH.asn) (l := hs) r ?_
    refine J.convI (DiskAt y.p y.d) (DP.asn y) (fun _ s => s) ?_
    refine J.unfocusI (f := DP.asn) (l := xs) i y (by omega) ?_
    rw [set_self hyj, ← hrv]
    have hn1 : i + 1 = (hs ++ [r]).length := by rw [List.length_append]; simp [hi]
    have hv1 : hs.map RowH.val ++ [r.val] = (hs ++ [r]).map RowH.val := by simp
    have hne : (hs ++ [r]).map RowH.bs = filesO has fl (hs ++ [r]).length := by rw [List.map_append, hz2, ← hn1, filesO_succ, ← hbb, hr]; rfl
    rw [hn1, hv1]
    exact J.againI (hs ++ [r], p30, c30) ⟨by show (hs ++ [r]).length ≤ n; omega, hne⟩ (by show n - (hs ++ [r]).length < n - hs.length; omega) ⟨rfl, rfl, rfl, (by show _ = some (Value.int .i64 ((hs ++ [r]).length : Nat)); rw [← hn1]; rfl), trivial⟩
  try (first | fail)
  all_goals
   refine J.cond_f rfl <| J.exit <| J.then_x <| J.lp_x <| J.blk_x <| J.then_n <| J.seq <| J.region <| J.m rfl <| J.p rfl (Q.asg rfl) <| J.nil <| J.then_n <| J.cret ?_
   have hkl : hs.length = n := by omega
   rw [hkl] at hz2 ⊢
   exact J.ret1I [own 22 1 (.slice p n c) (hs.map RowH.val), star (hs.map RowH.asn), star (xs.map DP.asn), GP, Gl] rfl rfl ⟨p, c, hs, rfl, hz2, rfl⟩

theorem lay_spec (G : Assn) (lp : Option Addr) (lc : Nat) (zs : List SHR) (hl : SlR [G] 4 (.slice lp zs.length lc) (zs.flatMap SHR.cells)) (hz : ∀ z, z ∈ zs → SlR [G] 1 (.slice z.p z.bs.length z.c) (bytesV z.bs)) (hzn : zs.length ≤ n) (hnd : (zs.map SHR.i).Nodup)
    (hzi : ∀ z, z ∈ zs → z.i < n ∧ has z.i = false ∧ fl z.i = z.bs) :
    FSpec Tryz.prog 8 [.slice qp n qc, .slice lp zs.length lc] [star (xs.map DP.asn), GP, G]
      (fun v D => ∃ ys : List DP, v = .bool true ∧ ys.map DP.val = xs.map DP.val ∧ St B (layH has zs zs.length) fl n ys ∧ D = [star (ys.map DP.asn), GP, G]) := by
  refine FSpec.of func8 rfl ntmps8 rfl fun W0 F => ?_
  refine J.seq <| J.region <| J.p rfl (Q.asg rfl) <| J.nil <| J.then_n <| J.seq <| J.seq <| J.region <| J.p rfl (Q.asg rfl) <| J.nil <| J.then_n <| J.block ?_
  have hxl := hx.len
  have hn15 := hx.n15
  have hB := hx.b
  refine J.loop2I (fun (j : Nat) (ys : List DP) => j ≤ zs.length ∧ ys.map DP.val = xs.map DP.val ∧ St B (layH has zs j) fl n ys) (fun j _ => zs.length - j) (fun j _ => [(0, .slice qp n qc), (1, .slice lp zs.length lc), (5, .int .i64 j)])
   (fun _ ys => [star (ys.map DP.asn), GP, G, F]) 0 xs ⟨Nat.zero_le _, rfl, by rw [layH_zero]; exact hx⟩ ⟨rfl, rfl, rfl, trivial⟩ fun j ys hw => ?_
  obtain ⟨hw1, hw2, hw3⟩ := hw
  refine J.seq <| J.seq <| J.region <| J.m rfl <| J.m rfl <| J.p rfl (Q.lenSl runUnderlying38 rfl) <| J.p rfl (Q.lss rfl rfl) <| J.nil <| J.then_n ?_
  refine J.kases 13 rfl (fun hc13 => ?_) (fun hc13 => ?_)
  ·
   try (first | (exfalso; omega))
   all_goals
    refine J.cond_t rfl <| J.cskip <| J.then_n <| J.seq <| J.block <| J.seq ?_
    obtain ⟨lb, lo, rfl, hld⟩ := hl.some_ (by omega)
    obtain ⟨qb, qo, rfl, hqd⟩ := hq.some_ (by omega)
    obtain ⟨z, hzj⟩ : ∃ z, zs[j]? = some z := ⟨_, List.getElem?_eq_getElem (by omega)⟩
    have hzm : z ∈ zs := List.mem_of_getElem? hzj
    obtain ⟨hzn1, hzn2, hzn3⟩ := hzi z hzm
    have hyl := hw3.len
    obtain ⟨y, hyj⟩ : ∃ y, ys[z.i]? = some y := ⟨_, List.getElem?_eq_getElem (by omega)⟩
    have hyv : (xs.map DP.val)[z.i]? = some (.pointer (some ⟨y.p, 0, none⟩)) := by rw [← hw2, List.getElem?_map, hyj]; rfl
    have hnone : layH has zs j z.i = false := by
     unfold layH
     rw [hzn2, Bool.false_or, List.any_eq_false]
     intro u hu he
     obtain ⟨k, hk⟩ := List.getElem?_of_mem hu
     rw [List.getElem?_take] at hk
     split at hk
     · have h1 : (zs.map SHR.i)[k]? = some z.i := by rw [List.getElem?_map, hk]; simpa using he
       have h2 : (zs.map SHR.i)[j]? = some z.i := by rw [List.getElem?_map, hzj]; rfl
       have h3 := (List.getElem?_inj (List.getElem?_eq_some_iff.1 h1).1 hnd).1 (h1.trans h2.symm)
       omega
     · cases hk
    have hstd := hw3.at_ z.i y hyj
    rw [hnone] at hstd
    have hbl : Blank B y.d := hstd
    obtain ⟨ho1, ho2, ho3⟩ := nameB_ok z.i (by omega)
    have hfew := hx.few z.i hzn1
    rw [hzn3] at hfew
    have ha1 := lay1 hbl ho1 hfew
    have ha2 := @lay2 (nameB z.i) z.bs y.d.size y.d.born
    have ha3 := lay3 (d := y.d) hbl.size ho2 hfew
    have hbo := hbl.born
    refine J.region <| J.m rfl <| J.m rfl <| J.m rfl <| J.p rfl (Q.ia runUnderlying38 sizeOf87 rfl rfl (by omega) (by omega)) <| J.p rfl (Q.fa (n := 0) runUnderlying87 rfl rfl sizeOf3 rfl) <| J.p rfl (Q.ld isAgg3 rfl (((hld (j * 4 + 0) _ (flat4_at hzj 0 _ rfl)).inI).cast (by simp <;> omega))) <| J.p rfl (Q.ia runUnderlying25 sizeOf26 rfl rfl (by omega) (by omega)) ?_
    refine J.p rfl (Q.ld isAgg26 rfl (((hqd z.i _ hyv).inI).cast (by simp))) <| J.p rfl (Q.asg rfl) <| J.nil <| J.then_n <| J.seq ?_
    refine J.focusI (f := DP.asn) (l := ys) z.i hyj ?_
    refine J.convI (DP.asn y) (DiskAt y.p y.d) (fun _ s => s) ?_
    refine J.pickI [G] ?_
    refine J.norm rfl ?_
    refine J.drawE [11, 12, 13] 1 Tryz.mixed (by kernel_rfl) rfl rfl fun hR => ?_
    refine RG.p 0 hR rfl (Q.mv rfl) <| RG.p 1 hR rfl (Q.mv rfl) <| RG.p 2 hR rfl (Q.mv rfl) <| RG.p 3 hR rfl (Q.ia runUnderlying38 sizeOf87 rfl rfl (by omega) (by omega)) <| RG.p 4 hR rfl (Q.fa (n := 2) runUnderlying87 rfl rfl sizeOf9 rfl) <| RG.p 5 hR rfl (Q.ld isAgg9 rfl (((hld (j * 4 + 2) _ (flat4_at hzj 2 _ rfl)).inI).cast (by simp <;> omega))) ?_
    refine RG.p 6 hR rfl (Q.mv rfl) <| RG.p 7 hR rfl (Q.mv rfl) <| RG.p 8 hR rfl (Q.ia runUnderlying38 sizeOf87 rfl rfl (by omega) (by omega)) <| RG.p 9 hR rfl (Q.fa (n := 3) runUnderlying87 rfl rfl sizeOf22 rfl) <| RG.p 10 hR rfl (Q.ld isAgg22 rfl (((hld (j * 4 + 3) _ (flat4_at hzj 3 _ rfl)).inI).cast (by simp <;> omega))) ?_
    refine RG.made 11 hR rfl rfl rfl rfl rfl (C.bslG (l := [_]) runUnderlying45 sizeOf22 zeroValue22 (by decide) rfl rfl rfl rfl rfl) ?_
    rintro b35
    refine RG.callI 12 hR rfl rfl rfl rfl rfl rfl call27 (append2_spec y.p y.d (hbl.wf (by omega)) (nameB z.i) (by omega) (pt b35 (.cells [.slice z.p z.bs.length z.c].toArray 22 (0, 0))) G _ 1 1 [⟨z.p, z.c, z.bs⟩] (SlR.ptI rfl) (by omega) (fun q hq' => by obtain rfl := List.mem_singleton.1 hq'; exact hz z hzm) (by simp [pcat]; omega)) rfl ?_
    rintro _ _ ⟨rfl, rfl⟩
    refine RG.norm rfl ?_
    refine RG.bar 13 hR rfl rfl rfl rfl rfl rfl (Q.asg rfl).toC ?_
    rintro _ _ ⟨rfl, rfl⟩
    refine RG.norm rfl ?_
    refine RG.fin hR rfl ?_
    refine J.norm rfl <| J.then_n <| J.seq ?_
    have hpc : pcat [(⟨z.p, z.c, z.bs⟩ : Part)] = z.bs := by simp [pcat]
    rw [hpc, ha1]
    dsimp only
    refine J.region <| J.m rfl <| J.m rfl <| J.m rfl <| J.p rfl (Q.ia runUnderlying38 sizeOf87 rfl rfl (by omega) (by omega)) <| J.p rfl (Q.fa (n := 2) runUnderlying87 rfl rfl sizeOf9 rfl) <| J.p rfl (Q.ld isAgg9 rfl (((hld (j * 4 + 2) _ (flat4_at hzj 2 _ rfl)).inI).cast (by simp <;> omega))) ?_
    refine J.c rfl rfl (C.bslG (l := [_]) runUnderlying116 sizeOf9 zeroValue9 (by decide) rfl rfl rfl rfl rfl) ?_
    rintro _ _ ⟨b43, rfl, rfl⟩
    refine J.norm rfl ?_
    refine J.callI call28 (sync_spec y.p ⟨y.d.size, y.d.born, [⟨nameB z.i, z.bs, 0⟩]⟩ (pt b43 (.cells [.string (nameB z.i)].toArray 9 (0, 0))) _ 1 1 [nameB z.i] (SlR.ptI rfl) (by omega)) rfl rfl rfl ?_
    rintro _ _ ⟨rfl, rfl⟩
    refine J.norm rfl <| J.p rfl (Q.asg rfl) <| J.nil <| J.then_n <| J.seq ?_
    rw [ha2]
    dsimp only
    refine J.region <| J.m rfl ?_
    refine J.c rfl rfl (C.bslG (l := [_, _, _, _, _, _, _, _, _, _]) runUnderlying22 sizeOf5 zeroValue5 (by decide) rfl rfl rfl rfl rfl) ?_
    rintro _ _ ⟨b46, rfl, rfl⟩
    refine J.norm rfl ?_
    refine J.c rfl rfl (C.stringish (i := 0) runUnderlying22 runUnderlying5 rfl rfl rfl) ?_
    rintro _ _ ⟨rfl, rfl⟩
    refine J.norm rfl ?_
    refine J.conv (Y := pt b46 (.cells (bytesV notS).toArray 5 (10, 11))) 0 rfl (fun _ s => s) ?_
    refine J.c rfl rfl (C.bslG (l := [_]) runUnderlying45 sizeOf22 zeroValue22 (by decide) rfl rfl rfl rfl rfl) ?_
    rintro _ _ ⟨b48, rfl, rfl⟩
    refine J.norm rfl ?_
    refine J.callI call27 (append2_spec y.p ⟨y.d.size, y.d.born, [⟨nameB z.i, z.bs, z.bs.length⟩]⟩ (one_wf (B := B) hbl.size hbl.born (by omega) (Nat.le_refl _) hfew) junkB (by decide) (pt b48 (.cells [.slice (some ⟨b46, 0, none⟩) 10 10].toArray 22 (0, 0))) (pt b46 (.cells (bytesV notS).toArray 5 (10, 11))) _ 1 1 [⟨some ⟨b46, 0, none⟩, 10, notS⟩] (SlR.ptI rfl) (by omega) (fun q hq' => by obtain rfl := List.mem_singleton.1 hq'; exact SlR.ptI rfl) (by rw [show pcat [(⟨some ⟨b46, 0, none⟩, 10, notS⟩ : Part)] = notS from by simp [pcat]]; decide)) rfl rfl rfl ?_
    rintro _ _ ⟨rfl, rfl⟩
    refine J.norm rfl <| J.p rfl (Q.asg rfl) <| J.nil <| J.then_n <| J.seq ?_
    have hpn : pcat [(⟨some ⟨b46, 0, none⟩, 10, notS⟩ : Part)] = notS := by simp [pcat]
    rw [hpn, ha3]
    dsimp only
    refine J.region <| J.m rfl <| J.m rfl <| J.p rfl (Q.add64 rfl rfl (by omega)) <| J.m rfl <| J.p rfl (Q.add64 rfl rfl (by omega)) <| J.p rfl (Q.neq rfl rfl) <| J.nil <| J.then_n ?_
    refine J.kases 55 rfl (fun hc55 => ?_) (fun hc55 => ?_)
    ·
     try (first | (exfalso; omega))
     all_goals
      refine J.cond_t rfl <| J.seq <| J.region <| J.p rfl (Q.asg rfl) <| J.nil <| J.then_n <| J.cret <| J.blk_r <| J.then_r <| J.lp_r <| J.blk_r <| J.then_r ?_
      obtain rfl : j = zs.length := by omega
      exact J.ret1I [star (ys.map DP.asn), GP, G] rfl rfl ⟨ys, rfl, hw2, hw3, rfl⟩
    try (first | (exfalso; omega))
    all_goals
     refine J.cond_f rfl <| J.cskip <| J.blk_n <| J.then_n <| J.region <| J.m rfl <| J.p rfl (Q.add64 rfl rfl (by omega)) <| J.p rfl (Q.asg rfl) <| J.nil ?_
     refine J.convI (DiskAt y.p (laid y.d (nameB z.i) z.bs)) (DP.asn ⟨y.p, laid y.d (nameB z.i) z.bs⟩) (fun _ s => s) ?_
     refine J.unfocusI (f := DP.asn) (l := ys) z.i ⟨y.p, laid y.d (nameB z.i) z.bs⟩ (by omega) ?_
     have hst : St B (layH has zs (j + 1)) fl n (ys.set z.i ⟨y.p, laid y.d (nameB z.i) z.bs⟩) := by
      have h1 := St.put B n (layH has zs j) fl hw3 hyj (d := laid y.d (nameB z.i) z.bs) (by rw [hzn3]; exact laid_stands hbl)
      have h2 : layH has zs (j + 1) = fun k => layH has zs j k || z.i == k := by funext k; exact layH_succ hzj k
      rw [h2]; exact h1
     have hvs : (ys.set z.i ⟨y.p, laid y.d (nameB z.i) z.bs⟩).map DP.val = xs.map DP.val := by
      rw [List.map_set, ← hw2]; exact set_self (by rw [List.getElem?_map, hyj]; rfl)
     exact J.againI (j + 1, ys.set z.i ⟨y.p, laid y.d (nameB z.i) z.bs⟩) ⟨by show j + 1 ≤ zs.length; omega, hvs, hst⟩ (by show zs.length - (j + 1) < zs.length - j; omega) ⟨rfl, rfl, rfl, trivial⟩
  try (first | (exfalso; omega))
  all_goals
   refine J.cond_f rfl <| J.exit <| J.then_x <| J.lp_x <| J.blk_x <| J.then_n <| J.seq <| J.region <| J.p rfl (Q.asg rfl) <| J.nil <| J.then_n <| J.cret ?_
   obtain rfl : j = zs.length := by omega
   exact J.ret1I [star (ys.map DP.asn), GP, G] rfl rfl ⟨ys, rfl, hw2, hw3, rfl⟩
theorem lay2_spec (G : Assn) (lp : Option Addr) (ln lc : Nat) (zs : List SHR) (hln : zs.length = ln) (hl : SlR [G] 4 (.slice lp ln lc) (zs.flatMap SHR.cells)) (hz : ∀ z, z ∈ zs → SlR [G] 1 (.slice z.p z.bs.length z.c) (bytesV z.bs)) (hzn : ln ≤ n) (hnd : (zs.map SHR.i).Nodup)
    (hzi : ∀ z, z ∈ zs → z.i < n ∧ has z.i = false ∧ fl z.i = z.bs) :
    FSpec Tryz.prog 8 [.slice qp n qc, .slice lp ln lc] [star (xs.map DP.asn), GP, G]
      (fun v D => ∃ ys : List DP, v = .bool true ∧ ys.map DP.val = xs.map DP.val ∧ St B (layH has zs zs.length) fl n ys ∧ D = [star (ys.map DP.asn), GP, G]) := by
  subst hln; exact lay_spec B n has fl xs hx hn GP qp qc hq G lp lc zs hl hz hzn hnd hzi
end
end Go.Proofs.YtblpcabdfbpcnaaGreatDoor
namespace Go.Proofs.YtblpcabdfbpcnaaGreatDoor
open Go.X Go.X.T Dk

abbrev shG (q : Option Addr) (n d : Nat) (zs' zs : List SHR) : Assn := star [own 87 4 (.slice q n d) (zs'.flatMap SHR.cells), star (zs.map SHR.asn)]
theorem shG_read {q : Option Addr} {n d : Nat} {zs' zs : List SHR} : ∀ h, shG q n d zs' zs h → SlR [shG q n d zs' zs] 4 (.slice q n d) (zs'.flatMap SHR.cells) ∧ ∀ z, z ∈ zs → SlR [shG q n d zs' zs] 1 (.slice z.p z.bs.length z.c) (bytesV z.bs) := by
  intro h s
  obtain ⟨h1, h2, a, ⟨h3, _, s3, _⟩, _, _, _⟩ := s
  have e1 : SlR [own 87 4 (.slice q n d) (zs'.flatMap SHR.cells)] 4 (.slice q n d) (zs'.flatMap SHR.cells) := own.slr (i := 0) rfl ⟨h1, h1, fun _ => none, a, trivial, fun _ => .inr rfl, Sub.refl _, fun _ _ e => nomatch e⟩
  refine ⟨e1.into 0 rfl, fun z hz => ?_⟩
  obtain ⟨k, hk⟩ := List.getElem?_of_mem hz
  have hm : (zs.map SHR.asn)[k]? = some z.asn := by rw [List.getElem?_map, hk]; rfl
  obtain ⟨q', hq', _⟩ := HSat.at_ s3 hm
  have e2 : SlR [z.asn] 1 (.slice z.p z.bs.length z.c) (bytesV z.bs) := own.slr (i := 0) rfl ⟨q', q', fun _ => none, hq', trivial, fun _ => .inr rfl, Sub.refl _, fun _ _ e => nomatch e⟩
  exact (e2.into (As := zs.map SHR.asn) k hm).into 1 rfl
theorem rowsG_caps {E : TypeId} {p : Option Addr} {n c : Nat} {hs : List RowH} : ∀ h, rowsG E p n c hs h → ∀ r, r ∈ hs → r.bs.length ≤ r.c := by
  intro h s r hr
  obtain ⟨h1, h2, a, ⟨h3, _, s3, _⟩, _, _, _⟩ := s
  obtain ⟨k, hk⟩ := List.getElem?_of_mem hr
  have hm : (hs.map RowH.asn)[k]? = some r.asn := by rw [List.getElem?_map, hk]; rfl
  obtain ⟨q', hq', _⟩ := HSat.at_ s3 hm
  exact (own.len q' hq').2

theorem filt_both {α : Type} (p : α → Bool) : ∀ l : List α, (l.filter p).length + (l.filter fun x => !p x).length = l.length
  | [] => rfl
  | x :: l => by
    have := filt_both p l
    cases h : p x <;> simp [h] <;> omega

def flF (x : PX) (data : List U) : Nat → List U := fun i => x.file i (atL (fullL x.k x.m (dataL x.k data)) i)
theorem filesO_len {has : Nat → Bool} {fl : Nat → List U} {n : Nat} : (filesO has fl n).length = n := by simp [filesO]
theorem St.congr {B : Nat} {has has' : Nat → Bool} {fl : Nat → List U} {n : Nat} {xs : List DP} (h : St B has fl n xs) (e : ∀ i, i < n → has i = has' i) : St B has' fl n xs :=
  ⟨h.len, fun i x hx => by have := (List.getElem?_eq_some_iff.1 hx).1; rw [h.len] at this; rw [← e i this]; exact h.at_ i x hx, h.few, h.n15, h.b⟩

section
variable {x : PX} {full : Ml} {n : Nat} {zs : List SHR} (hzs : zs.map SHR.ib = stripeL x full n)
include hzs
theorem zs_i : zs.map SHR.i = List.range n := by
  have := congrArg (List.map Prod.fst) hzs
  simpa [stripeL, List.map_map, Function.comp_def, SHR.ib] using this
theorem zs_at {z : SHR} (hz : z ∈ zs) : z.i < n ∧ z.bs = x.file z.i (atL full z.i) := by
  have h1 : z.ib ∈ stripeL x full n := hzs ▸ List.mem_map_of_mem hz
  simp only [stripeL, List.mem_map, List.mem_range, SHR.ib, Prod.mk.injEq] at h1
  obtain ⟨i, h2, h3, h4⟩ := h1
  subst h3
  exact ⟨h2, h4.symm⟩
theorem zs_miss (pres : Nat → Bool) : (zs.filter fun z => !pres z.i).length + (presL pres n).length = n := by
  have h1 : (zs.filter fun z => !pres z.i).length = ((zs.map SHR.i).filter fun i => !pres i).length := by
    rw [List.filter_map, List.length_map]; rfl
  rw [h1, zs_i hzs]
  have := filt_both pres (List.range n)
  rw [List.length_range] at this
  unfold presL; omega
theorem zs_lay (has : Nat → Bool) {i : Nat} (hi : i < n) : layH has (zs.filter fun z => !has z.i) (zs.filter fun z => !has z.i).length i = true := by
  unfold layH
  rw [List.take_length]
  cases h : has i with
  | true => rfl
  | false =>
    rw [Bool.false_or, List.any_eq_true]
    have h1 : i ∈ zs.map SHR.i := by rw [zs_i hzs]; exact List.mem_range.2 hi
    obtain ⟨z, h2, rfl⟩ := List.mem_map.1 h1
    exact ⟨z, List.mem_filter.2 ⟨h2, by rw [h]; rfl⟩, by simp⟩
theorem zs_nodup (p : SHR → Bool) : ((zs.filter p).map SHR.i).Nodup :=
  List.Nodup.sublist ((List.filter_sublist).map SHR.i) (by rw [zs_i hzs]; exact List.nodup_range)
end

theorem files2_spec (B n : Nat) (has : Nat → Bool) (fl : Nat → List U) (xs : List DP) (hx : St B has fl n xs) (hn : 0 < n) (GP : Assn) (qp : Option Addr) (qc : Nat) (hq : SlR [GP] 1 (.slice qp n qc) (xs.map DP.val)) (x : PX) (Gl : Assn) (hname : NameOK Gl) :
    FSpec Tryz.prog 11 [.slice qp n qc, .agg x.cells.toArray] [star (xs.map DP.asn), GP, Gl]
      (fun v D => ∃ (p : Option Addr) (c : Nat), v = .slice p n c ∧ D = [MatAt 22 p c (filesO has fl n), star (xs.map DP.asn), GP, Gl]) := by
  refine (files_spec B n has fl xs hx hn GP qp qc hq x Gl hname).conv (fun h s => s) ?_
  rintro v B' ⟨p, c, hs, rfl, h1, rfl⟩
  exact ⟨_, ⟨p, c, rfl, rfl⟩, fun h s => (HSat.pack (As := [own 22 1 (.slice p n c) (hs.map RowH.val), star (hs.map RowH.asn)]) (Bs := [star (xs.map DP.asn), GP, Gl]) s).imp fun k t => ⟨hs, h1, by rw [filesO_len]; exact t⟩⟩

section
variable (x : PX) (hx : x.ok) (n : Nat) (hn : n = x.k + x.m) (hn15 : n < 15) (data : List U) (hsz : data.length = x.sz) (hsum : crcL data = (x.sum : Int)) (pres : Nat → Bool) (fp : Option Addr) (fc : Nat)
include hx hn hsz hsum
theorem flF_len (hd : data.length ≤ 2000) {i : Nat} (hi : i < n) (hn15 : n < 15) : (flF x data i).length ≤ 1000000 := by
  have hfull := fullL_rect (m := x.m) (dataL_rect (k := x.k) (data := data) hx.k0) hx.k0
  rw [hsz, ← hn] at hfull
  have h1 := atL_len hfull hi
  have h2 := PX.hd_len hx (i := i) (by omega)
  have h3 := shLen_lt (k := x.k) (n := x.sz)
  have h4 : (numB (atL (fullL x.k x.m (dataL x.k data)) i).length).length ≤ 10 := numB_le10 (by omega)
  unfold flF PX.file
  rw [frameB_len]
  have h5 : (x.pay i (atL (fullL x.k x.m (dataL x.k data)) i)).length ≤ 60 + 10 + shLen x.k x.sz := by
    unfold PX.pay
    rw [List.length_append]
    unfold encB
    rw [List.length_append]
    omega
  have h6 := numB_le10 (v := (x.pay i (atL (fullL x.k x.m (dataL x.k data)) i)).length) (by omega)
  omega
theorem gatherM_spec : FSpec Tryz.prog 10 [.agg x.cells.toArray, .slice fp n fc] [MatAt 22 fp fc (filesO pres (flF x data) n)]
    (fun v B => ∃ (p : Option Addr) (c : Nat) (bs : List U) (e : Int) (X : Assn), v = .tuple #[.slice p bs.length c, .int .i64 e] ∧ (((presL pres n).length < x.k ∧ bs = [] ∧ e = 16) ∨ (x.k ≤ (presL pres n).length ∧ bs = data ∧ e = 0)) ∧ B = [own 5 1 (.slice p bs.length c) (bytesV bs), X]) := by
  refine FSpec.rows (As := []) filesO_len fun hs hh hr => ?_
  refine FSpec.knowHd rowsG_caps fun hcap => ?_
  have hfr : ∀ r, r ∈ hs → SlR [rowsG 22 fp n fc hs] 1 r.val (bytesV r.bs) ∧ r.bs.length ≤ r.c := fun r h => ⟨hr.rows r h, hcap r h⟩
  rcases Nat.lt_or_ge (presL pres n).length x.k with hc | hc
  · refine (gather_lost x hx n hn data hsz hsum pres (rowsG 22 fp n fc hs) fp fc hs hh hr.outer hfr hc).conv (fun h s => s) ?_
    rintro v B ⟨rfl, rfl⟩
    exact ⟨_, ⟨none, 0, [], 16, _, rfl, .inl ⟨hc, rfl, rfl⟩, rfl⟩, fun h s => ⟨fun _ => none, h, own.nil _ _ _, s, fun _ => .inl rfl, (fun _ _ e => nomatch e), Sub.refl _⟩⟩
  · refine (gather_ok x hx n hn data hsz hsum pres (rowsG 22 fp n fc hs) fp fc hs hh hr.outer hfr hc).conv (fun h s => s) ?_
    rintro v B ⟨p, c, rfl, rfl⟩
    exact ⟨_, ⟨p, c, data, 0, _, rfl, .inr ⟨hc, rfl, rfl⟩, rfl⟩, fun h s => s⟩
variable (np : Option Addr) (nc : Nat) (hnv : x.nv = .slice np n nc) (Gl GN : Assn) (hname : NameOK Gl) (hN : SlR [GN] 1 (.slice np n nc) (intsL n))
include hn15 hnv hname hN
theorem mendM_spec (hc : x.k ≤ (presL pres n).length) : FSpec Tryz.prog 12 [.agg x.cells.toArray, .slice fp n fc] [Gl, GN, MatAt 22 fp fc (filesO pres (flF x data) n)]
    (fun v B => ∃ (q : Option Addr) (d : Nat) (zs : List SHR) (X : Assn), v = .tuple #[.slice q (zs.filter fun z => !pres z.i).length d, .int .i64 0] ∧ zs.map SHR.ib = stripeL x (fullL x.k x.m (dataL x.k data)) n ∧
      B = [own 87 4 (.slice q (zs.filter fun z => !pres z.i).length d) ((zs.filter fun z => !pres z.i).flatMap SHR.cells), star (zs.map SHR.asn), Gl, GN, X]) := by
  refine FSpec.conv (A' := [MatAt 22 fp fc (filesO pres (flF x data) n), Gl, GN]) (FSpec.rows filesO_len fun hs hh hr => FSpec.knowHd rowsG_caps fun hcap => ?_) (fun h s => s.perm (X.pick_perm (is := [2, 0, 1]) rfl)) (fun v B h => ⟨B, h, fun _ s => s⟩)
  have hfr : ∀ r, r ∈ hs → SlR [rowsG 22 fp n fc hs] 1 r.val (bytesV r.bs) ∧ r.bs.length ≤ r.c := fun r h => ⟨hr.rows r h, hcap r h⟩
  refine (mend_spec x hx n hn hn15 np nc hnv Gl GN hname hN data hsz hsum pres (rowsG 22 fp n fc hs) fp fc hs hh hr.outer hfr hc).conv (fun h s => s.perm (X.pick_perm (is := [1, 2, 0]) rfl)) ?_
  rintro v B ⟨q, d, zs, rfl, h1, rfl⟩
  exact ⟨_, ⟨q, d, zs, _, rfl, h1, rfl⟩, fun h s => s⟩
end
end Go.Proofs.YtblpcabdfbpcnaaGreatDoor
namespace Go.Proofs.YtblpcabdfbpcnaaGreatDoor
open Go.Proofs.Tryz
open Go.X Go.X.T Dk

theorem stripes_spec (G : Assn) (hname : NameOK G) (hknown : FSpec Tryz.prog 4 [] [G] (fun v B => v = .bool true ∧ B = [G])) (dp : Option Addr) (dc : Nat) (data : List U) (hd : SlR [G] 1 (.slice dp data.length dc) (bytesV data))
    (k m : Int) (lp : Option Addr) (lc : Nat) (lost : List Int) (hl : SlR [G] 1 (.slice lp lost.length lc) (lost.map (Value.int .i64))) (ap : Option Addr) (ac : Nat) (again : List Int) (ha : SlR [G] 1 (.slice ap again.length ac) (again.map (Value.int .i64)))
    (pp : Option Addr) (pc : Nat) (picks : List Int) (hp : SlR [G] 1 (.slice pp picks.length pc) (picks.map (Value.int .i64))) (hpr : ∀ v, v ∈ picks → -9223372036854775808 ≤ v ∧ v ≤ 9223372036854775807) :
    FSpec Tryz.prog 3 [.slice dp data.length dc, .int .i64 k, .int .i64 m, .slice lp lost.length lc, .slice ap again.length ac, .slice pp picks.length pc] [G] (fun v B => v = .bool true ∧ B = [G]) := by
  refine FSpec.of func3 rfl ntmps3 rfl fun W0 F => ?_
  refine J.seq <| J.region <| J.p rfl (Q.asg rfl) <| J.nil <| J.then_n <| J.seq <| J.seq <| J.region ?_
  refine J.callI call4 (hknown) rfl rfl rfl ?_
  rintro _ _ ⟨rfl, rfl⟩
  refine J.norm rfl <| J.p rfl (Q.not rfl) <| J.nil <| J.then_n ?_
  refine J.kases 26 rfl (fun hc26 => ?_) (fun hc26 => ?_)
  ·
   try (first | (cases hc26; done) | (exfalso; simp at hc26; done) | (exfalso; omega))
   all_goals
    refine J.cond_t rfl <| J.seq <| J.region <| J.p rfl (Q.asg rfl) <| J.nil <| J.then_n <| J.cret <| J.then_r ?_
    exact J.ret1I [G] rfl rfl ⟨by first | rfl | (simp; done) | (congr 1; simp; done), rfl⟩
  try (first | (cases hc26; done) | (exfalso; simp at hc26; done) | (exfalso; omega))
  all_goals
   refine J.cond_f rfl <| J.cskip <| J.then_n <| J.seq <| J.seq <| J.region <| J.m rfl <| J.p rfl (Q.lss rfl rfl) <| J.m rfl ?_
   refine J.kases 29 rfl (fun hb29 => ?_) (fun hb29 => ?_)
   ·
    try (first | (cases hb29; done) | (exfalso; simp at hb29; done) | (exfalso; omega))
    all_goals
     refine J.k rfl <| J.k rfl <| J.p rfl (Q.pick_t rfl rfl) <| J.m rfl <| J.k rfl <| J.k rfl <| J.p rfl (Q.pick_t rfl rfl) <| J.m rfl <| J.k rfl <| J.k rfl <| J.p rfl (Q.pick_t rfl rfl) <| J.m rfl <| J.k rfl <| J.k rfl <| J.k rfl <| J.p rfl (Q.pick_t rfl rfl) <| J.m rfl <| J.k rfl ?_
     refine J.k rfl <| J.k rfl <| J.p rfl (Q.pick_t rfl rfl) <| J.m rfl <| J.k rfl <| J.k rfl <| J.k rfl <| J.p rfl (Q.pick_t rfl rfl) <| J.m rfl <| J.k rfl <| J.k rfl <| J.k rfl <| J.p rfl (Q.pick_t rfl rfl) <| J.nil <| J.then_n <| J.cond_t rfl <| J.seq <| J.region <| J.p rfl (Q.asg rfl) <| J.nil <| J.then_n ?_
     refine J.cret <| J.then_r ?_
     exact J.ret1I [G] rfl rfl ⟨by first | rfl | (simp; done) | (congr 1; simp; done), rfl⟩
   try (first | (cases hb29; done) | (exfalso; simp at hb29; done) | (exfalso; omega))
   all_goals
    refine J.m rfl <| J.p rfl (Q.lss rfl rfl) <| J.p rfl (Q.pick_f rfl rfl) <| J.m rfl ?_
    refine J.kases 33 rfl (fun hb33 => ?_) (fun hb33 => ?_)
    ·
     try (first | (cases hb33; done) | (exfalso; simp at hb33; done) | (exfalso; omega))
     all_goals
      refine J.k rfl <| J.k rfl <| J.p rfl (Q.pick_t rfl rfl) <| J.m rfl <| J.k rfl <| J.k rfl <| J.p rfl (Q.pick_t rfl rfl) <| J.m rfl <| J.k rfl <| J.k rfl <| J.k rfl <| J.p rfl (Q.pick_t rfl rfl) <| J.m rfl <| J.k rfl <| J.k rfl <| J.k rfl <| J.p rfl (Q.pick_t rfl rfl) <| J.m rfl ?_
      refine J.k rfl <| J.k rfl <| J.k rfl <| J.p rfl (Q.pick_t rfl rfl) <| J.m rfl <| J.k rfl <| J.k rfl <| J.k rfl <| J.p rfl (Q.pick_t rfl rfl) <| J.nil <| J.then_n <| J.cond_t rfl <| J.seq <| J.region <| J.p rfl (Q.asg rfl) <| J.nil <| J.then_n <| J.cret <| J.then_r ?_
      exact J.ret1I [G] rfl rfl ⟨by first | rfl | (simp; done) | (congr 1; simp; done), rfl⟩
    try (first | (cases hb33; done) | (exfalso; simp at hb33; done) | (exfalso; omega))
    all_goals
     refine J.m rfl <| J.p rfl (Q.gtr rfl rfl) <| J.p rfl (Q.pick_f rfl rfl) <| J.m rfl ?_
     refine J.kases 37 rfl (fun hb37 => ?_) (fun hb37 => ?_)
     ·
      try (first | (cases hb37; done) | (exfalso; simp at hb37; done) | (exfalso; omega))
      all_goals
       refine J.k rfl <| J.k rfl <| J.p rfl (Q.pick_t rfl rfl) <| J.m rfl <| J.k rfl <| J.k rfl <| J.k rfl <| J.p rfl (Q.pick_t rfl rfl) <| J.m rfl <| J.k rfl <| J.k rfl <| J.k rfl <| J.p rfl (Q.pick_t rfl rfl) <| J.m rfl <| J.k rfl <| J.k rfl <| J.k rfl <| J.p rfl (Q.pick_t rfl rfl) ?_
       refine J.m rfl <| J.k rfl <| J.k rfl <| J.k rfl <| J.p rfl (Q.pick_t rfl rfl) <| J.nil <| J.then_n <| J.cond_t rfl <| J.seq <| J.region <| J.p rfl (Q.asg rfl) <| J.nil <| J.then_n <| J.cret <| J.then_r ?_
       exact J.ret1I [G] rfl rfl ⟨by first | rfl | (simp; done) | (congr 1; simp; done), rfl⟩
     try (first | (cases hb37; done) | (exfalso; simp at hb37; done) | (exfalso; omega))
     all_goals
      refine J.m rfl <| J.p rfl (Q.gtr rfl rfl) <| J.p rfl (Q.pick_f rfl rfl) <| J.m rfl ?_
      refine J.kases 41 rfl (fun hb41 => ?_) (fun hb41 => ?_)
      ·
       try (first | (cases hb41; done) | (exfalso; simp at hb41; done) | (exfalso; omega))
       all_goals
        refine J.k rfl <| J.k rfl <| J.k rfl <| J.p rfl (Q.pick_t rfl rfl) <| J.m rfl <| J.k rfl <| J.k rfl <| J.k rfl <| J.p rfl (Q.pick_t rfl rfl) <| J.m rfl <| J.k rfl <| J.k rfl <| J.k rfl <| J.p rfl (Q.pick_t rfl rfl) <| J.m rfl <| J.k rfl <| J.k rfl <| J.k rfl <| J.p rfl (Q.pick_t rfl rfl) ?_
        refine J.nil <| J.then_n <| J.cond_t rfl <| J.seq <| J.region <| J.p rfl (Q.asg rfl) <| J.nil <| J.then_n <| J.cret <| J.then_r ?_
        exact J.ret1I [G] rfl rfl ⟨by first | rfl | (simp; done) | (congr 1; simp; done), rfl⟩
      try (first | (cases hb41; done) | (exfalso; simp at hb41; done) | (exfalso; omega))
      all_goals
       refine J.m rfl <| J.p rfl (Q.lenSl runUnderlying22 rfl) <| J.p rfl (Q.gtr rfl rfl) <| J.p rfl (Q.pick_f rfl rfl) <| J.m rfl ?_
       refine J.kases 46 rfl (fun hb46 => ?_) (fun hb46 => ?_)
       ·
        try (first | (cases hb46; done) | (exfalso; simp at hb46; done) | (exfalso; omega))
        all_goals
         refine J.k rfl <| J.k rfl <| J.k rfl <| J.p rfl (Q.pick_t rfl rfl) <| J.m rfl <| J.k rfl <| J.k rfl <| J.k rfl <| J.p rfl (Q.pick_t rfl rfl) <| J.m rfl <| J.k rfl <| J.k rfl <| J.k rfl <| J.p rfl (Q.pick_t rfl rfl) <| J.nil <| J.then_n <| J.cond_t rfl <| J.seq <| J.region <| J.p rfl (Q.asg rfl) <| J.nil ?_
         refine J.then_n <| J.cret <| J.then_r ?_
         exact J.ret1I [G] rfl rfl ⟨by first | rfl | (simp; done) | (congr 1; simp; done), rfl⟩
       try (first | (cases hb46; done) | (exfalso; simp at hb46; done) | (exfalso; omega))
       all_goals
        refine J.m rfl <| J.p rfl (Q.lenSl runUnderlying23 rfl) <| J.p rfl (Q.gtr rfl rfl) <| J.p rfl (Q.pick_f rfl rfl) <| J.m rfl ?_
        refine J.kases 51 rfl (fun hb51 => ?_) (fun hb51 => ?_)
        ·
         try (first | (cases hb51; done) | (exfalso; simp at hb51; done) | (exfalso; omega))
         all_goals
          refine J.k rfl <| J.k rfl <| J.k rfl <| J.p rfl (Q.pick_t rfl rfl) <| J.m rfl <| J.k rfl <| J.k rfl <| J.k rfl <| J.p rfl (Q.pick_t rfl rfl) <| J.nil <| J.then_n <| J.cond_t rfl <| J.seq <| J.region <| J.p rfl (Q.asg rfl) <| J.nil <| J.then_n <| J.cret <| J.then_r ?_
          exact J.ret1I [G] rfl rfl ⟨by first | rfl | (simp; done) | (congr 1; simp; done), rfl⟩
        try (first | (cases hb51; done) | (exfalso; simp at hb51; done) | (exfalso; omega))
        all_goals
         refine J.m rfl <| J.p rfl (Q.lenSl runUnderlying23 rfl) <| J.p rfl (Q.gtr rfl rfl) <| J.p rfl (Q.pick_f rfl rfl) <| J.m rfl ?_
         refine J.kases 56 rfl (fun hb56 => ?_) (fun hb56 => ?_)
         ·
          try (first | (cases hb56; done) | (exfalso; simp at hb56; done) | (exfalso; omega))
          all_goals
           refine J.k rfl <| J.k rfl <| J.k rfl <| J.p rfl (Q.pick_t rfl rfl) <| J.nil <| J.then_n <| J.cond_t rfl <| J.seq <| J.region <| J.p rfl (Q.asg rfl) <| J.nil <| J.then_n <| J.cret <| J.then_r ?_
           exact J.ret1I [G] rfl rfl ⟨by first | rfl | (simp; done) | (congr 1; simp; done), rfl⟩
         try (first | (cases hb56; done) | (exfalso; simp at hb56; done) | (exfalso; omega))
         all_goals
          refine J.m rfl <| J.p rfl (Q.lenSl runUnderlying23 rfl) <| J.p rfl (Q.gtr rfl rfl) <| J.p rfl (Q.pick_f rfl rfl) <| J.nil <| J.then_n ?_
          refine J.kases 60 rfl (fun hc60 => ?_) (fun hc60 => ?_)
          ·
           try (first | (cases hc60; done) | (exfalso; simp at hc60; done) | (exfalso; omega))
           all_goals
            refine J.cond_t rfl <| J.seq <| J.region <| J.p rfl (Q.asg rfl) <| J.nil <| J.then_n <| J.cret <| J.then_r ?_
            exact J.ret1I [G] rfl rfl ⟨by first | rfl | (simp; done) | (congr 1; simp; done), rfl⟩
          try (first | (cases hc60; done) | (exfalso; simp at hc60; done) | (exfalso; omega))
          all_goals
           refine J.cond_f rfl <| J.cskip <| J.then_n <| J.seq <| J.region <| J.p rfl (Q.asg rfl) <| J.nil <| J.then_n <| J.seq <| J.region <| J.p rfl (Q.asg rfl) <| J.nil <| J.then_n <| J.seq <| J.seq <| J.region <| J.p rfl (Q.asg rfl) <| J.nil <| J.then_n <| J.block ?_
           obtain ⟨K, rfl⟩ := Int.eq_ofNat_of_zero_le (show 0 ≤ k by omega)
           obtain ⟨M, rfl⟩ := Int.eq_ofNat_of_zero_le (show 0 ≤ m by omega)
           refine J.give (X := star (([] : List DP).map DP.asn)) trivial ?_
           refine J.give (X := own 26 1 (.slice none 0 0) (([] : List DP).map DP.val)) (own.nil _ _ _) ?_
           refine J.give (X := own 3 1 (.slice none 0 0) (intsL 0)) (own.nil _ _ _) ?_
           refine J.loop3I (fun (xs : List DP) (_ : Option Addr × Nat) (_ : Option Addr × Nat) => xs.length ≤ K + M ∧ ∀ y, y ∈ xs → Blank 0 y.d) (fun xs _ _ => K + M - xs.length) (fun xs a b => [(0, .slice dp data.length dc), (1, .int .i64 K), (2, .int .i64 M), (3, .slice lp lost.length lc), (4, .slice ap again.length ac), (5, .slice pp picks.length pc), (13, .slice a.1 xs.length a.2), (14, .slice b.1 xs.length b.2), (15, .int .i64 xs.length)])
            (fun xs a b => [own 26 1 (.slice a.1 xs.length a.2) (xs.map DP.val), own 3 1 (.slice b.1 xs.length b.2) (intsL xs.length), star (xs.map DP.asn), G, F]) [] (none, 0) (none, 0) ⟨Nat.zero_le _, fun y h => by cases h⟩ ⟨rfl, rfl, rfl, rfl, rfl, rfl, rfl, rfl, rfl, trivial⟩ fun xs a b hz => ?_
           obtain ⟨hz1, hz2⟩ := hz
           refine J.seq <| J.seq <| J.region <| J.m rfl <| J.m rfl <| J.m rfl <| J.p rfl (Q.add64 rfl rfl (by omega)) <| J.p rfl (Q.lss rfl rfl) <| J.nil <| J.then_n ?_
           refine J.kases 65 rfl (fun hc65 => ?_) (fun hc65 => ?_)
           ·
            try (first | (cases hc65; done) | (exfalso; simp at hc65; done) | (exfalso; omega))
            all_goals
             refine J.cond_t rfl <| J.cskip <| J.then_n <| J.seq <| J.block <| J.seq <| J.region ?_
             refine J.callI call5 (new_yes 1048576 (by omega) (by omega)) rfl rfl rfl ?_
             rintro _ _ ⟨np, rfl, rfl⟩
             refine J.norm rfl <| J.m rfl <| J.p rfl (Q.ext rfl rfl) <| J.p rfl (Q.ext rfl rfl) <| J.p rfl (Q.asg rfl) <| J.p rfl (Q.asg rfl) <| J.nil <| J.then_n <| J.seq <| J.seq <| J.region <| J.m rfl <| J.p rfl (Q.neq rfl rfl) <| J.m rfl ?_
             refine J.kases 74 rfl (fun hb74 => ?_) (fun hb74 => ?_)
             ·
              try (first | (cases hb74; done) | (exfalso; simp at hb74; done) | (exfalso; omega))
              all_goals
               refine J.k rfl <| J.k rfl <| J.p rfl (Q.pick_t rfl rfl) <| J.nil <| J.then_n <| J.cond_t rfl <| J.seq <| J.region <| J.p rfl (Q.asg rfl) <| J.nil <| J.then_n <| J.cret <| J.then_r <| J.blk_r <| J.then_r <| J.lp_r <| J.blk_r <| J.then_r ?_
               exact J.ret1I [G] rfl rfl ⟨by first | rfl | (simp; done) | (congr 1; simp; done), rfl⟩
             try (first | (cases hb74; done) | (exfalso; simp at hb74; done) | (exfalso; omega))
             all_goals
              refine J.m rfl <| J.p rfl (Q.eqlp runUnderlying26 rfl rfl) <| J.p rfl (Q.pick_f rfl rfl) <| J.nil <| J.then_n ?_
              refine J.kases 77 rfl (fun hc77 => ?_) (fun hc77 => ?_)
              ·
               try (first | (cases hc77; done) | (exfalso; simp at hc77; done) | (exfalso; omega))
               all_goals
                refine J.cond_t rfl <| J.seq <| J.region <| J.p rfl (Q.asg rfl) <| J.nil <| J.then_n <| J.cret <| J.then_r <| J.blk_r <| J.then_r <| J.lp_r <| J.blk_r <| J.then_r ?_
                exact J.ret1I [G] rfl rfl ⟨by first | rfl | (simp; done) | (congr 1; simp; done), rfl⟩
              try (first | (cases hc77; done) | (exfalso; simp at hc77; done) | (exfalso; omega))
              all_goals
               refine J.cond_f rfl <| J.cskip <| J.then_n <| J.seq <| J.region <| J.m rfl <| J.m rfl ?_
               refine J.c rfl rfl (C.bslG (l := [_]) runUnderlying25 sizeOf26 zeroValue26 (by decide) rfl rfl rfl rfl rfl) ?_
               rintro _ _ ⟨b80, rfl, rfl⟩
               refine J.norm rfl ?_
               refine J.c rfl rfl (C.appI runUnderlying25 runUnderlying25 typeInfo26 sizeOf26 zeroValue26 rfl rfl (SlR.ptI rfl) (by simp [oneC, DP.val]) (by simp [Tryz.t26] <;> omega) (by decide)) ?_
               rintro _ _ ⟨p81, c81, rfl, rfl⟩
               refine J.norm rfl <| J.p rfl (Q.asg rfl) <| J.nil <| J.then_n <| J.region <| J.m rfl <| J.m rfl ?_
               refine J.c rfl rfl (C.bslG (l := [_]) runUnderlying23 sizeOf3 zeroValue3 (by decide) rfl rfl rfl rfl rfl) ?_
               rintro _ _ ⟨b84, rfl, rfl⟩
               refine J.norm rfl ?_
               refine J.c rfl rfl (C.appI runUnderlying23 runUnderlying23 typeInfo3 sizeOf3 zeroValue3 rfl rfl (SlR.ptI rfl) (by simp [oneC]) (by simp [Tryz.t3] <;> omega) (by decide)) ?_
               rintro _ _ ⟨p85, c85, rfl, rfl⟩
               refine J.norm rfl <| J.p rfl (Q.asg rfl) <| J.nil <| J.blk_n <| J.then_n <| J.region <| J.m rfl <| J.p rfl (Q.add64 rfl rfl (by omega)) <| J.p rfl (Q.asg rfl) <| J.nil ?_
               obtain ⟨y, hy⟩ : ∃ y : DP, y = ⟨np, ⟨1048576, 0, []⟩⟩ := ⟨_, rfl⟩
               have hyv : y.val = .pointer (some ⟨np, 0, none⟩) := by subst hy; rfl
               refine J.convI (DiskAt np ⟨1048576, 0, []⟩) y.asn (fun h s => by subst hy; exact s) ?_
               refine J.addoneI (f := DP.asn) (l := xs) y ?_
               have hn1 : xs.length + 1 = (xs ++ [y]).length := by simp
               have hv1 : xs.map DP.val ++ [Value.pointer (some ⟨np, 0, none⟩)] = (xs ++ [y]).map DP.val := by simp [hyv]
               have hv2 : intsL xs.length ++ [Value.int .i64 xs.length] = intsL (xs ++ [y]).length := by rw [← hn1]; simp [intsL, List.range_succ]
               rw [hv1, hv2, hn1]
               exact J.againI (xs ++ [y], (p81, c81), (p85, c85)) ⟨by show (xs ++ [y]).length ≤ K + M; omega, fun w hw => (List.mem_append.1 hw).elim (hz2 w) fun h => by obtain rfl := List.mem_singleton.1 h; rw [hy]; exact ⟨rfl, Nat.le_refl _, rfl⟩⟩ (by show K + M - (xs ++ [y]).length < K + M - xs.length; omega) ⟨rfl, rfl, rfl, rfl, rfl, rfl, rfl, rfl, (by show _ = some (Value.int .i64 ((xs ++ [y]).length : Nat)); rw [← hn1]; rfl), trivial⟩
           try (first | (cases hc65; done) | (exfalso; simp at hc65; done) | (exfalso; omega))
           all_goals
            refine J.cond_f rfl <| J.exit <| J.then_x <| J.lp_x <| J.blk_x <| J.then_n <| J.seq ?_
            obtain ⟨n, hnn⟩ : ∃ n, n = K + M := ⟨_, rfl⟩
            have hxl : xs.length = n := by omega
            rw [hxl]
            obtain ⟨qp, qc⟩ := a
            obtain ⟨np0, nc0⟩ := b
            dsimp only
            refine J.slrI (E0 := 26) (sz := 1) (p := qp) (n := n) (c := qc) (xs := xs.map DP.val) fun hq => ?_
            obtain ⟨GP, hGP⟩ : ∃ GP, GP = own 26 1 (.slice qp n qc) (xs.map DP.val) := ⟨_, rfl⟩
            rw [← hGP] at hq ⊢
            refine J.slrI (E0 := 3) (sz := 1) (p := np0) (n := n) (c := nc0) (xs := intsL n) fun hN0 => ?_
            refine J.region <| J.m rfl <| J.p rfl (Q.lenSl runUnderlying22 rfl) <| J.p rfl (Q.bld (l := [_, _, _, _]) runUnderlying37 zeroValue37 places37 rfl rfl) <| J.m rfl <| J.m rfl <| J.m rfl <| J.m rfl ?_
            refine J.callI call6 (point_spec ⟨#[98]⟩ ⟨#[107]⟩ 3 K M n rfl (by omega) hnn (by omega) (own 3 1 (.slice np0 n nc0) (intsL n)) G np0 nc0 hN0 dp dc data hd (by omega)) rfl rfl rfl ?_
            rintro _ _ ⟨ip, ic, sum, hsum, hsl, rfl, rfl⟩
            refine J.norm rfl ?_
            obtain ⟨x, hxe⟩ : ∃ x : PX, x = ⟨⟨#[98]⟩, ⟨#[107]⟩, 3, K, M, data.length, sum, .slice ip n ic⟩ := ⟨_, rfl⟩
            rw [← hxe]
            have hxk : x.k = K := by rw [hxe]
            have hxm : x.m = M := by rw [hxe]
            have hxs : data.length = x.sz := by rw [hxe]
            have hxsum : crcL data = (x.sum : Int) := by rw [hxe]; exact hsum
            have hxn : x.nv = .slice ip n ic := by rw [hxe]
            have hxok : x.ok := ⟨by omega, by omega, by omega, by rw [hxe]; exact hsl⟩
            have hnx : n = x.k + x.m := by omega
            have hn15 : n < 15 := by omega
            have hn0 : 0 < n := by omega
            refine J.m rfl <| J.p rfl (Q.ext rfl rfl) <| J.p rfl (Q.ext rfl rfl) ?_
            refine J.c rfl rfl (C.alloc (l := [_, _, _, _, _, _, _, _, _]) zeroValue33 rfl) ?_
            rintro _ _ ⟨b18, rfl, rfl⟩
            refine J.norm rfl ?_
            refine J.stAI (vs := x.cells) rfl sizeOf33 rfl rfl (by first | exact rfl | simp [oneC, hxn]) (by first | exact rfl | simp [oneC, hxn]) (by first | exact rfl | simp [oneC, hxn]) ?_
            refine J.p rfl (Q.asg rfl) <| J.nil <| J.then_n <| J.seq ?_
            refine J.slrI (E0 := 3) (sz := 1) (p := ip) (n := n) (c := ic) (xs := intsL n) fun hN => ?_
            obtain ⟨GN, hGN⟩ : ∃ GN, GN = own 3 1 (.slice ip n ic) (intsL n) := ⟨_, rfl⟩
            rw [← hGN] at hN ⊢
            refine J.region ?_
            refine J.p rfl (Q.ldN (vs := x.cells) isAgg33 sizeOf33 rfl rnI) ?_
            refine J.m rfl ?_
            refine J.callI call7 (Shards_spec x hxok n hnx hn15 ip ic hxn G GN hname hN data hxs hxsum dp dc hd) rfl rfl rfl ?_
            rintro _ _ ⟨zq, zd, zs, rfl, hzs, rfl⟩
            refine J.norm rfl <| J.m rfl <| J.p rfl (Q.ext rfl rfl) <| J.p rfl (Q.ext rfl rfl) <| J.p rfl (Q.asg rfl) <| J.p rfl (Q.asg rfl) <| J.nil <| J.then_n <| J.seq <| J.seq ?_
            have hfl : ∀ i, i < n → (flF x data i).length ≤ 1000000 := fun i hi => flF_len x hxok n hnx data hxs hxsum (by omega) hi hn15
            have hst0 : St 0 (fun _ => false) (flF x data) n xs := ⟨hxl, fun i y hy => hz2 y (List.mem_of_getElem? hy), hfl, hn15, by omega⟩
            have hzl : zs.length = n := by have := congrArg List.length hzs; simpa [stripeL] using this
            refine J.shutI [own 87 4 (.slice zq n zd) (zs.flatMap SHR.cells), star (zs.map SHR.asn)] (shG zq n zd zs zs) (fun h s => s) ?_
            refine J.tellsI (shG zq n zd zs zs) shG_read fun hsh => ?_
            obtain ⟨hsh1, hsh2⟩ := hsh
            refine J.region <| J.m rfl <| J.p rfl (Q.neq rfl rfl) <| J.m rfl ?_
            refine J.kases 105 rfl (fun hb105 => ?_) (fun hb105 => ?_)
            ·
             try (first | (cases hb105; done) | (exfalso; simp at hb105; done) | (exfalso; omega))
             all_goals
              refine J.k rfl <| J.k rfl <| J.p rfl (Q.pick_t rfl rfl) <| J.m rfl <| J.k rfl <| J.k rfl <| J.k rfl <| J.k rfl <| J.p rfl (Q.pick_t rfl rfl) <| J.nil <| J.then_n <| J.cond_t rfl <| J.seq <| J.region <| J.p rfl (Q.asg rfl) <| J.nil <| J.then_n <| J.cret <| J.then_r ?_
              exact J.ret1I [G] rfl rfl ⟨by first | rfl | (simp; done) | (congr 1; simp; done), rfl⟩
            try (first | (cases hb105; done) | (exfalso; simp at hb105; done) | (exfalso; omega))
            all_goals
             refine J.m rfl <| J.p rfl (Q.neq rfl rfl) <| J.p rfl (Q.pick_f rfl rfl) <| J.m rfl ?_
             refine J.kases 109 rfl (fun hb109 => ?_) (fun hb109 => ?_)
             ·
              try (first | (cases hb109; done) | (exfalso; simp at hb109; done) | (exfalso; omega))
              all_goals
               refine J.k rfl <| J.k rfl <| J.k rfl <| J.k rfl <| J.p rfl (Q.pick_t rfl rfl) <| J.nil <| J.then_n <| J.cond_t rfl <| J.seq <| J.region <| J.p rfl (Q.asg rfl) <| J.nil <| J.then_n <| J.cret <| J.then_r ?_
               exact J.ret1I [G] rfl rfl ⟨by first | rfl | (simp; done) | (congr 1; simp; done), rfl⟩
             try (first | (cases hb109; done) | (exfalso; simp at hb109; done) | (exfalso; omega))
             all_goals
              refine J.m rfl <| J.m rfl ?_
              refine J.callI call8 (lay2_spec 0 n (fun _ => false) (flF x data) xs hst0 hn0 GP qp qc hq (shG zq n zd zs zs) zq n zd zs hzl hsh1 hsh2 (Nat.le_refl _) (by rw [zs_i hzs]; exact List.nodup_range) (fun z hz => ⟨(zs_at hzs hz).1, rfl, (zs_at hzs hz).2.symm⟩)) rfl rfl rfl ?_
              rintro _ _ ⟨ys, rfl, hyv, hst1', rfl⟩
              refine J.norm rfl <| J.p rfl (Q.not rfl) <| J.p rfl (Q.pick_f rfl rfl) <| J.nil <| J.then_n ?_
              refine J.kases 114 rfl (fun hc114 => ?_) (fun hc114 => ?_)
              ·
               try (first | (cases hc114; done) | (exfalso; simp at hc114; done) | (exfalso; omega))
               all_goals
                refine J.cond_t rfl <| J.seq <| J.region <| J.p rfl (Q.asg rfl) <| J.nil <| J.then_n <| J.cret <| J.then_r ?_
                exact J.ret1I [G] rfl rfl ⟨by first | rfl | (simp; done) | (congr 1; simp; done), rfl⟩
              try (first | (cases hc114; done) | (exfalso; simp at hc114; done) | (exfalso; omega))
              all_goals
               refine J.cond_f rfl <| J.cskip <| J.then_n <| J.seq ?_
               have hst1 : St 0 (fun _ => true) (flF x data) n ys := St.congr hst1' fun i hi => by
                have h := zs_lay hzs (fun _ => false) hi
                have e : (zs.filter fun z => !(fun _ : Nat => false) z.i) = zs := List.filter_eq_self.2 fun _ _ => rfl
                rw [e] at h; exact h
               rw [← hyv] at hq
               refine J.region <| J.m rfl <| J.m rfl <| J.m rfl ?_
               refine J.callI call9 (lose_spec 0 n (fun _ => true) (flF x data) ys hst1 (by omega) hn0 GP qp qc hq G lp pp lc pc lost picks hl (by omega) hp (by omega) hpr) rfl rfl rfl ?_
               rintro _ _ ⟨ws, rfl, hwv, hst2, rfl⟩
               refine J.norm rfl ?_
               obtain ⟨left, hleft⟩ : ∃ left, left = leftN lost n n := ⟨_, rfl⟩
               rw [← hleft]
               refine J.p rfl (Q.asg rfl) <| J.nil <| J.then_n <| J.seq ?_
               obtain ⟨has2, hhas2⟩ : ∃ has2 : Nat → Bool, has2 = fun i => true && !goneL lost n i := ⟨_, rfl⟩
               rw [← hhas2] at hst2
               have hpl : (presL has2 n).length = left := by rw [hhas2, hleft]; unfold presL leftN; simp
               rw [← hwv] at hq
               refine J.pickI [pt b18 (.cells x.cells.toArray 33 (0, 0))] ?_
               refine J.norm rfl ?_
               refine J.drawE [3, 4, 8, 9] 1 Tryz.mixed (by kernel_rfl) rfl rfl fun hR => ?_
               refine RG.p 0 hR rfl (Q.ldN (vs := x.cells) isAgg33 sizeOf33 rfl rnI) ?_
               refine RG.p 1 hR rfl (Q.mv rfl) ?_
               refine RG.p 2 hR rfl (Q.ldN (vs := x.cells) isAgg33 sizeOf33 rfl rnI) ?_
               refine RG.callkI 3 hR rfl rfl rfl rfl rfl call11 (files2_spec 1 n has2 (flF x data) ws hst2 hn0 GP qp qc hq x G hname) rfl ?_
               rintro _ _ ⟨fp, fc, rfl, rfl⟩
               refine RG.normE rfl ?_
               refine RG.callI 4 hR rfl rfl rfl rfl rfl rfl call10 (gatherM_spec x hxok n hnx data hxs hxsum has2 fp fc) rfl ?_
               rintro _ _ ⟨gp, gc, gbs, ge, X1, rfl, hg, rfl⟩
               refine RG.norm rfl <| RG.p 5 hR rfl (Q.mv rfl) <| RG.p 6 hR rfl (Q.ext rfl rfl) <| RG.p 7 hR rfl (Q.ext rfl rfl) ?_
               refine RG.keep 8 hR rfl rfl rfl rfl rfl (Q.asg rfl) ?_
               refine RG.bar 9 hR rfl rfl rfl rfl rfl rfl (Q.asg rfl).toC ?_
               rintro _ _ ⟨rfl, rfl⟩
               refine RG.norm rfl ?_
               refine RG.fin hR rfl ?_
               refine J.norm rfl <| J.then_n <| J.seq <| J.seq <| J.region <| J.m rfl <| J.m rfl <| J.p rfl (Q.lss rfl rfl) <| J.nil <| J.then_n ?_
               refine J.kases 129 rfl (fun hc129 => ?_) (fun hc129 => ?_)
               ·
                obtain ⟨rfl, rfl⟩ : gbs = [] ∧ ge = 16 := by rcases hg with ⟨_, h1, h2⟩ | ⟨h, _⟩; exact ⟨h1, h2⟩; exfalso; omega
                try (first | (cases hc129; done) | (exfalso; simp at hc129; done) | (exfalso; omega))
                all_goals
                 refine J.cond_t rfl <| J.seq <| J.region <| J.m rfl <| J.p rfl (Q.eql rfl rfl) <| J.m rfl ?_
                 refine J.kases 132 rfl (fun hb132 => ?_) (fun hb132 => ?_)
                 ·
                  try (first | (cases hb132; done) | (exfalso; simp at hb132; done) | (exfalso; omega))
                  all_goals
                   refine J.m rfl <| J.p rfl (Q.lenSl runUnderlying22 rfl) <| J.p rfl (Q.eql rfl rfl) <| J.p rfl (Q.pick_t rfl rfl) <| J.p rfl (Q.asg rfl) <| J.nil <| J.then_n <| J.cret <| J.then_r ?_
                   exact J.ret1I [G] rfl rfl ⟨by first | rfl | (simp; done) | (congr 1; simp; done), rfl⟩
                 try (first | (cases hb132; done) | (exfalso; simp at hb132; done) | (exfalso; omega))
                 all_goals
                  refine J.k rfl <| J.k rfl <| J.k rfl <| J.p rfl (Q.pick_f rfl rfl) <| J.p rfl (Q.asg rfl) <| J.nil <| J.then_n <| J.cret <| J.then_r ?_
                  exact J.ret1I [G] rfl rfl ⟨by first | rfl | (simp; done) | (congr 1; simp; done), rfl⟩
               obtain ⟨rfl, rfl⟩ : data = gbs ∧ ge = 0 := by rcases hg with ⟨h, _⟩ | ⟨_, h1, h2⟩; exfalso; omega; exact ⟨h1.symm, h2⟩
               try (first | (cases hc129; done) | (exfalso; simp at hc129; done) | (exfalso; omega))
               all_goals
                refine J.cond_f rfl <| J.cskip <| J.then_n <| J.seq <| J.seq ?_
                refine J.slrI (E0 := 5) (sz := 1) (p := gp) (n := data.length) (c := gc) (xs := bytesV data) fun hsD => ?_
                refine J.region <| J.m rfl <| J.p rfl (Q.neq rfl rfl) <| J.m rfl ?_
                refine J.kases 139 rfl (fun hb139 => ?_) (fun hb139 => ?_)
                ·
                 try (first | (cases hb139; done) | (exfalso; simp at hb139; done) | (exfalso; omega))
                 all_goals
                  refine J.k rfl <| J.k rfl <| J.k rfl <| J.k rfl <| J.k rfl <| J.p rfl (Q.pick_t rfl rfl) <| J.nil <| J.then_n <| J.cond_t rfl <| J.seq <| J.region <| J.p rfl (Q.asg rfl) <| J.nil <| J.then_n <| J.cret <| J.then_r ?_
                  exact J.ret1I [G] rfl rfl ⟨by first | rfl | (simp; done) | (congr 1; simp; done), rfl⟩
                try (first | (cases hb139; done) | (exfalso; simp at hb139; done) | (exfalso; omega))
                all_goals
                 refine J.m rfl <| J.p rfl (Q.b2s (bs := data) runUnderlying22 runUnderlying9 runUnderlying5 rfl hsD.inI) <| J.m rfl <| J.p rfl (Q.b2s (bs := data) runUnderlying22 runUnderlying9 runUnderlying5 rfl hd.inI) <| J.p rfl (Q.neqs rfl rfl) <| J.p rfl (Q.pick_f rfl rfl) <| J.nil <| J.then_n ?_
                 refine J.kases 145 rfl (fun hc145 => ?_) (fun hc145 => ?_)
                 ·
                  try (first | (cases hc145; done) | (exfalso; simp at hc145; done) | (exfalso; omega))
                  all_goals
                   refine J.cond_t rfl <| J.seq <| J.region <| J.p rfl (Q.asg rfl) <| J.nil <| J.then_n <| J.cret <| J.then_r ?_
                   exact J.ret1I [G] rfl rfl ⟨by first | rfl | (simp; done) | (congr 1; simp; done), rfl⟩
                 try (first | (cases hc145; done) | (exfalso; simp at hc145; done) | (exfalso; omega))
                 all_goals
                  refine J.cond_f rfl <| J.cskip <| J.then_n <| J.seq ?_
                  refine J.pickI [pt b18 (.cells x.cells.toArray 33 (0, 0))] ?_
                  refine J.norm rfl ?_
                  refine J.drawE [3, 4, 8, 9] 1 Tryz.mixed (by kernel_rfl) rfl rfl fun hR => ?_
                  refine RG.p 0 hR rfl (Q.ldN (vs := x.cells) isAgg33 sizeOf33 rfl rnI) ?_
                  refine RG.p 1 hR rfl (Q.mv rfl) ?_
                  refine RG.p 2 hR rfl (Q.ldN (vs := x.cells) isAgg33 sizeOf33 rfl rnI) ?_
                  refine RG.callkI 3 hR rfl rfl rfl rfl rfl call11 (files2_spec 1 n has2 (flF x data) ws hst2 hn0 GP qp qc hq x G hname) rfl ?_
                  rintro _ _ ⟨fp2, fc2, rfl, rfl⟩
                  refine RG.normE rfl ?_
                  refine RG.callI 4 hR rfl rfl rfl rfl rfl rfl call12 (mendM_spec x hxok n hnx hn15 data hxs hxsum has2 fp2 fc2 ip ic hxn G GN hname hN (by omega)) rfl ?_
                  rintro _ _ ⟨mq, md, zs2, X2, rfl, hzs2, rfl⟩
                  refine RG.norm rfl <| RG.p 5 hR rfl (Q.mv rfl) <| RG.p 6 hR rfl (Q.ext rfl rfl) <| RG.p 7 hR rfl (Q.ext rfl rfl) ?_
                  refine RG.keep 8 hR rfl rfl rfl rfl rfl (Q.asg rfl) ?_
                  refine RG.bar 9 hR rfl rfl rfl rfl rfl rfl (Q.asg rfl).toC ?_
                  rintro _ _ ⟨rfl, rfl⟩
                  refine RG.norm rfl ?_
                  refine RG.fin hR rfl ?_
                  refine J.norm rfl <| J.then_n <| J.seq <| J.seq ?_
                  obtain ⟨zs3, hzs3⟩ : ∃ zs3, zs3 = zs2.filter fun z => !has2 z.i := ⟨_, rfl⟩
                  rw [← hzs3]
                  have hz3 : zs3.length = n - left := by have := zs_miss hzs2 has2; rw [← hzs3] at this; omega
                  have hll : left ≤ n := by rw [hleft]; exact leftN_le
                  refine J.shutI [own 87 4 (.slice mq zs3.length md) (zs3.flatMap SHR.cells), star (zs2.map SHR.asn)] (shG mq zs3.length md zs3 zs2) (fun h s => s) ?_
                  refine J.tellsI (shG mq zs3.length md zs3 zs2) shG_read fun hsh3 => ?_
                  obtain ⟨hsh3, hsh4⟩ := hsh3
                  have hmem3 : ∀ z, z ∈ zs3 → z ∈ zs2 ∧ has2 z.i = false := fun z hz => by
                   rw [hzs3] at hz
                   obtain ⟨h1, h2⟩ := List.mem_filter.1 hz
                   exact ⟨h1, by simpa using h2⟩
                  refine J.region <| J.m rfl <| J.p rfl (Q.neq rfl rfl) <| J.m rfl ?_
                  refine J.kases 156 rfl (fun hb156 => ?_) (fun hb156 => ?_)
                  ·
                   try (first | (cases hb156; done) | (exfalso; simp at hb156; done) | (exfalso; omega))
                   all_goals
                    refine J.k rfl <| J.k rfl <| J.k rfl <| J.k rfl <| J.k rfl <| J.k rfl <| J.k rfl <| J.k rfl <| J.p rfl (Q.pick_t rfl rfl) <| J.m rfl <| J.k rfl <| J.k rfl <| J.k rfl <| J.k rfl <| J.p rfl (Q.pick_t rfl rfl) <| J.nil <| J.then_n <| J.cond_t rfl <| J.seq <| J.region <| J.p rfl (Q.asg rfl) <| J.nil ?_
                    refine J.then_n <| J.cret <| J.then_r ?_
                    exact J.ret1I [G] rfl rfl ⟨by first | rfl | (simp; done) | (congr 1; simp; done), rfl⟩
                  try (first | (cases hb156; done) | (exfalso; simp at hb156; done) | (exfalso; omega))
                  all_goals
                   refine J.m rfl <| J.p rfl (Q.lenSl runUnderlying38 rfl) <| J.m rfl <| J.m rfl <| J.p rfl (Q.add64 rfl rfl (by omega)) <| J.m rfl <| J.p rfl (Q.sub64 rfl rfl (by omega)) <| J.p rfl (Q.neq rfl rfl) <| J.p rfl (Q.pick_f rfl rfl) <| J.m rfl ?_
                   refine J.kases 166 rfl (fun hb166 => ?_) (fun hb166 => ?_)
                   ·
                    try (first | (cases hb166; done) | (exfalso; simp at hb166; done) | (exfalso; omega))
                    all_goals
                     refine J.k rfl <| J.k rfl <| J.k rfl <| J.k rfl <| J.p rfl (Q.pick_t rfl rfl) <| J.nil <| J.then_n <| J.cond_t rfl <| J.seq <| J.region <| J.p rfl (Q.asg rfl) <| J.nil <| J.then_n <| J.cret <| J.then_r ?_
                     exact J.ret1I [G] rfl rfl ⟨by first | rfl | (simp; done) | (congr 1; simp; done), rfl⟩
                   try (first | (cases hb166; done) | (exfalso; simp at hb166; done) | (exfalso; omega))
                   all_goals
                    refine J.m rfl <| J.m rfl ?_
                    refine J.callI call8 (lay2_spec 1 n has2 (flF x data) ws hst2 hn0 GP qp qc hq (shG mq zs3.length md zs3 zs2) mq zs3.length md zs3 rfl hsh3 (fun z hz => hsh4 z (hmem3 z hz).1) (by omega) (by rw [hzs3]; exact zs_nodup hzs2 _) (fun z hz => ⟨(zs_at hzs2 (hmem3 z hz).1).1, (hmem3 z hz).2, (zs_at hzs2 (hmem3 z hz).1).2.symm⟩)) rfl rfl rfl ?_
                    rintro _ _ ⟨us, rfl, huv, hst3', rfl⟩
                    refine J.norm rfl <| J.p rfl (Q.not rfl) <| J.p rfl (Q.pick_f rfl rfl) <| J.nil <| J.then_n ?_
                    refine J.kases 171 rfl (fun hc171 => ?_) (fun hc171 => ?_)
                    ·
                     try (first | (cases hc171; done) | (exfalso; simp at hc171; done) | (exfalso; omega))
                     all_goals
                      refine J.cond_t rfl <| J.seq <| J.region <| J.p rfl (Q.asg rfl) <| J.nil <| J.then_n <| J.cret <| J.then_r ?_
                      exact J.ret1I [G] rfl rfl ⟨by first | rfl | (simp; done) | (congr 1; simp; done), rfl⟩
                    try (first | (cases hc171; done) | (exfalso; simp at hc171; done) | (exfalso; omega))
                    all_goals
                     refine J.cond_f rfl <| J.cskip <| J.then_n <| J.seq ?_
                     have hst3 : St 1 (fun _ => true) (flF x data) n us := St.congr hst3' fun i hi => by
                      have h := zs_lay hzs2 has2 hi
                      rw [← hzs3] at h; exact h
                     rw [← huv] at hq
                     refine J.region <| J.m rfl <| J.m rfl <| J.m rfl ?_
                     refine J.callI call9 (lose_spec 1 n (fun _ => true) (flF x data) us hst3 (by omega) hn0 GP qp qc hq G ap pp ac pc again picks ha (by omega) hp (by omega) hpr) rfl rfl rfl ?_
                     rintro _ _ ⟨vs, rfl, hvv, hst4, rfl⟩
                     refine J.norm rfl ?_
                     obtain ⟨left2, hleft2⟩ : ∃ left2, left2 = leftN again n n := ⟨_, rfl⟩
                     rw [← hleft2]
                     refine J.p rfl (Q.asg rfl) <| J.nil <| J.then_n <| J.seq ?_
                     obtain ⟨has4, hhas4⟩ : ∃ has4 : Nat → Bool, has4 = fun i => true && !goneL again n i := ⟨_, rfl⟩
                     rw [← hhas4] at hst4
                     have hpl4 : (presL has4 n).length = left2 := by rw [hhas4, hleft2]; unfold presL leftN; simp
                     rw [← hvv] at hq
                     refine J.pickI [pt b18 (.cells x.cells.toArray 33 (0, 0))] ?_
                     refine J.norm rfl ?_
                     refine J.drawE [3, 4, 8, 9] 1 Tryz.mixed (by kernel_rfl) rfl rfl fun hR => ?_
                     refine RG.p 0 hR rfl (Q.ldN (vs := x.cells) isAgg33 sizeOf33 rfl rnI) ?_
                     refine RG.p 1 hR rfl (Q.mv rfl) ?_
                     refine RG.p 2 hR rfl (Q.ldN (vs := x.cells) isAgg33 sizeOf33 rfl rnI) ?_
                     refine RG.callkI 3 hR rfl rfl rfl rfl rfl call11 (files2_spec 2 n has4 (flF x data) vs hst4 hn0 GP qp qc hq x G hname) rfl ?_
                     rintro _ _ ⟨fp4, fc4, rfl, rfl⟩
                     refine RG.normE rfl ?_
                     refine RG.callI 4 hR rfl rfl rfl rfl rfl rfl call10 (gatherM_spec x hxok n hnx data hxs hxsum has4 fp4 fc4) rfl ?_
                     rintro _ _ ⟨hp4, hc4, hbs, he, X4, rfl, hg4, rfl⟩
                     refine RG.norm rfl <| RG.p 5 hR rfl (Q.mv rfl) <| RG.p 6 hR rfl (Q.ext rfl rfl) <| RG.p 7 hR rfl (Q.ext rfl rfl) ?_
                     refine RG.keep 8 hR rfl rfl rfl rfl rfl (Q.asg rfl) ?_
                     refine RG.bar 9 hR rfl rfl rfl rfl rfl rfl (Q.asg rfl).toC ?_
                     rintro _ _ ⟨rfl, rfl⟩
                     refine RG.norm rfl ?_
                     refine RG.fin hR rfl ?_
                     refine J.norm rfl <| J.then_n <| J.seq <| J.seq <| J.region <| J.m rfl <| J.m rfl <| J.p rfl (Q.lss rfl rfl) <| J.nil <| J.then_n ?_
                     refine J.kases 186 rfl (fun hc186 => ?_) (fun hc186 => ?_)
                     ·
                      obtain ⟨rfl, rfl⟩ : hbs = [] ∧ he = 16 := by rcases hg4 with ⟨_, h1, h2⟩ | ⟨h, _⟩; exact ⟨h1, h2⟩; exfalso; omega
                      try (first | (cases hc186; done) | (exfalso; simp at hc186; done) | (exfalso; omega))
                      all_goals
                       refine J.cond_t rfl <| J.seq <| J.region <| J.m rfl <| J.p rfl (Q.eql rfl rfl) <| J.m rfl ?_
                       refine J.kases 189 rfl (fun hb189 => ?_) (fun hb189 => ?_)
                       ·
                        try (first | (cases hb189; done) | (exfalso; simp at hb189; done) | (exfalso; omega))
                        all_goals
                         refine J.m rfl <| J.p rfl (Q.lenSl runUnderlying22 rfl) <| J.p rfl (Q.eql rfl rfl) <| J.p rfl (Q.pick_t rfl rfl) <| J.p rfl (Q.asg rfl) <| J.nil <| J.then_n <| J.cret <| J.then_r ?_
                         exact J.ret1I [G] rfl rfl ⟨by first | rfl | (simp; done) | (congr 1; simp; done), rfl⟩
                       try (first | (cases hb189; done) | (exfalso; simp at hb189; done) | (exfalso; omega))
                       all_goals
                        refine J.k rfl <| J.k rfl <| J.k rfl <| J.p rfl (Q.pick_f rfl rfl) <| J.p rfl (Q.asg rfl) <| J.nil <| J.then_n <| J.cret <| J.then_r ?_
                        exact J.ret1I [G] rfl rfl ⟨by first | rfl | (simp; done) | (congr 1; simp; done), rfl⟩
                     obtain ⟨rfl, rfl⟩ : data = hbs ∧ he = 0 := by rcases hg4 with ⟨h, _⟩ | ⟨_, h1, h2⟩; exfalso; omega; exact ⟨h1.symm, h2⟩
                     try (first | (cases hc186; done) | (exfalso; simp at hc186; done) | (exfalso; omega))
                     all_goals
                      refine J.cond_f rfl <| J.cskip <| J.then_n <| J.seq ?_
                      refine J.slrI (E0 := 5) (sz := 1) (p := hp4) (n := data.length) (c := hc4) (xs := bytesV data) fun hsD4 => ?_
                      refine J.region <| J.m rfl <| J.p rfl (Q.eql rfl rfl) <| J.m rfl ?_
                      refine J.kases 196 rfl (fun hb196 => ?_) (fun hb196 => ?_)
                      ·
                       try (first | (cases hb196; done) | (exfalso; simp at hb196; done) | (exfalso; omega))
                       all_goals
                        refine J.m rfl <| J.p rfl (Q.b2s (bs := data) runUnderlying22 runUnderlying9 runUnderlying5 rfl hsD4.inI) <| J.m rfl <| J.p rfl (Q.b2s (bs := data) runUnderlying22 runUnderlying9 runUnderlying5 rfl hd.inI) <| J.p rfl (Q.eqls rfl rfl) <| J.p rfl (Q.pick_t rfl rfl) <| J.p rfl (Q.asg rfl) <| J.nil <| J.then_n <| J.cret ?_
                        exact J.ret1I [G] rfl rfl ⟨by first | rfl | (simp; done) | (congr 1; simp; done), rfl⟩
                      try (first | (cases hb196; done) | (exfalso; simp at hb196; done) | (exfalso; omega))
                      all_goals
                       refine J.k rfl <| J.k rfl <| J.k rfl <| J.k rfl <| J.k rfl <| J.p rfl (Q.pick_f rfl rfl) <| J.p rfl (Q.asg rfl) <| J.nil <| J.then_n <| J.cret ?_
                       exact J.ret1I [G] rfl rfl ⟨by first | rfl | (simp; done) | (congr 1; simp; done), rfl⟩
end Go.Proofs.YtblpcabdfbpcnaaGreatDoor
namespace Go.X
set_option linter.unusedSectionVars false
set_option linter.unusedSimpArgs false
set_option linter.unusedVariables false
open Go.RowKit Go.WideShapes Go.ChangeShapes

def old (W : World) : Assn := fun h => ∀ b o, W.heap[b]? = some o → h b = some o

theorem old_start (W : World) : Sat W W ([old W] ++ [fact True]) := by
  refine ⟨rfl, rfl, rfl, ?_⟩
  refine ⟨hp W, fun _ => none, fun b o e => e, ⟨fun _ => none, fun _ => none, ?_, trivial, fun _ => .inl rfl, Sub.refl _, Sub.refl _⟩, fun _ => .inr rfl, Sub.refl _, fun _ _ e => nomatch e⟩
  exact trivial

theorem old_below {W w : World} {F : Assn} (s : Sat W w ([old W] ++ [F])) : Below W.heap.size W w := by
  have hg : ∀ (b : Nat) (o : Obj), W.heap[b]? = some o → w.heap[b]? = some o := by
    obtain ⟨h1, _, a, _, _, u, _⟩ := s.heap
    exact fun b o e => u b o (a b o e)
  have hs : W.heap.size ≤ w.heap.size := by
    rcases Nat.eq_zero_or_pos W.heap.size with h | h
    · omega
    · have h1 := hg (W.heap.size - 1) _ (Array.getElem?_eq_getElem (by omega))
      have := (Array.getElem?_eq_some_iff.1 h1).1
      omega
  refine ⟨s.os, s.tape, s.out, hs, fun k hk => ?_⟩
  rw [hg k _ (Array.getElem?_eq_getElem hk), Array.getElem?_eq_getElem hk]

theorem FSpec.lift {P : Program} {f : FuncId} {args : List Value} {u : Value} {W : World} (h : FSpec P f args [old W] (fun v B => v = u ∧ B = [old W])) :
    Calls P f args.toArray W fun e w' => e = .returned u ∧ Below W.heap.size W w' :=
  (h.call W W (fact True) (old_start W)).mono fun e w' ⟨v, A, he, ⟨hv, hA⟩, s⟩ => by
    subst hv hA; exact ⟨he, old_below s⟩

theorem old_reads {W : World} {b off : Nat} {v : Value} (h : W.cell? ⟨b, off, none⟩ = some v) : Reads [old W] b off v := by
  intro k s
  obtain ⟨h1, _, a, _, _, u, _⟩ := s
  simp only [World.cell?] at h
  split at h
  · rename_i c e z hb
    simp at h
    exact ⟨c, e, z, u _ _ (a _ _ hb), h⟩
  · cases h

theorem wf_has {k : IntKind} {n : Int} (h : (Lit.int k n).wf = true) : k.min ≤ n ∧ n ≤ k.max := by
  simpa [Lit.wf] using h

end Go.X
namespace Go.X
set_option linter.unusedSectionVars false
set_option linter.unusedSimpArgs false
set_option linter.unusedVariables false
open Go.RowKit Go.WideShapes Go.ChangeShapes

section
variable {P : Program} {H : Type} {enc : TypeId × Value → H} {W : World} {base : Nat} {spare : Nat → Bool} {held : Bool} {fuel : Nat} {t e : TypeId} {v : Value} {x : DataW H × List MemPlace}

theorem cell_plain {a : Addr} {u : Value} (h : W.cell? a = some u) : ∃ b off, a = ⟨b, off, none⟩ := by
  have := World.cell?_spot h
  obtain ⟨b, off, s⟩ := a
  simp only at this; subst this; exact ⟨b, off, rfl⟩

theorem slr_old {a : Addr} {len cap sz : Nat} {xs : List Value} (hl : xs.length = len * sz) (h : ∀ (i : Nat) u, xs[i]? = some u → W.cell? (a.add i) = some u) (hsz : 0 < sz) : SlR [old W] sz (.slice (some a) len cap) xs := by
  rcases Nat.eq_zero_or_pos len with h0 | h0
  · subst h0
    exact .inl ⟨some a, cap, rfl, by simpa using hl⟩
  · have hpos : 0 < xs.length := by rw [hl]; exact Nat.mul_pos h0 hsz
    obtain ⟨u, hu⟩ : ∃ u, xs[0]? = some u := ⟨_, List.getElem?_eq_getElem hpos⟩
    have h1 := h 0 u hu
    rw [show a.add 0 = a from rfl] at h1
    obtain ⟨b, off, rfl⟩ := cell_plain h1
    refine .inr ⟨b, off, len, cap, rfl, hl, fun i w hw => old_reads ?_⟩
    have := h i w hw
    rwa [addr_add] at this

theorem ints_in {k : IntKind} (ht : P.underlying t = some (.slice e)) (he : P.underlying e = some (.int k)) (hc : P.cellsOf e = 1) (h : DataW.trod enc P W base spare held fuel t [v] = some x) :
    ∃ p len cap, ∃ zs : List Int, v = .slice p len cap ∧ len ≤ cap ∧ zs.length = len ∧ SlR [old W] 1 v (zs.map (Value.int k)) ∧ (∀ n ∈ zs, k.min ≤ n ∧ n ≤ k.max) ∧ (x.1 = .nil ∧ len = 0 ∨ ∃ es rs, x.1 = .slice es rs ∧ es.length = len) := by
  rcases open_ints ht he hc h with ⟨hcs, rfl⟩ | ⟨a, len, cap, zs, hcs, _, hl, hm, hz, rfl, hcell, hwz⟩
  · simp at hcs
    subst hcs
    exact ⟨none, 0, 0, [], rfl, Nat.le_refl _, rfl, .inl ⟨none, 0, rfl, rfl⟩, by simp, .inl ⟨rfl, rfl⟩⟩
  · simp at hcs
    subst hcs
    have hlz : len ≤ zs.length := by rw [hz]; split <;> omega
    refine ⟨some a, len, cap, zs.take len, rfl, hl, by simp; omega, slr_old (by simp; omega) ?_ (by omega), fun n hn => wf_has (hwz n (List.mem_of_mem_take hn)), .inr ⟨_, _, rfl, by simp [lits]; omega⟩⟩
    intro i u hu
    have hi : i < len := by
      have := (List.getElem?_eq_some_iff.1 hu).1
      simp at this; omega
    rw [hcell i (by omega)]
    simp [hi] at hu
    obtain ⟨n, hn, rfl⟩ := hu
    simp [List.getD, hn]

end
end Go.X
namespace Go.Proofs.YtblpcabdfbpcnaaGreatDoor
open Go.Proofs.Tryz
open Go.X Go.X.E

theorem glob5 : Tryz.prog.globalNamed "math/bits.deBruijn64tab" = some 5 := by kernel_rfl
theorem glob2 : Tryz.prog.globalNamed "strconv.ErrSyntax" = some 2 := by kernel_rfl
theorem type5 : (Tryz.prog.globals[5]?).map (·.type) = some 741 := by kernel_rfl
theorem type2 : (Tryz.prog.globals[2]?).map (·.type) = some 68 := by kernel_rfl
theorem cellsErr : Tryz.prog.cellsOf 833 = 1 := by kernel_rfl
theorem cellsStr : Tryz.prog.cellsOf 9 = 1 := by kernel_rfl
theorem cellsByte : Tryz.prog.cellsOf 5 = 1 := by kernel_rfl
theorem cellsTab : Tryz.prog.cellsOf 741 = 64 := by kernel_rfl

theorem var_heap {P : Program} {W : World} {n : String} {g : Nat} {cs : Array Value} (hg : P.globalNamed n = some g) (hv : W.var? P n = some cs) : ∃ e z, W.heap[g]? = some (.cells cs e z) := by
  unfold World.var? at hv
  rw [hg] at hv
  simp only [Option.bind_some] at hv
  split at hv
  · rename_i c e z hw
    cases hv; exact ⟨_, _, hw⟩
  · cases hv
theorem arr_in {P : Program} {H : Type} {enc : TypeId × Value → H} {W : World} {base : Nat} {spare : Nat → Bool} {held : Bool} {fuel n : Nat} {t e : TypeId} {cs : List Value} {l : List Int} {p : List MemPlace}
    (ht : P.underlying t = some (.array n e)) (he : P.underlying e = some (.int .u8)) (hc : P.cellsOf e = 1) (hct : P.cellsOf t = n) (h : DataW.trod enc P W base spare held fuel t cs = some (.agg (l.map fun k => .lit (.int .u8 k)), p)) :
    cs = l.map (Value.int .u8) := by
  obtain ⟨xs, m, rfl, hx, hlen, hn, hel⟩ := DataW.trod_array ht h
  simp only [Prod.mk.injEq, DataW.agg.injEq] at hx
  have hl : l.length = n := by have := congrArg List.length hx.1; simp at this; omega
  rw [hct] at hlen
  refine List.ext_getElem? fun i => ?_
  rcases Nat.lt_or_ge i n with hi | hi
  · have h1 := hel i hi
    rw [hc, Nat.mul_one] at h1
    obtain ⟨x, hxi⟩ : ∃ x, xs[i]? = some x := ⟨_, List.getElem?_eq_getElem (by omega)⟩
    rw [hxi] at h1
    obtain ⟨k, e1, e2, _⟩ := DataW.trod_int he h1
    have h2 : (l.map fun k => (DataW.lit (.int .u8 k) : DataW H))[i]? = some (.lit (.int .u8 k)) := by rw [hx.1, List.getElem?_map, hxi, e2]; rfl
    rw [List.getElem?_map] at h2
    obtain ⟨k', hk', he'⟩ := Option.map_eq_some_iff.1 h2
    simp only [DataW.lit.injEq, Lit.int.injEq, true_and] at he'
    subst he'
    have h3 : (cs.drop i)[0]? = some (.int .u8 k') := by
      have := congrArg (fun q : List Value => q[0]?) e1
      simpa [List.getElem?_take] using this
    rw [List.getElem?_drop, Nat.add_zero] at h3
    rw [h3, List.getElem?_map, hk']; rfl
  · rw [List.getElem?_eq_none (by omega), List.getElem?_eq_none (by simp; omega)]

set_option maxRecDepth 100000 in
theorem of_laid {W : World} (h : laidMetH Tryz.prog Rows.topStripesRow.laid W) : ∃ q o, GlobK q o (old W) ∧ Glob glT (old W) := by
  rw [MakeChecks.laidMetH_plain _ _ _ (by kernel_rfl)] at h
  obtain ⟨ps, ⟨_, _, _, _, _, _, _, _, _, _, ⟨_, _, _, _, _, _, _, _, _, _, ⟨g2, t2, cs2, f2, p2, q2, hg2, ht2, hv2, hd2, ⟨g3, t3, cs3, f3, p3, q3, hg3, ht3, hv3, hd3, _, e3⟩, e2⟩, e1⟩, e0⟩, hnd, hrows⟩ := h
  obtain rfl := Option.some.inj (glob5.symm.trans hg2)
  obtain rfl := Option.some.inj (glob2.symm.trans hg3)
  obtain rfl := Option.some.inj (type5.symm.trans ht2)
  obtain rfl := Option.some.inj (type2.symm.trans ht3)
  obtain ⟨E2, z2, hw2⟩ := var_heap glob5 hv2
  obtain ⟨E3, z3, hw3⟩ := var_heap glob2 hv3
  have hd2' : DataW.trod (fun _ => ()) Tryz.prog W 0 (fun _ => true) false f2 741 cs2.toList = some (.agg (tab64.map fun k => .lit (.int .u8 k)), p2) := hd2
  have hc2 := arr_in underlying741 underlying5 cellsByte cellsTab hd2'
  have hcs2 : cs2 = (tab64.map (Value.int .u8)).toArray := by rw [← hc2]
  have hok : ∀ u v, cs3.toList = [.iface u v] → Value.okWide Tryz.prog W .any 0 u v := fun u v e => by
    have hc3 : cs3 = #[.iface u v] := by rw [← Array.toArray_toList (xs := cs3), e]
    have hm : MemPlace.cell 2 0 ∈ ps := by
      rw [e0]; refine List.mem_append_right _ ?_
      rw [e1]; refine List.mem_append_right _ ?_
      rw [e2]; refine List.mem_append_right _ ?_
      rw [e3, hc3]; refine List.mem_append_left _ (List.mem_append_left _ ?_)
      simp [MemPlace.row]
    exact (hrows 2 0 hm).2 u v (by simp [World.cell?, hw3, hc3])
  obtain ⟨a, s, hcs3, hca, _, _, _⟩ := errorString_of_trod underlying68 errRow underlying831 underlying833 rfl rfl underlying9 cellsErr cellsStr hd3 hok
  have hsp : a.spot = none := by
    unfold World.cell? at hca
    split at hca
    · cases hs : a.spot with
      | none => rfl
      | some k => rw [hs] at hca; cases hca
    · cases hca
  have hc3 : cs3 = #[.iface 831 (.pointer (some ⟨a.block, a.off, none⟩))] := by
    rw [← Array.toArray_toList (xs := cs3), hcs3]
    cases a; simp only at hsp; subst hsp; rfl
  have m5 : ∀ k, old W k → ∃ e z, k 5 = some (.cells (tab64.map fun n => Value.int .u8 n).toArray e z) := fun k hk => ⟨E2, z2, by rw [hk 5 _ hw2, hcs2]⟩
  exact ⟨a.block, a.off, ⟨m5, fun k hk => ⟨E3, z3, by rw [hk 2 _ hw3, hc3]⟩⟩, globT m5⟩

def firstV : List Value := match (Go.Pinned.utf8First : DataW Unit) with
  | .agg l => l.map fun x => match x with
    | .lit (.int k n) => .int k n
    | _ => .int .u8 0
  | _ => []
theorem bytes_of {zs : List Int} (h : ∀ n ∈ zs, IntKind.min .u8 ≤ n ∧ n ≤ IntKind.max .u8) : ∃ bs : List UInt8, bytesV bs = zs.map (Value.int .u8) ∧ bs.length = zs.length := by
  refine ⟨zs.map fun n => UInt8.ofNat n.toNat, ?_, by simp⟩
  simp only [bytesV, List.map_map]
  refine List.map_congr_left fun n hn => ?_
  obtain ⟨h1, h2⟩ := h n hn
  have h1' : (0 : Int) ≤ n := h1
  have h2' : n ≤ 255 := h2
  simp only [Function.comp, byteV, Value.int.injEq, true_and]
  rw [UInt8.toNat_ofNat']
  omega
end Go.Proofs.YtblpcabdfbpcnaaGreatDoor
namespace Go.Proofs.YtblpcabdfbpcnaaGreatDoor
open Go.Proofs.Tryz
open Go.ChangeShapes Go.WideShapes Go.ChangeAt Go.RowKit
open Go.X Go.X.E

namespace topStripes
theorem own : ownKnob Tryz.prog.godebug = none := by kernel_rfl
theorem laidOut : laidOutB Tryz.prog = true := fact2

theorem cellsInt : Tryz.prog.cellsOf 3 = 1 := by kernel_rfl

theorem walk (data : List UInt8) (dp : Option Addr) (dc : Nat) (k m : Int) (lost again picks : List Int) (lp ap pp : Option Addr) (lc ac pc : Nat) (W : World) (hL : laidMetH Tryz.prog Rows.topStripesRow.laid W)
    (hd : SlR [old W] 1 (.slice dp data.length dc) (bytesV data)) (hl : SlR [old W] 1 (.slice lp lost.length lc) (lost.map (Value.int .i64))) (ha : SlR [old W] 1 (.slice ap again.length ac) (again.map (Value.int .i64))) (hp : SlR [old W] 1 (.slice pp picks.length pc) (picks.map (Value.int .i64)))
    (hpr : ∀ v, v ∈ picks → -9223372036854775808 ≤ v ∧ v ≤ 9223372036854775807) :
    Calls Tryz.prog 3 #[.slice dp data.length dc, .int .i64 k, .int .i64 m, .slice lp lost.length lc, .slice ap again.length ac, .slice pp picks.length pc] W fun e w' => e = .returned (.bool true) ∧ Below W.heap.size W w' := by
  obtain ⟨q, o, h1, h2⟩ := of_laid hL
  exact (stripes_spec (old W) (nameOK_of h2) (known_of h1) dp dc data hd k m lp lc lost hl ap ac again ha pp pc picks hp hpr).lift

theorem door_met (os : Os) (args : Array Value) : laidMetH Tryz.prog Rows.topStripesRow.laid ((({ World.holding Tryz.prog os ⟨#[], #[], []⟩ with heap := (varsWorld Tryz.prog 400 803 os (fun _ _ => 0)).heap.modify 6 fun o => match o with | .cells _ t z => .cells firstV.toArray t z | o => o } : World)).forCall (fun _ _ => 0) ⟨#[], args, []⟩).memory :=
  laidMetH_of_parts3 (fuel := 8) (laidMet_of_run' 8 (by kernel_rfl) (by kernel_rfl)) (by kernel_rfl) (by kernel_rfl)

set_option maxRecDepth 100000 in
theorem lifted (os : Os) (started : os.Started) (H : Type) (enc : TypeId × Value → H) :
    ReturnsInHanded {} Tryz.checked os 3 .any (fun w args => (Rows.topStripesSpec.pre enc Tryz.prog Tryz.f3 [] false w args ∧ laidMetH Tryz.prog Rows.topStripesRow.laid w) ∧ sizedMet enc Tryz.prog Tryz.f3 (OpenSpec.ofChange Rows.topStripesSpec) false w args)
      (Rows.topStripesSpec.post enc Tryz.prog Tryz.f3 false true false false) := by
  refine returnsInHanded_of_change_and (C := Tryz.checked) (X := fun w _ => laidMetH Tryz.prog Rows.topStripesRow.laid w) (fun _ _ _ hh h => h.of_heap hh) own started (by kernel_rfl) func3
    (ChangeSpec.witness_shaped (enc := enc) (C := Tryz.checked) (os := os) (X := fun w _ => laidMetH Tryz.prog Rows.topStripesRow.laid w) false ({ World.holding Tryz.prog os ⟨#[], #[], []⟩ with heap := (varsWorld Tryz.prog 400 803 os (fun _ _ => 0)).heap.modify 6 fun o => match o with | .cells _ t z => .cells firstV.toArray t z | o => o } : World)
      #[.slice none 0 0, .int .i64 0, .int .i64 0, .slice none 0 0, .slice none 0 0, .slice none 0 0] 8 rfl (World.shaped_of_RefB (by kernel_rfl) (by kernel_rfl)) (by kernel_rfl) (by kernel_rfl) (by kernel_rfl) (door_met os _)) ?_
  intro W base args ds gs before hval0 hW _ _ hL _
  have hval : ∀ (j : Nat) t v, Tryz.f3.params[j]? = some t → args[j]? = some v → Value.okWide Tryz.prog W .any base t v := hval0
  have hW' := hW
  obtain ⟨p, q, hA0, hV, rfl, hfz, hnd⟩ := hW
  have hA : DataW.TrodAll enc Tryz.prog W 0 (fun _ => true) true Tryz.f3.params.toList args.toList ds p := hA0
  rw [Tryz.params3] at hA hval
  obtain ⟨v0, vs0, d0, ds0, p0, q0, hargs, rfl, rfl, h0, r0⟩ := trodAll_cons hA
  obtain ⟨v1, vs1, d1, ds1, p1, q1, rfl, rfl, rfl, h1, r1⟩ := trodAll_cons r0
  obtain ⟨v2, vs2, d2, ds2, p2, q2, rfl, rfl, rfl, h2, r2⟩ := trodAll_cons r1
  obtain ⟨v3, vs3, d3, ds3, p3, q3, rfl, rfl, rfl, h3, r3⟩ := trodAll_cons r2
  obtain ⟨v4, vs4, d4, ds4, p4, q4, rfl, rfl, rfl, h4, r4⟩ := trodAll_cons r3
  obtain ⟨v5, vs5, d5, ds5, p5, q5, rfl, rfl, rfl, h5, r5⟩ := trodAll_cons r4
  obtain ⟨rfl, rfl, rfl⟩ := trodAll_nil r5
  obtain rfl : args = #[v0, v1, v2, v3, v4, v5] := by cases args; simp_all
  obtain ⟨rfl, rfl⟩ := trodVars_none hV
  have lt0 : ∀ x ∈ p0, x.block < W.heap.size := by obtain ⟨m, hm⟩ := h0; exact DataW.trod_lt m _ _ _ hm
  have lt1 : ∀ x ∈ p1, x.block < W.heap.size := by obtain ⟨m, hm⟩ := h1; exact DataW.trod_lt m _ _ _ hm
  have lt2 : ∀ x ∈ p2, x.block < W.heap.size := by obtain ⟨m, hm⟩ := h2; exact DataW.trod_lt m _ _ _ hm
  have lt3 : ∀ x ∈ p3, x.block < W.heap.size := by obtain ⟨m, hm⟩ := h3; exact DataW.trod_lt m _ _ _ hm
  have lt4 : ∀ x ∈ p4, x.block < W.heap.size := by obtain ⟨m, hm⟩ := h4; exact DataW.trod_lt m _ _ _ hm
  have lt5 : ∀ x ∈ p5, x.block < W.heap.size := by obtain ⟨m, hm⟩ := h5; exact DataW.trod_lt m _ _ _ hm
  obtain ⟨k, rfl⟩ := okWide_int underlying3 (hval 1 3 v1 rfl rfl)
  obtain ⟨m, rfl⟩ := okWide_int underlying3 (hval 2 3 v2 rfl rfl)
  have ints : ∀ {v : Value} {d : DataW H} {p : List MemPlace}, Value.okWide Tryz.prog W .any base 23 v → DataW.Trod enc Tryz.prog W 0 (fun _ => true) true 23 v d p → ∃ (np : Option Addr) (nc : Nat) (ns : List Int), v = .slice np ns.length nc ∧ SlR [old W] 1 (.slice np ns.length nc) (ns.map (Value.int .i64)) ∧ ∀ n, n ∈ ns → -9223372036854775808 ≤ n ∧ n ≤ 9223372036854775807 := by
    intro v d p ho hd
    obtain ⟨xa, xl, xc, rfl⟩ := okWide_slice underlying23 ho
    obtain ⟨m, hm⟩ := hd
    obtain ⟨a, b, c, zs, ev, _, e, f, g, _⟩ := ints_in underlying23 underlying3 cellsInt hm
    cases ev
    subst e
    exact ⟨_, _, zs, rfl, f, g⟩
  obtain ⟨dp, dc, data, rfl, hd⟩ : ∃ (np : Option Addr) (nc : Nat) (bs : List UInt8), v0 = .slice np bs.length nc ∧ SlR [old W] 1 (.slice np bs.length nc) (bytesV bs) := by
    obtain ⟨xa, xl, xc, rfl⟩ := okWide_slice underlying22 (hval 0 22 v0 rfl rfl)
    obtain ⟨m, hm⟩ := h0
    obtain ⟨a, b, c, zs, ev, _, e, f, g, _⟩ := ints_in underlying22 underlying5 cellsByte hm
    obtain ⟨bs, hb, hbl⟩ := bytes_of g
    cases ev
    subst e
    rw [← hb, ← hbl] at f
    exact ⟨_, _, bs, by rw [hbl], f⟩
  obtain ⟨lp, lc, lost, rfl, hl, _⟩ := ints (hval 3 23 v3 rfl rfl) h3
  obtain ⟨ap, ac, again, rfl, ha, _⟩ := ints (hval 4 23 v4 rfl rfl) h4
  obtain ⟨pp, pc, picks, rfl, hp, hpr⟩ := ints (hval 5 23 v5 rfl rfl) h5
  clear hA0 hval0 hval
  refine (walk data dp dc k m lost again picks lp ap pp lc ac pc W hL hd hl ha hp hpr).mono fun e W' ⟨he, bel⟩ => ?_
  subst he
  exact ⟨_, rfl, _, _, _, [], _, [], hW', trodAll_mk1 (shut_bool underlying4 _),
    (trodAll_cons_mk (Below.trod laidOut readB (of_decide_eq_true (by kernel_rfl)) h0 bel lt0) (trodAll_cons_mk (Below.trod laidOut readI (of_decide_eq_true (by kernel_rfl)) h1 bel lt1) (trodAll_cons_mk (Below.trod laidOut readI (of_decide_eq_true (by kernel_rfl)) h2 bel lt2)
      (trodAll_cons_mk (Below.trod laidOut readS (of_decide_eq_true (by kernel_rfl)) h3 bel lt3) (trodAll_cons_mk (Below.trod laidOut readS (of_decide_eq_true (by kernel_rfl)) h4 bel lt4) (trodAll_cons_mk (Below.trod laidOut readS (of_decide_eq_true (by kernel_rfl)) h5 bel lt5) trodAll_mk0)))))), rfl, bel.frame _, fun h => by cases h⟩

end topStripes
end Go.Proofs.YtblpcabdfbpcnaaGreatDoor
namespace Go.Proofs.YtblpcabdfbpcnaaGreatDoor
open Go.Proofs.Tryz
open Go

theorem joined : joinedFacts Tryz.prog 3 Tryz.f3 Rows.topStripesSpec Rows.topStripesRow = true := by
  unfold joinedFacts
  rw [fact1, fact2, fact3, fact4, fact5, fact7, fact9, fact10, fact11, fact12, fact13, fact14, fact15, fact16, fact17, fact18, fact19, fact20, fact21, fact22, fact23, fact25, fact26, fact27, fact28, fact30, fact31, fact32]
  rfl
theorem topStripes_holds : Rows.TopStripesSaid :=
  OpenClaim.holds_of_wide 3 Tryz.f3 rfl rfl rfl rfl rfl rfl rfl ⟨rfl, rfl, rfl, rfl, rfl⟩ rfl rfl rfl rfl rfl (by kernel_rfl) func3 joined
    (of_decide_eq_true (by kernel_rfl)) (by unfold Func.isWrapper; first | (rw [if_pos (by decide +kernel)]; kernel_rfl) | (rw [if_neg (by decide +kernel)]; exact ⟨rfl, rfl⟩))
    (fun os started H enc _ => topStripes.lifted os started H enc)
end Go.Proofs.YtblpcabdfbpcnaaGreatDoor
namespace Go.Proofs.YtblpcabdfbpcnaaGreatDoor
open Go

abbrev listed : List (String × DataW Unit) := [("internal/strconv.uint64pow10", Rows.laid_internal_strconv_uint64pow10), ("math/bits.deBruijn32tab", Rows.laid_math_bits_deBruijn32tab), ("math/bits.deBruijn64tab", Rows.laid_math_bits_deBruijn64tab), ("strconv.ErrSyntax", Rows.laid_strconv_ErrSyntax), ("strconv.ErrRange", Rows.laid_strconv_ErrRange), ("unicode/utf8.acceptRanges", Rows.laid_unicode_utf8_acceptRanges)]
theorem bindVars : Tryz.prog.funcNamed "gosem.cut.vars" = some 803 := by kernel_rfl
theorem bindWord : Tryz.prog.worded (varsWordLater true) = true := by kernel_rfl
theorem bindWordNot : Tryz.prog.worded (varsWordLater !true) = false := by kernel_rfl
theorem bindRoot : Tryz.prog.worded rootWordLater = true := by kernel_rfl
theorem bindKinds : listed.map (fun x => Tryz.prog.kindOfLater x.1) = ([.data, .data, .data, .sentinel, .sentinel, .data] : List LaidKind).map some := by kernel_rfl
theorem bindNamed : varsNamedLaterB Tryz.prog 803 listed = true := by kernel_rfl
theorem bindDone : ∀ os tape, varsDone Tryz.prog 400 803 os tape = true := fun _ _ => by kernel_rfl
theorem bindRead : ∀ os tape, (DataW.laidRun Tryz.prog (varsWorld Tryz.prog 400 803 os tape).memory 8 (listed.map (·.1))).map (·.1) = some listed := fun _ _ => by kernel_rfl
theorem bindApart : ∀ os tape, (DataW.laidRun Tryz.prog (varsWorld Tryz.prog 400 803 os tape).memory 8 (listed.map (·.1))).map (fun x => decide x.2.Nodup && laidRowsB Tryz.prog (varsWorld Tryz.prog 400 803 os tape).memory x.2) = some true := fun _ _ => by kernel_rfl
theorem bind : Tryz.prog.laidByTextLater [("internal/strconv.uint64pow10", Rows.laid_internal_strconv_uint64pow10), ("math/bits.deBruijn32tab", Rows.laid_math_bits_deBruijn32tab), ("math/bits.deBruijn64tab", Rows.laid_math_bits_deBruijn64tab), ("strconv.ErrSyntax", Rows.laid_strconv_ErrSyntax), ("strconv.ErrRange", Rows.laid_strconv_ErrRange), ("unicode/utf8.acceptRanges", Rows.laid_unicode_utf8_acceptRanges)] [.data, .data, .data, .sentinel, .sentinel, .data] true :=
  Program.laidByTextLater_of_run 803 400 8 bindWord bindWordNot bindRoot bindKinds bindVars bindNamed bindDone bindRead bindApart (by kernel_rfl)
theorem bindPinned : Tryz.pinned.checked.prog.pinnedFits "unicode/utf8.first" = true := by kernel_rfl
theorem bindPlace : Tryz.pinned.checked.prog.headLifts.contains "ownunsafe" = false := by kernel_rfl
theorem bindFits : Tryz.pinned.checked.prog.listedFits [("internal/strconv.uint64pow10", Rows.laid_internal_strconv_uint64pow10), ("math/bits.deBruijn32tab", Rows.laid_math_bits_deBruijn32tab), ("math/bits.deBruijn64tab", Rows.laid_math_bits_deBruijn64tab), ("strconv.ErrSyntax", Rows.laid_strconv_ErrSyntax), ("strconv.ErrRange", Rows.laid_strconv_ErrRange), ("unicode/utf8.first", Rows.laid_unicode_utf8_first), ("unicode/utf8.acceptRanges", Rows.laid_unicode_utf8_acceptRanges)] = true := by
  unfold Program.listedFits
  rw [bindPlace]
  kernel_rfl
theorem bindRow : Rows.topStripesRow.laidByTextAt .later Tryz.pinned [.data, .data, .data, .sentinel, .sentinel, .pinned, .data] true :=
  OpenClaim.laidByTextAt_pinned rfl rfl bind rfl rfl rfl rfl (fun y hy _e => by
    simp only [Rows.topStripesRow, List.zip_cons_cons, List.zip_nil_right, List.mem_cons, List.mem_nil_iff, or_false] at hy
    rcases hy with rfl | rfl | rfl | rfl | rfl | rfl | rfl
    · cases _e
    · cases _e
    · cases _e
    · cases _e
    · cases _e
    · exact ⟨bindPinned, by kernel_rfl⟩
    · cases _e) bindFits

theorem cardWf : Rows.topStripesRow.wfByText (OpenSpec.ofChange Rows.topStripesSpec) = true := by kernel_rfl
theorem cardMain : Tryz.pinned.checked.prog.mainIs = some (true, "55f463b4384c2c58b6f7fe0ff98de9e3b84c4a3d5f2924c11ac34e3c8d4bba85".toList) := by kernel_rfl
theorem cardNamed : Tryz.prog.funcNamed "glacier/glaciertop.TopStripes" = some 3 := by kernel_rfl
theorem cardKinds : ([22, 3, 23].all fun u => !Tryz.prog.wantsStandIn u) = true := by kernel_rfl
theorem cardLooks : true = Tryz.prog.looks [] := by kernel_rfl
theorem noGo : Tryz.prog.funcs.any Func.goes = false := by kernel_rfl
theorem noGoReached : (reached.any fun g => (Tryz.prog.funcs[g]?).any Func.goes) = false := by kernel_rfl
theorem cardGoes : false = Rows.topStripesRow.goesBy Tryz.prog := by
  have h : Tryz.prog.goes 3 = false := by
    unfold Program.goes
    rw [closureEq, noGoReached, noGo, Bool.and_false, Bool.or_false]
  have e : Rows.topStripesRow.goesBy Tryz.prog = (Tryz.prog.goesFrom "glacier/glaciertop.TopStripes" || false) := rfl
  rw [e]
  unfold Program.goesFrom
  rw [cardNamed, Option.any_some, h, Bool.or_false]
end Go.Proofs.YtblpcabdfbpcnaaGreatDoor
namespace Go.Proofs.YtblpcabdfbpcnaaGreatDoor
open Go.Proofs.Tryz
open Go

theorem topStripesCard_holds : Rows.TopStripesCardSaid :=
  Claim7.holds_tied_plain_at .later [] [.data, .data, .data, .sentinel, .sentinel, .pinned, .data] true (true, "55f463b4384c2c58b6f7fe0ff98de9e3b84c4a3d5f2924c11ac34e3c8d4bba85") true
    topStripes_holds (fun _ h => by cases h) cardWf (fun _ h => by cases h) bindRow rfl ⟨rfl, rfl⟩ cardMain rfl
    (fun f fn hf hfn => by
      obtain rfl : f = 3 := Option.some.inj (cardNamed.symm.trans hf) |>.symm
      obtain rfl : fn = Tryz.f3 := (Option.some.inj (func3.symm.trans hfn)).symm
      exact ⟨cardLooks, fun j t ht => by
        rw [Tryz.params3] at ht
        have hm : t ∈ [22, 3, 23] := by
          have := Array.mem_of_getElem? ht
          simp at this ⊢; omega
        exact (show Tryz.prog.wantsStandIn t = false by simpa using List.all_eq_true.1 cardKinds t hm)⟩)
    cardGoes
end Go.Proofs.YtblpcabdfbpcnaaGreatDoor

