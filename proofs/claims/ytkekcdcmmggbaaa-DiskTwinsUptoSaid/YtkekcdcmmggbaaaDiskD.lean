/-
  The disk's functions: Sync, Delete, Rename.
-/
import Derived.Test.YtkekcdcmmggbaaaDiskC
namespace Go.Proofs.Ytkekcdcmmggbaaa
open Go.X

def DM.hasAll (d : DM) (names : List ByteArray) : Bool := names.all fun s => (fget s d.files).isSome
def fsync (n : ByteArray) (l : List FM) : List FM := match fget n l with | some f => fset ⟨n, f.bs, f.bs.length⟩ l | none => l
def fsyncs (names : List ByteArray) (l : List FM) : List FM := names.foldl (fun l n => fsync n l) l
def DM.sync (d : DM) (names : List ByteArray) : Int × DM := if d.hasAll names then (0, { d with files := fsyncs names d.files }) else (4, d)
def fdels (names : List ByteArray) (l : List FM) : List FM := names.foldl (fun l n => fdel n l) l
def DM.delete (d : DM) (names : List ByteArray) : Int × DM := if d.hasAll names then (0, { d with files := fdels names d.files }) else (4, d)

theorem foldl_take {α β : Type} (f : β → α → β) {l : List α} {k : Nat} {a : α} (b : β) (h : l[k]? = some a) : (l.take (k + 1)).foldl f b = f ((l.take k).foldl f b) a := by
  obtain ⟨h1, h2⟩ := List.getElem?_eq_some_iff.1 h
  rw [List.take_succ_eq_append_getElem h1, h2, List.foldl_append]; rfl

theorem fsyncs_take {names : List ByteArray} {k : Nat} {n : ByteArray} (h : names[k]? = some n) {l : List FM} : fsyncs (names.take (k + 1)) l = fsync n (fsyncs (names.take k) l) := foldl_take _ _ h
theorem fsync_of {n : ByteArray} {l : List FM} {f : FM} (h : fget n l = some f) : fsync n l = fset ⟨n, f.bs, f.bs.length⟩ l := by unfold fsync; rw [h]
theorem fdels_take {names : List ByteArray} {k : Nat} {n : ByteArray} (h : names[k]? = some n) (l : List FM) : fdels (names.take (k + 1)) l = fdel n (fdels (names.take k) l) := foldl_take _ _ h

theorem fget_name {n : ByteArray} : ∀ {l : List FM} {f : FM}, fget n l = some f → f.name = n
  | [], _, h => by cases h
  | x :: l, f, h => by
    simp only [fget] at h
    split at h
    · rename_i e; cases h; exact e.symm
    · exact fget_name h
theorem fget_fset (n : ByteArray) (g : FM) : ∀ l : List FM, (fget n (fset g l)).isSome = (fget n l).isSome
  | [] => rfl
  | x :: l => by
    simp only [fset]
    split
    · rename_i e
      simp only [fget, e]
      split <;> rfl
    · simp only [fget]
      split
      · rfl
      · exact fget_fset n g l
theorem fget_fsync (n m : ByteArray) (l : List FM) : (fget n (fsync m l)).isSome = (fget n l).isSome := by
  unfold fsync; split
  · exact fget_fset n _ l
  · rfl
theorem fget_fsyncs (n : ByteArray) : ∀ (names : List ByteArray) (l : List FM), (fget n (fsyncs names l)).isSome = (fget n l).isSome
  | [], l => rfl
  | m :: ns, l => by
    show (fget n (fsyncs ns (fsync m l))).isSome = _
    rw [fget_fsyncs n ns, fget_fsync]
theorem lenSum_fset {n : ByteArray} {g : FM} : ∀ {l : List FM} {f : FM}, fget n l = some f → g.name = n → lenSum (fset g l) + f.bs.length = lenSum l + g.bs.length
  | [], _, h, _ => by cases h
  | x :: l, f, h, e => by
    simp only [fget] at h
    simp only [fset, e]
    split at h
    · rename_i e'
      cases h
      rw [if_pos e']; simp only [lenSum]; omega
    · rename_i e'
      rw [if_neg e']
      have := lenSum_fset (l := l) h e
      simp only [lenSum]; omega
theorem lenSum_fsync (n : ByteArray) (l : List FM) : lenSum (fsync n l) = lenSum l := by
  unfold fsync; split
  · rename_i f h
    have := lenSum_fset (g := ⟨n, f.bs, f.bs.length⟩) h rfl
    simp only at this; omega
  · rfl
theorem lenSum_fsyncs : ∀ (names : List ByteArray) (l : List FM), lenSum (fsyncs names l) = lenSum l
  | [], l => rfl
  | m :: ns, l => by
    show lenSum (fsyncs ns (fsync m l)) = _
    rw [lenSum_fsyncs ns, lenSum_fsync]
theorem fget_mem {n : ByteArray} : ∀ {l : List FM} {f : FM}, fget n l = some f → f ∈ l
  | [], _, h => by cases h
  | x :: l, f, h => by
    simp only [fget] at h
    split at h
    · cases h; simp
    · exact List.mem_cons_of_mem _ (fget_mem h)

/-- A file of a disk that is turned, and the disk shut over it. -/
theorem DiskAt.of_put {p : Nat} {d : DM} {x : DW} (ok : x.ok d) {i : Nat} {y : FW} {n : ByteArray} (hf : Found n x.fs i y) (y' : FW) (hn : y'.f.name = n) (hp : y'.p = y.p) (hb : y'.born = y.born) {u : Int} (hu : u = ((lenSum (fset y'.f d.files) : Nat) : Int)) :
    ∀ h, HSat h [star ((x.fs.set i y').map FW.asn), pt p (.cells [.int .i64 d.size, .int .i64 u, .int .i64 d.born, .map (some x.r)].toArray 67 (0, 0)), pt x.r (mobj (x.fs.map FW.ent) x.c)] → DiskAt p { d with files := fset y'.f d.files } h := by
  intro h s
  obtain ⟨hok, hent⟩ := DW.put ok hf.at_ y' (by rw [hn, hf.name]) hp hb
  have hset := hf.fset y'.f hn
  rw [ok.files] at hset
  refine ⟨⟨x.r, x.c, x.fs.set i y'⟩, by rw [hset]; exact hok, ?_⟩
  unfold DW.asns
  rw [hent]
  subst hu
  exact HSat.perm ((List.Perm.swap _ _ _).trans ((List.Perm.swap _ _ _).cons _)) s

theorem lenSum_fdel {n : ByteArray} : ∀ {l : List FM} {f : FM}, fget n l = some f → lenSum (fdel n l) + f.bs.length = lenSum l
  | [], _, h => by cases h
  | x :: l, f, h => by
    simp only [fget] at h
    simp only [fdel]
    split at h
    · rename_i e'; cases h; rw [if_pos e']; simp only [lenSum]; omega
    · rename_i e'
      rw [if_neg e']
      have := lenSum_fdel (l := l) h
      simp only [lenSum]; omega
theorem fdel_none {n : ByteArray} : ∀ {l : List FM}, fget n l = none → fdel n l = l
  | [], _ => rfl
  | x :: l, h => by
    simp only [fget] at h
    simp only [fdel]
    split at h
    · cases h
    · rename_i e; rw [if_neg e, fdel_none h]
theorem lenSum_fdel_le (n : ByteArray) (l : List FM) : lenSum (fdel n l) ≤ lenSum l := by
  cases h : fget n l with
  | none => rw [fdel_none h]; exact Nat.le_refl _
  | some f => have := lenSum_fdel h; omega
theorem lenSum_fdels_le : ∀ (names : List ByteArray) (l : List FM), lenSum (fdels names l) ≤ lenSum l
  | [], _ => Nat.le_refl _
  | n :: ns, l => Nat.le_trans (lenSum_fdels_le ns (fdel n l)) (lenSum_fdel_le n l)

theorem eraseIdx_map' {α β : Type} (g : α → β) : ∀ (l : List α) (i : Nat), (l.map g).eraseIdx i = (l.eraseIdx i).map g
  | [], _ => rfl
  | _ :: _, 0 => rfl
  | a :: l, i + 1 => by simp only [List.map_cons, List.eraseIdx_cons_succ, eraseIdx_map' g l i]

theorem star_erase {xs : List FW} {i : Nat} {y : FW} (h : xs[i]? = some y) (k : Hp) (s : HSat k (xs.map FW.asn)) : HSat k ((xs.eraseIdx i).map FW.asn) := (s.perm (perm_focus FW.asn h)).tail

/-- A file that is taken away. -/
theorem DW.del {x : DW} {d : DM} (ok : x.ok d) {i : Nat} {y : FW} {n : ByteArray} (hf : Found n x.fs i y) : DW.ok ⟨x.r, x.c, x.fs.eraseIdx i⟩ { d with files := fdel n d.files } ∧ mdel n (x.fs.map FW.ent) = (x.fs.eraseIdx i).map FW.ent := by
  have he : ∀ {β : Type} (g : FW → β), (x.fs.map g).eraseIdx i = (x.fs.eraseIdx i).map g := by
    intro β g
    generalize x.fs = l
    exact eraseIdx_map' g l i
  refine ⟨⟨?_, ?_, ?_⟩, by rw [hf.mdel, he]⟩
  · show (x.fs.eraseIdx i).map (·.f) = fdel n d.files
    have := hf.fdel
    rw [ok.files] at this
    rw [this, ← ok.files, he]
  · show ((x.fs.eraseIdx i).map (·.born)).Nodup
    rw [← he]; exact (List.eraseIdx_sublist _ _).nodup ok.nodup
  · intro f hf'
    exact ok.born f ((List.eraseIdx_sublist _ _).mem hf')

theorem sync_spec (p : Nat) (d : DM) (G : Assn) (sp : Option Addr) (sn sc : Nat) (names : List ByteArray) (hs : SlR [G] 1 (.slice sp sn sc) (names.map Value.string)) (hn : sn ≤ 140737488355328) :
    FSpec Try.prog 14 [.pointer (some ⟨p, 0, none⟩), .slice sp sn sc] [DiskAt p d, G] (fun v B => v = .int .i64 (d.sync names).1 ∧ B = [DiskAt p (d.sync names).2, G]) := by
  refine FSpec.of Try.func14 rfl Try.ntmps14 rfl fun W0 F => ?_
  refine J.seq ?_
  refine J.region ?_
  refine J.q rfl rfl (Q.asg rfl) ?_
  refine J.nil ?_
  refine J.then_n ?_
  refine J.seq ?_
  refine J.seq ?_
  refine J.region ?_
  refine J.q rfl rfl (Q.mv rfl) ?_
  refine J.q rfl rfl (Q.mv rfl) ?_
  refine J.call Try.call34 (all_spec p d G sp sn sc names hs hn) [0, 1] rfl rfl rfl rfl ?_
  rintro _ _ ⟨rfl, rfl⟩
  refine J.norm rfl ?_
  refine J.q rfl rfl (Q.not rfl) ?_
  refine J.nil ?_
  refine J.then_n ?_
  refine J.cond rfl (fun hc10 => ?_) (fun hc10 => ?_)
  ·
    first | replace hc10 := X.tt_dec hc10 | replace hc10 := X.tt_not hc10 | replace hc10 := X.ff_dec hc10 | replace hc10 := X.ff_not hc10 | skip
    refine J.seq ?_
    refine J.region ?_
    refine J.q rfl rfl (Q.asg rfl) ?_
    refine J.nil ?_
    refine J.then_n ?_
    refine J.cret ?_
    refine J.then_r ?_
    have hno : d.hasAll names = false := by simpa [DM.hasAll] using hc10
    have hap : d.sync names = (4, d) := by unfold DM.sync; rw [hno]; rfl
    refine J.ret1 (B := [DiskAt p d, G]) rfl rfl ⟨by rw [hap], by rw [hap]⟩ rfl
  ·
    first | replace hc10 := X.tt_dec hc10 | replace hc10 := X.tt_not hc10 | replace hc10 := X.ff_dec hc10 | replace hc10 := X.ff_not hc10 | skip
    refine J.cskip ?_
    refine J.then_n ?_
    refine J.seq ?_
    refine J.seq ?_
    refine J.region ?_
    refine J.q rfl rfl (Q.mv rfl) ?_
    refine J.q rfl rfl (Q.lenSl Try.runUnderlying28 rfl) ?_
    refine J.q rfl rfl (Q.mv rfl) ?_
    refine J.nil ?_
    refine J.then_n ?_
    refine J.block ?_
    have hall : d.hasAll names = true := by
      cases h : d.hasAll names with
      | true => rfl
      | false => unfold DM.hasAll at h; rw [h] at hc10; cases hc10
    have hlen : names.length = sn := by have := hs.len; simpa using this
    refine J.loop (fun k : Nat => k ≤ sn) (fun k => sn - k) (fun k => [(0, .pointer (some ⟨p, 0, none⟩)), (11, .slice sp sn sc), (12, .int .i64 sn), (13, .int .i64 k)]) (fun k => [DiskAt p { d with files := fsyncs (names.take k) d.files }, G, F]) 0 (by omega) ⟨rfl, rfl, rfl, rfl, trivial⟩ rfl fun k hk => ?_
    refine J.seq ?_
    refine J.region ?_
    refine J.q rfl rfl (Q.lss rfl rfl) ?_
    refine J.nil ?_
    refine J.then_n ?_
    refine J.seq ?_
    refine J.cond rfl (fun hc14 => ?_) (fun hc14 => ?_)
    ·
      first | replace hc14 := X.tt_dec hc14 | replace hc14 := X.tt_not hc14 | replace hc14 := X.ff_dec hc14 | replace hc14 := X.ff_not hc14 | skip
      refine J.cskip ?_
      refine J.then_n ?_
      refine J.seq ?_
      refine J.block ?_
      refine J.seq ?_
      refine J.region ?_
      obtain ⟨b, off, rfl, hrd⟩ := hs.some_ (by omega)
      obtain ⟨nm, hnm⟩ : ∃ nm, names[k]? = some nm := ⟨_, List.getElem?_eq_getElem (by omega)⟩
      refine J.q rfl rfl (Q.ia Try.runUnderlying28 Try.sizeOf9 rfl rfl (by omega) (by omega)) ?_
      refine J.q rfl rfl (Q.ld Try.isAgg9 rfl (((hrd k (.string nm) (by simp [hnm])).within (i := 1) rfl).cast (by simp))) ?_
      refine J.q rfl rfl (Q.asg rfl) ?_
      refine J.nil ?_
      refine J.then_n ?_
      refine J.open_ 0 rfl rfl DiskAt.open_ fun x hx => ?_
      refine J.norm rfl ?_
      obtain ⟨o, ho, hlk⟩ := look' nm x.fs
      have hsome : (fget nm (fsyncs (names.take k) d.files)).isSome = true := by
        rw [fget_fsyncs]
        unfold DM.hasAll at hall
        rw [List.all_eq_true] at hall
        exact hall nm (List.mem_of_getElem? hnm)
      have hol : o.isNone = false := by
        rcases hlk with ⟨rfl, hl⟩ | ⟨i, y, rfl, hl⟩
        · have := hl.fget; rw [hx.files] at this; rw [this] at hsome; cases hsome
        · rfl
      obtain ⟨i, y, rfl, hl⟩ := look_some hlk hol
      have hg : fget nm (fsyncs (names.take k) d.files) = some y.f := by have := hl.fget; rwa [hx.files] at this
      refine J.focus 2 i rfl hl.at_ ?_
      refine J.conv (Y := star y.asns) 0 rfl (fun _ h => h) ?_
      refine J.unpack 0 rfl rfl ?_
      refine J.draw [18] Try.mixed (by kernel_rfl) fun hR => ?_
      refine RG.q 0 hR rfl rfl rfl rfl rfl rfl (Q.mv rfl) ?_
      refine RG.q 1 hR rfl rfl rfl rfl rfl rfl (Q.nil_ rfl) ?_
      refine RG.q 2 hR rfl rfl rfl rfl rfl rfl (Q.fa (n := 3) Try.runUnderlying67 rfl rfl Try.sizeOf65 rfl) ?_
      refine RG.q 3 hR rfl rfl rfl rfl rfl rfl (Q.ld Try.isAgg65 rfl (by first | exact Reads.pt 0 rfl rfl | exact Reads.pt 1 rfl rfl | exact Reads.pt 2 rfl rfl | exact Reads.pt 3 rfl rfl | exact Reads.pt 4 rfl rfl | exact Reads.pt 5 rfl rfl | exact Reads.pt 6 rfl rfl | exact Reads.pt 7 rfl rfl)) ?_
      refine RG.q 4 hR rfl rfl rfl rfl rfl rfl (Q.mv rfl) ?_
      refine RG.q 5 hR rfl rfl rfl rfl rfl rfl (Q.lk (i := 4) Try.runUnderlying65 Try.runUnderlying9 Try.zeroValue69 rfl rfl rfl ho) ?_
      refine RG.q 6 hR rfl rfl rfl rfl rfl rfl (Q.mv rfl) ?_
      refine RG.q 7 hR rfl rfl rfl rfl rfl rfl (Q.nil_ rfl) ?_
      refine RG.q 8 hR rfl rfl rfl rfl rfl rfl (Q.fa (n := 3) Try.runUnderlying67 rfl rfl Try.sizeOf65 rfl) ?_
      refine RG.q 9 hR rfl rfl rfl rfl rfl rfl (Q.ld Try.isAgg65 rfl (by first | exact Reads.pt 0 rfl rfl | exact Reads.pt 1 rfl rfl | exact Reads.pt 2 rfl rfl | exact Reads.pt 3 rfl rfl | exact Reads.pt 4 rfl rfl | exact Reads.pt 5 rfl rfl | exact Reads.pt 6 rfl rfl | exact Reads.pt 7 rfl rfl)) ?_
      refine RG.q 10 hR rfl rfl rfl rfl rfl rfl (Q.mv rfl) ?_
      refine RG.q 11 hR rfl rfl rfl rfl rfl rfl (Q.lk (i := 4) Try.runUnderlying65 Try.runUnderlying9 Try.zeroValue69 rfl rfl rfl ho) ?_
      refine RG.q 12 hR rfl rfl rfl rfl rfl rfl (Q.nil_ rfl) ?_
      refine RG.q 13 hR rfl rfl rfl rfl rfl rfl (Q.fa (n := 0) Try.runUnderlying71 rfl rfl Try.sizeOf30 rfl) ?_
      refine RG.q 14 hR rfl rfl rfl rfl rfl rfl (Q.ld Try.isAgg30 rfl (by first | exact Reads.pt 0 rfl rfl | exact Reads.pt 1 rfl rfl | exact Reads.pt 2 rfl rfl | exact Reads.pt 3 rfl rfl | exact Reads.pt 4 rfl rfl | exact Reads.pt 5 rfl rfl | exact Reads.pt 6 rfl rfl | exact Reads.pt 7 rfl rfl)) ?_
      refine RG.q 15 hR rfl rfl rfl rfl rfl rfl (Q.lenSl Try.runUnderlying30 rfl) ?_
      refine RG.q 16 hR rfl rfl rfl rfl rfl rfl (Q.nil_ rfl) ?_
      refine RG.q 17 hR rfl rfl rfl rfl rfl rfl (Q.fa (n := 1) Try.runUnderlying71 rfl rfl Try.sizeOf3 rfl) ?_
      first | refine RG.st 18 (j := 0) hR rfl rfl rfl rfl rfl Try.sizeOf3 rfl rfl rfl rfl rfl rfl rfl ?_ | refine RG.st 18 (j := 1) hR rfl rfl rfl rfl rfl Try.sizeOf3 rfl rfl rfl rfl rfl rfl rfl ?_ | refine RG.st 18 (j := 2) hR rfl rfl rfl rfl rfl Try.sizeOf3 rfl rfl rfl rfl rfl rfl rfl ?_ | refine RG.st 18 (j := 3) hR rfl rfl rfl rfl rfl Try.sizeOf3 rfl rfl rfl rfl rfl rfl rfl ?_ | refine RG.st 18 (j := 4) hR rfl rfl rfl rfl rfl Try.sizeOf3 rfl rfl rfl rfl rfl rfl rfl ?_ | refine RG.st 18 (j := 5) hR rfl rfl rfl rfl rfl Try.sizeOf3 rfl rfl rfl rfl rfl rfl rfl ?_
      refine RG.fin hR rfl ?_
      refine J.norm rfl ?_
      refine J.blk_n ?_
      refine J.then_n ?_
      refine J.region ?_
      refine J.q rfl rfl (Q.add64 rfl rfl (by omega)) ?_
      refine J.q rfl rfl (Q.mv rfl) ?_
      refine J.nil ?_
      have hfs : fsyncs (names.take (k + 1)) d.files = fset ⟨nm, y.f.bs, y.f.bs.length⟩ (fsyncs (names.take k) d.files) := by
        rw [fsyncs_take hnm, fsync_of hg]
      refine J.pack [0, 1] rfl ?_
      refine J.conv (Y := FW.asn ⟨⟨nm, y.f.bs, y.f.bs.length⟩, y.p, y.sp, y.sc, y.born⟩) 0 rfl (fun _ h => h) ?_
      refine J.unfocus 0 1 i ⟨⟨nm, y.f.bs, y.f.bs.length⟩, y.p, y.sp, y.sc, y.born⟩ rfl (List.getElem?_eq_some_iff.1 hl.at_).1 ?_
      refine J.shut [0, 1, 2] (DiskAt p { d with files := fset ⟨nm, y.f.bs, y.f.bs.length⟩ (fsyncs (names.take k) d.files) }) rfl (DiskAt.of_put (d := { d with files := fsyncs (names.take k) d.files }) hx hl ⟨⟨nm, y.f.bs, y.f.bs.length⟩, y.p, y.sp, y.sc, y.born⟩ rfl rfl rfl (by
        have h1 := lenSum_fset (g := ⟨nm, y.f.bs, y.f.bs.length⟩) hg rfl
        simp only at h1
        show ((lenSum (fsyncs (names.take k) d.files) : Nat) : Int) = ((lenSum (fset ⟨nm, y.f.bs, y.f.bs.length⟩ (fsyncs (names.take k) d.files)) : Nat) : Int)
        omega)) ?_
      refine J.again (k + 1) (by omega) (by omega) ⟨rfl, rfl, rfl, rfl, trivial⟩ ?_
      rw [hfs]
    ·
      first | replace hc14 := X.tt_dec hc14 | replace hc14 := X.tt_not hc14 | replace hc14 := X.ff_dec hc14 | replace hc14 := X.ff_not hc14 | skip
      refine J.exit ?_
      refine J.then_x ?_
      refine J.lp_x ?_
      refine J.blk_x ?_
      refine J.then_n ?_
      refine J.seq ?_
      refine J.region ?_
      refine J.q rfl rfl (Q.asg rfl) ?_
      refine J.nil ?_
      refine J.then_n ?_
      refine J.cret ?_
      have hkn : k = sn := by omega
      have hap : d.sync names = (0, { d with files := fsyncs (names.take k) d.files }) := by unfold DM.sync; rw [hall, List.take_of_length_le (by omega)]; rfl
      refine J.ret1 (B := [DiskAt p { d with files := fsyncs (names.take k) d.files }, G]) rfl rfl ⟨by rw [hap], by rw [hap]⟩ rfl

theorem kidx_append {k : ByteArray} : ∀ {l : List ByteArray} {i : Nat}, kidx k l = some i → ∀ m, kidx k (l ++ m) = some i
  | [], _, h, _ => by cases h
  | n :: l, i, h, m => by
    simp only [List.cons_append, kidx] at h ⊢
    split at h
    · rename_i e; rw [if_pos e]; exact h
    · rename_i e
      rw [if_neg e]
      cases hk : kidx k l with
      | none => rw [hk] at h; cases h
      | some j => rw [hk] at h; rw [kidx_append hk m]; exact h

def frename (a b : ByteArray) (f : FM) (l : List FM) : List FM :=
  fdel a (match fget b l with | some _ => fset ⟨b, f.bs, f.sy⟩ l | none => l ++ [⟨b, f.bs, f.sy⟩])
def DM.rename (d : DM) (a b : ByteArray) : Int × DM :=
  match fget a d.files with
  | none => (4, d)
  | some f => if nameOK b.data.toList = false then (1, d) else if a = b then (0, d) else (0, { d with files := frename a b f d.files })

/-- A file under another name: where there is one of that name. -/
theorem rename_over {x : DW} {d : DM} (ok : x.ok d) {i j : Nat} {y z : FW} {a b : ByteArray} (hy : Found a x.fs i y) (hz : Found b x.fs j z) :
    ∃ fs, DW.ok ⟨x.r, x.c, fs⟩ { d with files := frename a b y.f d.files } ∧ mdel a (mset b y.ptr (x.fs.map FW.ent)) = fs.map FW.ent ∧ ∀ k, HSat k (x.fs.map FW.asn) → HSat k (fs.map FW.asn) := by
  obtain ⟨y2, hy2⟩ : ∃ y2 : FW, y2 = ⟨⟨b, y.f.bs, y.f.sy⟩, y.p, y.sp, y.sc, z.born⟩ := ⟨_, rfl⟩
  have hnm : (x.fs.set j y2).map (·.f.name) = x.fs.map (·.f.name) := map_set_same hz.at_ (by rw [hy2, hz.name])
  have hok1 : DW.ok ⟨x.r, x.c, x.fs.set j y2⟩ { d with files := fset ⟨b, y.f.bs, y.f.sy⟩ d.files } := by
    refine ⟨?_, ?_, ?_⟩
    · show (x.fs.set j y2).map (·.f) = fset ⟨b, y.f.bs, y.f.sy⟩ d.files
      have := hz.fset ⟨b, y.f.bs, y.f.sy⟩ rfl
      rw [ok.files] at this
      rw [this, List.map_set, ok.files, hy2]
    · show ((x.fs.set j y2).map (·.born)).Nodup
      rw [map_set_same hz.at_ (by rw [hy2])]; exact ok.nodup
    · intro f hf
      rcases List.mem_or_eq_of_mem_set hf with h | rfl
      · exact ok.born f h
      · rw [hy2]; exact ok.born z (List.mem_of_getElem? hz.at_)
  obtain ⟨y3, hy3⟩ := Found.of_idx (xs := x.fs.set j y2) (k := a) (i := i) (by rw [hnm]; exact hy.idx)
  obtain ⟨hok2, hmd⟩ := DW.del hok1 hy3
  refine ⟨(x.fs.set j y2).eraseIdx i, ?_, ?_, ?_⟩
  · have hfr : frename a b y.f d.files = fdel a (fset ⟨b, y.f.bs, y.f.sy⟩ d.files) := by
      unfold frename
      have := hz.fget; rw [ok.files] at this; rw [this]
    rw [hfr]; exact hok2
  · rw [← hmd]
    congr 1
    rw [hz.mset, List.map_set]
    congr 1
    rw [hy2]; rfl
  · intro k s
    have hij : i ≠ j ∨ i = j := by omega
    have h1 : HSat k ((x.fs.eraseIdx j).map FW.asn) := star_erase hz.at_ k s
    have hlt : j < x.fs.length := (List.getElem?_eq_some_iff.1 hz.at_).1
    have hj : (x.fs.set j y2)[j]? = some y2 := by simp [hlt]
    have e1 : (x.fs.set j y2).eraseIdx j = x.fs.eraseIdx j := by rw [List.eraseIdx_set_eq]
    have p1 := perm_focus FW.asn hj
    have p2 := perm_focus FW.asn hy3.at_
    rw [e1] at p1
    have ha : FW.asn y3 = FW.asn y2 := by
      rcases Nat.lt_or_ge i j with h | h
      · have h3 : (x.fs.set j y2)[i]? = some y := by rw [List.getElem?_set_ne (by omega)]; exact hy.at_
        rw [hy3.at_] at h3; cases h3; rw [hy2]; rfl
      · rcases Nat.eq_or_lt_of_le h with rfl | h
        · have := hy3.at_; rw [hj] at this; cases this; rfl
        · have h3 : (x.fs.set j y2)[i]? = some y := by rw [List.getElem?_set_ne (by omega)]; exact hy.at_
          rw [hy3.at_] at h3; cases h3; rw [hy2]; rfl
    rw [ha] at p2
    exact h1.perm ((List.perm_cons _).1 (p1.symm.trans p2))

/-- A file under another name: where there is none of that name. -/
theorem rename_new {x : DW} {d : DM} (ok : x.ok d) {i : Nat} {y : FW} {a b : ByteArray} (hy : Found a x.fs i y) (hz : Lost b x.fs) :
    ∃ fs, DW.ok ⟨x.r, x.c + 1, fs⟩ { d with files := frename a b y.f d.files } ∧ mdel a (x.fs.map FW.ent ++ [⟨b, y.ptr, x.c⟩]) = fs.map FW.ent ∧ ∀ k, HSat k (x.fs.map FW.asn) → HSat k (fs.map FW.asn) := by
  obtain ⟨y2, hy2⟩ : ∃ y2 : FW, y2 = ⟨⟨b, y.f.bs, y.f.sy⟩, y.p, y.sp, y.sc, x.c⟩ := ⟨_, rfl⟩
  have hok1 : DW.ok ⟨x.r, x.c + 1, x.fs ++ [y2]⟩ { d with files := d.files ++ [⟨b, y.f.bs, y.f.sy⟩] } := by
    refine ⟨?_, ?_, ?_⟩
    · show (x.fs ++ [y2]).map (·.f) = d.files ++ [⟨b, y.f.bs, y.f.sy⟩]
      rw [List.map_append, ok.files, hy2]; rfl
    · show ((x.fs ++ [y2]).map (·.born)).Nodup
      rw [List.map_append, List.nodup_append]
      refine ⟨ok.nodup, by simp, ?_⟩
      intro u hu v hv
      simp only [List.map_cons, List.map_nil, List.mem_singleton] at hv
      simp only [List.mem_map] at hu
      obtain ⟨f, hf, rfl⟩ := hu
      have := ok.born f hf
      rw [hv, hy2]; show f.born ≠ x.c; omega
    · intro f hf
      rcases List.mem_append.1 hf with hf | hf
      · have := ok.born f hf; show f.born < x.c + 1; omega
      · simp only [List.mem_singleton] at hf; subst hf; rw [hy2]; show x.c < x.c + 1; omega
  obtain ⟨y3, hy3⟩ := Found.of_idx (xs := x.fs ++ [y2]) (k := a) (i := i) (by rw [List.map_append]; exact kidx_append hy.idx _)
  obtain ⟨hok2, hmd⟩ := DW.del hok1 hy3
  refine ⟨(x.fs ++ [y2]).eraseIdx i, ?_, ?_, ?_⟩
  · have hfr : frename a b y.f d.files = fdel a (d.files ++ [⟨b, y.f.bs, y.f.sy⟩]) := by
      unfold frename
      have := hz.fget; rw [ok.files] at this; rw [this]
    rw [hfr]; exact hok2
  · rw [← hmd, List.map_append, hy2]; rfl
  · intro k s
    have p2 := perm_focus FW.asn hy3.at_
    have hlt : i < x.fs.length := (List.getElem?_eq_some_iff.1 hy.at_).1
    have h3 : (x.fs ++ [y2])[i]? = some y := by rw [List.getElem?_append_left hlt]; exact hy.at_
    have ha : FW.asn y3 = FW.asn y2 := by
      have := hy3.at_; rw [h3] at this; cases this; rw [hy2]; rfl
    have p1 : ((x.fs ++ [y2]).map FW.asn).Perm (FW.asn y2 :: x.fs.map FW.asn) := by
      rw [List.map_append]; exact List.perm_append_singleton _ _
    rw [ha] at p2
    exact s.perm ((List.perm_cons _).1 (p1.symm.trans p2))

theorem fget_fset_ne {a : ByteArray} {g : FM} (h : a ≠ g.name) : ∀ {l : List FM} {f : FM}, fget a l = some f → ∃ f', fget a (fset g l) = some f' ∧ f'.bs.length = f.bs.length
  | [], _, e => by cases e
  | x :: l, f, e => by
    simp only [fget] at e
    simp only [fset]
    by_cases hx : a = x.name
    · rw [if_pos hx] at e; cases e
      have : ¬ g.name = x.name := fun q => h (hx.trans q.symm)
      rw [if_neg this]
      exact ⟨x, by simp only [fget, hx, if_true], rfl⟩
    · rw [if_neg hx] at e
      by_cases hg : g.name = x.name
      · rw [if_pos hg]; exact ⟨f, by simp only [fget, h, if_false, e], rfl⟩
      · rw [if_neg hg]
        obtain ⟨f', h1, h2⟩ := fget_fset_ne h (l := l) e
        exact ⟨f', by simp only [fget, hx, if_false, h1], h2⟩
theorem fget_append {a : ByteArray} : ∀ {l : List FM} {f : FM}, fget a l = some f → ∀ m, fget a (l ++ m) = some f
  | [], _, e, _ => by cases e
  | x :: l, f, e, m => by
    simp only [List.cons_append, fget] at e ⊢
    by_cases hx : a = x.name
    · rw [if_pos hx] at e ⊢; exact e
    · rw [if_neg hx] at e ⊢; exact fget_append e m

theorem rename_spec (p : Nat) (d : DM) (hd : d.wf) (a b : ByteArray) (hb : b.size ≤ 140737488355328) :
    FSpec Try.prog 15 [.pointer (some ⟨p, 0, none⟩), .string a, .string b] [DiskAt p d] (fun v B => v = .int .i64 (d.rename a b).1 ∧ B = [DiskAt p (d.rename a b).2]) := by
  refine FSpec.of Try.func15 rfl Try.ntmps15 rfl fun W0 F => ?_
  refine J.seq ?_
  refine J.region ?_
  refine J.q rfl rfl (Q.asg rfl) ?_
  refine J.nil ?_
  refine J.then_n ?_
  refine J.seq ?_
  refine J.open_ 0 rfl rfl DiskAt.open_ fun x hx => ?_
  refine J.norm rfl ?_
  obtain ⟨o, ho, hlk⟩ := look' a x.fs
  have hu := hd.used
  have hsz := hd.size
  have hdu : d.used = lenSum d.files := rfl
  refine J.region ?_
  refine J.q rfl rfl (Q.mv rfl) ?_
  refine J.q rfl rfl (Q.nil_ rfl) ?_
  refine J.q rfl rfl (Q.fa (n := 3) Try.runUnderlying67 rfl rfl Try.sizeOf65 rfl) ?_
  refine J.q rfl rfl (Q.ld Try.isAgg65 rfl (by first | exact Reads.pt 0 rfl rfl | exact Reads.pt 1 rfl rfl | exact Reads.pt 2 rfl rfl | exact Reads.pt 3 rfl rfl | exact Reads.pt 4 rfl rfl | exact Reads.pt 5 rfl rfl | exact Reads.pt 6 rfl rfl | exact Reads.pt 7 rfl rfl)) ?_
  refine J.q rfl rfl (Q.mv rfl) ?_
  refine J.q rfl rfl (Q.lk (i := 1) Try.runUnderlying65 Try.runUnderlying9 Try.zeroValue69 rfl rfl rfl ho) ?_
  refine J.q rfl rfl (Q.asg rfl) ?_
  refine J.nil ?_
  refine J.then_n ?_
  refine J.seq ?_
  refine J.block ?_
  refine J.seq ?_
  refine J.region ?_
  refine J.q rfl rfl (Q.mv rfl) ?_
  refine J.q rfl rfl (Q.eqlp Try.runUnderlying69 rfl rfl) ?_
  refine J.q rfl rfl (Q.asg rfl) ?_
  refine J.nil ?_
  refine J.then_n ?_
  refine J.cond rfl (fun hc15 => ?_) (fun hc15 => ?_)
  ·
    first | replace hc15 := X.tt_dec hc15 | replace hc15 := X.tt_not hc15 | replace hc15 := X.ff_dec hc15 | replace hc15 := X.ff_not hc15 | skip
    obtain ⟨rfl, hl⟩ := look_none hlk hc15
    refine J.seq ?_
    refine J.region ?_
    refine J.q rfl rfl (Q.asg rfl) ?_
    refine J.nil ?_
    refine J.then_n ?_
    refine J.cret ?_
    refine J.blk_r ?_
    refine J.then_r ?_
    have hg : fget a d.files = none := by rw [← hx.files]; exact hl.fget
    have hap : d.rename a b = (4, d) := by unfold DM.rename; rw [hg]
    refine J.shut [0, 1, 2] (DiskAt p d) rfl (fun h s => ⟨x, hx, s⟩) ?_
    refine J.ret1 (B := [DiskAt p d]) rfl rfl ⟨by rw [hap], by rw [hap]⟩ rfl
  ·
    first | replace hc15 := X.tt_dec hc15 | replace hc15 := X.tt_not hc15 | replace hc15 := X.ff_dec hc15 | replace hc15 := X.ff_not hc15 | skip
    obtain ⟨i, y, rfl, hl⟩ := look_some hlk hc15
    refine J.seq ?_
    refine J.region ?_
    refine J.q rfl rfl (Q.mv rfl) ?_
    refine J.call Try.call30 (name_spec b hb) [] rfl rfl rfl rfl ?_
    rintro _ _ ⟨rfl, rfl⟩
    refine J.norm rfl ?_
    refine J.q rfl rfl (Q.not rfl) ?_
    refine J.q rfl rfl (Q.asg rfl) ?_
    refine J.nil ?_
    refine J.then_n ?_
    refine J.cond rfl (fun hc18 => ?_) (fun hc18 => ?_)
    ·
      first | replace hc18 := X.tt_dec hc18 | replace hc18 := X.tt_not hc18 | replace hc18 := X.ff_dec hc18 | replace hc18 := X.ff_not hc18 | skip
      refine J.seq ?_
      refine J.region ?_
      refine J.q rfl rfl (Q.asg rfl) ?_
      refine J.nil ?_
      refine J.then_n ?_
      refine J.cret ?_
      refine J.blk_r ?_
      refine J.then_r ?_
      have hg : fget a d.files = some y.f := by rw [← hx.files]; exact hl.fget
      have hap : d.rename a b = (1, d) := by unfold DM.rename; rw [hg]; exact if_pos (by simpa using hc18)
      refine J.shut [0, 1, 2] (DiskAt p d) rfl (fun h s => ⟨x, hx, s⟩) ?_
      refine J.ret1 (B := [DiskAt p d]) rfl rfl ⟨by rw [hap], by rw [hap]⟩ rfl
    ·
      first | replace hc18 := X.tt_dec hc18 | replace hc18 := X.tt_not hc18 | replace hc18 := X.ff_dec hc18 | replace hc18 := X.ff_not hc18 | skip
      refine J.seq ?_
      refine J.region ?_
      refine J.q rfl rfl (Q.mv rfl) ?_
      refine J.q rfl rfl (Q.mv rfl) ?_
      refine J.q rfl rfl (Q.eqls rfl rfl) ?_
      refine J.q rfl rfl (Q.asg rfl) ?_
      refine J.nil ?_
      refine J.then_n ?_
      refine J.cond rfl (fun hc22 => ?_) (fun hc22 => ?_)
      ·
        first | replace hc22 := X.tt_dec hc22 | replace hc22 := X.tt_not hc22 | replace hc22 := X.ff_dec hc22 | replace hc22 := X.ff_not hc22 | skip
        have hab : a = b := by cases a; cases b; simp at hc22; simpa using hc22
        refine J.seq ?_
        refine J.region ?_
        refine J.q rfl rfl (Q.asg rfl) ?_
        refine J.nil ?_
        refine J.then_n ?_
        refine J.cret ?_
        refine J.blk_r ?_
        refine J.then_r ?_
        have hg : fget a d.files = some y.f := by rw [← hx.files]; exact hl.fget
        have hap : d.rename a b = (0, d) := by unfold DM.rename; rw [hg]; exact (if_neg (by simpa using hc18)).trans (if_pos hab)
        refine J.shut [0, 1, 2] (DiskAt p d) rfl (fun h s => ⟨x, hx, s⟩) ?_
        refine J.ret1 (B := [DiskAt p d]) rfl rfl ⟨by rw [hap], by rw [hap]⟩ rfl
      ·
        first | replace hc22 := X.tt_dec hc22 | replace hc22 := X.tt_not hc22 | replace hc22 := X.ff_dec hc22 | replace hc22 := X.ff_not hc22 | skip
        have hab : a ≠ b := by rintro rfl; exact hc22 rfl
        refine J.cskip ?_
        refine J.blk_n ?_
        refine J.then_n ?_
        refine J.seq ?_
        refine J.seq ?_
        refine J.region ?_
        have hg : fget a d.files = some y.f := by rw [← hx.files]; exact hl.fget
        have hap : d.rename a b = (0, { d with files := frename a b y.f d.files }) := by unfold DM.rename; rw [hg]; exact (if_neg (by simpa using hc18)).trans (if_neg hab)
        obtain ⟨o2, ho2, hlk2⟩ := look' b x.fs
        refine J.q rfl rfl (Q.mv rfl) ?_
        refine J.q rfl rfl (Q.nil_ rfl) ?_
        refine J.q rfl rfl (Q.fa (n := 3) Try.runUnderlying67 rfl rfl Try.sizeOf65 rfl) ?_
        refine J.q rfl rfl (Q.ld Try.isAgg65 rfl (by first | exact Reads.pt 0 rfl rfl | exact Reads.pt 1 rfl rfl | exact Reads.pt 2 rfl rfl | exact Reads.pt 3 rfl rfl | exact Reads.pt 4 rfl rfl | exact Reads.pt 5 rfl rfl | exact Reads.pt 6 rfl rfl | exact Reads.pt 7 rfl rfl)) ?_
        refine J.q rfl rfl (Q.mv rfl) ?_
        refine J.q rfl rfl (Q.lk (i := 1) Try.runUnderlying65 Try.runUnderlying9 Try.zeroValue69 rfl rfl rfl ho2) ?_
        refine J.q rfl rfl (Q.asg rfl) ?_
        refine J.nil ?_
        refine J.then_n ?_
        refine J.seq ?_
        refine J.region ?_
        refine J.q rfl rfl (Q.mv rfl) ?_
        refine J.q rfl rfl (Q.neqp Try.runUnderlying69 rfl rfl) ?_
        refine J.nil ?_
        refine J.then_n ?_
        refine J.cond rfl (fun hc33 => ?_) (fun hc33 => ?_)
        ·
          first | replace hc33 := X.tt_dec hc33 | replace hc33 := X.tt_not hc33 | replace hc33 := X.ff_dec hc33 | replace hc33 := X.ff_not hc33 | skip
          obtain ⟨j, z, rfl, hz⟩ := look_some hlk2 (by simpa using hc33)
          have hgz : fget b d.files = some z.f := by rw [← hx.files]; exact hz.fget
          obtain ⟨_, hzl, _⟩ := hd.len hgz
          have hzu := lenSum_mem (fget_mem hgz)
          refine J.focus 2 j rfl hz.at_ ?_
          refine J.conv (Y := star z.asns) 0 rfl (fun _ h => h) ?_
          refine J.unpack 0 rfl rfl ?_
          refine J.draw [12] Try.mixed (by kernel_rfl) fun hR => ?_
          refine RG.q 0 hR rfl rfl rfl rfl rfl rfl (Q.mv rfl) ?_
          refine RG.q 1 hR rfl rfl rfl rfl rfl rfl (Q.nil_ rfl) ?_
          refine RG.q 2 hR rfl rfl rfl rfl rfl rfl (Q.fa (n := 1) Try.runUnderlying67 rfl rfl Try.sizeOf3 rfl) ?_
          refine RG.q 3 hR rfl rfl rfl rfl rfl rfl (Q.ld Try.isAgg3 rfl (by first | exact Reads.pt 0 rfl rfl | exact Reads.pt 1 rfl rfl | exact Reads.pt 2 rfl rfl | exact Reads.pt 3 rfl rfl | exact Reads.pt 4 rfl rfl | exact Reads.pt 5 rfl rfl | exact Reads.pt 6 rfl rfl | exact Reads.pt 7 rfl rfl)) ?_
          refine RG.q 4 hR rfl rfl rfl rfl rfl rfl (Q.mv rfl) ?_
          refine RG.q 5 hR rfl rfl rfl rfl rfl rfl (Q.nil_ rfl) ?_
          refine RG.q 6 hR rfl rfl rfl rfl rfl rfl (Q.fa (n := 0) Try.runUnderlying71 rfl rfl Try.sizeOf30 rfl) ?_
          refine RG.q 7 hR rfl rfl rfl rfl rfl rfl (Q.ld Try.isAgg30 rfl (by first | exact Reads.pt 0 rfl rfl | exact Reads.pt 1 rfl rfl | exact Reads.pt 2 rfl rfl | exact Reads.pt 3 rfl rfl | exact Reads.pt 4 rfl rfl | exact Reads.pt 5 rfl rfl | exact Reads.pt 6 rfl rfl | exact Reads.pt 7 rfl rfl)) ?_
          refine RG.q 8 hR rfl rfl rfl rfl rfl rfl (Q.lenSl Try.runUnderlying30 rfl) ?_
          refine RG.q 9 hR rfl rfl rfl rfl rfl rfl (Q.sub64 rfl rfl (by omega)) ?_
          refine RG.q 10 hR rfl rfl rfl rfl rfl rfl (Q.nil_ rfl) ?_
          refine RG.q 11 hR rfl rfl rfl rfl rfl rfl (Q.fa (n := 1) Try.runUnderlying67 rfl rfl Try.sizeOf3 rfl) ?_
          first | refine RG.st 12 (j := 0) hR rfl rfl rfl rfl rfl Try.sizeOf3 rfl rfl rfl rfl rfl rfl rfl ?_ | refine RG.st 12 (j := 1) hR rfl rfl rfl rfl rfl Try.sizeOf3 rfl rfl rfl rfl rfl rfl rfl ?_ | refine RG.st 12 (j := 2) hR rfl rfl rfl rfl rfl Try.sizeOf3 rfl rfl rfl rfl rfl rfl rfl ?_ | refine RG.st 12 (j := 3) hR rfl rfl rfl rfl rfl Try.sizeOf3 rfl rfl rfl rfl rfl rfl rfl ?_ | refine RG.st 12 (j := 4) hR rfl rfl rfl rfl rfl Try.sizeOf3 rfl rfl rfl rfl rfl rfl rfl ?_ | refine RG.st 12 (j := 5) hR rfl rfl rfl rfl rfl Try.sizeOf3 rfl rfl rfl rfl rfl rfl rfl ?_
          refine RG.fin hR rfl ?_
          refine J.norm rfl ?_
          refine J.then_n ?_
          refine J.seq ?_
          refine J.region ?_
          first
            | (refine J.pack [0, 1] rfl ?_
               refine J.conv (Y := FW.asn z) 0 rfl (fun _ h => h) ?_
               refine J.refocus 0 1 j z rfl hz.at_ ?_
               refine J.pick [1, 2, 0] rfl ?_
               refine J.norm rfl ?_)
            | skip
          refine J.q rfl rfl (Q.mv rfl) ?_
          refine J.q rfl rfl (Q.nil_ rfl) ?_
          refine J.q rfl rfl (Q.fa (n := 3) Try.runUnderlying67 rfl rfl Try.sizeOf65 rfl) ?_
          refine J.q rfl rfl (Q.ld Try.isAgg65 rfl (by first | exact Reads.pt 0 rfl rfl | exact Reads.pt 1 rfl rfl | exact Reads.pt 2 rfl rfl | exact Reads.pt 3 rfl rfl | exact Reads.pt 4 rfl rfl | exact Reads.pt 5 rfl rfl | exact Reads.pt 6 rfl rfl | exact Reads.pt 7 rfl rfl)) ?_
          refine J.q rfl rfl (Q.mv rfl) ?_
          refine J.q rfl rfl (Q.mv rfl) ?_
          refine J.c0 rfl (C.mput (i := 1) Try.runUnderlying65 Try.runUnderlying9 rfl rfl rfl rfl) ?_
          rintro _ _ ⟨rfl, rfl⟩
          refine J.norm rfl ?_
          refine J.nil ?_
          refine J.then_n ?_
          refine J.seq ?_
          refine J.region ?_
          refine J.q rfl rfl (Q.mv rfl) ?_
          refine J.q rfl rfl (Q.nil_ rfl) ?_
          refine J.q rfl rfl (Q.fa (n := 3) Try.runUnderlying67 rfl rfl Try.sizeOf65 rfl) ?_
          refine J.q rfl rfl (Q.ld Try.isAgg65 rfl (by first | exact Reads.pt 0 rfl rfl | exact Reads.pt 1 rfl rfl | exact Reads.pt 2 rfl rfl | exact Reads.pt 3 rfl rfl | exact Reads.pt 4 rfl rfl | exact Reads.pt 5 rfl rfl | exact Reads.pt 6 rfl rfl | exact Reads.pt 7 rfl rfl)) ?_
          refine J.q rfl rfl (Q.mv rfl) ?_
          refine J.c0 rfl (C.mdel (i := 1) Try.runUnderlying65 Try.runUnderlying9 rfl rfl) ?_
          rintro _ _ ⟨rfl, rfl⟩
          refine J.norm rfl ?_
          refine J.nil ?_
          refine J.then_n ?_
          refine J.seq ?_
          refine J.region ?_
          refine J.q rfl rfl (Q.asg rfl) ?_
          refine J.nil ?_
          refine J.then_n ?_
          refine J.cret ?_
          have hmp : mput b (Value.pointer (some ⟨y.p, 0, none⟩)) (x.fs.map FW.ent) x.c = (mset b y.ptr (x.fs.map FW.ent), x.c) := by unfold mput; rw [hz.mget]; rfl
          obtain ⟨fs, hok, hmd, hst⟩ := rename_over hx hl hz
          rw [hmp]
          refine J.shut [0, 1, 2] (DiskAt p { d with files := frename a b y.f d.files }) rfl (fun h s => ⟨⟨x.r, x.c, fs⟩, hok, by
            unfold DW.asns
            rw [← hmd]
            have hz2 : ((d.used : Int) - z.f.bs.length) = ((({ d with files := frename a b y.f d.files } : DM).used : Nat) : Int) := by
              unfold DM.used frename
              rw [hgz]
              simp only
              have h1 := lenSum_fset (g := ⟨b, y.f.bs, y.f.sy⟩) hgz rfl
              have h2 : ∃ f, fget a (fset ⟨b, y.f.bs, y.f.sy⟩ d.files) = some f ∧ f.bs.length = y.f.bs.length := fget_fset_ne hab hg
              obtain ⟨f, h3, h4⟩ := h2
              have h5 := lenSum_fdel h3
              simp only at h1
              omega
            rw [hz2] at s
            exact HSat.under s fun _ s => HSat.under s fun _ s => HSat.imp s hst⟩) ?_
          refine J.ret1 (B := [DiskAt p { d with files := frename a b y.f d.files }]) rfl rfl ⟨by rw [hap], by rw [hap]⟩ rfl
        ·
          first | replace hc33 := X.tt_dec hc33 | replace hc33 := X.tt_not hc33 | replace hc33 := X.ff_dec hc33 | replace hc33 := X.ff_not hc33 | skip
          obtain ⟨rfl, hz⟩ := look_none hlk2 (by simpa using hc33)
          refine J.cskip ?_
          refine J.then_n ?_
          refine J.seq ?_
          refine J.region ?_
          first
            | (refine J.pack [0, 1] rfl ?_
               refine J.conv (Y := FW.asn z) 0 rfl (fun _ h => h) ?_
               refine J.refocus 0 1 j z rfl hz.at_ ?_
               refine J.pick [1, 2, 0] rfl ?_
               refine J.norm rfl ?_)
            | skip
          refine J.q rfl rfl (Q.mv rfl) ?_
          refine J.q rfl rfl (Q.nil_ rfl) ?_
          refine J.q rfl rfl (Q.fa (n := 3) Try.runUnderlying67 rfl rfl Try.sizeOf65 rfl) ?_
          refine J.q rfl rfl (Q.ld Try.isAgg65 rfl (by first | exact Reads.pt 0 rfl rfl | exact Reads.pt 1 rfl rfl | exact Reads.pt 2 rfl rfl | exact Reads.pt 3 rfl rfl | exact Reads.pt 4 rfl rfl | exact Reads.pt 5 rfl rfl | exact Reads.pt 6 rfl rfl | exact Reads.pt 7 rfl rfl)) ?_
          refine J.q rfl rfl (Q.mv rfl) ?_
          refine J.q rfl rfl (Q.mv rfl) ?_
          refine J.c0 rfl (C.mput (i := 1) Try.runUnderlying65 Try.runUnderlying9 rfl rfl rfl rfl) ?_
          rintro _ _ ⟨rfl, rfl⟩
          refine J.norm rfl ?_
          refine J.nil ?_
          refine J.then_n ?_
          refine J.seq ?_
          refine J.region ?_
          refine J.q rfl rfl (Q.mv rfl) ?_
          refine J.q rfl rfl (Q.nil_ rfl) ?_
          refine J.q rfl rfl (Q.fa (n := 3) Try.runUnderlying67 rfl rfl Try.sizeOf65 rfl) ?_
          refine J.q rfl rfl (Q.ld Try.isAgg65 rfl (by first | exact Reads.pt 0 rfl rfl | exact Reads.pt 1 rfl rfl | exact Reads.pt 2 rfl rfl | exact Reads.pt 3 rfl rfl | exact Reads.pt 4 rfl rfl | exact Reads.pt 5 rfl rfl | exact Reads.pt 6 rfl rfl | exact Reads.pt 7 rfl rfl)) ?_
          refine J.q rfl rfl (Q.mv rfl) ?_
          refine J.c0 rfl (C.mdel (i := 1) Try.runUnderlying65 Try.runUnderlying9 rfl rfl) ?_
          rintro _ _ ⟨rfl, rfl⟩
          refine J.norm rfl ?_
          refine J.nil ?_
          refine J.then_n ?_
          refine J.seq ?_
          refine J.region ?_
          refine J.q rfl rfl (Q.asg rfl) ?_
          refine J.nil ?_
          refine J.then_n ?_
          refine J.cret ?_
          have hmp : mput b (Value.pointer (some ⟨y.p, 0, none⟩)) (x.fs.map FW.ent) x.c = (x.fs.map FW.ent ++ [⟨b, y.ptr, x.c⟩], x.c + 1) := by unfold mput; rw [hz.mget]; rfl
          obtain ⟨fs, hok, hmd, hst⟩ := rename_new hx hl hz
          have hgz : fget b d.files = none := by rw [← hx.files]; exact hz.fget
          rw [hmp]
          refine J.shut [0, 1, 2] (DiskAt p { d with files := frename a b y.f d.files }) rfl (fun h s => ⟨⟨x.r, x.c + 1, fs⟩, hok, by
            unfold DW.asns
            rw [← hmd]
            have hz2 : (d.used : Int) = ((({ d with files := frename a b y.f d.files } : DM).used : Nat) : Int) := by
              unfold DM.used frename
              rw [hgz]
              simp only
              have h3 : fget a (d.files ++ [⟨b, y.f.bs, y.f.sy⟩]) = some y.f := fget_append hg _
              have h5 := lenSum_fdel h3
              rw [lenSum_append] at h5
              simp only [lenSum] at h5
              omega
            rw [hz2] at s
            exact HSat.under s fun _ s => HSat.under s fun _ s => HSat.imp s hst⟩) ?_
          refine J.ret1 (B := [DiskAt p { d with files := frename a b y.f d.files }]) rfl rfl ⟨by rw [hap], by rw [hap]⟩ rfl

theorem delete_spec (p : Nat) (d : DM) (hd : d.wf) (G : Assn) (sp : Option Addr) (sn sc : Nat) (names : List ByteArray) (hs : SlR [G] 1 (.slice sp sn sc) (names.map Value.string)) (hn : sn ≤ 140737488355328) :
    FSpec Try.prog 13 [.pointer (some ⟨p, 0, none⟩), .slice sp sn sc] [DiskAt p d, G] (fun v B => v = .int .i64 (d.delete names).1 ∧ B = [DiskAt p (d.delete names).2, G]) := by
  refine FSpec.of Try.func13 rfl Try.ntmps13 rfl fun W0 F => ?_
  refine J.seq ?_
  refine J.region ?_
  refine J.q rfl rfl (Q.asg rfl) ?_
  refine J.nil ?_
  refine J.then_n ?_
  refine J.seq ?_
  refine J.seq ?_
  refine J.region ?_
  refine J.q rfl rfl (Q.mv rfl) ?_
  refine J.q rfl rfl (Q.mv rfl) ?_
  refine J.call Try.call34 (all_spec p d G sp sn sc names hs hn) [0, 1] rfl rfl rfl rfl ?_
  rintro _ _ ⟨rfl, rfl⟩
  refine J.norm rfl ?_
  refine J.q rfl rfl (Q.not rfl) ?_
  refine J.nil ?_
  refine J.then_n ?_
  refine J.cond rfl (fun hc11 => ?_) (fun hc11 => ?_)
  ·
    first | replace hc11 := X.tt_dec hc11 | replace hc11 := X.tt_not hc11 | replace hc11 := X.ff_dec hc11 | replace hc11 := X.ff_not hc11 | skip
    refine J.seq ?_
    refine J.region ?_
    refine J.q rfl rfl (Q.asg rfl) ?_
    refine J.nil ?_
    refine J.then_n ?_
    refine J.cret ?_
    refine J.then_r ?_
    have hno : d.hasAll names = false := by simpa [DM.hasAll] using hc11
    have hap : d.delete names = (4, d) := by unfold DM.delete; rw [hno]; rfl
    refine J.ret1 (B := [DiskAt p d, G]) rfl rfl ⟨by rw [hap], by rw [hap]⟩ rfl
  ·
    first | replace hc11 := X.tt_dec hc11 | replace hc11 := X.tt_not hc11 | replace hc11 := X.ff_dec hc11 | replace hc11 := X.ff_not hc11 | skip
    refine J.cskip ?_
    refine J.then_n ?_
    refine J.seq ?_
    refine J.seq ?_
    refine J.region ?_
    refine J.q rfl rfl (Q.mv rfl) ?_
    refine J.q rfl rfl (Q.lenSl Try.runUnderlying28 rfl) ?_
    refine J.q rfl rfl (Q.mv rfl) ?_
    refine J.nil ?_
    refine J.then_n ?_
    refine J.block ?_
    have hall : d.hasAll names = true := by
      cases h : d.hasAll names with
      | true => rfl
      | false => unfold DM.hasAll at h; rw [h] at hc11; cases hc11
    have hlen : names.length = sn := by have := hs.len; simpa using this
    refine J.loop (fun k : Nat => k ≤ sn) (fun k => sn - k) (fun k => [(0, .pointer (some ⟨p, 0, none⟩)), (12, .slice sp sn sc), (13, .int .i64 sn), (14, .int .i64 k)]) (fun k => [DiskAt p { d with files := fdels (names.take k) d.files }, G, F]) 0 (by omega) ⟨rfl, rfl, rfl, rfl, trivial⟩ rfl fun k hk => ?_
    refine J.seq ?_
    refine J.region ?_
    refine J.q rfl rfl (Q.lss rfl rfl) ?_
    refine J.nil ?_
    refine J.then_n ?_
    refine J.seq ?_
    refine J.cond rfl (fun hc15 => ?_) (fun hc15 => ?_)
    ·
      first | replace hc15 := X.tt_dec hc15 | replace hc15 := X.tt_not hc15 | replace hc15 := X.ff_dec hc15 | replace hc15 := X.ff_not hc15 | skip
      refine J.cskip ?_
      refine J.then_n ?_
      refine J.seq ?_
      refine J.block ?_
      refine J.seq ?_
      refine J.region ?_
      obtain ⟨b, off, rfl, hrd⟩ := hs.some_ (by omega)
      obtain ⟨nm, hnm⟩ : ∃ nm, names[k]? = some nm := ⟨_, List.getElem?_eq_getElem (by omega)⟩
      refine J.q rfl rfl (Q.ia Try.runUnderlying28 Try.sizeOf9 rfl rfl (by omega) (by omega)) ?_
      refine J.q rfl rfl (Q.ld Try.isAgg9 rfl (((hrd k (.string nm) (by simp [hnm])).within (i := 1) rfl).cast (by simp))) ?_
      refine J.q rfl rfl (Q.asg rfl) ?_
      refine J.nil ?_
      refine J.then_n ?_
      refine J.seq ?_
      refine J.region ?_
      refine J.open_ 0 rfl rfl DiskAt.open_ fun x hx => ?_
      refine J.norm rfl ?_
      obtain ⟨o, ho, hlk⟩ := look' nm x.fs
      have hus := lenSum_fdels_le (names.take k) d.files
      have hu := hd.used
      have hsz := hd.size
      have hdu : d.used = lenSum d.files := rfl
      refine J.q rfl rfl (Q.mv rfl) ?_
      refine J.q rfl rfl (Q.nil_ rfl) ?_
      refine J.q rfl rfl (Q.fa (n := 3) Try.runUnderlying67 rfl rfl Try.sizeOf65 rfl) ?_
      refine J.q rfl rfl (Q.ld Try.isAgg65 rfl (by first | exact Reads.pt 0 rfl rfl | exact Reads.pt 1 rfl rfl | exact Reads.pt 2 rfl rfl | exact Reads.pt 3 rfl rfl | exact Reads.pt 4 rfl rfl | exact Reads.pt 5 rfl rfl | exact Reads.pt 6 rfl rfl | exact Reads.pt 7 rfl rfl)) ?_
      refine J.q rfl rfl (Q.mv rfl) ?_
      refine J.q rfl rfl (Q.lk (i := 1) Try.runUnderlying65 Try.runUnderlying9 Try.zeroValue69 rfl rfl rfl ho) ?_
      refine J.q rfl rfl (Q.asg rfl) ?_
      refine J.nil ?_
      refine J.then_n ?_
      refine J.seq ?_
      refine J.region ?_
      refine J.q rfl rfl (Q.mv rfl) ?_
      refine J.q rfl rfl (Q.neqp Try.runUnderlying69 rfl rfl) ?_
      refine J.nil ?_
      refine J.then_n ?_
      refine J.cond rfl (fun hc25 => ?_) (fun hc25 => ?_)
      ·
        first | replace hc25 := X.tt_dec hc25 | replace hc25 := X.tt_not hc25 | replace hc25 := X.ff_dec hc25 | replace hc25 := X.ff_not hc25 | skip
        obtain ⟨i, y, rfl, hl⟩ := look_some hlk (by simpa using hc25)
        refine J.seq ?_
        have hg : fget nm (fdels (names.take k) d.files) = some y.f := by have := hl.fget; rwa [hx.files] at this
        have hsub := lenSum_fdel hg
        have hdk : ({ d with files := fdels (names.take k) d.files } : DM).used = lenSum (fdels (names.take k) d.files) := rfl
        refine J.focus 2 i rfl hl.at_ ?_
        refine J.conv (Y := star y.asns) 0 rfl (fun _ h => h) ?_
        refine J.unpack 0 rfl rfl ?_
        refine J.draw [12] Try.mixed (by kernel_rfl) fun hR => ?_
        refine RG.q 0 hR rfl rfl rfl rfl rfl rfl (Q.mv rfl) ?_
        refine RG.q 1 hR rfl rfl rfl rfl rfl rfl (Q.nil_ rfl) ?_
        refine RG.q 2 hR rfl rfl rfl rfl rfl rfl (Q.fa (n := 1) Try.runUnderlying67 rfl rfl Try.sizeOf3 rfl) ?_
        refine RG.q 3 hR rfl rfl rfl rfl rfl rfl (Q.ld Try.isAgg3 rfl (by first | exact Reads.pt 0 rfl rfl | exact Reads.pt 1 rfl rfl | exact Reads.pt 2 rfl rfl | exact Reads.pt 3 rfl rfl | exact Reads.pt 4 rfl rfl | exact Reads.pt 5 rfl rfl | exact Reads.pt 6 rfl rfl | exact Reads.pt 7 rfl rfl)) ?_
        refine RG.q 4 hR rfl rfl rfl rfl rfl rfl (Q.mv rfl) ?_
        refine RG.q 5 hR rfl rfl rfl rfl rfl rfl (Q.nil_ rfl) ?_
        refine RG.q 6 hR rfl rfl rfl rfl rfl rfl (Q.fa (n := 0) Try.runUnderlying71 rfl rfl Try.sizeOf30 rfl) ?_
        refine RG.q 7 hR rfl rfl rfl rfl rfl rfl (Q.ld Try.isAgg30 rfl (by first | exact Reads.pt 0 rfl rfl | exact Reads.pt 1 rfl rfl | exact Reads.pt 2 rfl rfl | exact Reads.pt 3 rfl rfl | exact Reads.pt 4 rfl rfl | exact Reads.pt 5 rfl rfl | exact Reads.pt 6 rfl rfl | exact Reads.pt 7 rfl rfl)) ?_
        refine RG.q 8 hR rfl rfl rfl rfl rfl rfl (Q.lenSl Try.runUnderlying30 rfl) ?_
        refine RG.q 9 hR rfl rfl rfl rfl rfl rfl (Q.sub64 rfl rfl (by omega)) ?_
        refine RG.q 10 hR rfl rfl rfl rfl rfl rfl (Q.nil_ rfl) ?_
        refine RG.q 11 hR rfl rfl rfl rfl rfl rfl (Q.fa (n := 1) Try.runUnderlying67 rfl rfl Try.sizeOf3 rfl) ?_
        first | refine RG.st 12 (j := 0) hR rfl rfl rfl rfl rfl Try.sizeOf3 rfl rfl rfl rfl rfl rfl rfl ?_ | refine RG.st 12 (j := 1) hR rfl rfl rfl rfl rfl Try.sizeOf3 rfl rfl rfl rfl rfl rfl rfl ?_ | refine RG.st 12 (j := 2) hR rfl rfl rfl rfl rfl Try.sizeOf3 rfl rfl rfl rfl rfl rfl rfl ?_ | refine RG.st 12 (j := 3) hR rfl rfl rfl rfl rfl Try.sizeOf3 rfl rfl rfl rfl rfl rfl rfl ?_ | refine RG.st 12 (j := 4) hR rfl rfl rfl rfl rfl Try.sizeOf3 rfl rfl rfl rfl rfl rfl rfl ?_ | refine RG.st 12 (j := 5) hR rfl rfl rfl rfl rfl Try.sizeOf3 rfl rfl rfl rfl rfl rfl rfl ?_
        refine RG.fin hR rfl ?_
        refine J.norm rfl ?_
        refine J.then_n ?_
        refine J.region ?_
        refine J.q rfl rfl (Q.mv rfl) ?_
        refine J.q rfl rfl (Q.nil_ rfl) ?_
        refine J.q rfl rfl (Q.fa (n := 3) Try.runUnderlying67 rfl rfl Try.sizeOf65 rfl) ?_
        refine J.q rfl rfl (Q.ld Try.isAgg65 rfl (by first | exact Reads.pt 0 rfl rfl | exact Reads.pt 1 rfl rfl | exact Reads.pt 2 rfl rfl | exact Reads.pt 3 rfl rfl | exact Reads.pt 4 rfl rfl | exact Reads.pt 5 rfl rfl | exact Reads.pt 6 rfl rfl | exact Reads.pt 7 rfl rfl)) ?_
        refine J.q rfl rfl (Q.mv rfl) ?_
        refine J.c0 rfl (C.mdel (i := 4) Try.runUnderlying65 Try.runUnderlying9 rfl rfl) ?_
        rintro _ _ ⟨rfl, rfl⟩
        refine J.norm rfl ?_
        refine J.nil ?_
        refine J.blk_n ?_
        refine J.then_n ?_
        refine J.region ?_
        refine J.q rfl rfl (Q.add64 rfl rfl (by omega)) ?_
        refine J.q rfl rfl (Q.mv rfl) ?_
        refine J.nil ?_
        obtain ⟨hok, hme⟩ := DW.del hx hl
        refine J.keep [3, 4, 2, 5, 6] rfl ?_
        refine J.shut [0, 1, 2] (DiskAt p { d with files := fdels (names.take (k + 1)) d.files }) rfl (fun h s => ⟨⟨x.r, x.c, x.fs.eraseIdx i⟩, by rw [fdels_take hnm]; exact hok, by
          unfold DW.asns
          rw [← hme]
          have hz : (({ d with files := fdels (names.take k) d.files } : DM).used : Int) - y.f.bs.length = ((({ d with files := fdels (names.take (k + 1)) d.files } : DM).used : Nat) : Int) := by
            unfold DM.used; rw [fdels_take hnm]; simp only; omega
          rw [hz] at s
          exact s⟩) ?_
        refine J.again (k + 1) (by omega) (by omega) ⟨rfl, rfl, rfl, rfl, trivial⟩ rfl
      ·
        first | replace hc25 := X.tt_dec hc25 | replace hc25 := X.tt_not hc25 | replace hc25 := X.ff_dec hc25 | replace hc25 := X.ff_not hc25 | skip
        obtain ⟨rfl, hl⟩ := look_none hlk (by simpa using hc25)
        refine J.cskip ?_
        refine J.blk_n ?_
        refine J.then_n ?_
        refine J.region ?_
        refine J.q rfl rfl (Q.add64 rfl rfl (by omega)) ?_
        refine J.q rfl rfl (Q.mv rfl) ?_
        refine J.nil ?_
        have hg : fget nm (fdels (names.take k) d.files) = none := by have := hl.fget; rwa [hx.files] at this
        have hfd : fdels (names.take (k + 1)) d.files = fdels (names.take k) d.files := by rw [fdels_take hnm, fdel_none hg]
        refine J.shut [0, 1, 2] (DiskAt p { d with files := fdels (names.take k) d.files }) rfl (fun h s => ⟨x, hx, s⟩) ?_
        refine J.again (k + 1) (by omega) (by omega) ⟨rfl, rfl, rfl, rfl, trivial⟩ ?_
        rw [hfd]
    ·
      first | replace hc15 := X.tt_dec hc15 | replace hc15 := X.tt_not hc15 | replace hc15 := X.ff_dec hc15 | replace hc15 := X.ff_not hc15 | skip
      refine J.exit ?_
      refine J.then_x ?_
      refine J.lp_x ?_
      refine J.blk_x ?_
      refine J.then_n ?_
      refine J.seq ?_
      refine J.region ?_
      refine J.q rfl rfl (Q.asg rfl) ?_
      refine J.nil ?_
      refine J.then_n ?_
      refine J.cret ?_
      have hkn : k = sn := by omega
      have hap : d.delete names = (0, { d with files := fdels (names.take k) d.files }) := by unfold DM.delete; rw [hall, List.take_of_length_le (by omega)]; rfl
      refine J.ret1 (B := [DiskAt p { d with files := fdels (names.take k) d.files }, G]) rfl rfl ⟨by rw [hap], by rw [hap]⟩ rfl

end Go.Proofs.Ytkekcdcmmggbaaa
