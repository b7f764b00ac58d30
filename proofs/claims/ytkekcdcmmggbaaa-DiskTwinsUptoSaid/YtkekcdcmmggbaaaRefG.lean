/-
  The document's disk in memory, whole: append, rename.
-/
import Derived.Test.YtkekcdcmmggbaaaRefF
namespace Go.Proofs.Ytkekcdcmmggbaaa
open Go.X

def DM.rappend (d : DM) (n : ByteArray) (bs : List UInt8) : Int × DM :=
  if nameOK n.data.toList = false then (1, d) else if d.size < d.used + bs.length then (5, d) else (0, { d with files := rins ⟨n, bytesOf n d.files ++ bs, syOf n d.files⟩ d.files })
def DM.rrename (d : DM) (a b : ByteArray) : Int × DM :=
  match fget a d.files with
  | none => (4, d)
  | some f => if nameOK b.data.toList = false then (1, d) else if a = b then (0, d) else (0, { d with files := rins ⟨b, f.bs, f.sy⟩ (fdel a d.files) })

theorem RTab.size_at {q size born : Nat} {fs : List RFile} : ∀ k, RTab q size born fs k → ∃ c e z, k q = some (.cells c e z) ∧ c[0]? = some (.int .i64 size) := by
  rintro k ⟨z, h1, _, h2, _, _, hs, _⟩
  exact ⟨_, _, _, hs _ _ h2, rfl⟩

theorem star_rput {x : RFile} {fs : List RFile} : ∀ h, HSat h [x.asn, star (fs.map RFile.asn)] → star ((rput x fs).map RFile.asn) h := by
  intro h s
  unfold rput; split
  · exact star_set1 _ x h s
  · exact star_ins1 _ x h s

theorem of_fget {n : ByteArray} {l : List FM} {f : FM} (h : fget n l = some f) : f = ⟨n, bytesOf n l, syOf n l⟩ := by
  have := fget_name h
  unfold bytesOf syOf; rw [h]; cases f; cases this; rfl
theorem of_fget_none {n : ByteArray} {l : List FM} (h : fget n l = none) : (⟨n, [], 0⟩ : FM) = ⟨n, bytesOf n l, syOf n l⟩ := by
  unfold bytesOf syOf; rw [h]
theorem bytesOf_le (n : ByteArray) (l : List FM) : (bytesOf n l).length ≤ lenSum l := by
  unfold bytesOf; split
  · rename_i f hf; exact lenSum_mem (fget_mem hf)
  · exact Nat.zero_le _

theorem rappend_spec (q : Nat) (r : DM) (hr : RWf r) (n : ByteArray) (hnm : n.size ≤ 140737488355328) (G : Assn) (bp : Option Addr) (bc : Nat) (bs : List UInt8) (hb : SlR [G] 1 (.slice bp bs.length bc) (bytesV bs)) :
    FSpec Try.prog 35 [.pointer (some ⟨q, 0, none⟩), .string n, .slice bp bs.length bc] [RefAt q r, G] (fun v B => v = .int .i64 (r.rappend n bs).1 ∧ B = [RefAt q (r.rappend n bs).2, G]) := by
  refine FSpec.of Try.func35 rfl Try.ntmps35 rfl fun W0 F => ?_
  refine J.seq ?_
  refine J.region ?_
  refine J.q rfl rfl (Q.asg rfl) ?_
  refine J.nil ?_
  refine J.then_n ?_
  refine J.seq ?_
  refine J.seq ?_
  refine J.region ?_
  refine J.q rfl rfl (Q.mv rfl) ?_
  refine J.call Try.call31 (rname_spec n hnm) [] rfl rfl rfl rfl ?_
  rintro _ _ ⟨rfl, rfl⟩
  refine J.norm rfl ?_
  refine J.q rfl rfl (Q.not rfl) ?_
  refine J.nil ?_
  refine J.then_n ?_
  refine J.cond rfl (fun hc12 => ?_) (fun hc12 => ?_)
  ·
    first | replace hc12 := X.tt_dec hc12 | replace hc12 := X.tt_not hc12 | replace hc12 := X.ff_dec hc12 | replace hc12 := X.ff_not hc12 | skip
    refine J.seq ?_
    refine J.region ?_
    refine J.q rfl rfl (Q.asg rfl) ?_
    refine J.nil ?_
    refine J.then_n ?_
    refine J.cret ?_
    refine J.then_r ?_
    have e : r.rappend n bs = (1, r) := by unfold DM.rappend; exact if_pos (by simpa using hc12)
    rw [e]
    refine J.ret1 (B := [RefAt q r, G]) rfl rfl ⟨rfl, rfl⟩ rfl
  ·
    first | replace hc12 := X.tt_dec hc12 | replace hc12 := X.tt_not hc12 | replace hc12 := X.ff_dec hc12 | replace hc12 := X.ff_not hc12 | skip
    refine J.cskip ?_
    refine J.then_n ?_
    refine J.seq ?_
    refine J.seq ?_
    have hnok : nameOK n.data.toList = true := by simpa using hc12
    have hsz := hr.wf.size
    have hus := hr.wf.used
    unfold DM.used at hus
    refine J.open_ 0 rfl rfl (fun _ h => h) fun fs hfs => ?_
    refine J.norm rfl ?_
    have hlen : fs.length = r.files.length := by rw [← hfs, List.length_map]
    have hsum : lenSum (fms fs) = lenSum r.files := by rw [hfs]
    refine J.draw [7] Try.mixed (by kernel_rfl) fun hR => ?_
    refine RG.q 0 hR rfl rfl rfl rfl rfl rfl (Q.mv rfl) ?_
    refine RG.q 1 hR rfl rfl rfl rfl rfl rfl (Q.lenSl Try.runUnderlying30 rfl) ?_
    refine RG.q 2 hR rfl rfl rfl rfl rfl rfl (Q.mv rfl) ?_
    refine RG.q 3 hR rfl rfl rfl rfl rfl rfl (Q.nil_ rfl) ?_
    refine RG.q 4 hR rfl rfl rfl rfl rfl rfl (Q.fa (n := 0) Try.runUnderlying56 rfl rfl Try.sizeOf3 rfl) ?_
    refine RG.q 5 hR rfl rfl rfl rfl rfl rfl (Q.ld Try.isAgg3 rfl (Reads.by_ 0 rfl RTab.size_at)) ?_
    refine RG.q 6 hR rfl rfl rfl rfl rfl rfl (Q.mv rfl) ?_
    refine RG.callk 7 hR rfl rfl rfl rfl rfl Try.call47 (rused_spec q r.size r.born fs (by have := hr.len; omega) (by omega)) [0] rfl rfl ?_
    rintro _ _ ⟨rfl, rfl⟩
    refine ⟨_, X.pick_perm (is := [0, 1, 2, 3]) rfl, ?_⟩
    rw [hsum]
    refine RG.q 8 hR rfl rfl rfl rfl rfl rfl (Q.sub64 rfl rfl (by omega)) ?_
    refine RG.q 9 hR rfl rfl rfl rfl rfl rfl (Q.gtr rfl rfl) ?_
    refine RG.fin hR rfl ?_
    refine J.norm rfl ?_
    refine J.then_n ?_
    refine J.cond rfl (fun hc22 => ?_) (fun hc22 => ?_)
    ·
      first | replace hc22 := X.tt_dec hc22 | replace hc22 := X.tt_not hc22 | replace hc22 := X.ff_dec hc22 | replace hc22 := X.ff_not hc22 | skip
      refine J.seq ?_
      refine J.region ?_
      refine J.q rfl rfl (Q.asg rfl) ?_
      refine J.nil ?_
      refine J.then_n ?_
      refine J.cret ?_
      refine J.then_r ?_
      have e : r.rappend n bs = (5, r) := by unfold DM.rappend; rw [if_neg (by rw [hnok]; exact fun e => by cases e)]; exact if_pos (by unfold DM.used; omega)
      rw [e]
      refine J.shut [0, 1] (RefAt q r) rfl (fun h s => ⟨fs, hfs, s⟩) ?_
      refine J.ret1 (B := [RefAt q r, G]) rfl rfl ⟨rfl, rfl⟩ rfl
    ·
      first | replace hc22 := X.tt_dec hc22 | replace hc22 := X.tt_not hc22 | replace hc22 := X.ff_dec hc22 | replace hc22 := X.ff_not hc22 | skip
      refine J.cskip ?_
      refine J.then_n ?_
      refine J.seq ?_
      refine J.region ?_
      refine J.q rfl rfl (Q.mv rfl) ?_
      refine J.q rfl rfl (Q.mv rfl) ?_
      refine J.call Try.call49 (find_spec q r.size r.born fs (by have := hr.len; omega) n) [0] rfl rfl rfl rfl ?_
      rintro _ _ ⟨rfl, rfl⟩
      refine J.norm rfl ?_
      refine J.q rfl rfl (Q.mv rfl) ?_
      refine J.q rfl rfl (Q.ext rfl rfl) ?_
      refine J.q rfl rfl (Q.ext rfl rfl) ?_
      refine J.q rfl rfl (Q.asg rfl) ?_
      refine J.q rfl rfl (Q.asg rfl) ?_
      refine J.nil ?_
      refine J.then_n ?_
      refine J.seq ?_
      refine J.region ?_
      refine J.q rfl rfl (Q.mv rfl) ?_
      refine J.q rfl rfl (Q.bld (l := [_, _, _]) Try.runUnderlying82 Try.zeroValue82 Try.places82 rfl rfl) ?_
      refine J.c rfl rfl (C.alloc (l := [_, _, _]) Try.zeroValue82 rfl) ?_
      rintro _ _ ⟨b9, rfl, rfl⟩
      refine J.norm rfl ?_
      refine J.c0 rfl (C.stA (i := 0) (vs := [.string n, .slice none 0 0, .int .i64 0]) Try.sizeOf82 rfl rfl rfl rfl rfl rfl) ?_
      rintro _ _ ⟨rfl, rfl⟩
      refine J.nil ?_
      refine J.then_n ?_
      refine J.cut (fun y : RFile => y.f = ⟨n, bytesOf n r.files, syOf n r.files⟩ ∧ SlR [star (fs.map RFile.asn)] 1 (.slice y.sp y.f.bs.length y.sc) (bytesV y.f.bs)) (fun _ => [(0, .pointer (some ⟨q, 0, none⟩)), (1, .string n), (2, .slice bp bs.length bc), (9, .pointer (some ⟨b9, 0, none⟩))])
        (fun y => [pt b9 (.cells y.cells.toArray 82 (0, 0)), RTab q r.size r.born fs, star (fs.map RFile.asn), G, F]) ?_ fun y hy => ?_
      ·
        refine J.seq ?_
        refine J.region ?_
        refine J.q rfl rfl (Q.mv rfl) ?_
        refine J.nil ?_
        refine J.then_n ?_
        refine J.cond rfl (fun hc31 => ?_) (fun hc31 => ?_)
        ·
          first | replace hc31 := X.tt_dec hc31 | replace hc31 := X.tt_not hc31 | replace hc31 := X.ff_dec hc31 | replace hc31 := X.ff_not hc31 | skip
          refine J.open1 1 rfl (fun _ h => h) fun z => ?_
          refine J.norm rfl ?_
          obtain ⟨p, c⟩ := z
          refine J.slr1 1 rfl fun hsl => ?_
          refine J.tells 1 rfl own.len fun hlc => ?_
          obtain ⟨_, hlc⟩ := hlc
          have hlc' : fs.length ≤ c := hlc
          dsimp only at hsl
          have hlt := isAt_lt (by simpa using hc31)
          simp only [List.length_map] at hlt
          obtain ⟨b, off, rfl, hrd⟩ := hsl.some_ (by omega)
          obtain ⟨x, hx⟩ : ∃ x, fs[place n (fms fs)]? = some x := ⟨_, List.getElem?_eq_getElem (by omega)⟩
          have hxf : fget n r.files = some x.f := by rw [← hfs]; exact get_at (by rw [hfs]; exact hr.srt) (by simpa using hc31) (by rw [List.getElem?_map, hx]; rfl)
          refine J.region ?_
          refine J.q rfl rfl (Q.mv rfl) ?_
          refine J.q rfl rfl (Q.nil_ rfl) ?_
          refine J.q rfl rfl (Q.fa (n := 1) Try.runUnderlying56 rfl rfl Try.sizeOf54 rfl) ?_
          refine J.q rfl rfl (Q.ld Try.isAgg54 rfl (by first | exact Reads.pt 0 rfl rfl | exact Reads.pt 1 rfl rfl | exact Reads.pt 2 rfl rfl | exact Reads.pt 3 rfl rfl | exact Reads.pt 4 rfl rfl | exact Reads.pt 5 rfl rfl | exact Reads.pt 6 rfl rfl | exact Reads.pt 7 rfl rfl)) ?_
          refine J.q rfl rfl (Q.mv rfl) ?_
          refine J.q rfl rfl (Q.ia Try.runUnderlying54 Try.sizeOf82 rfl rfl (by omega) (by omega)) ?_
          refine J.q rfl rfl (Q.ldN (vs := [_, _, _]) Try.isAgg82 Try.sizeOf82 rfl ((rd_elem RFile.cells_length hrd hx (by simp)).within (i := 1) rfl)) ?_
          refine J.c0 rfl (C.stA (i := 2) (vs := x.cells) Try.sizeOf82 rfl rfl rfl rfl rfl rfl) ?_
          rintro _ _ ⟨rfl, rfl⟩
          refine J.nil ?_
          refine J.shut [0, 1] (RTab q r.size r.born fs) rfl (fun h s => ⟨(some ⟨b, off, none⟩, c), s⟩) ?_
          refine J.pick [1, 0, 2, 3, 4] rfl ?_
          refine J.norm rfl ?_
          refine J.slrStar 2 (place n (fms fs)) rfl hx rfl fun hys => ?_
          refine J.meet x ⟨of_fget hxf, hys⟩ ⟨rfl, rfl, rfl, rfl, trivial⟩ rfl
        ·
          first | replace hc31 := X.tt_dec hc31 | replace hc31 := X.tt_not hc31 | replace hc31 := X.ff_dec hc31 | replace hc31 := X.ff_not hc31 | skip
          refine J.cskip ?_
          have hno := get_not (n := n) (l := fms fs) (by rw [hfs]; exact hr.srt) (by simpa using hc31)
          rw [hfs] at hno
          refine J.meet ⟨⟨n, [], 0⟩, none, 0⟩ ⟨of_fget_none hno, .inl ⟨none, 0, rfl, rfl⟩⟩ ⟨rfl, rfl, rfl, rfl, trivial⟩ rfl
      ·
        obtain ⟨yf, ysp, ysc⟩ := y
        obtain ⟨hyf, hys⟩ := hy
        dsimp only at hyf hys
        subst hyf
        have hbl2 := bytesOf_le n r.files
        have hroom : lenSum r.files + bs.length ≤ r.size := by omega
        refine J.seq ?_
        refine J.region ?_
        refine J.c rfl rfl (C.bslG (l := []) Try.runUnderlying30 Try.sizeOf5 Try.zeroValue5 (by decide) rfl rfl rfl rfl rfl) ?_
        rintro _ _ ⟨b39, rfl, rfl⟩
        refine J.norm rfl ?_
        refine J.q rfl rfl (Q.fa (n := 1) Try.runUnderlying82 rfl rfl Try.sizeOf30 rfl) ?_
        refine J.q rfl rfl (Q.ld Try.isAgg30 rfl (by first | exact Reads.pt 0 rfl rfl | exact Reads.pt 1 rfl rfl | exact Reads.pt 2 rfl rfl | exact Reads.pt 3 rfl rfl | exact Reads.pt 4 rfl rfl | exact Reads.pt 5 rfl rfl | exact Reads.pt 6 rfl rfl | exact Reads.pt 7 rfl rfl)) ?_
        refine J.conv 0 rfl (own_of_zero (sz := 1)) ?_
        refine J.c rfl rfl (C.app (i := 0) Try.runUnderlying30 Try.runUnderlying30 Try.typeInfo5 Try.sizeOf5 Try.zeroValue5 rfl rfl rfl (hys.within (i := 3) rfl) (bytesV_one _) (by simp [Try.t5] <;> omega) (by decide)) ?_
        rintro _ _ ⟨p42, c42, rfl, rfl⟩
        refine J.norm rfl ?_
        refine J.q rfl rfl (Q.mv rfl) ?_
        refine J.c rfl rfl (C.app (i := 0) Try.runUnderlying30 Try.runUnderlying30 Try.typeInfo5 Try.sizeOf5 Try.zeroValue5 rfl rfl rfl (hb.within (i := 4) rfl) (bytesV_one _) (by simp [Try.t5] <;> omega) (by decide)) ?_
        rintro _ _ ⟨p44, c44, rfl, rfl⟩
        refine J.norm rfl ?_
        rw [show 0 + (bytesOf n r.files).length + bs.length = (bytesOf n r.files ++ bs).length from by simp, show [] ++ bytesV (bytesOf n r.files) ++ bytesV bs = bytesV (bytesOf n r.files ++ bs) from by simp [bytesV]]
        refine J.q rfl rfl (Q.fa (n := 1) Try.runUnderlying82 rfl rfl Try.sizeOf30 rfl) ?_
        first | refine J.st (i := 0) rfl Try.sizeOf30 rfl rfl rfl rfl rfl rfl rfl ?_ | refine J.st (i := 1) rfl Try.sizeOf30 rfl rfl rfl rfl rfl rfl rfl ?_ | refine J.st (i := 2) rfl Try.sizeOf30 rfl rfl rfl rfl rfl rfl rfl ?_ | refine J.st (i := 3) rfl Try.sizeOf30 rfl rfl rfl rfl rfl rfl rfl ?_ | refine J.st (i := 4) rfl Try.sizeOf30 rfl rfl rfl rfl rfl rfl rfl ?_ | refine J.st (i := 5) rfl Try.sizeOf30 rfl rfl rfl rfl rfl rfl rfl ?_
        refine J.nil ?_
        refine J.then_n ?_
        refine J.seq ?_
        refine J.region ?_
        refine J.q rfl rfl (Q.mv rfl) ?_
        refine J.q rfl rfl (Q.ldN (vs := [_, _, _]) Try.isAgg82 Try.sizeOf82 rfl (fun j u h => Reads.pt 1 rfl (by rw [Nat.zero_add]; exact h))) ?_
        refine J.call Try.call51 (put_spec q r.size r.born fs (by have := hr.len; omega) ⟨⟨n, bytesOf n r.files ++ bs, syOf n r.files⟩, p44, c44⟩) [2] rfl rfl rfl rfl ?_
        rintro _ _ ⟨rfl, rfl⟩
        refine J.norm rfl ?_
        refine J.nil ?_
        refine J.then_n ?_
        refine J.seq ?_
        refine J.region ?_
        refine J.q rfl rfl (Q.asg rfl) ?_
        refine J.nil ?_
        refine J.then_n ?_
        refine J.cret ?_
        have hsrt : Srt (fms fs) := by rw [hfs]; exact hr.srt
        have e : r.rappend n bs = (0, { r with files := rins ⟨n, bytesOf n r.files ++ bs, syOf n r.files⟩ r.files }) := by
          unfold DM.rappend; rw [if_neg (by rw [hnok]; exact fun e => by cases e)]; exact if_neg (by unfold DM.used; omega)
        rw [e]
        refine J.shut [1, 3] (star ((rput ⟨⟨n, bytesOf n r.files ++ bs, syOf n r.files⟩, p44, c44⟩ fs).map RFile.asn)) rfl (star_rput (x := ⟨⟨n, bytesOf n r.files ++ bs, syOf n r.files⟩, p44, c44⟩)) ?_
        refine J.shut [1, 0] (RefAt q { r with files := rins ⟨n, bytesOf n r.files ++ bs, syOf n r.files⟩ r.files }) rfl (fun h s => ⟨rput ⟨⟨n, bytesOf n r.files ++ bs, syOf n r.files⟩, p44, c44⟩ fs, by rw [fms_rput hsrt, hfs], s⟩) ?_
        refine J.keep [0, 2, 3] rfl ?_
        refine J.ret1 (B := [RefAt q { r with files := rins ⟨n, bytesOf n r.files ++ bs, syOf n r.files⟩ r.files }, G]) rfl rfl ⟨rfl, rfl⟩ rfl

theorem rrename_spec (q : Nat) (r : DM) (hr : RWf r) (a b : ByteArray) (hb : b.size ≤ 140737488355328) :
    FSpec Try.prog 37 [.pointer (some ⟨q, 0, none⟩), .string a, .string b] [RefAt q r] (fun v B => v = .int .i64 (r.rrename a b).1 ∧ B = [RefAt q (r.rrename a b).2]) := by
  refine FSpec.of Try.func37 rfl Try.ntmps37 rfl fun W0 F => ?_
  refine J.seq ?_
  refine J.region ?_
  refine J.q rfl rfl (Q.asg rfl) ?_
  refine J.nil ?_
  refine J.then_n ?_
  refine J.seq ?_
  refine J.open_ 0 rfl rfl (fun _ h => h) fun fs hfs => ?_
  refine J.norm rfl ?_
  have hlen : fs.length = r.files.length := by rw [← hfs, List.length_map]
  refine J.region ?_
  refine J.q rfl rfl (Q.mv rfl) ?_
  refine J.q rfl rfl (Q.mv rfl) ?_
  refine J.call Try.call49 (find_spec q r.size r.born fs (by have := hr.len; omega) a) [0] rfl rfl rfl rfl ?_
  rintro _ _ ⟨rfl, rfl⟩
  refine J.norm rfl ?_
  refine J.q rfl rfl (Q.mv rfl) ?_
  refine J.q rfl rfl (Q.ext rfl rfl) ?_
  refine J.q rfl rfl (Q.ext rfl rfl) ?_
  refine J.q rfl rfl (Q.asg rfl) ?_
  refine J.q rfl rfl (Q.asg rfl) ?_
  refine J.nil ?_
  refine J.then_n ?_
  refine J.seq ?_
  refine J.seq ?_
  refine J.region ?_
  refine J.q rfl rfl (Q.mv rfl) ?_
  refine J.q rfl rfl (Q.not rfl) ?_
  refine J.nil ?_
  refine J.then_n ?_
  refine J.cond rfl (fun hc17 => ?_) (fun hc17 => ?_)
  ·
    first | replace hc17 := X.tt_dec hc17 | replace hc17 := X.tt_not hc17 | replace hc17 := X.ff_dec hc17 | replace hc17 := X.ff_not hc17 | skip
    refine J.seq ?_
    refine J.region ?_
    refine J.q rfl rfl (Q.asg rfl) ?_
    refine J.nil ?_
    refine J.then_n ?_
    refine J.cret ?_
    refine J.then_r ?_
    have hno := get_not (n := a) (l := fms fs) (by rw [hfs]; exact hr.srt) (by simpa using hc17)
    rw [hfs] at hno
    have e : r.rrename a b = (4, r) := by unfold DM.rrename; rw [hno]
    rw [e]
    refine J.shut [0, 1] (RefAt q r) rfl (fun h s => ⟨fs, hfs, s⟩) ?_
    refine J.ret1 (B := [RefAt q r]) rfl rfl ⟨rfl, rfl⟩ rfl
  ·
    first | replace hc17 := X.tt_dec hc17 | replace hc17 := X.tt_not hc17 | replace hc17 := X.ff_dec hc17 | replace hc17 := X.ff_not hc17 | skip
    refine J.cskip ?_
    refine J.then_n ?_
    refine J.seq ?_
    refine J.seq ?_
    have hi : isAt a (fms fs) = true := by simpa using hc17
    have hlt := isAt_lt hi
    simp only [List.length_map] at hlt
    obtain ⟨x, hx⟩ : ∃ x, fs[place a (fms fs)]? = some x := ⟨_, List.getElem?_eq_getElem (by omega)⟩
    have hxf : fget a r.files = some x.f := by rw [← hfs]; exact get_at (by rw [hfs]; exact hr.srt) hi (by rw [List.getElem?_map, hx]; rfl)
    refine J.region ?_
    refine J.q rfl rfl (Q.mv rfl) ?_
    refine J.call Try.call31 (rname_spec b hb) [] rfl rfl rfl rfl ?_
    rintro _ _ ⟨rfl, rfl⟩
    refine J.norm rfl ?_
    refine J.q rfl rfl (Q.not rfl) ?_
    refine J.nil ?_
    refine J.then_n ?_
    refine J.cond rfl (fun hc20 => ?_) (fun hc20 => ?_)
    ·
      first | replace hc20 := X.tt_dec hc20 | replace hc20 := X.tt_not hc20 | replace hc20 := X.ff_dec hc20 | replace hc20 := X.ff_not hc20 | skip
      refine J.seq ?_
      refine J.region ?_
      refine J.q rfl rfl (Q.asg rfl) ?_
      refine J.nil ?_
      refine J.then_n ?_
      refine J.cret ?_
      refine J.then_r ?_
      have e : r.rrename a b = (1, r) := by unfold DM.rrename; rw [hxf]; exact if_pos (by simpa using hc20)
      rw [e]
      refine J.shut [0, 1] (RefAt q r) rfl (fun h s => ⟨fs, hfs, s⟩) ?_
      refine J.ret1 (B := [RefAt q r]) rfl rfl ⟨rfl, rfl⟩ rfl
    ·
      first | replace hc20 := X.tt_dec hc20 | replace hc20 := X.tt_not hc20 | replace hc20 := X.ff_dec hc20 | replace hc20 := X.ff_not hc20 | skip
      refine J.cskip ?_
      refine J.then_n ?_
      refine J.seq ?_
      refine J.seq ?_
      refine J.region ?_
      refine J.q rfl rfl (Q.mv rfl) ?_
      refine J.q rfl rfl (Q.mv rfl) ?_
      refine J.q rfl rfl (Q.eqls rfl rfl) ?_
      refine J.nil ?_
      refine J.then_n ?_
      refine J.cond rfl (fun hc23 => ?_) (fun hc23 => ?_)
      ·
        first | replace hc23 := X.tt_dec hc23 | replace hc23 := X.tt_not hc23 | replace hc23 := X.ff_dec hc23 | replace hc23 := X.ff_not hc23 | skip
        refine J.seq ?_
        refine J.region ?_
        refine J.q rfl rfl (Q.asg rfl) ?_
        refine J.nil ?_
        refine J.then_n ?_
        refine J.cret ?_
        refine J.then_r ?_
        have hab : a = b := ba_ext hc23
        have e : r.rrename a b = (0, r) := by unfold DM.rrename; rw [hxf]; exact (if_neg (by simpa using hc20)).trans (if_pos hab)
        rw [e]
        refine J.shut [0, 1] (RefAt q r) rfl (fun h s => ⟨fs, hfs, s⟩) ?_
        refine J.ret1 (B := [RefAt q r]) rfl rfl ⟨rfl, rfl⟩ rfl
      ·
        first | replace hc23 := X.tt_dec hc23 | replace hc23 := X.tt_not hc23 | replace hc23 := X.ff_dec hc23 | replace hc23 := X.ff_not hc23 | skip
        refine J.cskip ?_
        refine J.then_n ?_
        refine J.seq ?_
        have hab : a ≠ b := fun e => hc23 (by rw [e])
        refine J.open1 0 rfl (fun _ h => h) fun z => ?_
        refine J.norm rfl ?_
        obtain ⟨p, c⟩ := z
        refine J.slr1 1 rfl fun hsl => ?_
        refine J.tells 1 rfl own.len fun hlc => ?_
        obtain ⟨_, hlc⟩ := hlc
        have hlc' : fs.length ≤ c := hlc
        dsimp only at hsl
        obtain ⟨b0, off, rfl, hrd⟩ := hsl.some_ (by omega)
        refine J.region ?_
        refine J.q rfl rfl (Q.mv rfl) ?_
        refine J.q rfl rfl (Q.nil_ rfl) ?_
        refine J.q rfl rfl (Q.fa (n := 1) Try.runUnderlying56 rfl rfl Try.sizeOf54 rfl) ?_
        refine J.q rfl rfl (Q.ld Try.isAgg54 rfl (by first | exact Reads.pt 0 rfl rfl | exact Reads.pt 1 rfl rfl | exact Reads.pt 2 rfl rfl | exact Reads.pt 3 rfl rfl | exact Reads.pt 4 rfl rfl | exact Reads.pt 5 rfl rfl | exact Reads.pt 6 rfl rfl | exact Reads.pt 7 rfl rfl)) ?_
        refine J.q rfl rfl (Q.mv rfl) ?_
        refine J.q rfl rfl (Q.ia Try.runUnderlying54 Try.sizeOf82 rfl rfl (by omega) (by omega)) ?_
        refine J.q rfl rfl (Q.ldN (vs := [_, _, _]) Try.isAgg82 Try.sizeOf82 rfl ((rd_elem RFile.cells_length hrd hx (by simp)).within (i := 1) rfl)) ?_
        refine J.c rfl rfl (C.alloc (l := [_, _, _]) Try.zeroValue82 rfl) ?_
        rintro _ _ ⟨b9, rfl, rfl⟩
        refine J.norm rfl ?_
        refine J.c0 rfl (C.stA (i := 0) (vs := x.cells) Try.sizeOf82 rfl rfl rfl rfl rfl rfl) ?_
        rintro _ _ ⟨rfl, rfl⟩
        refine J.shut [1, 2] (RTab q r.size r.born fs) rfl (fun h s => ⟨(some ⟨b0, off, none⟩, c), s⟩) ?_
        refine J.focus 2 (place a (fms fs)) rfl hx ?_
        refine J.nil ?_
        refine J.then_n ?_
        refine J.seq ?_
        refine J.region ?_
        refine J.q rfl rfl (Q.mv rfl) ?_
        refine J.q rfl rfl (Q.mv rfl) ?_
        refine J.call Try.call53 (drop_spec q r.size r.born fs (by have := hr.len; omega) a) [2] rfl rfl rfl rfl ?_
        rintro _ _ ⟨rfl, rfl⟩
        refine J.norm rfl ?_
        refine J.nil ?_
        refine J.then_n ?_
        refine J.seq ?_
        refine J.region ?_
        refine J.q rfl rfl (Q.mv rfl) ?_
        refine J.q rfl rfl (Q.fa (n := 0) Try.runUnderlying82 rfl rfl Try.sizeOf9 rfl) ?_
        first | refine J.st (i := 0) rfl Try.sizeOf9 rfl rfl rfl rfl rfl rfl rfl ?_ | refine J.st (i := 1) rfl Try.sizeOf9 rfl rfl rfl rfl rfl rfl rfl ?_ | refine J.st (i := 2) rfl Try.sizeOf9 rfl rfl rfl rfl rfl rfl rfl ?_ | refine J.st (i := 3) rfl Try.sizeOf9 rfl rfl rfl rfl rfl rfl rfl ?_ | refine J.st (i := 4) rfl Try.sizeOf9 rfl rfl rfl rfl rfl rfl rfl ?_ | refine J.st (i := 5) rfl Try.sizeOf9 rfl rfl rfl rfl rfl rfl rfl ?_
        refine J.nil ?_
        refine J.then_n ?_
        refine J.seq ?_
        refine J.region ?_
        refine J.q rfl rfl (Q.mv rfl) ?_
        refine J.q rfl rfl (Q.ldN (vs := [_, _, _]) Try.isAgg82 Try.sizeOf82 rfl (fun j u h => Reads.pt 3 rfl (by rw [Nat.zero_add]; exact h))) ?_
        refine J.call Try.call51 (put_spec q r.size r.born (rdrop a fs) (by have := hr.len; have := rdrop_len a fs; omega) ⟨⟨b, x.f.bs, x.f.sy⟩, x.sp, x.sc⟩) [0] rfl rfl rfl rfl ?_
        rintro _ _ ⟨rfl, rfl⟩
        refine J.norm rfl ?_
        refine J.nil ?_
        refine J.then_n ?_
        refine J.seq ?_
        refine J.region ?_
        refine J.q rfl rfl (Q.asg rfl) ?_
        refine J.nil ?_
        refine J.then_n ?_
        refine J.cret ?_
        have hsrt : Srt (fms fs) := by rw [hfs]; exact hr.srt
        have hd : rdrop a fs = fs.eraseIdx (place a (fms fs)) := if_pos hi
        have hfd : fms (rdrop a fs) = fdel a r.files := by rw [fms_rdrop hsrt, hfs]
        have e : r.rrename a b = (0, { r with files := rins ⟨b, x.f.bs, x.f.sy⟩ (fdel a r.files) }) := by unfold DM.rrename; rw [hxf]; exact (if_neg (by simpa using hc20)).trans (if_neg hab)
        rw [e, ← hd]
        refine J.shut [1, 2] (star ((rput ⟨⟨b, x.f.bs, x.f.sy⟩, x.sp, x.sc⟩ (rdrop a fs)).map RFile.asn)) rfl (star_rput (x := ⟨⟨b, x.f.bs, x.f.sy⟩, x.sp, x.sc⟩)) ?_
        refine J.shut [1, 0] (RefAt q { r with files := rins ⟨b, x.f.bs, x.f.sy⟩ (fdel a r.files) }) rfl (fun h s => ⟨rput ⟨⟨b, x.f.bs, x.f.sy⟩, x.sp, x.sc⟩ (rdrop a fs), by rw [fms_rput (by rw [hfd]; exact srt_fdel hr.srt), hfd], s⟩) ?_
        refine J.keep [0, 2] rfl ?_
        refine J.ret1 (B := [RefAt q { r with files := rins ⟨b, x.f.bs, x.f.sy⟩ (fdel a r.files) }]) rfl rfl ⟨rfl, rfl⟩ rfl

end Go.Proofs.Ytkekcdcmmggbaaa
