/-
  The document's disk: what is dropped, what is there, what is read.
-/
import Derived.Test.YtkekcdcmmggbaaaRefB
namespace Go.Proofs.Ytkekcdcmmggbaaa
open Go.X

theorem drop_spec (q size born : Nat) (fs : List RFile) (hn : fs.length ≤ 1073741824) (n : ByteArray) : FSpec Try.prog 53 [.pointer (some ⟨q, 0, none⟩), .string n] [RTab q size born fs]
    (fun v B => v = .tuple #[] ∧ B = [RTab q size born (rdrop n fs)]) := by
  refine FSpec.of Try.func53 rfl Try.ntmps53 rfl fun W0 F => ?_
  refine J.seq ?_
  refine J.region ?_
  refine J.q rfl rfl (Q.mv rfl) ?_
  refine J.q rfl rfl (Q.mv rfl) ?_
  refine J.call Try.call49 (find_spec q size born fs (by omega) n) [0] rfl rfl rfl rfl ?_
  rintro _ _ ⟨rfl, rfl⟩
  refine J.norm rfl ?_
  refine J.q rfl rfl (Q.mv rfl) ?_
  refine J.q rfl rfl (Q.ext rfl rfl) ?_
  refine J.q rfl rfl (Q.ext rfl rfl) ?_
  refine J.q rfl rfl (Q.asg rfl) ?_
  refine J.q rfl rfl (Q.asg rfl) ?_
  refine J.nil ?_
  refine J.then_n ?_
  refine J.seq ?_
  refine J.region ?_
  refine J.q rfl rfl (Q.mv rfl) ?_
  refine J.nil ?_
  refine J.then_n ?_
  refine J.cond rfl (fun hc12 => ?_) (fun hc12 => ?_)
  ·
    first | replace hc12 := X.tt_dec hc12 | replace hc12 := X.tt_not hc12 | replace hc12 := X.ff_dec hc12 | replace hc12 := X.ff_not hc12 | skip
    refine J.open1 0 rfl (fun _ h => h) fun z => ?_
    refine J.norm rfl ?_
    obtain ⟨p, c⟩ := z
    refine J.slr1 1 rfl fun hsl => ?_
    refine J.tells 1 rfl own.len fun hlc => ?_
    obtain ⟨_, hlc⟩ := hlc
    have hlc' : fs.length ≤ c := hlc
    dsimp only at hsl
    have hlt := isAt_lt hc12
    simp only [List.length_map] at hlt
    obtain ⟨hq20, hr20⟩ := slH_ (P := Try.prog) (T := 54) Try.runUnderlying54 Try.sizeOf82 hsl (hi := place n (fms fs)) (by omega) hlc'
    obtain ⟨p28, c28, hq28, hr28⟩ := slL_ (P := Try.prog) (T := 54) Try.runUnderlying54 Try.sizeOf82 hsl (lo := place n (fms fs) + 1) (by omega) hlc'
    refine J.draw [1, 8, 16, 19] Try.mixed (by kernel_rfl) fun hR => ?_
    refine RG.q 0 hR rfl rfl rfl rfl rfl rfl (Q.mv rfl) ?_
    refine RG.q 2 hR rfl rfl rfl rfl rfl rfl (Q.mv rfl) ?_
    refine RG.q 3 hR rfl rfl rfl rfl rfl rfl (Q.nil_ rfl) ?_
    refine RG.q 4 hR rfl rfl rfl rfl rfl rfl (Q.fa (n := 1) Try.runUnderlying56 rfl rfl Try.sizeOf54 rfl) ?_
    refine RG.q 5 hR rfl rfl rfl rfl rfl rfl (Q.ld Try.isAgg54 rfl (by first | exact Reads.pt 0 rfl rfl | exact Reads.pt 1 rfl rfl | exact Reads.pt 2 rfl rfl | exact Reads.pt 3 rfl rfl | exact Reads.pt 4 rfl rfl | exact Reads.pt 5 rfl rfl | exact Reads.pt 6 rfl rfl | exact Reads.pt 7 rfl rfl)) ?_
    refine RG.q 6 hR rfl rfl rfl rfl rfl rfl (Q.mv rfl) ?_
    refine RG.q 7 hR rfl rfl rfl rfl rfl rfl (hq20 _ _ _ _ _ _ rfl rfl) ?_
    refine RG.q 9 hR rfl rfl rfl rfl rfl rfl (Q.mv rfl) ?_
    refine RG.q 10 hR rfl rfl rfl rfl rfl rfl (Q.nil_ rfl) ?_
    refine RG.q 11 hR rfl rfl rfl rfl rfl rfl (Q.fa (n := 1) Try.runUnderlying56 rfl rfl Try.sizeOf54 rfl) ?_
    refine RG.q 12 hR rfl rfl rfl rfl rfl rfl (Q.ld Try.isAgg54 rfl (by first | exact Reads.pt 0 rfl rfl | exact Reads.pt 1 rfl rfl | exact Reads.pt 2 rfl rfl | exact Reads.pt 3 rfl rfl | exact Reads.pt 4 rfl rfl | exact Reads.pt 5 rfl rfl | exact Reads.pt 6 rfl rfl | exact Reads.pt 7 rfl rfl)) ?_
    refine RG.q 13 hR rfl rfl rfl rfl rfl rfl (Q.mv rfl) ?_
    refine RG.q 14 hR rfl rfl rfl rfl rfl rfl (Q.add64 rfl rfl (by omega)) ?_
    refine RG.q 15 hR rfl rfl rfl rfl rfl rfl (hq28 _ _ _ _ _ _ rfl rfl) ?_
    refine RG.made 1 hR rfl rfl rfl rfl rfl (C.bslG (l := []) Try.runUnderlying54 Try.sizeOf82 Try.zeroValue82 (by decide) rfl rfl rfl rfl rfl) ?_
    rintro b14
    refine RG.many hR 8 [] rfl ⟨?_, trivial⟩
    ·
      refine RGi.app 0 rfl rfl rfl rfl Try.runUnderlying54 Try.runUnderlying54 Try.typeInfo82 Try.sizeOf82 Try.zeroValue82 rfl rfl rfl own_of_zero rfl (hr20.within (i := 1) rfl) (fun v hv => cells_one (List.mem_of_mem_take hv)) (by simp [Try.t82] <;> omega) (by decide) ?_
      rintro p21 c21
      refine RG.normE rfl ?_
      refine RG.many hR 16 [] rfl ⟨?_, trivial⟩
      ·
        refine RGi.app 0 rfl rfl rfl rfl Try.runUnderlying54 Try.runUnderlying54 Try.typeInfo82 Try.sizeOf82 Try.zeroValue82 rfl rfl rfl (fun _ h => h) rfl (hr28.within (i := 1) rfl) (fun v hv => cells_one (List.mem_of_mem_drop hv)) (by simp [Try.t82] <;> omega) (by decide) ?_
        rintro p29 c29
        refine RG.normE rfl ?_
        refine RG.q 17 hR rfl rfl rfl rfl rfl rfl (Q.nil_ rfl) ?_
        refine RG.q 18 hR rfl rfl rfl rfl rfl rfl (Q.fa (n := 1) Try.runUnderlying56 rfl rfl Try.sizeOf54 rfl) ?_
        first | refine RG.st 19 (j := 0) hR rfl rfl rfl rfl rfl Try.sizeOf54 rfl rfl rfl rfl rfl rfl rfl ?_ | refine RG.st 19 (j := 1) hR rfl rfl rfl rfl rfl Try.sizeOf54 rfl rfl rfl rfl rfl rfl rfl ?_ | refine RG.st 19 (j := 2) hR rfl rfl rfl rfl rfl Try.sizeOf54 rfl rfl rfl rfl rfl rfl rfl ?_ | refine RG.st 19 (j := 3) hR rfl rfl rfl rfl rfl Try.sizeOf54 rfl rfl rfl rfl rfl rfl rfl ?_ | refine RG.st 19 (j := 4) hR rfl rfl rfl rfl rfl Try.sizeOf54 rfl rfl rfl rfl rfl rfl rfl ?_ | refine RG.st 19 (j := 5) hR rfl rfl rfl rfl rfl Try.sizeOf54 rfl rfl rfl rfl rfl rfl rfl ?_
        refine RG.fin hR rfl ?_
        refine J.norm rfl ?_
        first
          | (refine J.shut [0, 3] (RTab q size born (rdrop n fs)) rfl (fun h s => ⟨(p29, c29), by
               have e : rdrop n fs = fs.eraseIdx (place n (fms fs)) := if_pos hc12
               have e1 : (rdrop n fs).length = 0 + place n (fms fs) + (fs.length - (place n (fms fs) + 1)) := by rw [e, List.length_eraseIdx]; split <;> omega
               have e2 : (rdrop n fs).flatMap RFile.cells = [] ++ (fs.flatMap RFile.cells).take (place n (fms fs) * 3) ++ (fs.flatMap RFile.cells).drop ((place n (fms fs) + 1) * 3) := by
                 rw [e, flat_take RFile.cells_length, flat_drop RFile.cells_length, List.eraseIdx_eq_take_drop_succ]; simp
               rw [e1, e2]; exact s⟩) ?_
             refine J.keep [0, 2] rfl ?_
             refine J.end0 (B := [RTab q size born (rdrop n fs)]) rfl ⟨rfl, rfl⟩ rfl)
          | (have e : rdrop n fs = fs := if_neg (by rw [hc12]; exact Bool.false_ne_true)
             refine J.end0 (B := [RTab q size born (rdrop n fs)]) rfl ⟨rfl, rfl⟩ (by rw [e]; rfl))
  ·
    first | replace hc12 := X.tt_dec hc12 | replace hc12 := X.tt_not hc12 | replace hc12 := X.ff_dec hc12 | replace hc12 := X.ff_not hc12 | skip
    refine J.cskip ?_
    first
      | (refine J.shut [0, 3] (RTab q size born (rdrop n fs)) rfl (fun h s => ⟨(p29, c29), by
           have e : rdrop n fs = fs.eraseIdx (place n (fms fs)) := if_pos hc12
           have e1 : (rdrop n fs).length = 0 + place n (fms fs) + (fs.length - (place n (fms fs) + 1)) := by rw [e, List.length_eraseIdx]; split <;> omega
           have e2 : (rdrop n fs).flatMap RFile.cells = [] ++ (fs.flatMap RFile.cells).take (place n (fms fs) * 3) ++ (fs.flatMap RFile.cells).drop ((place n (fms fs) + 1) * 3) := by
             rw [e, flat_take RFile.cells_length, flat_drop RFile.cells_length, List.eraseIdx_eq_take_drop_succ]; simp
           rw [e1, e2]; exact s⟩) ?_
         refine J.keep [0, 2] rfl ?_
         refine J.end0 (B := [RTab q size born (rdrop n fs)]) rfl ⟨rfl, rfl⟩ rfl)
      | (have e : rdrop n fs = fs := if_neg (by rw [hc12]; exact Bool.false_ne_true)
         refine J.end0 (B := [RTab q size born (rdrop n fs)]) rfl ⟨rfl, rfl⟩ (by rw [e]; rfl))

theorem take_all {α : Type} {q : α → Bool} {l : List α} {k : Nat} {s : α} (hs : l[k]? = some s) (h : (l.take k).all q = true) (hq : q s = true) : (l.take (k + 1)).all q = true := by
  obtain ⟨h1, h2⟩ := List.getElem?_eq_some_iff.1 hs
  rw [List.take_succ_eq_append_getElem h1, List.all_append, h, h2]; simp [hq]
theorem all_not {α : Type} {q : α → Bool} {l : List α} {k : Nat} {s : α} (hs : l[k]? = some s) (hq : q s = false) : l.all q = false := by
  cases h : l.all q with
  | false => rfl
  | true => rw [List.all_eq_true] at h; have := h s (List.mem_of_getElem? hs); rw [hq] at this; cases this

theorem rall_spec (q size born : Nat) (fs : List RFile) (hn : fs.length ≤ 1073741824) (G : Assn) (sp : Option Addr) (sn sc : Nat) (names : List ByteArray) (hs : SlR [G] 1 (.slice sp sn sc) (names.map Value.string)) (hsn : sn ≤ 140737488355328) :
    FSpec Try.prog 52 [.pointer (some ⟨q, 0, none⟩), .slice sp sn sc] [RTab q size born fs, G] (fun v B => v = .bool (names.all fun n => isAt n (fms fs)) ∧ B = [RTab q size born fs, G]) := by
  refine FSpec.of Try.func52 rfl Try.ntmps52 rfl fun W0 F => ?_
  refine J.seq ?_
  refine J.region ?_
  refine J.q rfl rfl (Q.asg rfl) ?_
  refine J.nil ?_
  refine J.then_n ?_
  refine J.seq ?_
  refine J.seq ?_
  refine J.region ?_
  refine J.q rfl rfl (Q.asg rfl) ?_
  refine J.nil ?_
  refine J.then_n ?_
  refine J.block ?_
  have hlen : names.length = sn := by have := hs.len; simpa using this
  refine J.loop (fun k : Nat => k ≤ sn ∧ (names.take k).all (fun n => isAt n (fms fs)) = true) (fun k => sn - k) (fun k => [(0, .pointer (some ⟨q, 0, none⟩)), (1, .slice sp sn sc), (5, .int .i64 k)]) (fun _ => [RTab q size born fs, G, F]) 0
    ⟨Nat.zero_le _, rfl⟩ ⟨rfl, rfl, rfl, trivial⟩ rfl fun k hk => ?_
  obtain ⟨hk, hall⟩ := hk
  refine J.seq ?_
  refine J.seq ?_
  refine J.region ?_
  refine J.q rfl rfl (Q.mv rfl) ?_
  refine J.q rfl rfl (Q.mv rfl) ?_
  refine J.q rfl rfl (Q.lenSl Try.runUnderlying28 rfl) ?_
  refine J.q rfl rfl (Q.lss rfl rfl) ?_
  refine J.nil ?_
  refine J.then_n ?_
  refine J.cond rfl (fun hc11 => ?_) (fun hc11 => ?_)
  ·
    first | replace hc11 := X.tt_dec hc11 | replace hc11 := X.tt_not hc11 | replace hc11 := X.ff_dec hc11 | replace hc11 := X.ff_not hc11 | skip
    refine J.cskip ?_
    refine J.then_n ?_
    refine J.seq ?_
    refine J.block ?_
    refine J.seq ?_
    refine J.region ?_
    refine J.q rfl rfl (Q.mv rfl) ?_
    refine J.q rfl rfl (Q.mv rfl) ?_
    refine J.q rfl rfl (Q.mv rfl) ?_
    obtain ⟨b, off, rfl, hrd⟩ := hs.some_ (by omega)
    obtain ⟨n, hn'⟩ : ∃ n, names[k]? = some n := ⟨_, List.getElem?_eq_getElem (by omega)⟩
    refine J.q rfl rfl (Q.ia Try.runUnderlying28 Try.sizeOf9 rfl rfl (by omega) (by omega)) ?_
    refine J.q rfl rfl (Q.ld Try.isAgg9 rfl (((hrd k (.string n) (by simp [hn'])).within (i := 1) rfl).cast (by simp))) ?_
    refine J.call Try.call49 (find_spec q size born fs (by omega) n) [0] rfl rfl rfl rfl ?_
    rintro _ _ ⟨rfl, rfl⟩
    refine J.norm rfl ?_
    refine J.q rfl rfl (Q.mv rfl) ?_
    refine J.q rfl rfl (Q.ext rfl rfl) ?_
    refine J.q rfl rfl (Q.ext rfl rfl) ?_
    refine J.q rfl rfl (Q.asg rfl) ?_
    refine J.q rfl rfl (Q.asg rfl) ?_
    refine J.nil ?_
    refine J.then_n ?_
    refine J.seq ?_
    refine J.region ?_
    refine J.q rfl rfl (Q.mv rfl) ?_
    refine J.q rfl rfl (Q.not rfl) ?_
    refine J.nil ?_
    refine J.then_n ?_
    refine J.cond rfl (fun hc24 => ?_) (fun hc24 => ?_)
    ·
      first | replace hc24 := X.tt_dec hc24 | replace hc24 := X.tt_not hc24 | replace hc24 := X.ff_dec hc24 | replace hc24 := X.ff_not hc24 | skip
      refine J.seq ?_
      refine J.region ?_
      refine J.q rfl rfl (Q.asg rfl) ?_
      refine J.nil ?_
      refine J.then_n ?_
      refine J.cret ?_
      refine J.blk_r ?_
      refine J.then_r ?_
      refine J.lp_r ?_
      refine J.blk_r ?_
      refine J.then_r ?_
      refine J.ret1 (B := [RTab q size born fs, G]) rfl rfl ⟨by rw [all_not hn' (by simpa using hc24)], rfl⟩ rfl
    ·
      first | replace hc24 := X.tt_dec hc24 | replace hc24 := X.tt_not hc24 | replace hc24 := X.ff_dec hc24 | replace hc24 := X.ff_not hc24 | skip
      refine J.cskip ?_
      refine J.blk_n ?_
      refine J.then_n ?_
      refine J.region ?_
      refine J.q rfl rfl (Q.mv rfl) ?_
      refine J.q rfl rfl (Q.add64 rfl rfl (by omega)) ?_
      refine J.q rfl rfl (Q.asg rfl) ?_
      refine J.nil ?_
      refine J.again (k + 1) ⟨by show k + 1 ≤ sn; omega, take_all hn' hall (by simpa using hc24)⟩ (by show sn - (k + 1) < sn - k; omega) ⟨rfl, rfl, rfl, trivial⟩ rfl
  ·
    first | replace hc11 := X.tt_dec hc11 | replace hc11 := X.tt_not hc11 | replace hc11 := X.ff_dec hc11 | replace hc11 := X.ff_not hc11 | skip
    refine J.exit ?_
    refine J.then_x ?_
    refine J.lp_x ?_
    refine J.blk_x ?_
    refine J.then_n ?_
    refine J.seq ?_
    refine J.region ?_
    refine J.q rfl rfl (Q.asg rfl) ?_
    refine J.nil ?_
    refine J.then_n ?_
    refine J.cret ?_
    refine J.ret1 (B := [RTab q size born fs, G]) rfl rfl ⟨by rw [show names.take k = names from List.take_of_length_le (by omega)] at hall; rw [hall], rfl⟩ rfl

end Go.Proofs.Ytkekcdcmmggbaaa
