/-
  The document's disk in memory, whole: list, crash, twin.
-/
import Derived.Test.YtkekcdcmmggbaaaRefG
namespace Go.Proofs.Ytkekcdcmmggbaaa
open Go.X

def selN (pre : List ByteArray) (l : List FM) : List ByteArray := (l.map (·.name)).filter (selB pre)
theorem selN_take {pre : List ByteArray} {l : List FM} {k : Nat} {f : FM} (h : l[k]? = some f) : selN pre (l.take (k + 1)) = if selB pre f.name = true then selN pre (l.take k) ++ [f.name] else selN pre (l.take k) := by
  obtain ⟨h1, h2⟩ := List.getElem?_eq_some_iff.1 h
  unfold selN
  rw [List.take_succ_eq_append_getElem h1, List.map_append, List.filter_append, h2]
  simp only [List.map_cons, List.map_nil, List.filter_cons, List.filter_nil]
  split <;> simp
theorem selN_le (pre : List ByteArray) (l : List FM) : (selN pre l).length ≤ l.length := by
  unfold selN; exact Nat.le_trans (List.length_filter_le _ _) (by simp)
theorem any_take {q : ByteArray → Bool} {l : List ByteArray} {k : Nat} {s : ByteArray} (hs : l[k]? = some s) : (l.take (k + 1)).any q = ((l.take k).any q || q s) := by
  obtain ⟨h1, h2⟩ := List.getElem?_eq_some_iff.1 hs
  rw [List.take_succ_eq_append_getElem h1, List.any_append, h2]; simp

theorem rlist_spec (q : Nat) (r : DM) (hr : RWf r) (G : Assn) (sp : Option Addr) (sn sc : Nat) (pre : List ByteArray) (hs : SlR [G] 1 (.slice sp sn sc) (pre.map Value.string)) (hsn : sn ≤ 140737488355328) :
    FSpec Try.prog 28 [.pointer (some ⟨q, 0, none⟩), .slice sp sn sc] [RefAt q r, G]
      (fun v B => ∃ p c, v = .slice p (selN pre r.files).length c ∧ B = [own 9 1 (.slice p (selN pre r.files).length c) ((selN pre r.files).map Value.string), RefAt q r, G]) := by
  refine FSpec.of Try.func28 rfl Try.ntmps28 rfl fun W0 F => ?_
  refine J.seq ?_
  refine J.open_ 0 rfl rfl (fun _ h => h) fun fs hfs => ?_
  refine J.norm rfl ?_
  have hlen : fs.length = r.files.length := by rw [← hfs, List.length_map]
  refine J.open1 0 rfl (fun _ h => h) fun z => ?_
  refine J.norm rfl ?_
  obtain ⟨p, c⟩ := z
  refine J.slr1 1 rfl fun hsl => ?_
  refine J.tells 1 rfl own.len fun hlc => ?_
  obtain ⟨_, hlc⟩ := hlc
  have hlc' : fs.length ≤ c := hlc
  dsimp only at hsl
  have hpre : pre.length = sn := by have := hs.len; simpa using this
  have hrl := hr.len
  refine J.region ?_
  refine J.q rfl rfl (Q.asg rfl) ?_
  refine J.nil ?_
  refine J.then_n ?_
  refine J.seq ?_
  refine J.region ?_
  refine J.q rfl rfl (Q.asg rfl) ?_
  refine J.nil ?_
  refine J.then_n ?_
  refine J.seq ?_
  refine J.seq ?_
  refine J.region ?_
  refine J.q rfl rfl (Q.asg rfl) ?_
  refine J.nil ?_
  refine J.then_n ?_
  refine J.block ?_
  refine J.give (X := own 9 1 (.slice none 0 0) []) (own.nil _ _ _) ?_
  refine J.loop (fun z : Nat × Option Addr × Nat => z.1 ≤ fs.length) (fun z => fs.length - z.1) (fun z => [(0, .pointer (some ⟨q, 0, none⟩)), (1, .slice sp sn sc), (5, .slice z.2.1 (selN pre (r.files.take z.1)).length z.2.2), (6, .int .i64 z.1)])
    (fun z => [own 9 1 (.slice z.2.1 (selN pre (r.files.take z.1)).length z.2.2) ((selN pre (r.files.take z.1)).map Value.string), pt q (.cells [.int .i64 r.size, .slice p fs.length c, .int .i64 r.born].toArray 56 (0, 0)), own 82 3 (.slice p fs.length c) (fs.flatMap RFile.cells), star (fs.map RFile.asn), G, F]) (0, none, 0)
    (Nat.zero_le _) ⟨rfl, rfl, rfl, rfl, trivial⟩ rfl fun z hk => ?_
  obtain ⟨k, op, oc⟩ := z
  dsimp only at hk
  refine J.seq ?_
  refine J.seq ?_
  refine J.region ?_
  refine J.q rfl rfl (Q.mv rfl) ?_
  refine J.q rfl rfl (Q.mv rfl) ?_
  refine J.q rfl rfl (Q.nil_ rfl) ?_
  refine J.q rfl rfl (Q.fa (n := 1) Try.runUnderlying56 rfl rfl Try.sizeOf54 rfl) ?_
  refine J.q rfl rfl (Q.ld Try.isAgg54 rfl (by first | exact Reads.pt 0 rfl rfl | exact Reads.pt 1 rfl rfl | exact Reads.pt 2 rfl rfl | exact Reads.pt 3 rfl rfl | exact Reads.pt 4 rfl rfl | exact Reads.pt 5 rfl rfl | exact Reads.pt 6 rfl rfl | exact Reads.pt 7 rfl rfl)) ?_
  refine J.q rfl rfl (Q.lenSl Try.runUnderlying54 rfl) ?_
  refine J.q rfl rfl (Q.lss rfl rfl) ?_
  refine J.nil ?_
  refine J.then_n ?_
  refine J.cond rfl (fun hc15 => ?_) (fun hc15 => ?_)
  ·
    first | replace hc15 := X.tt_dec hc15 | replace hc15 := X.tt_not hc15 | replace hc15 := X.ff_dec hc15 | replace hc15 := X.ff_not hc15 | skip
    refine J.cskip ?_
    refine J.then_n ?_
    refine J.seq ?_
    refine J.block ?_
    refine J.seq ?_
    refine J.region ?_
    refine J.q rfl rfl (Q.mv rfl) ?_
    refine J.q rfl rfl (Q.lenSl Try.runUnderlying28 rfl) ?_
    refine J.q rfl rfl (Q.eql rfl rfl) ?_
    refine J.slot 20 (.bool pre.isEmpty) rfl (congrArg Value.bool (by rw [Bool.eq_iff_iff]; simp [← hpre])) ?_
    refine J.q rfl rfl (Q.asg rfl) ?_
    refine J.nil ?_
    refine J.then_n ?_
    refine J.seq ?_
    refine J.seq ?_
    refine J.region ?_
    refine J.q rfl rfl (Q.asg rfl) ?_
    refine J.nil ?_
    refine J.then_n ?_
    refine J.block ?_
    obtain ⟨b, off, rfl, hrd⟩ := hsl.some_ (by omega)
    obtain ⟨x, hx⟩ : ∃ x, fs[k]? = some x := ⟨_, List.getElem?_eq_getElem (by omega)⟩
    have hxr : r.files[k]? = some x.f := by rw [← hfs, List.getElem?_map, hx]; rfl
    refine J.loop (fun j : Nat => j ≤ sn) (fun j => sn - j) (fun j => [(0, .pointer (some ⟨q, 0, none⟩)), (1, .slice sp sn sc), (5, .slice op (selN pre (r.files.take k)).length oc), (6, .int .i64 k), (7, .bool (pre.isEmpty || (pre.take j).any (beg x.f.name))), (8, .int .i64 j)])
      (fun _ => [own 9 1 (.slice op (selN pre (r.files.take k)).length oc) ((selN pre (r.files.take k)).map Value.string), pt q (.cells [.int .i64 r.size, .slice (some ⟨b, off, none⟩) fs.length c, .int .i64 r.born].toArray 56 (0, 0)), own 82 3 (.slice (some ⟨b, off, none⟩) fs.length c) (fs.flatMap RFile.cells), star (fs.map RFile.asn), G, F]) 0
      (Nat.zero_le _) ⟨rfl, rfl, rfl, rfl, congrArg some (congrArg Value.bool (by simp)), rfl, trivial⟩ rfl fun j hj => ?_
    refine J.seq ?_
    refine J.seq ?_
    refine J.region ?_
    refine J.q rfl rfl (Q.mv rfl) ?_
    refine J.q rfl rfl (Q.mv rfl) ?_
    refine J.q rfl rfl (Q.lenSl Try.runUnderlying28 rfl) ?_
    refine J.q rfl rfl (Q.lss rfl rfl) ?_
    refine J.nil ?_
    refine J.then_n ?_
    refine J.cond rfl (fun hc24 => ?_) (fun hc24 => ?_)
    ·
      first | replace hc24 := X.tt_dec hc24 | replace hc24 := X.tt_not hc24 | replace hc24 := X.ff_dec hc24 | replace hc24 := X.ff_not hc24 | skip
      refine J.cskip ?_
      refine J.then_n ?_
      refine J.seq ?_
      refine J.block ?_
      obtain ⟨pj, hpj⟩ : ∃ s, pre[j]? = some s := ⟨_, List.getElem?_eq_getElem (by omega)⟩
      obtain ⟨b1, off1, rfl, hrd1⟩ := hs.some_ (by omega)
      refine J.draw [14, 16] Try.mixed (by kernel_rfl) fun hR => ?_
      refine RG.q 0 hR rfl rfl rfl rfl rfl rfl (Q.mv rfl) ?_
      refine RG.q 1 hR rfl rfl rfl rfl rfl rfl (Q.mv rfl) ?_
      refine RG.cases 28 rfl (fun hb28 => ?_) (fun hb28 => ?_)
      ·
        first | replace hb28 := X.tt_dec hb28 | replace hb28 := X.tt_not hb28 | replace hb28 := X.ff_dec hb28 | replace hb28 := X.ff_not hb28 | skip
        refine RG.skip 2 hR rfl rfl rfl rfl rfl rfl ?_
        refine RG.skip 3 hR rfl rfl rfl rfl rfl rfl ?_
        refine RG.skip 4 hR rfl rfl rfl rfl rfl rfl ?_
        refine RG.skip 5 hR rfl rfl rfl rfl rfl rfl ?_
        refine RG.skip 6 hR rfl rfl rfl rfl rfl rfl ?_
        refine RG.skip 7 hR rfl rfl rfl rfl rfl rfl ?_
        refine RG.skip 8 hR rfl rfl rfl rfl rfl rfl ?_
        refine RG.skip 9 hR rfl rfl rfl rfl rfl rfl ?_
        refine RG.skip 10 hR rfl rfl rfl rfl rfl rfl ?_
        refine RG.skip 11 hR rfl rfl rfl rfl rfl rfl ?_
        refine RG.skip 12 hR rfl rfl rfl rfl rfl rfl ?_
        refine RG.skip 13 hR rfl rfl rfl rfl rfl rfl ?_
        refine RG.pass 14 hR rfl rfl rfl rfl rfl ?_
        refine RG.q 15 hR rfl rfl rfl rfl rfl rfl (Q.pick_t rfl rfl) ?_
        refine RG.bar 16 hR rfl rfl rfl rfl rfl rfl (Q.asg rfl).toC ?_
        rintro _ _ ⟨rfl, rfl⟩
        refine RG.norm rfl ?_
        refine RG.fin hR rfl ?_
        refine J.norm rfl ?_
        refine J.blk_n ?_
        refine J.then_n ?_
        refine J.region ?_
        refine J.q rfl rfl (Q.mv rfl) ?_
        refine J.q rfl rfl (Q.add64 rfl rfl (by omega)) ?_
        refine J.q rfl rfl (Q.asg rfl) ?_
        refine J.nil ?_
        refine J.again (j + 1) (by show j + 1 ≤ sn; omega) (by show sn - (j + 1) < sn - j; omega) ⟨rfl, rfl, rfl, rfl, congrArg some (congrArg Value.bool (by rw [any_take hpj, ← Bool.or_assoc, hb28]; rfl)), rfl, trivial⟩ rfl
      ·
        first | replace hb28 := X.tt_dec hb28 | replace hb28 := X.tt_not hb28 | replace hb28 := X.ff_dec hb28 | replace hb28 := X.ff_not hb28 | skip
        refine RG.q 2 hR rfl rfl rfl rfl rfl rfl (Q.mv rfl) ?_
        refine RG.q 3 hR rfl rfl rfl rfl rfl rfl (Q.nil_ rfl) ?_
        refine RG.q 4 hR rfl rfl rfl rfl rfl rfl (Q.fa (n := 1) Try.runUnderlying56 rfl rfl Try.sizeOf54 rfl) ?_
        refine RG.q 5 hR rfl rfl rfl rfl rfl rfl (Q.ld Try.isAgg54 rfl (by first | exact Reads.pt 0 rfl rfl | exact Reads.pt 1 rfl rfl | exact Reads.pt 2 rfl rfl | exact Reads.pt 3 rfl rfl | exact Reads.pt 4 rfl rfl | exact Reads.pt 5 rfl rfl | exact Reads.pt 6 rfl rfl | exact Reads.pt 7 rfl rfl)) ?_
        refine RG.q 6 hR rfl rfl rfl rfl rfl rfl (Q.mv rfl) ?_
        refine RG.q 7 hR rfl rfl rfl rfl rfl rfl (Q.ia Try.runUnderlying54 Try.sizeOf82 rfl rfl (by omega) (by omega)) ?_
        refine RG.q 8 hR rfl rfl rfl rfl rfl rfl (Q.fa (n := 0) Try.runUnderlying82 rfl rfl Try.sizeOf9 rfl) ?_
        refine RG.q 9 hR rfl rfl rfl rfl rfl rfl (Q.ld Try.isAgg9 rfl ((rd_field RFile.cells_length hrd hx (k := 0) rfl (by simp)).within (i := 2) rfl)) ?_
        refine RG.q 10 hR rfl rfl rfl rfl rfl rfl (Q.mv rfl) ?_
        refine RG.q 11 hR rfl rfl rfl rfl rfl rfl (Q.mv rfl) ?_
        refine RG.q 12 hR rfl rfl rfl rfl rfl rfl (Q.ia Try.runUnderlying28 Try.sizeOf9 rfl rfl (by omega) (by omega)) ?_
        refine RG.q 13 hR rfl rfl rfl rfl rfl rfl (Q.ld Try.isAgg9 rfl (((hrd1 j (.string pj) (by simp [hpj])).within (i := 4) rfl).cast (by simp))) ?_
        refine RG.call 14 hR rfl rfl rfl rfl rfl rfl Try.call48 (rbegins_spec x.f.name pj) [] rfl rfl ?_
        rintro _ _ ⟨rfl, rfl⟩
        refine RG.norm rfl ?_
        refine RG.q 15 hR rfl rfl rfl rfl rfl rfl (Q.pick_f rfl rfl) ?_
        refine RG.bar 16 hR rfl rfl rfl rfl rfl rfl (Q.asg rfl).toC ?_
        rintro _ _ ⟨rfl, rfl⟩
        refine RG.norm rfl ?_
        refine RG.fin hR rfl ?_
        refine J.norm rfl ?_
        refine J.blk_n ?_
        refine J.then_n ?_
        refine J.region ?_
        refine J.q rfl rfl (Q.mv rfl) ?_
        refine J.q rfl rfl (Q.add64 rfl rfl (by omega)) ?_
        refine J.q rfl rfl (Q.asg rfl) ?_
        refine J.nil ?_
        refine J.again (j + 1) (by show j + 1 ≤ sn; omega) (by show sn - (j + 1) < sn - j; omega) ⟨rfl, rfl, rfl, rfl, congrArg some (congrArg Value.bool (by rw [any_take hpj, ← Bool.or_assoc, hb28]; rfl)), rfl, trivial⟩ rfl
    ·
      first | replace hc24 := X.tt_dec hc24 | replace hc24 := X.tt_not hc24 | replace hc24 := X.ff_dec hc24 | replace hc24 := X.ff_not hc24 | skip
      refine J.exit ?_
      refine J.then_x ?_
      refine J.lp_x ?_
      refine J.blk_x ?_
      refine J.then_n ?_
      refine J.seq ?_
      refine J.region ?_
      refine J.q rfl rfl (Q.mv rfl) ?_
      refine J.nil ?_
      refine J.then_n ?_
      refine J.cond rfl (fun hc43 => ?_) (fun hc43 => ?_)
      ·
        first | replace hc43 := X.tt_dec hc43 | replace hc43 := X.tt_not hc43 | replace hc43 := X.ff_dec hc43 | replace hc43 := X.ff_not hc43 | skip
        refine J.region ?_
        refine J.q rfl rfl (Q.mv rfl) ?_
        refine J.q rfl rfl (Q.mv rfl) ?_
        refine J.q rfl rfl (Q.nil_ rfl) ?_
        refine J.q rfl rfl (Q.fa (n := 1) Try.runUnderlying56 rfl rfl Try.sizeOf54 rfl) ?_
        refine J.q rfl rfl (Q.ld Try.isAgg54 rfl (by first | exact Reads.pt 0 rfl rfl | exact Reads.pt 1 rfl rfl | exact Reads.pt 2 rfl rfl | exact Reads.pt 3 rfl rfl | exact Reads.pt 4 rfl rfl | exact Reads.pt 5 rfl rfl | exact Reads.pt 6 rfl rfl | exact Reads.pt 7 rfl rfl)) ?_
        refine J.q rfl rfl (Q.mv rfl) ?_
        refine J.q rfl rfl (Q.ia Try.runUnderlying54 Try.sizeOf82 rfl rfl (by omega) (by omega)) ?_
        refine J.q rfl rfl (Q.fa (n := 0) Try.runUnderlying82 rfl rfl Try.sizeOf9 rfl) ?_
        refine J.q rfl rfl (Q.ld Try.isAgg9 rfl ((rd_field RFile.cells_length hrd hx (k := 0) rfl (by simp)).within (i := 2) rfl)) ?_
        refine J.c rfl rfl (C.bslG (l := [_]) Try.runUnderlying28 Try.sizeOf9 Try.zeroValue9 (by decide) rfl rfl rfl rfl rfl) ?_
        rintro _ _ ⟨b53, rfl, rfl⟩
        refine J.norm rfl ?_
        have hj' : j = sn := by omega
        have hsel : selB pre x.f.name = true := by unfold selB; rw [← hc43, List.take_of_length_le (by omega)]
        have e := selN_take (pre := pre) hxr
        rw [if_pos hsel] at e
        have hle := selN_le pre (r.files.take k)
        have htl := List.length_take_le k r.files
        refine J.c rfl rfl (C.app (i := 1) Try.runUnderlying28 Try.runUnderlying28 Try.typeInfo9 Try.sizeOf9 Try.zeroValue9 rfl rfl rfl (SlR.pt 0 rfl rfl (fun j u h => by rw [Nat.zero_add]; exact h)) (by simp [oneC]) (by simp [Try.t9] <;> omega) (by decide)) ?_
        rintro _ _ ⟨p54, c54, rfl, rfl⟩
        refine J.norm rfl ?_
        refine J.q rfl rfl (Q.asg rfl) ?_
        refine J.nil ?_
        refine J.blk_n ?_
        refine J.then_n ?_
        refine J.region ?_
        refine J.q rfl rfl (Q.mv rfl) ?_
        refine J.q rfl rfl (Q.add64 rfl rfl (by omega)) ?_
        refine J.q rfl rfl (Q.asg rfl) ?_
        refine J.nil ?_
        refine J.keep [1, 2, 3, 4, 5, 6] rfl ?_
        refine J.again (k + 1, p54, c54) (by show k + 1 ≤ _; omega) (by show fs.length - (k + 1) < fs.length - k; omega) ⟨rfl, rfl, congrArg some (by show _ = Value.slice p54 (selN pre (r.files.take (k + 1))).length c54; rw [e, List.length_append]; rfl), rfl, trivial⟩
          (by show _ = [own 9 1 (.slice p54 (selN pre (r.files.take (k + 1))).length c54) ((selN pre (r.files.take (k + 1))).map Value.string), _, _, _, _, _]; rw [e, List.length_append, List.map_append]; rfl)
      ·
        first | replace hc43 := X.tt_dec hc43 | replace hc43 := X.tt_not hc43 | replace hc43 := X.ff_dec hc43 | replace hc43 := X.ff_not hc43 | skip
        refine J.cskip ?_
        refine J.blk_n ?_
        refine J.then_n ?_
        refine J.region ?_
        refine J.q rfl rfl (Q.mv rfl) ?_
        refine J.q rfl rfl (Q.add64 rfl rfl (by omega)) ?_
        refine J.q rfl rfl (Q.asg rfl) ?_
        refine J.nil ?_
        have hj' : j = sn := by omega
        have hsel : ¬ selB pre x.f.name = true := by unfold selB; rw [show (pre.isEmpty || pre.any (beg x.f.name)) = false from by rw [← hc43, List.take_of_length_le (by omega)]]; exact Bool.false_ne_true
        have e := selN_take (pre := pre) hxr
        rw [if_neg hsel] at e
        refine J.again (k + 1, op, oc) (by show k + 1 ≤ _; omega) (by show fs.length - (k + 1) < fs.length - k; omega) ⟨rfl, rfl, congrArg some (by show _ = Value.slice op (selN pre (r.files.take (k + 1))).length oc; rw [e]), rfl, trivial⟩
          (by show _ = [own 9 1 (.slice op (selN pre (r.files.take (k + 1))).length oc) ((selN pre (r.files.take (k + 1))).map Value.string), _, _, _, _, _]; rw [e])
  ·
    first | replace hc15 := X.tt_dec hc15 | replace hc15 := X.tt_not hc15 | replace hc15 := X.ff_dec hc15 | replace hc15 := X.ff_not hc15 | skip
    refine J.exit ?_
    refine J.then_x ?_
    refine J.lp_x ?_
    refine J.blk_x ?_
    refine J.then_n ?_
    refine J.seq ?_
    refine J.region ?_
    refine J.q rfl rfl (Q.mv rfl) ?_
    refine J.q rfl rfl (Q.asg rfl) ?_
    refine J.nil ?_
    refine J.then_n ?_
    refine J.cret ?_
    rw [show r.files.take k = r.files from List.take_of_length_le (by omega)]
    refine J.shut [1, 2, 3] (RefAt q r) rfl (fun h s => RefAt.mk (z := (p, c)) hfs s) ?_
    refine J.pick [1, 0, 2, 3] rfl ?_
    refine J.ret1 (B := [own 9 1 (.slice op (selN pre r.files).length oc) ((selN pre r.files).map Value.string), RefAt q r, G]) rfl rfl ⟨op, oc, rfl, rfl⟩ rfl

end Go.Proofs.Ytkekcdcmmggbaaa
