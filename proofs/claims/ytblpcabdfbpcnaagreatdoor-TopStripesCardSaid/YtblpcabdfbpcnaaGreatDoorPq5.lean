/-
  What the proof of the last of these texts leans on: part 5 of 6.
-/
import Derived.KernelRfl
import Derived.RangeFuncRecord
import Derived.RangeFuncIn
import Derived.LoopN
import Derived.Test.YtblpcabdfbpcnaaGreatDoorPq4
set_option linter.unusedSectionVars false
set_option linter.unusedVariables false
set_option linter.unusedSimpArgs false
namespace Go.Proofs.YtblpcabdfbpcnaaGreatDoor
open Go.Proofs.Tryz
open Go.X Go.X.T

theorem shr8 (n k : Nat) (hk : k ≤ 24) : Value.int .u8 (IntKind.u8.wrap ((n : Int).fdiv (2 ^ k))) = byteV (UInt8.ofNat (n / 2 ^ k)) := by
  show Value.int .u8 _ = Value.int .u8 _
  congr 1
  rw [Int.fdiv_eq_ediv_of_nonneg _ (by have : (0 : Int) < 2 ^ k := Int.pow_pos (by decide); omega)]
  have e : (n : Int) / 2 ^ k = ((n / 2 ^ k : Nat) : Int) := by rw [Int.natCast_ediv, Int.natCast_pow]; rfl
  rw [e, wrap8]; (try simp)
theorem four_spec (n : Nat) (hn : n < 4294967296) : FSpec Tryz.prog 25 [.int .u32 n] [] (fun v B => v = .agg (bytesV (lowB n 4)).toArray ∧ B = []) := by
  refine FSpec.of func25 rfl ntmps25 rfl fun W0 F => ?_
  refine J.seq <| J.region ?_
  refine J.c rfl rfl (C.alloc (l := [_, _, _, _]) zeroValue83 rfl) ?_
  rintro _ _ ⟨b2, rfl, rfl⟩
  refine J.norm rfl ?_
  refine J.conv (Y := own 83 1 (.slice (some ⟨b2, 0, none⟩) 4 4) (bytesV [0, 0, 0, 0])) 0 rfl (own_of_block (by rfl)) ?_
  refine J.nil <| J.then_n <| J.seq <| J.region <| J.m rfl <| J.p rfl (Q.conv runUnderlying31 runUnderlying5 rfl) ?_
  refine J.slot 4 (byteV (UInt8.ofNat n)) rfl (by
   show Value.int .u8 _ = Value.int .u8 _
   congr 1
   (try rw [wrap8]); (try simp)) ?_
  refine J.m rfl <| J.p rfl (Q.shr rfl rfl (by omega)) <| J.p rfl (Q.conv runUnderlying31 runUnderlying5 rfl) ?_
  refine J.slot 7 (byteV (UInt8.ofNat (n / 256))) rfl (shr8 n 8 (by omega)) ?_
  refine J.m rfl <| J.p rfl (Q.shr rfl rfl (by omega)) <| J.p rfl (Q.conv runUnderlying31 runUnderlying5 rfl) ?_
  refine J.slot 10 (byteV (UInt8.ofNat (n / 256 / 256))) rfl (by rw [Nat.div_div_eq_div_mul]; exact shr8 n 16 (by omega)) ?_
  refine J.m rfl <| J.p rfl (Q.shr rfl rfl (by omega)) <| J.p rfl (Q.conv runUnderlying31 runUnderlying5 rfl) ?_
  refine J.slot 13 (byteV (UInt8.ofNat (n / 256 / 256 / 256))) rfl (by rw [Nat.div_div_eq_div_mul, Nat.div_div_eq_div_mul]; exact shr8 n 24 (by omega)) ?_
  refine J.p rfl (Q.bldA (l := bytesV (lowB n 4)) runUnderlying83 sizeOf5 zeroValue83 rfl rfl) ?_
  refine J.c0 rfl (C.stNO (vs := bytesV (lowB n 4)) (b := b2) 0 sizeOf83 rfl rfl rfl (by simp [bytesV, lowB_len]) (by simp [bytesV, byteV, oneC])) ?_
  rintro _ _ ⟨rfl, rfl⟩
  refine J.norm rfl <| J.nil <| J.then_n <| J.cret ?_
  refine J.retCI (vs := bytesV (lowB n 4)) [] rfl rfl isAgg83 sizeOf83 (fun j v hj => rdO (b := b2) hj (by omega)) ⟨rfl, rfl⟩

structure PX where
  bk : ByteArray
  ky : ByteArray
  ver : Nat
  k : Nat
  m : Nat
  sz : Nat
  sum : Nat
  nv : Value
abbrev PX.cells (x : PX) : List Value := [.string x.bk, .string x.ky, .int .u64 x.ver, .int .u64 (3 : Nat), .int .i64 x.k, .int .i64 x.m, .int .i64 x.sz, .int .u32 x.sum, x.nv]
structure PX.ok (x : PX) : Prop where
  k0 : 0 < x.k
  km : x.k + x.m ≤ 255
  sz : x.sz ≤ 999999
  sum : x.sum < 4294967296
def PX.nums (x : PX) (i : Nat) : List Nat := [i, x.k, x.m, x.sz]
def PX.hd (x : PX) (i : Nat) : List U := numB 3 ++ (x.nums i).flatMap numB ++ lowB x.sum 4
def PX.pay (x : PX) (i : Nat) (sh : List U) : List U := x.hd i ++ encB sh
def PX.file (x : PX) (i : Nat) (sh : List U) : List U := frameB (x.pay i sh)
theorem numB_le10 {v : Nat} (h : v ≤ 18446744073709551615) : (numB v).length ≤ 10 := numB_len v h
theorem PX.hd_len {x : PX} (hx : x.ok) {i : Nat} (hi : i ≤ 255) : (x.hd i).length ≤ 60 := by
  have h1 := numB_len 3 (by omega)
  have h2 := numB_len i (by omega)
  have h3 := numB_len x.k (by have := hx.km; omega)
  have h4 := numB_len x.m (by have := hx.km; omega)
  have h5 := numB_len x.sz (by have := hx.sz; omega)
  simp only [PX.hd, PX.nums, List.length_append, List.flatMap_cons, List.flatMap_nil, List.length_nil, lowB_len]
  omega
theorem flatMap_step {l : List Nat} {j n : Nat} {f : Nat → List U} (h : l[j]? = some n) : (l.take (j + 1)).flatMap f = (l.take j).flatMap f ++ f n := by
  obtain ⟨h1, h2⟩ := List.getElem?_eq_some_iff.1 h
  rw [List.take_succ_eq_append_getElem h1, h2]; simp
theorem flat_part_le {l : List Nat} {f : Nat → List U} (j : Nat) : ((l.take j).flatMap f).length ≤ (l.flatMap f).length := by
  conv => rhs; rw [← List.take_append_drop j l, List.flatMap_append, List.length_append]
  exact Nat.le_add_right _ _

theorem file_spec (x : PX) (hx : x.ok) (i : Nat) (hi : i ≤ 255) (G : Assn) (q : Option Addr) (e : Nat) (sh : List U) (hs : SlR [G] 1 (.slice q sh.length e) (bytesV sh)) (hn : sh.length ≤ 1000000) :
    FSpec Tryz.prog 59 [.agg x.cells.toArray, .int .i64 i, .slice q sh.length e] [G] (fun v B => ∃ p c, v = .slice p (x.file i sh).length c ∧ B = [own 5 1 (.slice p (x.file i sh).length c) (bytesV (x.file i sh)), G]) := by
  refine FSpec.of func59 rfl ntmps59 rfl fun W0 F => ?_
  refine J.seq <| J.region ?_
  refine J.c rfl rfl (C.box (l := [_, _, _, _, _, _, _, _, _]) rfl rfl) ?_
  rintro _ _ ⟨b3, rfl, rfl⟩
  refine J.norm rfl <| J.p rfl (Q.asg rfl) <| J.nil <| J.then_n <| J.seq ?_
  have hk0 := hx.k0
  have hkm := hx.km
  have hsz := hx.sz
  have hsm := hx.sum
  have hhd := PX.hd_len hx hi
  refine J.give (X := own 5 1 (.slice none ([] : List U).length 0) (bytesV [])) (own.nil _ _ _) ?_
  refine J.region <| J.p rfl (Q.fa (n := 3) runUnderlying33 rfl rfl sizeOf30 rfl) ?_
  refine J.p rfl (Q.ldI isAgg30 rfl) ?_
  refine J.callI call115 (number_spec none 0 [] 3 (by simp) (by omega)) rfl rfl rfl ?_
  rintro _ _ ⟨p13, c13, rfl, rfl⟩
  refine J.norm rfl <| J.p rfl (Q.asg rfl) <| J.nil <| J.then_n <| J.seq <| J.seq <| J.region <| J.m rfl <| J.p rfl (Q.fa (n := 4) runUnderlying33 rfl rfl sizeOf3 rfl) ?_
  refine J.p rfl (Q.ldI isAgg3 rfl) ?_
  refine J.p rfl (Q.fa (n := 5) runUnderlying33 rfl rfl sizeOf3 rfl) ?_
  refine J.p rfl (Q.ldI isAgg3 rfl) ?_
  refine J.p rfl (Q.fa (n := 6) runUnderlying33 rfl rfl sizeOf3 rfl) ?_
  refine J.p rfl (Q.ldI isAgg3 rfl) ?_
  refine J.c rfl rfl (C.bslG (l := (x.nums i).map fun n : Nat => Value.int .i64 n) runUnderlying23 sizeOf3 zeroValue3 (by decide) rfl rfl rfl rfl rfl) ?_
  rintro _ _ ⟨b21, rfl, rfl⟩
  refine J.norm rfl ?_
  refine J.conv (Y := own 3 1 (.slice (some ⟨b21, 0, none⟩) 4 4) ((x.nums i).map fun n : Nat => Value.int .i64 n)) 0 rfl (own_of_block (by rfl)) ?_
  refine J.p rfl (Q.lenSl runUnderlying23 rfl) <| J.m rfl <| J.nil <| J.then_n <| J.block ?_
  refine J.convI (own 5 1 (.slice p13 ([] ++ numB 3).length c13) (bytesV ([] ++ numB 3))) (own 5 1 (.slice p13 (numB 3 ++ ((x.nums i).take 0).flatMap numB).length c13) (bytesV (numB 3 ++ ((x.nums i).take 0).flatMap numB))) (fun h s => by rw [List.take_zero, List.flatMap_nil, List.append_nil]; exact s) ?_
  refine J.loop3I (fun (j : Nat) (_ : Option Addr) (_ : Nat) => j ≤ 4) (fun j _ _ => 4 - j) (fun j p c => [(2, .slice q sh.length e), (3, .pointer (some ⟨b3, 0, none⟩)), (7, .slice p (numB 3 ++ ((x.nums i).take j).flatMap numB).length c), (21, .slice (some ⟨b21, 0, none⟩) 4 4), (22, .int .i64 4), (23, .int .i64 j)])
   (fun j p c => [own 5 1 (.slice p (numB 3 ++ ((x.nums i).take j).flatMap numB).length c) (bytesV (numB 3 ++ ((x.nums i).take j).flatMap numB)), own 3 1 (.slice (some ⟨b21, 0, none⟩) 4 4) ((x.nums i).map fun n : Nat => Value.int .i64 n), pt b3 (.cells x.cells.toArray 33 (0, 0)), G, F]) 0 p13 c13 (by omega) ⟨rfl, rfl, (by show _ = some (Value.slice p13 (numB 3 ++ ((x.nums i).take 0).flatMap numB).length c13); rw [List.take_zero, List.flatMap_nil, List.append_nil]; rfl), rfl, rfl, rfl, trivial⟩ fun j p1 c1 hj => ?_
  refine J.seq <| J.region <| J.p rfl (Q.lss rfl rfl) <| J.nil <| J.then_n <| J.seq ?_
  refine J.kases 24 rfl (fun hc24 => ?_) (fun hc24 => ?_)
  ·
   try (first | (cases hc24; done) | (exfalso; simp at hc24; done))
   all_goals
    refine J.cond_t rfl <| J.cskip <| J.then_n <| J.seq <| J.block <| J.seq ?_
    obtain ⟨n, hn2⟩ : ∃ n, (x.nums i)[j]? = some n := ⟨_, List.getElem?_eq_getElem (by show j < 4; omega)⟩
    have hnb : n ≤ 999999 := by
     have := List.mem_of_getElem? hn2
     simp only [PX.nums, List.mem_cons, List.not_mem_nil, or_false] at this
     omega
    have hst := flatMap_step (f := numB) hn2
    have hfl := flat_part_le (l := x.nums i) (f := numB) j
    have hfl2 : (numB 3).length + ((x.nums i).flatMap numB).length ≤ 60 := by
     simp only [PX.hd, List.length_append, lowB_len] at hhd; omega
    refine J.region <| J.p rfl (Q.ia runUnderlying23 sizeOf3 rfl rfl (by omega) (by omega)) <| J.p rfl (Q.ld isAgg3 rfl (rdO (b := b21) (v := .int .i64 n) (by rw [List.getElem?_map, hn2]; rfl) (by omega))) <| J.p rfl (Q.asg rfl) <| J.nil <| J.then_n <| J.region <| J.m rfl <| J.m rfl <| J.p rfl (Q.conv runUnderlying3 runUnderlying30 rfl) ?_
    refine J.slot 29 (.int .u64 (n : Int)) rfl (by congr 1; exact wrap64 (by omega)) ?_
    refine J.callI call115 (number_spec p1 c1 (numB 3 ++ ((x.nums i).take j).flatMap numB) n (by rw [List.length_append]; omega) (by omega)) rfl rfl rfl ?_
    rintro _ _ ⟨p30, c30, rfl, rfl⟩
    refine J.norm rfl <| J.p rfl (Q.asg rfl) <| J.nil <| J.blk_n <| J.then_n <| J.region <| J.p rfl (Q.add64 rfl rfl (by omega)) <| J.m rfl <| J.nil ?_
    rw [List.append_assoc, ← hst]
    refine J.againI (j + 1, p30, c30) (by show j + 1 ≤ 4; omega) (by show 4 - (j + 1) < 4 - j; omega) ⟨rfl, rfl, rfl, rfl, rfl, rfl, trivial⟩
  try (first | (cases hc24; done) | (exfalso; simp at hc24; done))
  all_goals
   refine J.cond_f rfl <| J.exit <| J.then_x <| J.lp_x <| J.blk_x <| J.then_n <| J.seq ?_
   obtain rfl : j = 4 := by omega
   have htk : (x.nums i).take 4 = x.nums i := rfl
   rw [htk]
   refine J.region <| J.p rfl (Q.fa (n := 7) runUnderlying33 rfl rfl sizeOf31 rfl) ?_
   refine J.p rfl (Q.ldI isAgg31 rfl) ?_
   refine J.callI call25 (four_spec x.sum hsm) rfl rfl rfl ?_
   rintro _ _ ⟨rfl, rfl⟩
   refine J.norm rfl ?_
   refine J.c rfl rfl (C.alloc (l := [_, _, _, _]) zeroValue83 rfl) ?_
   rintro _ _ ⟨b10, rfl, rfl⟩
   refine J.norm rfl ?_
   refine J.conv (Y := own 83 1 (.slice (some ⟨b10, 0, none⟩) 4 4) (bytesV [0, 0, 0, 0])) 0 rfl (own_of_block (by rfl)) ?_
   refine J.c0 rfl (C.stNO (vs := bytesV (lowB x.sum 4)) (b := b10) 0 sizeOf83 rfl rfl rfl (by simp [bytesV, lowB_len]) (by simp [bytesV, byteV, oneC])) ?_
   rintro _ _ ⟨rfl, rfl⟩
   refine J.norm rfl ?_
   have hspl : splice (bytesV [0, 0, 0, 0]) 0 (bytesV (lowB x.sum 4)) = bytesV (lowB x.sum 4) := by
    rw [splice_at _ _ _ (by simp [bytesV, lowB_len]), List.take_zero, Nat.zero_add, List.drop_of_length_le (by simp [bytesV, lowB_len]), List.nil_append, List.append_nil]
   rw [hspl]
   refine J.slrI (E0 := 83) (sz := 1) (p := some ⟨b10, 0, none⟩) (n := 4) (c := 4) (xs := bytesV (lowB x.sum 4)) fun hs10 => ?_
   refine J.nil <| J.then_n <| J.seq <| J.region <| J.m rfl <| J.p rfl (Q.slA runUnderlying83 sizeOf5 rfl) ?_
   have hfl2 : (numB 3).length + ((x.nums i).flatMap numB).length ≤ 60 := by
    simp only [PX.hd, List.length_append, lowB_len] at hhd; omega
   refine J.c rfl rfl (C.appI runUnderlying22 runUnderlying22 typeInfo5 sizeOf5 zeroValue5 rfl rfl hs10.inI (bytesV_one _) (by rw [show Tryz.t5.bytes = 1 from rfl, List.length_append]; omega) (by decide)) ?_
   rintro _ _ ⟨p37, c37, rfl, rfl⟩
   refine J.norm rfl ?_
   have hhl : (numB 3 ++ (x.nums i).flatMap numB).length + 4 = (x.hd i).length := by unfold PX.hd; rw [List.length_append (bs := lowB _ _), lowB_len]
   rw [hhl, bytesV_append, show numB 3 ++ (x.nums i).flatMap numB ++ lowB x.sum 4 = x.hd i from rfl]
   refine J.m rfl ?_
   refine J.c rfl rfl (C.bslG (l := [.slice q sh.length e]) runUnderlying45 sizeOf22 zeroValue22 (by decide) rfl rfl rfl rfl rfl) ?_
   rintro _ _ ⟨b39, rfl, rfl⟩
   refine J.norm rfl ?_
   refine J.callI call117 (bytes_spec G q e sh hs (by omega) b39 p37 c37 (x.hd i) (by omega)) rfl rfl rfl ?_
   rintro _ _ ⟨p40, c40, rfl, rfl⟩
   refine J.norm rfl ?_
   refine J.slrI (E0 := 5) (sz := 1) (p := p40) (n := (x.hd i ++ encB sh).length) (c := c40) (xs := bytesV (x.hd i ++ encB sh)) fun hs40 => ?_
   have hnl := numB_len sh.length (by omega)
   refine J.callI call116 (frame_spec (own 5 1 (.slice p40 (x.hd i ++ encB sh).length c40) (bytesV (x.hd i ++ encB sh))) p40 c40 (x.hd i ++ encB sh) hs40 (by rw [List.length_append, encB, List.length_append]; omega)) rfl rfl rfl ?_
   rintro _ _ ⟨p41, c41, rfl, rfl⟩
   refine J.norm rfl <| J.p rfl (Q.asg rfl) <| J.nil <| J.then_n <| J.cret ?_
   rw [show frameB (x.hd i ++ encB sh) = x.file i sh from rfl]
   exact J.ret1I [own 5 1 (.slice p41 (x.file i sh).length c41) (bytesV (x.file i sh)), G] rfl rfl ⟨p41, c41, rfl, rfl⟩
theorem length_spec (x : PX) (hx : x.ok) : FSpec Tryz.prog 126 [.agg x.cells.toArray] [] (fun v B => v = .int .i64 (shLen x.k x.sz : Nat) ∧ B = []) := by
  refine FSpec.of func126 rfl ntmps126 rfl fun W0 F => ?_
  refine J.seq <| J.region ?_
  refine J.c rfl rfl (C.box (l := [_, _, _, _, _, _, _, _, _]) rfl rfl) ?_
  rintro _ _ ⟨b1, rfl, rfl⟩
  refine J.norm rfl <| J.p rfl (Q.asg rfl) <| J.nil <| J.then_n <| J.seq <| J.region <| J.p rfl (Q.fa (n := 6) runUnderlying33 rfl rfl sizeOf3 rfl) ?_
  refine J.p rfl (Q.ldI isAgg3 rfl) ?_
  refine J.p rfl (Q.fa (n := 4) runUnderlying33 rfl rfl sizeOf3 rfl) ?_
  refine J.p rfl (Q.ldI isAgg3 rfl) ?_
  have h1 := hx.sz
  have h2 := hx.km
  have h3 := hx.k0
  refine J.p rfl (Q.add64 rfl rfl (by omega)) <| J.p rfl (Q.sub64 rfl rfl (by omega)) <| J.p rfl (Q.fa (n := 4) runUnderlying33 rfl rfl sizeOf3 rfl) ?_
  refine J.p rfl (Q.ldI isAgg3 rfl) ?_
  refine J.p rfl (Q.quo64 rfl rfl (by omega) (by omega) (by omega)) <| J.p rfl (Q.maxI rfl) ?_
  have h0 := hx.k0
  refine J.slot 12 (.int .i64 ((shLen x.k x.sz : Nat) : Int)) rfl (congrArg _ (shLen_int h0)) ?_
  refine J.p rfl (Q.asg rfl) <| J.nil <| J.then_n <| J.cret ?_
  exact J.ret1I [] rfl rfl ⟨rfl, rfl⟩

theorem readFile_spec (x : PX) (hx : x.ok) (i : Nat) (hi : i ≤ 255) (G : Assn) (q : Option Addr) (e : Nat) (sh : List U) (hl : sh.length = shLen x.k x.sz) (hs : SlR [G] 1 (.slice q (x.file i sh).length e) (bytesV (x.file i sh))) (hc : (x.file i sh).length ≤ e) :
    FSpec Tryz.prog 63 [.agg x.cells.toArray, .int .i64 i, .slice q (x.file i sh).length e] [G] (fun v B => ∃ p c, v = .tuple #[.slice p sh.length c, .int .i64 0] ∧ B = [own 5 1 (.slice p sh.length c) (bytesV sh), G]) := by
  have hk0 := hx.k0
  have hkm := hx.km
  have hsz := hx.sz
  have hhd := PX.hd_len hx hi
  have hsl1 := shLen_lt (k := x.k) (n := x.sz)
  have hnl := numB_len sh.length (by omega)
  have hnp := numB_pos sh.length
  have hpl : (x.pay i sh).length = (x.hd i).length + ((numB sh.length).length + sh.length) := by rw [PX.pay, List.length_append, encB, List.length_append]
  have hpl0 : (x.pay i []).length = (x.hd i).length + 1 := by rw [PX.pay, List.length_append]; simp [encB, numB_small]
  obtain ⟨tot, htot⟩ : ∃ n, n = (x.file i sh).length := ⟨_, rfl⟩
  rw [← htot] at hs hc ⊢
  refine FSpec.of func63 rfl ntmps63 rfl fun W0 F => ?_
  refine J.seq <| J.region ?_
  refine J.c rfl rfl (C.box (l := [_, _, _, _, _, _, _, _, _]) rfl rfl) ?_
  rintro _ _ ⟨b3, rfl, rfl⟩
  refine J.norm rfl <| J.p rfl (Q.asg rfl) <| J.p rfl (Q.asg rfl) <| J.nil <| J.then_n <| J.seq <| J.region <| J.m rfl ?_
  refine J.callI call123 (readFrame_spec G q tot e (x.pay i sh) hs (by omega) htot.symm hc) rfl rfl rfl ?_
  rintro _ _ ⟨p1, d1, rfl, rfl⟩
  refine J.norm rfl ?_
  refine J.slrI (E0 := 5) (sz := 1) (p := p1) (n := (x.pay i sh).length) (c := d1) (xs := bytesV (x.pay i sh)) fun h1 => ?_
  refine J.tellsI (own 5 1 (.slice p1 (x.pay i sh).length d1) (bytesV (x.pay i sh))) own.len fun hln1 => ?_
  refine J.m rfl <| J.p rfl (Q.ext rfl rfl) <| J.p rfl (Q.ext rfl rfl) <| J.p rfl (Q.ext rfl rfl) <| J.p rfl (Q.asg rfl) <| J.p rfl (Q.asg rfl) <| J.p rfl (Q.asg rfl) <| J.nil <| J.then_n <| J.seq <| J.seq <| J.region <| J.m rfl <| J.p rfl (Q.neq rfl rfl) <| J.nil <| J.then_n ?_
  refine J.cases 26 rfl (fun hc26 => ?_) (fun hc26 => ?_)
  ·
   have h := X.nm hc26; exact absurd rfl h
  replace hc26 := X.nm hc26
  try (first | (exfalso; omega))
  all_goals
   refine J.cond_f rfl <| J.cskip <| J.then_n <| J.seq <| J.region ?_
   refine J.p rfl (Q.ldN (vs := x.cells) isAgg33 sizeOf33 rfl rnI) ?_
   refine J.m rfl ?_
   refine J.give (X := star ([] : List Assn)) trivial ?_
   refine J.callI call59 (file_spec x hx i hi (star []) none 0 [] (.inl ⟨none, 0, rfl, rfl⟩) (by simp)) rfl rfl rfl ?_
   rintro _ _ ⟨p2, d2, rfl, rfl⟩
   refine J.norm rfl <| J.p rfl (Q.asg rfl) <| J.nil <| J.then_n <| J.seq ?_
   refine J.slrI (E0 := 5) (sz := 1) (p := p2) (n := (x.file i []).length) (c := d2) (xs := bytesV (x.file i [])) fun h2 => ?_
   refine J.tellsI (own 5 1 (.slice p2 (x.file i []).length d2) (bytesV (x.file i []))) own.len fun hln2 => ?_
   refine J.region <| J.m rfl ?_
   refine J.callI call123 (readFrame_spec (own 5 1 (.slice p2 (x.file i []).length d2) (bytesV (x.file i []))) p2 (x.file i []).length d2 (x.pay i []) h2 (by omega) rfl hln2.2) rfl rfl rfl ?_
   rintro _ _ ⟨p3, d3, rfl, rfl⟩
   refine J.norm rfl ?_
   refine J.tellsI (own 5 1 (.slice p3 (x.pay i []).length d3) (bytesV (x.pay i []))) own.len fun hln3 => ?_
   refine J.m rfl <| J.p rfl (Q.ext rfl rfl) <| J.p rfl (Q.ext rfl rfl) <| J.p rfl (Q.ext rfl rfl) <| J.p rfl (Q.asg rfl) <| J.p rfl (Q.asg rfl) <| J.p rfl (Q.asg rfl) <| J.nil <| J.then_n <| J.seq ?_
   have hcap3 := hln3.2
   have hcap1 := hln1.2
   refine J.region <| J.m rfl <| J.m rfl <| J.p rfl (Q.lenSl runUnderlying22 rfl) <| J.p rfl (Q.sub64 rfl rfl (by omega)) ?_
   refine J.slot 40 (.int .i64 (x.hd i).length) rfl (congrArg _ (by omega)) ?_
   refine J.p rfl (Q.slH runUnderlying22 sizeOf5 rfl rfl (by omega) (by omega)) ?_
   refine J.slot 41 (.slice p3 (x.hd i).length d3) rfl rfl ?_
   refine J.convI (own 5 1 (.slice p3 (x.pay i []).length d3) (bytesV (x.pay i []))) (own 5 1 (.slice p3 (x.hd i).length d3) (bytesV (x.hd i))) (fun h s => by
    have := own.cut (k := (x.hd i).length) (by omega) h s
    rwa [show (bytesV (x.pay i [])).take (x.hd i).length = bytesV (x.hd i) by rw [PX.pay]; simp [bytesV]] at this) ?_
   refine J.slrI (E0 := 5) (sz := 1) (p := p3) (n := (x.hd i).length) (c := d3) (xs := bytesV (x.hd i)) fun h3 => ?_
   refine J.p rfl (Q.asg rfl) <| J.nil <| J.then_n <| J.seq <| J.seq <| J.region <| J.p rfl (Q.fa (n := 4) runUnderlying33 rfl rfl sizeOf3 rfl) ?_
   refine J.p rfl (Q.ldI isAgg3 rfl) ?_
   refine J.p rfl (Q.fa (n := 5) runUnderlying33 rfl rfl sizeOf3 rfl) ?_
   refine J.p rfl (Q.ldI isAgg3 rfl) ?_
   refine J.callI call15 (new_spec x.k x.m hk0 hkm) rfl rfl rfl ?_
   rintro _ _ ⟨bc, rfl, rfl⟩
   refine J.norm rfl <| J.m rfl <| J.p rfl (Q.ext rfl rfl) <| J.p rfl (Q.ext rfl rfl) <| J.p rfl (Q.asg rfl) <| J.p rfl (Q.asg rfl) <| J.nil <| J.then_n <| J.seq <| J.region <| J.m rfl <| J.p rfl (Q.neq rfl rfl) <| J.m rfl ?_
   refine J.kases 52 rfl (fun hb52 => ?_) (fun hb52 => ?_)
   ·
    try (first | (exfalso; omega))
    all_goals
     refine J.k rfl <| J.k rfl <| J.k rfl <| J.p rfl (Q.pick_t rfl rfl) <| J.m rfl <| J.k rfl <| J.k rfl <| J.k rfl <| J.k rfl <| J.p rfl (Q.pick_t rfl rfl) <| J.m rfl <| J.k rfl <| J.k rfl <| J.k rfl <| J.k rfl <| J.p rfl (Q.pick_t rfl rfl) <| J.nil <| J.then_n <| J.cond_t rfl <| J.seq <| J.region ?_
     refine J.p rfl (Q.asg rfl) <| J.p rfl (Q.asg rfl) <| J.nil <| J.then_n <| J.cret <| J.then_r ?_
     exact J.ret2I [own 5 1 (.slice p4 sh.length d4) (bytesV sh), G] rfl rfl rfl ⟨p4, d4, rfl, rfl⟩
   try (first | (exfalso; omega))
   all_goals
    refine J.p rfl (Q.fa (n := 6) runUnderlying33 rfl rfl sizeOf3 rfl) ?_
    refine J.p rfl (Q.ldI isAgg3 rfl) ?_
    refine J.p rfl (Q.lss rfl rfl) <| J.p rfl (Q.pick_f rfl rfl) <| J.m rfl ?_
    refine J.kases 57 rfl (fun hb57 => ?_) (fun hb57 => ?_)
    ·
     try (first | (exfalso; omega))
     all_goals
      refine J.k rfl <| J.k rfl <| J.k rfl <| J.k rfl <| J.p rfl (Q.pick_t rfl rfl) <| J.m rfl <| J.k rfl <| J.k rfl <| J.k rfl <| J.k rfl <| J.p rfl (Q.pick_t rfl rfl) <| J.nil <| J.then_n <| J.cond_t rfl <| J.seq <| J.region <| J.p rfl (Q.asg rfl) <| J.p rfl (Q.asg rfl) <| J.nil <| J.then_n <| J.cret <| J.then_r ?_
      exact J.ret2I [own 5 1 (.slice p4 sh.length d4) (bytesV sh), G] rfl rfl rfl ⟨p4, d4, rfl, rfl⟩
    try (first | (exfalso; omega))
    all_goals
     refine J.m rfl <| J.m rfl <| J.p rfl (Q.lenSl runUnderlying22 rfl) <| J.p rfl (Q.neq rfl rfl) <| J.p rfl (Q.pick_f rfl rfl) <| J.m rfl ?_
     refine J.kases 63 rfl (fun hb63 => ?_) (fun hb63 => ?_)
     ·
      try (first | (exfalso; omega))
      all_goals
       refine J.k rfl <| J.k rfl <| J.k rfl <| J.k rfl <| J.p rfl (Q.pick_t rfl rfl) <| J.nil <| J.then_n <| J.cond_t rfl <| J.seq <| J.region <| J.p rfl (Q.asg rfl) <| J.p rfl (Q.asg rfl) <| J.nil <| J.then_n <| J.cret <| J.then_r ?_
       exact J.ret2I [own 5 1 (.slice p4 sh.length d4) (bytesV sh), G] rfl rfl rfl ⟨p4, d4, rfl, rfl⟩
     try (first | (exfalso; omega))
     all_goals
      refine J.m rfl <| J.m rfl ?_
      refine J.callI call124 (hasPrefix_spec (own 5 1 (.slice p1 (x.pay i sh).length d1) (bytesV (x.pay i sh))) (own 5 1 (.slice p3 (x.hd i).length d3) (bytesV (x.hd i))) p1 p3 d1 d3 (x.pay i sh) (encB sh) (x.hd i) rfl hcap1 (by omega) h1 h3) rfl rfl rfl ?_
      rintro _ _ ⟨rfl, rfl⟩
      refine J.norm rfl <| J.p rfl (Q.not rfl) <| J.p rfl (Q.pick_f rfl rfl) <| J.nil <| J.then_n <| J.cond_f rfl <| J.cskip <| J.then_n <| J.seq ?_
      obtain ⟨b1, o1, rfl, hrd1⟩ := h1.some_ (by omega)
      obtain ⟨o2, d2', hsl, hval⟩ := slr_part (c := d1) hrd1 (show (bytesV (x.pay i sh)).length = (x.pay i sh).length by rw [bytesV_len]) (show (x.hd i).length + (encB sh).length ≤ (x.pay i sh).length by rw [PX.pay, List.length_append]; exact Nat.le_refl _) hcap1
      have hpart : ((bytesV (x.pay i sh)).drop (x.hd i).length).take (encB sh).length = bytesV (encB sh) := by
       rw [← bytesV_part, PX.pay, List.drop_left, List.take_length]
      have hel : (encB sh).length = (numB sh.length).length + sh.length := by rw [encB, List.length_append]
      rw [hpart] at hsl
      have hcd2 : (encB sh).length ≤ d2' := by
       have h5 := hval
       simp only [Value.slice.injEq] at h5
       omega
      refine J.region <| J.m rfl <| J.m rfl <| J.p rfl (Q.lenSl runUnderlying22 rfl) <| J.p rfl (Q.slL runUnderlying22 sizeOf5 rfl rfl (by omega) (by omega)) ?_
      refine J.slot 73 (.slice o2 (encB sh).length d2') rfl (by rw [← hval, hpl, hel]; congr 1 <;> (try simp only [Int.toNat_natCast]) <;> (try omega)) ?_
      refine J.callI call125 (readBytes_spec (own 5 1 (.slice (some ⟨b1, o1, none⟩) (x.pay i sh).length d1) (bytesV (x.pay i sh))) o2 (encB sh).length d2' (encB sh) [] sh hsl (by rw [List.append_nil]) (by omega) (by omega) hcd2) rfl rfl rfl ?_
      rintro _ _ ⟨p4, d4, rfl, rfl⟩
      refine J.norm rfl <| J.m rfl <| J.p rfl (Q.ext rfl rfl) <| J.p rfl (Q.ext rfl rfl) <| J.p rfl (Q.ext rfl rfl) <| J.p rfl (Q.asg rfl) <| J.p rfl (Q.asg rfl) <| J.p rfl (Q.asg rfl) <| J.nil <| J.then_n <| J.seq <| J.seq <| J.region <| J.m rfl <| J.p rfl (Q.neq rfl rfl) <| J.m rfl ?_
      refine J.kases 80 rfl (fun hb80 => ?_) (fun hb80 => ?_)
      ·
       try (first | (exfalso; omega))
       all_goals
        refine J.k rfl <| J.k rfl <| J.k rfl <| J.k rfl <| J.k rfl <| J.k rfl <| J.k rfl <| J.p rfl (Q.pick_t rfl rfl) <| J.m rfl <| J.k rfl <| J.k rfl <| J.k rfl <| J.k rfl <| J.k rfl <| J.p rfl (Q.pick_t rfl rfl) <| J.nil <| J.then_n <| J.cond_t rfl <| J.seq <| J.region <| J.p rfl (Q.asg rfl) <| J.p rfl (Q.asg rfl) ?_
        refine J.nil <| J.then_n <| J.cret <| J.then_r ?_
        exact J.ret2I [own 5 1 (.slice p4 sh.length d4) (bytesV sh), G] rfl rfl rfl ⟨p4, d4, rfl, rfl⟩
      try (first | (exfalso; omega))
      all_goals
       refine J.m rfl <| J.p rfl (Q.lenSl runUnderlying22 rfl) <| J.m rfl <| J.p rfl (Q.add64 rfl rfl (by omega)) <| J.m rfl <| J.p rfl (Q.lenSl runUnderlying22 rfl) <| J.p rfl (Q.neq rfl rfl) <| J.p rfl (Q.pick_f rfl rfl) <| J.m rfl ?_
       refine J.kases 89 rfl (fun hb89 => ?_) (fun hb89 => ?_)
       ·
        try (first | (exfalso; omega))
        all_goals
         refine J.k rfl <| J.k rfl <| J.k rfl <| J.k rfl <| J.k rfl <| J.p rfl (Q.pick_t rfl rfl) <| J.nil <| J.then_n <| J.cond_t rfl <| J.seq <| J.region <| J.p rfl (Q.asg rfl) <| J.p rfl (Q.asg rfl) <| J.nil <| J.then_n <| J.cret <| J.then_r ?_
         exact J.ret2I [own 5 1 (.slice p4 sh.length d4) (bytesV sh), G] rfl rfl rfl ⟨p4, d4, rfl, rfl⟩
       try (first | (exfalso; omega))
       all_goals
        refine J.m rfl <| J.p rfl (Q.lenSl runUnderlying22 rfl) ?_
        refine J.p rfl (Q.ldN (vs := x.cells) isAgg33 sizeOf33 rfl rnI) ?_
        refine J.call call126 (length_spec x hx) [] rfl rfl rfl rfl ?_
        rintro _ _ ⟨rfl, rfl⟩
        refine J.norm rfl <| J.p rfl (Q.neq rfl rfl) <| J.p rfl (Q.pick_f rfl rfl) <| J.nil <| J.then_n ?_
        refine J.kases 95 rfl (fun hc95 => ?_) (fun hc95 => ?_)
        ·
         try (first | (exfalso; omega))
         all_goals
          refine J.cond_t rfl <| J.seq <| J.region <| J.p rfl (Q.asg rfl) <| J.p rfl (Q.asg rfl) <| J.nil <| J.then_n <| J.cret <| J.then_r ?_
          exact J.ret2I [own 5 1 (.slice p4 sh.length d4) (bytesV sh), G] rfl rfl rfl ⟨p4, d4, rfl, rfl⟩
        try (first | (exfalso; omega))
        all_goals
         refine J.cond_f rfl <| J.cskip <| J.then_n <| J.seq <| J.region <| J.m rfl <| J.p rfl (Q.asg rfl) <| J.p rfl (Q.asg rfl) <| J.nil <| J.then_n <| J.cret ?_
         exact J.ret2I [own 5 1 (.slice p4 sh.length d4) (bytesV sh), G] rfl rfl rfl ⟨p4, d4, rfl, rfl⟩
theorem readFile_nil (x : PX) (i : Nat) (G : Assn) (q : Option Addr) (e : Nat) :
    FSpec Tryz.prog 63 [.agg x.cells.toArray, .int .i64 i, .slice q 0 e] [G] (fun v B => v = .tuple #[.slice none 0 0, .int .i64 11] ∧ B = [G]) := by
  refine FSpec.of func63 rfl ntmps63 rfl fun W0 F => ?_
  refine J.seq <| J.region ?_
  refine J.c rfl rfl (C.box (l := [_, _, _, _, _, _, _, _, _]) rfl rfl) ?_
  rintro _ _ ⟨b3, rfl, rfl⟩
  refine J.norm rfl <| J.p rfl (Q.asg rfl) <| J.p rfl (Q.asg rfl) <| J.nil <| J.then_n <| J.seq <| J.region <| J.m rfl ?_
  refine J.callI call123 (readFrame_nil G q e) rfl rfl rfl ?_
  rintro _ _ ⟨rfl, rfl⟩
  refine J.norm rfl <| J.m rfl <| J.p rfl (Q.ext rfl rfl) <| J.p rfl (Q.ext rfl rfl) <| J.p rfl (Q.ext rfl rfl) <| J.p rfl (Q.asg rfl) <| J.p rfl (Q.asg rfl) <| J.p rfl (Q.asg rfl) <| J.nil <| J.then_n <| J.seq <| J.seq <| J.region <| J.m rfl <| J.p rfl (Q.neq rfl rfl) <| J.nil <| J.then_n ?_
  refine J.kases 26 rfl (fun hc26 => ?_) (fun hc26 => ?_)
  ·
   try (first | (cases hc26; done) | (exfalso; simp at hc26; done))
   all_goals
    refine J.cond_t rfl <| J.seq <| J.region <| J.m rfl <| J.p rfl (Q.asg rfl) <| J.p rfl (Q.asg rfl) <| J.nil <| J.then_n <| J.cret <| J.then_r ?_
    exact J.ret2I [G] rfl rfl rfl ⟨rfl, rfl⟩
  try (first | (cases hc26; done) | (exfalso; simp at hc26; done))
  all_goals
   refine J.cond_f rfl <| J.cskip <| J.then_n <| J.seq <| J.region ?_
   refine J.p rfl (Q.ldN (vs := [_, _, _, _, _, _, _, _, _]) isAgg33 sizeOf33 rfl rnI) ?_
   refine J.m rfl ?_
   -- call@30 call f59<cold.File>(t28, t29, nilslice)
   stop
   refine J.p rfl (Q.asg rfl) <| J.nil <| J.then_n <| J.seq <| J.region <| J.m rfl ?_
   -- call@33 call f123<codec.ReadFrame>(t32)
   stop
   refine J.m rfl <| J.p rfl (Q.ext rfl rfl) <| J.p rfl (Q.ext rfl rfl) <| J.p rfl (Q.ext rfl rfl) <| J.p rfl (Q.asg rfl) <| J.p rfl (Q.asg rfl) <| J.p rfl (Q.asg rfl) <| J.nil <| J.then_n <| J.seq <| J.region <| J.m rfl <| J.m rfl <| J.p rfl (Q.lenSl runUnderlying22 rfl) <| J.p rfl (Q.sub64 rfl rfl (by omega)) <| J.p rfl (Q.slH runUnderlying22 sizeOf5 rfl rfl (by omega) (by omega)) ?_
   refine J.p rfl (Q.asg rfl) <| J.nil <| J.then_n <| J.seq <| J.seq <| J.region <| J.p rfl (Q.fa (n := 4) runUnderlying33 rfl rfl sizeOf3 rfl) ?_
   refine J.p rfl (Q.ldI isAgg3 rfl) ?_
   refine J.p rfl (Q.fa (n := 5) runUnderlying33 rfl rfl sizeOf3 rfl) ?_
   refine J.p rfl (Q.ldI isAgg3 rfl) ?_
   -- call@47 call f15<rs.New>(t44, t46)
   stop
   refine J.m rfl <| J.p rfl (Q.ext rfl rfl) <| J.p rfl (Q.ext rfl rfl) <| J.p rfl (Q.asg rfl) <| J.p rfl (Q.asg rfl) <| J.nil <| J.then_n <| J.seq <| J.region <| J.m rfl <| J.p rfl (Q.neq rfl rfl) <| J.m rfl ?_
   refine J.kases 52 rfl (fun hb52 => ?_) (fun hb52 => ?_)
   ·
    try (first | (cases hb52; done) | (exfalso; simp at hb52; done))
    all_goals
     refine J.k rfl <| J.k rfl <| J.k rfl <| J.p rfl (Q.pick_t rfl rfl) <| J.m rfl <| J.k rfl <| J.k rfl <| J.k rfl <| J.k rfl <| J.p rfl (Q.pick_t rfl rfl) <| J.m rfl <| J.k rfl <| J.k rfl <| J.k rfl <| J.k rfl <| J.p rfl (Q.pick_t rfl rfl) <| J.nil <| J.then_n <| J.cond_t rfl <| J.seq <| J.region ?_
     refine J.p rfl (Q.asg rfl) <| J.p rfl (Q.asg rfl) <| J.nil <| J.then_n <| J.cret <| J.then_r ?_
     exact J.ret2I [G] rfl rfl rfl ⟨rfl, rfl⟩
   try (first | (cases hb52; done) | (exfalso; simp at hb52; done))
   all_goals
    refine J.p rfl (Q.fa (n := 6) runUnderlying33 rfl rfl sizeOf3 rfl) ?_
    refine J.p rfl (Q.ldI isAgg3 rfl) ?_
    refine J.p rfl (Q.lss rfl rfl) <| J.p rfl (Q.pick_f rfl rfl) <| J.m rfl ?_
    refine J.kases 57 rfl (fun hb57 => ?_) (fun hb57 => ?_)
    ·
     try (first | (cases hb57; done) | (exfalso; simp at hb57; done))
     all_goals
      refine J.k rfl <| J.k rfl <| J.k rfl <| J.k rfl <| J.p rfl (Q.pick_t rfl rfl) <| J.m rfl <| J.k rfl <| J.k rfl <| J.k rfl <| J.k rfl <| J.p rfl (Q.pick_t rfl rfl) <| J.nil <| J.then_n <| J.cond_t rfl <| J.seq <| J.region <| J.p rfl (Q.asg rfl) <| J.p rfl (Q.asg rfl) <| J.nil <| J.then_n <| J.cret <| J.then_r ?_
      exact J.ret2I [G] rfl rfl rfl ⟨rfl, rfl⟩
    try (first | (cases hb57; done) | (exfalso; simp at hb57; done))
    all_goals
     refine J.m rfl <| J.m rfl <| J.p rfl (Q.lenSl runUnderlying22 rfl) <| J.p rfl (Q.neq rfl rfl) <| J.p rfl (Q.pick_f rfl rfl) <| J.m rfl ?_
     refine J.kases 63 rfl (fun hb63 => ?_) (fun hb63 => ?_)
     ·
      try (first | (cases hb63; done) | (exfalso; simp at hb63; done))
      all_goals
       refine J.k rfl <| J.k rfl <| J.k rfl <| J.k rfl <| J.p rfl (Q.pick_t rfl rfl) <| J.nil <| J.then_n <| J.cond_t rfl <| J.seq <| J.region <| J.p rfl (Q.asg rfl) <| J.p rfl (Q.asg rfl) <| J.nil <| J.then_n <| J.cret <| J.then_r ?_
       exact J.ret2I [G] rfl rfl rfl ⟨rfl, rfl⟩
     try (first | (cases hb63; done) | (exfalso; simp at hb63; done))
     all_goals
      refine J.m rfl <| J.m rfl ?_
      -- call@66 call f124<bytes.HasPrefix>(t64, t65)
      stop
      refine J.p rfl (Q.not rfl) <| J.p rfl (Q.pick_f rfl rfl) <| J.nil <| J.then_n ?_
      refine J.kases 68 rfl (fun hc68 => ?_) (fun hc68 => ?_)
      ·
       try (first | (cases hc68; done) | (exfalso; simp at hc68; done))
       all_goals
        refine J.cond_t rfl <| J.seq <| J.region <| J.p rfl (Q.asg rfl) <| J.p rfl (Q.asg rfl) <| J.nil <| J.then_n <| J.cret <| J.then_r ?_
        exact J.ret2I [G] rfl rfl rfl ⟨rfl, rfl⟩
      try (first | (cases hc68; done) | (exfalso; simp at hc68; done))
      all_goals
       refine J.cond_f rfl <| J.cskip <| J.then_n <| J.seq <| J.region <| J.m rfl <| J.m rfl <| J.p rfl (Q.lenSl runUnderlying22 rfl) <| J.p rfl (Q.slL runUnderlying22 sizeOf5 rfl rfl (by omega) (by omega)) ?_
       -- call@74 call f125<codec.ReadBytes>(t73, 67108864)
       stop
       refine J.m rfl <| J.p rfl (Q.ext rfl rfl) <| J.p rfl (Q.ext rfl rfl) <| J.p rfl (Q.ext rfl rfl) <| J.p rfl (Q.asg rfl) <| J.p rfl (Q.asg rfl) <| J.p rfl (Q.asg rfl) <| J.nil <| J.then_n <| J.seq <| J.seq <| J.region <| J.m rfl <| J.p rfl (Q.neq rfl rfl) <| J.m rfl ?_
       refine J.kases 80 rfl (fun hb80 => ?_) (fun hb80 => ?_)
       ·
        try (first | (cases hb80; done) | (exfalso; simp at hb80; done))
        all_goals
         refine J.k rfl <| J.k rfl <| J.k rfl <| J.k rfl <| J.k rfl <| J.k rfl <| J.k rfl <| J.p rfl (Q.pick_t rfl rfl) <| J.m rfl <| J.k rfl <| J.k rfl <| J.k rfl <| J.k rfl <| J.k rfl <| J.p rfl (Q.pick_t rfl rfl) <| J.nil <| J.then_n <| J.cond_t rfl <| J.seq <| J.region <| J.p rfl (Q.asg rfl) <| J.p rfl (Q.asg rfl) ?_
         refine J.nil <| J.then_n <| J.cret <| J.then_r ?_
         exact J.ret2I [G] rfl rfl rfl ⟨rfl, rfl⟩
       try (first | (cases hb80; done) | (exfalso; simp at hb80; done))
       all_goals
        refine J.m rfl <| J.p rfl (Q.lenSl runUnderlying22 rfl) <| J.m rfl <| J.p rfl (Q.add64 rfl rfl (by omega)) <| J.m rfl <| J.p rfl (Q.lenSl runUnderlying22 rfl) <| J.p rfl (Q.neq rfl rfl) <| J.p rfl (Q.pick_f rfl rfl) <| J.m rfl ?_
        refine J.kases 89 rfl (fun hb89 => ?_) (fun hb89 => ?_)
        ·
         try (first | (cases hb89; done) | (exfalso; simp at hb89; done))
         all_goals
          refine J.k rfl <| J.k rfl <| J.k rfl <| J.k rfl <| J.k rfl <| J.p rfl (Q.pick_t rfl rfl) <| J.nil <| J.then_n <| J.cond_t rfl <| J.seq <| J.region <| J.p rfl (Q.asg rfl) <| J.p rfl (Q.asg rfl) <| J.nil <| J.then_n <| J.cret <| J.then_r ?_
          exact J.ret2I [G] rfl rfl rfl ⟨rfl, rfl⟩
        try (first | (cases hb89; done) | (exfalso; simp at hb89; done))
        all_goals
         refine J.m rfl <| J.p rfl (Q.lenSl runUnderlying22 rfl) ?_
         refine J.p rfl (Q.ldN (vs := [_, _, _, _, _, _, _, _, _]) isAgg33 sizeOf33 rfl rnI) ?_
         -- call@93 call f126<cold.length>(t92)
         stop
         refine J.p rfl (Q.neq rfl rfl) <| J.p rfl (Q.pick_f rfl rfl) <| J.nil <| J.then_n ?_
         refine J.kases 95 rfl (fun hc95 => ?_) (fun hc95 => ?_)
         ·
          try (first | (cases hc95; done) | (exfalso; simp at hc95; done))
          all_goals
           refine J.cond_t rfl <| J.seq <| J.region <| J.p rfl (Q.asg rfl) <| J.p rfl (Q.asg rfl) <| J.nil <| J.then_n <| J.cret <| J.then_r ?_
           exact J.ret2I [G] rfl rfl rfl ⟨rfl, rfl⟩
         try (first | (cases hc95; done) | (exfalso; simp at hc95; done))
         all_goals
          refine J.cond_f rfl <| J.cskip <| J.then_n <| J.seq <| J.region <| J.m rfl <| J.p rfl (Q.asg rfl) <| J.p rfl (Q.asg rfl) <| J.nil <| J.then_n <| J.cret ?_
          exact J.ret2I [G] rfl rfl rfl ⟨rfl, rfl⟩

def atL (full : Ml) (i : Nat) : List U := (full[i]?).getD []
def goodL (full : Ml) (pres : Nat → Bool) (n : Nat) : Ml := (List.range n).map fun i => if pres i then atL full i else []
def filesL (x : PX) (full : Ml) (pres : Nat → Bool) (n : Nat) : Ml := (List.range n).map fun i => if pres i then x.file i (atL full i) else []
def presL (pres : Nat → Bool) (n : Nat) : List Nat := (List.range n).filter pres
theorem presL_yes {pres : Nat → Bool} {i : Nat} (h : pres i = true) : presL pres (i + 1) = presL pres i ++ [i] := by
  unfold presL
  rw [List.range_succ, List.filter_append, List.filter_cons_of_pos h, List.filter_nil]
theorem presL_no {pres : Nat → Bool} {i : Nat} (h : pres i = false) : presL pres (i + 1) = presL pres i := by
  unfold presL
  rw [List.range_succ, List.filter_append, List.filter_cons_of_neg (by simp [h]), List.filter_nil, List.append_nil]
theorem presL_le {pres : Nat → Bool} {n : Nat} : (presL pres n).length ≤ n := by
  have := List.length_filter_le pres (List.range n)
  rwa [List.length_range] at this
theorem goodL_at {full : Ml} {pres : Nat → Bool} {n i : Nat} (h : i < n) : (goodL full pres n)[i]? = some (if pres i then atL full i else []) := by
  unfold goodL
  rw [List.getElem?_map, List.getElem?_range h]; rfl
theorem filesL_at {x : PX} {full : Ml} {pres : Nat → Bool} {n i : Nat} (h : i < n) : (filesL x full pres n)[i]? = some (if pres i then x.file i (atL full i) else []) := by
  unfold filesL
  rw [List.getElem?_map, List.getElem?_range h]; rfl
theorem goodL_len {full : Ml} {pres : Nat → Bool} {n : Nat} : (goodL full pres n).length = n := by simp [goodL]
theorem atL_len {full : Ml} {n w i : Nat} (h : Rect n w full) (hi : i < n) : (atL full i).length = w := by
  obtain ⟨r, h1, h2⟩ := h.at_ hi
  rw [atL, h1]; exact h2

theorem readGood_spec (x : PX) (hx : x.ok) (i : Nat) (hi : i ≤ 255) (G : Assn) (q : Option Addr) (e : Nat) (sh : List U) (b : Bool) (hl : sh.length = shLen x.k x.sz) (hs : SlR [G] 1 (.slice q (if b then x.file i sh else []).length e) (bytesV (if b then x.file i sh else []))) (hc : (if b then x.file i sh else []).length ≤ e) :
    FSpec Tryz.prog 63 [.agg x.cells.toArray, .int .i64 i, .slice q (if b then x.file i sh else []).length e] [G]
      (fun v B => ∃ p c er, v = .tuple #[.slice p (if b then sh else []).length c, .int .i64 er] ∧ B = [own 5 1 (.slice p (if b then sh else []).length c) (bytesV (if b then sh else [])), G]) := by
  cases b with
  | true => exact (readFile_spec x hx i hi G q e sh hl hs hc).mono fun v B ⟨p, c, h1, h2⟩ => ⟨p, c, 0, h1, h2⟩
  | false =>
    refine (readFile_nil x i G q e).conv (fun _ s => s) ?_
    rintro v _ ⟨rfl, rfl⟩
    exact ⟨[own 5 1 (.slice none 0 0) [], G], ⟨none, 0, 11, rfl, rfl⟩, fun h s => ⟨fun _ => none, h, own.nil _ _ _, s, fun _ => .inl rfl, (fun _ _ e => nomatch e), Sub.refl _⟩⟩

section
variable (x : PX) (hx : x.ok) (full : Ml) (pres : Nat → Bool) (n : Nat) (hn : n = x.k + x.m) (hfull : Rect n (shLen x.k x.sz) full) (G : Assn) (fp : Option Addr) (fc : Nat) (fs : List RowH) (hfs : fs.map RowH.bs = filesL x full pres n)
  (hf : SlR [G] 1 (.slice fp n fc) (fs.map RowH.val)) (hfr : ∀ r, r ∈ fs → SlR [G] 1 r.val (bytesV r.bs) ∧ r.bs.length ≤ r.c)
include hx hn hfull hfs hf hfr
theorem good_spec : FSpec Tryz.prog 32 [.agg x.cells.toArray, .slice fp n fc] [G] (fun v B => ∃ (p : Option Addr) (c : Nat) (gs : List RowH), v = .slice p n c ∧ gs.map RowH.bs = goodL full pres n ∧ B = [own 22 1 (.slice p n c) (gs.map RowH.val), star (gs.map RowH.asn), G]) := by
  refine FSpec.of func32 rfl ntmps32 rfl fun W0 F => ?_
  refine J.seq ?_
  have hk0 := hx.k0
  have hkm := hx.km
  have hsz := hx.sz
  have hfl : fs.length = n := by have := congrArg List.length hfs; simpa [filesL] using this
  refine J.region ?_
  refine J.c rfl rfl (C.box (l := [_, _, _, _, _, _, _, _, _]) rfl rfl) ?_
  rintro _ _ ⟨b2, rfl, rfl⟩
  refine J.norm rfl <| J.p rfl (Q.asg rfl) <| J.nil <| J.then_n <| J.seq <| J.region <| J.p rfl (Q.asg rfl) <| J.nil <| J.then_n <| J.seq <| J.seq <| J.region <| J.m rfl <| J.p rfl (Q.lenSl runUnderlying45 rfl) <| J.m rfl <| J.nil <| J.then_n <| J.block ?_
  refine J.give (X := star (([] : List RowH).map RowH.asn)) trivial ?_
  refine J.give (X := own 22 1 (.slice none 0 0) (([] : List RowH).map RowH.val)) (own.nil _ _ _) ?_
  refine J.loop3I (fun (gs : List RowH) (_ : Option Addr) (_ : Nat) => gs.length ≤ n ∧ gs.map RowH.bs = (goodL full pres n).take gs.length) (fun gs _ _ => n - gs.length) (fun gs p c => [(2, .pointer (some ⟨b2, 0, none⟩)), (5, .slice p gs.length c), (10, .slice fp n fc), (11, .int .i64 n), (12, .int .i64 gs.length)])
   (fun gs p c => [own 22 1 (.slice p gs.length c) (gs.map RowH.val), star (gs.map RowH.asn), pt b2 (.cells x.cells.toArray 33 (0, 0)), G, F]) [] none 0 ⟨by simp, rfl⟩ ⟨rfl, rfl, rfl, rfl, rfl, trivial⟩ fun gs p c hz => ?_
  obtain ⟨hz1, hz2⟩ := hz
  refine J.seq <| J.region <| J.p rfl (Q.lss rfl rfl) <| J.nil <| J.then_n <| J.seq ?_
  refine J.kases 13 rfl (fun hc13 => ?_) (fun hc13 => ?_)
  ·
   try (first | (cases hc13; done) | (exfalso; simp at hc13; done))
   all_goals
    refine J.cond_t rfl <| J.cskip <| J.then_n <| J.seq <| J.block <| J.seq ?_
    obtain ⟨i, hi⟩ : ∃ i, i = gs.length := ⟨_, rfl⟩
    rw [← hi] at hz1 hz2 ⊢
    obtain ⟨fb, fo, rfl, hrd⟩ := hf.some_ (by omega)
    obtain ⟨r, hr⟩ : ∃ r, fs[i]? = some r := ⟨_, List.getElem?_eq_getElem (by omega)⟩
    have hrv : (fs.map RowH.val)[i]? = some r.val := by rw [List.getElem?_map, hr]; rfl
    have hrb : r.bs = if pres i then x.file i (atL full i) else [] := by
     have h1 := filesL_at (x := x) (full := full) (pres := pres) (show i < n by omega)
     rw [← hfs, List.getElem?_map, hr] at h1
     exact Option.some.inj h1
    obtain ⟨hr1, hr2⟩ := hfr r (List.mem_of_getElem? hr)
    have hrval : r.val = .slice r.p (if pres i then x.file i (atL full i) else []).length r.c := by rw [RowH.val, hrb]
    rw [hrval] at hrv
    refine J.region <| J.m rfl <| J.p rfl (Q.ia runUnderlying45 sizeOf22 rfl rfl (by omega) (by omega)) <| J.p rfl (Q.ld isAgg22 rfl (((hrd i _ hrv).inI).cast (by simp))) <| J.p rfl (Q.asg rfl) <| J.p rfl (Q.asg rfl) <| J.nil <| J.then_n <| J.seq <| J.region ?_
    refine J.p rfl (Q.ldN (vs := x.cells) isAgg33 sizeOf33 rfl rnI) ?_
    refine J.m rfl <| J.m rfl ?_
    refine J.callI call63 (readGood_spec x hx i (by omega) G r.p r.c (atL full i) (pres i) (atL_len hfull (by omega)) (by rw [← hrb]; exact hr1) (by rw [← hrb]; exact hr2)) rfl rfl rfl ?_
    rintro _ _ ⟨rp, rc, er, rfl, rfl⟩
    refine J.norm rfl ?_
    obtain ⟨g, hg⟩ : ∃ g : RowH, g = ⟨rp, rc, if pres i then atL full i else []⟩ := ⟨_, rfl⟩
    have hgv : g.val = .slice rp (if pres i then atL full i else []).length rc := by subst hg; rfl
    rw [← hgv]
    refine J.convI (own 5 1 g.val (bytesV (if pres i then atL full i else []))) g.asn (fun h s => by subst hg; exact s) ?_
    refine J.m rfl <| J.p rfl (Q.ext rfl rfl) <| J.p rfl (Q.ext rfl rfl) <| J.p rfl (Q.asg rfl) <| J.p rfl (Q.asg rfl) <| J.nil <| J.then_n <| J.region <| J.m rfl <| J.m rfl ?_
    refine J.c rfl rfl (C.bslG (l := [g.val]) runUnderlying45 sizeOf22 zeroValue22 (by decide) rfl rfl rfl rfl rfl) ?_
    rintro _ _ ⟨b26, rfl, rfl⟩
    refine J.norm rfl ?_
    refine J.c rfl rfl (C.appI runUnderlying45 runUnderlying45 typeInfo22 sizeOf22 zeroValue22 rfl rfl (SlR.ptI rfl) (by simp [oneC, RowH.val]) (by simp [Tryz.t22] <;> omega) (by decide)) ?_
    rintro _ _ ⟨p27, c27, rfl, rfl⟩
    refine J.norm rfl ?_
    refine J.addoneI (f := RowH.asn) (l := gs) g ?_
    refine J.p rfl (Q.asg rfl) <| J.nil <| J.blk_n <| J.then_n <| J.region <| J.p rfl (Q.add64 rfl rfl (by omega)) <| J.m rfl <| J.nil ?_
    have hn1 : gs.length + 1 = (gs ++ [g]).length := by simp
    have hv1 : gs.map RowH.val ++ [g.val] = (gs ++ [g]).map RowH.val := by simp
    have hne : (gs ++ [g]).map RowH.bs = (goodL full pres n).take (gs ++ [g]).length := rows_next (by rw [← hi]; exact hz2) (by rw [← hi, goodL_at (by omega)]; subst hg; rfl)
    rw [hi, hn1, hv1]
    refine J.againI (gs ++ [g], p27, c27) ⟨by show (gs ++ [g]).length ≤ n; omega, hne⟩ (by show n - (gs ++ [g]).length < n - gs.length; omega) ⟨rfl, rfl, rfl, rfl, (by show _ = some (Value.int .i64 ((gs ++ [g]).length : Nat)); rw [← hn1]; rfl), trivial⟩
  try (first | (cases hc13; done) | (exfalso; simp at hc13; done))
  all_goals
   refine J.cond_f rfl <| J.exit <| J.then_x <| J.lp_x <| J.blk_x <| J.then_n <| J.seq <| J.region <| J.m rfl <| J.p rfl (Q.asg rfl) <| J.nil <| J.then_n <| J.cret ?_
   have hkl : gs.length = n := by omega
   rw [hkl] at hz2 ⊢
   exact J.ret1I [own 22 1 (.slice p n c) (gs.map RowH.val), star (gs.map RowH.asn), G] rfl rfl ⟨p, c, gs, rfl, by rw [hz2, List.take_of_length_le (by rw [goodL_len]; omega)], rfl⟩
theorem Good_spec : FSpec Tryz.prog 33 [.agg x.cells.toArray, .slice fp n fc] [G] (fun v B => ∃ (p : Option Addr) (c : Nat), v = .slice p (presL pres n).length c ∧ B = [G]) := by
  refine FSpec.of func33 rfl ntmps33 rfl fun W0 F => ?_
  refine J.seq ?_
  have hk0 := hx.k0
  have hkm := hx.km
  have hsz := hx.sz
  refine J.region ?_
  refine J.c rfl rfl (C.box (l := [_, _, _, _, _, _, _, _, _]) rfl rfl) ?_
  rintro _ _ ⟨b2, rfl, rfl⟩
  refine J.norm rfl <| J.p rfl (Q.asg rfl) <| J.nil <| J.then_n <| J.seq <| J.region <| J.p rfl (Q.asg rfl) <| J.nil <| J.then_n <| J.seq <| J.seq <| J.region ?_
  refine J.p rfl (Q.ldN (vs := x.cells) isAgg33 sizeOf33 rfl rnI) ?_
  refine J.m rfl ?_
  refine J.callI call32 (good_spec x hx full pres n hn hfull G fp fc fs hfs hf hfr) rfl rfl rfl ?_
  rintro _ _ ⟨p, c, gs, rfl, hgs, rfl⟩
  refine J.norm rfl ?_
  refine J.slrI (E0 := 22) (sz := 1) (p := p) (n := n) (c := c) (xs := gs.map RowH.val) fun h1 => ?_
  obtain ⟨gb, go, rfl, hrd⟩ := h1.some_ (by omega)
  have hgl : gs.length = n := by have := congrArg List.length hgs; rw [goodL_len] at this; simpa using this
  refine J.p rfl (Q.lenSl runUnderlying45 rfl) <| J.m rfl <| J.nil <| J.then_n <| J.block ?_
  refine J.give (X := own 3 1 (.slice none (presL pres 0).length 0) ((presL pres 0).map fun n : Nat => Value.int .i64 n)) (own.nil _ _ _) ?_
  refine J.loop3I (fun (i : Nat) (_ : Option Addr) (_ : Nat) => i ≤ n) (fun i _ _ => n - i) (fun i q d => [(2, .pointer (some ⟨b2, 0, none⟩)), (5, .slice q (presL pres i).length d), (10, .slice (some ⟨gb, go, none⟩) n c), (11, .int .i64 n), (12, .int .i64 i)])
   (fun i q d => [own 3 1 (.slice q (presL pres i).length d) ((presL pres i).map fun n : Nat => Value.int .i64 n), own 22 1 (.slice (some ⟨gb, go, none⟩) n c) (gs.map RowH.val), pt b2 (.cells x.cells.toArray 33 (0, 0)), G, F]) 0 none 0 (Nat.zero_le _) ⟨rfl, rfl, rfl, rfl, rfl, trivial⟩ fun i q d hi => ?_
  refine J.seq <| J.region <| J.p rfl (Q.lss rfl rfl) <| J.nil <| J.then_n <| J.seq ?_
  refine J.kases 13 rfl (fun hc13 => ?_) (fun hc13 => ?_)
  ·
   try (first | (exfalso; omega))
   all_goals
    refine J.cond_t rfl <| J.cskip <| J.then_n <| J.seq <| J.block <| J.seq ?_
    obtain ⟨g, hg⟩ : ∃ g, gs[i]? = some g := ⟨_, List.getElem?_eq_getElem (by omega)⟩
    have hgv : (gs.map RowH.val)[i]? = some g.val := by rw [List.getElem?_map, hg]; rfl
    have hgb : g.bs = if pres i then atL full i else [] := by
     have h1 := goodL_at (full := full) (pres := pres) (show i < n by omega)
     rw [← hgs, List.getElem?_map, hg] at h1
     exact Option.some.inj h1
    have hlen : 0 < g.bs.length → pres i = true := fun h => by
     rw [hgb] at h
     cases hp : pres i with
     | true => rfl
     | false => rw [hp] at h; simp at h
    have hlen2 : ¬ 0 < g.bs.length → pres i = false := fun h => by
     cases hp : pres i with
     | false => rfl
     | true =>
      rw [hp] at hgb
      have h2 := atL_len hfull (show i < n by omega)
      have h3 := shLen_ge (k := x.k) (n := x.sz)
      rw [hgb] at h
      simp only [if_true] at h
      omega
    have hpl := presL_le (pres := pres) (n := i)
    refine J.region <| J.m rfl <| J.p rfl (Q.ia runUnderlying45 sizeOf22 rfl rfl (by omega) (by omega)) <| J.p rfl (Q.ld isAgg22 rfl (rdO (b := gb) hgv (by omega))) <| J.p rfl (Q.asg rfl) <| J.p rfl (Q.asg rfl) <| J.nil <| J.then_n <| J.seq <| J.region <| J.m rfl <| J.p rfl (Q.lenSl runUnderlying22 rfl) <| J.p rfl (Q.gtr rfl rfl) <| J.m rfl ?_
    refine J.kases 20 rfl (fun hb20 => ?_) (fun hb20 => ?_)
    ·
     try (first | (exfalso; omega))
     all_goals
      refine J.m rfl <| J.p rfl (Q.fa (n := 4) runUnderlying33 rfl rfl sizeOf3 rfl) ?_
      refine J.p rfl (Q.ldI isAgg3 rfl) ?_
      refine J.p rfl (Q.fa (n := 5) runUnderlying33 rfl rfl sizeOf3 rfl) ?_
      refine J.p rfl (Q.ldI isAgg3 rfl) ?_
      refine J.p rfl (Q.add64 rfl rfl (by omega)) <| J.p rfl (Q.lss rfl rfl) <| J.p rfl (Q.pick_t rfl rfl) <| J.nil <| J.then_n ?_
      refine J.kases 28 rfl (fun hc28 => ?_) (fun hc28 => ?_)
      ·
       try (first | (exfalso; omega))
       all_goals
        refine J.cond_t rfl <| J.region <| J.m rfl <| J.m rfl ?_
        refine J.c rfl rfl (C.bslG (l := [.int .i64 i]) runUnderlying23 sizeOf3 zeroValue3 (by decide) rfl rfl rfl rfl rfl) ?_
        rintro _ _ ⟨b31, rfl, rfl⟩
        refine J.norm rfl ?_
        refine J.c rfl rfl (C.appI runUnderlying23 runUnderlying23 typeInfo3 sizeOf3 zeroValue3 rfl rfl (SlR.ptI rfl) (by simp [oneC]) (by simp [Tryz.t3] <;> omega) (by decide)) ?_
        rintro _ _ ⟨p32, c32, rfl, rfl⟩
        refine J.norm rfl <| J.p rfl (Q.asg rfl) <| J.nil <| J.blk_n <| J.then_n <| J.region <| J.p rfl (Q.add64 rfl rfl (by omega)) <| J.m rfl <| J.nil ?_
        have hst := presL_yes (hlen (by omega))
        have e1 : (presL pres i).length + 1 = (presL pres (i + 1)).length := by rw [hst]; simp
        have e2 : ((presL pres i).map fun n : Nat => Value.int .i64 n) ++ [Value.int .i64 i] = (presL pres (i + 1)).map fun n : Nat => Value.int .i64 n := by rw [hst]; simp
        rw [e1, e2]
        refine J.againI (i + 1, p32, c32) (by show i + 1 ≤ n; omega) (by show n - (i + 1) < n - i; omega) ⟨rfl, rfl, rfl, rfl, rfl, trivial⟩
      try (first | (exfalso; omega))
      all_goals
       refine J.cond_f rfl <| J.cskip <| J.blk_n <| J.then_n <| J.region <| J.p rfl (Q.add64 rfl rfl (by omega)) <| J.m rfl <| J.nil ?_
       have hst := presL_no (pres := pres) (hlen2 (by omega))
       rw [← hst]
       refine J.againI (i + 1, q, d) (by show i + 1 ≤ n; omega) (by show n - (i + 1) < n - i; omega) ⟨rfl, rfl, rfl, rfl, rfl, trivial⟩
    try (first | (exfalso; omega))
    all_goals
     refine J.k rfl <| J.k rfl <| J.k rfl <| J.k rfl <| J.k rfl <| J.k rfl <| J.k rfl <| J.p rfl (Q.pick_f rfl rfl) <| J.nil <| J.then_n <| J.cond_f rfl <| J.cskip <| J.blk_n <| J.then_n <| J.region <| J.p rfl (Q.add64 rfl rfl (by omega)) <| J.m rfl <| J.nil ?_
     have hst := presL_no (pres := pres) (hlen2 (by omega))
     rw [← hst]
     refine J.againI (i + 1, q, d) (by show i + 1 ≤ n; omega) (by show n - (i + 1) < n - i; omega) ⟨rfl, rfl, rfl, rfl, rfl, trivial⟩
  try (first | (exfalso; omega))
  all_goals
   refine J.cond_f rfl <| J.exit <| J.then_x <| J.lp_x <| J.blk_x <| J.then_n <| J.seq <| J.region <| J.m rfl <| J.p rfl (Q.asg rfl) <| J.nil <| J.then_n <| J.cret ?_
   obtain rfl : n = i := by omega
   exact J.ret1I [G] rfl rfl ⟨q, d, rfl, rfl⟩
end

def digB (n : Nat) : List U := [UInt8.ofNat (48 + n / 100 % 10), UInt8.ofNat (48 + n / 10 % 10), UInt8.ofNat (48 + n % 10)]
def nameL (n : Nat) : List U := [115, 45] ++ List.replicate 15 48 ++ [51, 45] ++ digB n
def nameB (n : Nat) : ByteArray := ⟨(nameL n).toArray⟩

structure SHR where
  i : Nat
  p : Option Addr
  c : Nat
  bs : List U
def SHR.cells (z : SHR) : List Value := [.int .i64 z.i, .int .i64 z.i, .string (nameB z.i), .slice z.p z.bs.length z.c]
def SHR.asn (z : SHR) : Assn := own 5 1 (.slice z.p z.bs.length z.c) (bytesV z.bs)
def SHR.ib (z : SHR) : Nat × List U := (z.i, z.bs)
theorem SHR.len (z : SHR) : z.cells.length = 4 := rfl
theorem SHR.one (z : SHR) : ∀ v, v ∈ z.cells → oneC v = true := by simp [SHR.cells, oneC]
def stripeL (x : PX) (full : Ml) (n : Nat) : List (Nat × List U) := (List.range n).map fun i => (i, x.file i (atL full i))
theorem stripeL_at {x : PX} {full : Ml} {n i : Nat} (h : i < n) : (stripeL x full n)[i]? = some (i, x.file i (atL full i)) := by
  unfold stripeL
  rw [List.getElem?_map, List.getElem?_range h]; rfl
theorem ib_next {l : List (Nat × List U)} {zs : List SHR} {z : SHR} (h : zs.map SHR.ib = l.take zs.length) (hr : l[zs.length]? = some z.ib) : (zs ++ [z]).map SHR.ib = l.take (zs ++ [z]).length := by
  obtain ⟨h1, h2⟩ := List.getElem?_eq_some_iff.1 hr
  rw [List.map_append, h, List.length_append, List.length_singleton, List.take_succ_eq_append_getElem h1, h2]; rfl

def NameOK (Gl : Assn) : Prop := ∀ i : Nat, i < 15 → FSpec Tryz.prog 36 [.int .u64 (3 : Nat), .int .i64 i] [Gl] (fun v B => v = .string (nameB i) ∧ B = [Gl])

theorem shards_spec (x : PX) (hx : x.ok) (n : Nat) (hn : n = x.k + x.m) (hn15 : n < 15) (np : Option Addr) (nc : Nat) (hnv : x.nv = .slice np n nc) (Gl GN G : Assn) (hname : NameOK Gl) (hN : SlR [GN] 1 (.slice np n nc) ((List.range n).map fun i : Nat => Value.int .i64 i))
    (full : Ml) (hfull : Rect n (shLen x.k x.sz) full) (p : Option Addr) (c : Nat) (ls : List RowH) (hls : ls.map RowH.bs = full) (hl : SlR [G] 1 (.slice p n c) (ls.map RowH.val)) (hlr : ∀ r, r ∈ ls → SlR [G] 1 r.val (bytesV r.bs)) :
    FSpec Tryz.prog 26 [.agg x.cells.toArray, .slice p n c] [Gl, GN, G] (fun v B => ∃ (q : Option Addr) (d : Nat) (zs : List SHR), v = .slice q n d ∧ zs.map SHR.ib = stripeL x full n ∧ B = [own 87 4 (.slice q n d) (zs.flatMap SHR.cells), star (zs.map SHR.asn), Gl, GN, G]) := by
  refine FSpec.of func26 rfl ntmps26 rfl fun W0 F => ?_
  refine J.seq ?_
  have hk0 := hx.k0
  have hkm := hx.km
  have hsz := hx.sz
  have hll : ls.length = n := by have := congrArg List.length hls; rw [hfull.len] at this; simpa using this
  refine J.region ?_
  refine J.c rfl rfl (C.box (l := [_, _, _, _, _, _, _, _, _]) rfl rfl) ?_
  rintro _ _ ⟨b2, rfl, rfl⟩
  refine J.norm rfl <| J.p rfl (Q.asg rfl) <| J.nil <| J.then_n <| J.seq <| J.region <| J.p rfl (Q.asg rfl) <| J.nil <| J.then_n <| J.seq <| J.seq <| J.region <| J.m rfl <| J.p rfl (Q.lenSl runUnderlying45 rfl) <| J.m rfl <| J.nil <| J.then_n <| J.block ?_
  refine J.give (X := star (([] : List SHR).map SHR.asn)) trivial ?_
  refine J.give (X := own 87 4 (.slice none 0 0) (([] : List SHR).flatMap SHR.cells)) (own.nil _ _ _) ?_
  refine J.loop3I (fun (zs : List SHR) (_ : Option Addr) (_ : Nat) => zs.length ≤ n ∧ zs.map SHR.ib = (stripeL x full n).take zs.length) (fun zs _ _ => n - zs.length) (fun zs q d => [(2, .pointer (some ⟨b2, 0, none⟩)), (5, .slice q zs.length d), (8, .slice p n c), (9, .int .i64 n), (10, .int .i64 zs.length)])
   (fun zs q d => [pt b2 (.cells x.cells.toArray 33 (0, 0)), GN, own 87 4 (.slice q zs.length d) (zs.flatMap SHR.cells), star (zs.map SHR.asn), Gl, G, F]) [] none 0 ⟨by simp, rfl⟩ ⟨rfl, rfl, rfl, rfl, rfl, trivial⟩ fun zs q d hz => ?_
  obtain ⟨hz1, hz2⟩ := hz
  refine J.seq <| J.region <| J.p rfl (Q.lss rfl rfl) <| J.nil <| J.then_n <| J.seq ?_
  refine J.kases 11 rfl (fun hc11 => ?_) (fun hc11 => ?_)
  ·
   try (first | (cases hc11; done) | (exfalso; simp at hc11; done))
   all_goals
    refine J.cond_t rfl <| J.cskip <| J.then_n <| J.seq <| J.block <| J.seq ?_
    obtain ⟨i, hi⟩ : ∃ i, i = zs.length := ⟨_, rfl⟩
    rw [← hi] at hz1 hz2 ⊢
    obtain ⟨lb, lo, rfl, hrd⟩ := hl.some_ (by omega)
    obtain ⟨nb, no, rfl, hnd⟩ := hN.some_ (by omega)
    obtain ⟨r, hr⟩ : ∃ r, ls[i]? = some r := ⟨_, List.getElem?_eq_getElem (by omega)⟩
    have hrv : (ls.map RowH.val)[i]? = some r.val := by rw [List.getElem?_map, hr]; rfl
    have hrb : r.bs = atL full i := by rw [atL, ← hls, List.getElem?_map, hr]; rfl
    have hrl : r.bs.length = shLen x.k x.sz := by rw [hrb]; exact atL_len hfull (by omega)
    have hs1 := shLen_lt (k := x.k) (n := x.sz)
    have hniv : ((List.range n).map fun i : Nat => Value.int .i64 i)[i]? = some (.int .i64 i) := by rw [List.getElem?_map, List.getElem?_range (by omega)]; rfl
    refine J.region <| J.m rfl <| J.p rfl (Q.ia runUnderlying45 sizeOf22 rfl rfl (by omega) (by omega)) <| J.p rfl (Q.ld isAgg22 rfl (((hrd i _ hrv).inI).cast (by simp))) <| J.p rfl (Q.asg rfl) <| J.p rfl (Q.asg rfl) <| J.nil <| J.then_n ?_
    refine J.drawE [10, 14, 16, 17, 18] 2 Tryz.mixed (by kernel_rfl) rfl rfl fun hR => ?_
    refine RG.p 0 hR rfl (Q.mv rfl) <| RG.p 1 hR rfl (Q.fa (n := 8) runUnderlying33 rfl rfl sizeOf23 rfl) ?_
    refine RG.p 2 hR rfl (Q.ld isAgg23 rfl (rdI (by exact congrArg some hnv))) ?_
    refine RG.p 3 hR rfl (Q.mv rfl) <| RG.p 4 hR rfl (Q.ia runUnderlying23 sizeOf3 rfl rfl (by omega) (by omega)) <| RG.p 5 hR rfl (Q.ld isAgg3 rfl (((hnd i _ hniv).inI).cast (by simp))) <| RG.p 6 hR rfl (Q.mv rfl) <| RG.p 7 hR rfl (Q.fa (n := 3) runUnderlying33 rfl rfl sizeOf30 rfl) ?_
    refine RG.p 8 hR rfl (Q.ldI isAgg30 rfl) ?_
    refine RG.p 9 hR rfl (Q.mv rfl) ?_
    refine RG.p 11 hR rfl (Q.ldN (vs := x.cells) isAgg33 sizeOf33 rfl rnI) ?_
    refine RG.p 12 hR rfl (Q.mv rfl) <| RG.p 13 hR rfl (Q.mv rfl) ?_
    refine RG.callkI 10 hR rfl rfl rfl rfl rfl call36 (hname i (by omega)) rfl ?_
    rintro _ _ ⟨rfl, rfl⟩
    refine RG.normE rfl ?_
    refine RG.callkI 14 hR rfl rfl rfl rfl rfl call59 (file_spec x hx i (by omega) G r.p r.c r.bs (hlr r (List.mem_of_getElem? hr)) (by omega)) rfl ?_
    rintro _ _ ⟨zp, zc, rfl, rfl⟩
    refine RG.normE rfl <| RG.p 15 hR rfl (Q.bld (l := SHR.cells ⟨i, zp, zc, x.file i r.bs⟩) runUnderlying87 zeroValue87 places87 rfl (by kernel_rfl)) ?_
    refine RG.made 16 hR rfl rfl rfl rfl rfl (C.bslG (l := SHR.cells ⟨i, zp, zc, x.file i r.bs⟩) runUnderlying38 sizeOf87 zeroValue87 (by decide) rfl rfl rfl rfl rfl) ?_
    rintro b31
    refine RG.many hR 17 [] rfl ⟨?_, trivial⟩
    ·
     refine RGi.appI rfl rfl rfl rfl runUnderlying38 runUnderlying38 typeInfo87 sizeOf87 zeroValue87 rfl rfl (SlR.ptI rfl) (SHR.one _) (by simp [Tryz.t87] <;> omega) (by decide) ?_
     rintro p32 c32
     refine RG.normE rfl ?_
     refine RG.bar 18 hR rfl rfl rfl rfl rfl rfl (Q.asg rfl).toC ?_
     rintro _ _ ⟨rfl, rfl⟩
     refine RG.norm rfl ?_
     refine RG.fin hR rfl ?_
     refine J.norm rfl <| J.blk_n <| J.then_n <| J.region <| J.p rfl (Q.add64 rfl rfl (by omega)) <| J.m rfl <| J.nil ?_
     obtain ⟨z, hzz⟩ : ∃ z : SHR, z = ⟨i, zp, zc, x.file i r.bs⟩ := ⟨_, rfl⟩
     rw [← hzz]
     refine J.convI (own 5 1 (.slice zp (x.file i r.bs).length zc) (bytesV (x.file i r.bs))) z.asn (fun h s => by subst hzz; exact s) ?_
     refine J.addoneI (f := SHR.asn) (l := zs) z ?_
     have hn1 : zs.length + 1 = (zs ++ [z]).length := by simp
     have hv1 : zs.flatMap SHR.cells ++ z.cells = (zs ++ [z]).flatMap SHR.cells := by simp
     have hne : (zs ++ [z]).map SHR.ib = (stripeL x full n).take (zs ++ [z]).length := ib_next (by rw [← hi]; exact hz2) (by rw [← hi, stripeL_at (by omega), ← hrb]; subst hzz; rfl)
     rw [hi, hn1, hv1]
     refine J.againI (zs ++ [z], p32, c32) ⟨by show (zs ++ [z]).length ≤ n; omega, hne⟩ (by show n - (zs ++ [z]).length < n - zs.length; omega) ⟨rfl, rfl, rfl, rfl, (by show _ = some (Value.int .i64 ((zs ++ [z]).length : Nat)); rw [← hn1]; rfl), trivial⟩
  try (first | (cases hc11; done) | (exfalso; simp at hc11; done))
  all_goals
   refine J.cond_f rfl <| J.exit <| J.then_x <| J.lp_x <| J.blk_x <| J.then_n <| J.seq <| J.region <| J.m rfl <| J.p rfl (Q.asg rfl) <| J.nil <| J.then_n <| J.cret ?_
   have hkl : zs.length = n := by omega
   rw [hkl] at hz2 ⊢
   exact J.ret1I [own 87 4 (.slice q n d) (zs.flatMap SHR.cells), star (zs.map SHR.asn), Gl, GN, G] rfl rfl ⟨q, d, zs, rfl, by rw [hz2, List.take_of_length_le (by simp [stripeL])], rfl⟩
end Go.Proofs.YtblpcabdfbpcnaaGreatDoor
namespace Go.X.E

mutual
theorem sameV_ok : ∀ (n : Nat) {a b : Value}, sameV n a b = true → a = b
  | n, .bool a, b, h => by cases b <;> simp [sameV] at h; rw [h]
  | n, .int j a, b, h => by cases b <;> simp [sameV] at h; rw [h.1, h.2]
  | n, .string a, b, h => by
    cases b <;> simp [sameV] at h
    rename_i b
    have : a = b := by cases a; cases b; simp only [ByteArray.mk.injEq] at h ⊢; exact Array.toList_inj.1 (by simpa using h)
    rw [this]
  | n, .pointer none, b, h => by
    cases b with
    | pointer b => cases b <;> simp [sameV] at h; rfl
    | _ => simp [sameV] at h
  | n, .pointer (some a), b, h => by
    cases b with
    | pointer b => cases b <;> simp [sameV] at h; rw [h]
    | _ => simp [sameV] at h
  | n, .slice none x c, b, h => by
    cases b with
    | slice b y d => cases b <;> simp [sameV, nbeq] at h; rw [h.1, h.2]
    | _ => simp [sameV] at h
  | n, .slice (some a) x c, b, h => by
    cases b with
    | slice b y d => cases b <;> simp [sameV, nbeq] at h; rw [h.1.1, h.1.2, h.2]
    | _ => simp [sameV] at h
  | n, .map none, b, h => by
    cases b with
    | map b => cases b <;> simp [sameV] at h; rfl
    | _ => simp [sameV] at h
  | n, .map (some a), b, h => by
    cases b with
    | map b => cases b <;> simp [sameV, nbeq] at h; rw [h]
    | _ => simp [sameV] at h
  | n, .nilFunc, b, h => by cases b <;> simp [sameV] at h; rfl
  | n, .nilIface, b, h => by cases b <;> simp [sameV] at h; rfl
  | 0, .iface t v, b, h => by cases b <;> simp [sameV] at h
  | n + 1, .iface t v, b, h => by
    cases b <;> simp [sameV, nbeq] at h
    rw [h.1, sameV_ok n h.2]
  | 0, .agg a, b, h => by cases b <;> simp [sameV] at h
  | n + 1, .agg ⟨a⟩, b, h => by
    cases b <;> simp [sameV] at h
    rename_i b; cases b
    rw [sameL_ok n h]
  | 0, .tuple a, b, h => by cases b <;> simp [sameV] at h
  | n + 1, .tuple ⟨a⟩, b, h => by
    cases b <;> simp [sameV] at h
    rename_i b; cases b
    rw [sameL_ok n h]
  | n, .float .., b, h => by cases b <;> simp [sameV] at h
  | n, .complex .., b, h => by cases b <;> simp [sameV] at h
  | n, .chan _, b, h => by cases b <;> simp [sameV] at h
  | n, .func .., b, h => by cases b <;> simp [sameV] at h
theorem sameL_ok : ∀ (n : Nat) {a b : List Value}, sameV.sameL n a b = true → a = b
  | n, [], [], _ => rfl
  | n, [], _ :: _, h => by simp [sameV.sameL] at h
  | n, _ :: _, [], h => by simp [sameV.sameL] at h
  | n, a :: l, b :: m, h => by
    simp only [sameV.sameL, Bool.and_eq_true] at h
    rw [sameV_ok n h.1, sameL_ok n h.2]
end

section
variable {P : Program} {X : Type} {OW : X → Nat → Assn} {gl : Nat → Option (List Value)} {S : Sums X} {rec : Nat → Code → St X → Option (Ex × St X)} {σ τ : Sg} {H H' : Hs X} {F : Assn} {tm : Tms} {L : Slots} {ty : TypeId} {op : Op} {A B : List Assn} {R R' : Value → List Assn → Prop} {N : Nat} {W0 : World}

theorem wanted_ok {ops : List Oper} {g : Option (Nat × Bool)} {b : Bool} (h : TmR σ tm L) (e : wantedA ops tm g = some b) : guardL ops.toArray g L = some b := by
  unfold wantedA at e
  unfold guardL
  cases g with
  | none => simpa using e
  | some q =>
    obtain ⟨j, want⟩ := q
    simp only at e ⊢
    have hj : ops.toArray[j]? = ops[j]? := by simp
    rw [hj]
    cases hd : (ops[j]?).bind (·.dst) with
    | none => rw [hd] at e; cases e
    | some d =>
      rw [hd] at e
      simp only at e ⊢
      split at e
      · rename_i c hc
        obtain ⟨u, h1, h2⟩ := h _ _ hc
        cases h2
        rw [h1]; exact e
      · rename_i v hv hc
        obtain ⟨u, h1, h2⟩ := h _ _ hc
        rw [h1]
        cases h2 <;> first | exact e | exact absurd rfl (hv _)
      · cases e

theorem still_ok {ops : List Oper} {st : St X} {o : Oper} {d : Nat} {v : Value} (hg : HG σ st.H) (gg : GG gl σ F) (h : TmR σ st.tm L) (e : still P gl ops st o = true) (hd : o.dst = some d) (hv : find d L = some v) :
    Pend P ops o L [conc OW σ st.H F] v := by
  unfold still at e
  rw [hd] at e
  split at e
  · rename_i d' hw hdd
    cases hdd
    split at e
    · rename_i u hu
      have := sameV_ok _ e
      subst this
      obtain ⟨u', h1, h2⟩ := h _ _ hu
      rw [hv] at h1; cases h1
      exact .inr ⟨wanted_ok h hw, flat_eq (n := 1) rfl h2⟩
    · cases e
  · rename_i d' hw hdd
    cases hdd
    split at e
    · rename_i u w hu hw'
      have := sameV_ok _ e
      subst this
      obtain ⟨u', h1, h2⟩ := h _ _ hu
      rw [hv] at h1; cases h1
      obtain ⟨u2, h3, h4⟩ := aQ_ok (P := P) (OW := OW) (ty := o.type) hg gg h hw'
      have := h2.fn h3
      subst this
      exact .inl ⟨wanted_ok h hw, h4⟩
    · cases e
  · cases e

def dsOf : Option Nat → List Deferred
  | none => []
  | some D => [{ target := .collected D, args := #[] }]
def FOf (F : Assn) : Option Nat → Assn
  | none => F
  | some D => star [pt D (.deferred (some [])), F]
theorem GG.fof {k : Option Nat} (gg : GG gl σ F) : GG gl σ (FOf F k) := by
  cases k with
  | none => exact gg
  | some D =>
    refine ⟨gg.lo, fun g cs h => ?_⟩
    obtain ⟨vs, h1, h2, h3⟩ := gg.gl g cs h
    refine ⟨vs, h1, h2, fun h s => ?_⟩
    obtain ⟨k, hk, hs⟩ := HSat.at_ (i := 1) (A := F) (As := [pt D (.deferred (some [])), F]) s rfl
    obtain ⟨e, z, h4⟩ := h3 k hk
    exact ⟨e, z, hs _ _ h4⟩

theorem concF.mono {g : Nat → Option (AObj X)} {h k : Hp} (c : concF OW σ g F h) (s : Sub h k) : concF OW σ g F k := by
  obtain ⟨hs, hF, a1, a2, a3, a4, a5, a6⟩ := c
  exact ⟨hs, hF, a1, a2.trans s, fun b => (a3 b).trans s, a4, a5, a6⟩

theorem concF.out {g : Nat → Option (AObj X)} {Y : Assn} {h : Hp} (c : concF OW σ g (star [Y, F]) h) : HSat h [Y, concF OW σ g F] := by
  obtain ⟨hs, hF, ⟨h1, h2, y, ⟨h3, h4, f, _, _, u3, _⟩, d12, u1, u2⟩, a2, a3, a4, a5, a6⟩ := c
  have hdis : ∀ b, Dis (hs b) h1 := fun b => (a4 b).mono (Sub.refl _) u1
  have hsub : Sub (fun x => match h1 x with | some _ => none | none => h x) h := by
    intro x p hp
    simp only at hp
    cases hx : h1 x with
    | some q => rw [hx] at hp; cases hp
    | none => rw [hx] at hp; exact hp
  have into : ∀ k : Hp, Dis k h1 → Sub k h → Sub k (fun x => match h1 x with | some _ => none | none => h x) := by
    intro k d s x p hp
    have : h1 x = none := by
      rcases d x with q | q
      · rw [hp] at q; cases q
      · exact q
    simp only [this]; exact s x p hp
  refine ⟨h1, _, y, one_sat ⟨hs, h3, f, into h3 (d12.symm.mono u3 (Sub.refl _)) (u3.trans (u2.trans a2)), fun b => into _ (hdis b) (a3 b), fun b => (a4 b).mono (Sub.refl _) (u3.trans u2), a5, a6⟩, ?_, u1.trans a2, hsub⟩
  intro x
  cases hx : h1 x with
  | none => left; rfl
  | some q => right; simp [hx]
theorem concF.inn {g : Nat → Option (AObj X)} {Y : Assn} {h : Hp} (s : HSat h [Y, concF OW σ g F]) : concF OW σ g (star [Y, F]) h := by
  obtain ⟨h1, h2, y, ⟨h3, h4, ⟨hs, hF, a1, a2, a3, a4, a5, a6⟩, _, _, u3, _⟩, d, s1, s2⟩ := s
  have hFd : Dis h1 hF := d.mono (Sub.refl _) (a2.trans u3)
  refine ⟨hs, join h1 hF, ⟨h1, hF, y, one_sat a1, hFd, join_left _ _, join_right hFd⟩, join_sub s1 ((a2.trans u3).trans s2), fun b => ((a3 b).trans u3).trans s2, ?_, a5, a6⟩
  intro b
  exact (join_dis (d.mono (Sub.refl _) ((a3 b).trans u3)) (a4 b).symm).symm

def CW (P : Program) (ds : List Deferred) (c : Code) (Q : Exit → Act → World → Prop) : Act → World → Prop := fun a w => c.wp P Q { a with defers := ds } w
def LW (P : Program) (ds : List Deferred) (ops : Array Oper) (Q : Exit → Act → World → Prop) (l : List Oper) : Act → World → Prop := fun a w => wpList P ops Q l { a with defers := ds } w

def exE : Ex → Exit
  | .norm => .normal
  | .exit i => .exit i
  | .ret => .ret

def CodeOK (P : Program) (OW : X → Nat → Assn) (gl : Nat → Option (List Value)) (N : Nat) (c : Code) (st : St X) (e : Ex) (st' : St X) : Prop :=
  ∀ (σ : Sg) (L : Slots) (F : Assn) (W0 : World) (Q : Exit → Act → World → Prop) (k : Option Nat), k.isSome = st.rf → HG σ st.H → GG gl σ F → TmR σ st.tm L →
    (∀ τ L' k', k'.isSome = st'.rf → Ext σ τ → HG τ st'.H → TmR τ st'.tm L' → J W0 N L' [conc OW τ st'.H (FOf F k')] (EI Q (dsOf k') (exE e))) →
    J W0 N L [conc OW σ st.H (FOf F k)] (CW P (dsOf k) c Q)

def RecOK (P : Program) (OW : X → Nat → Assn) (gl : Nat → Option (List Value)) (rec : Nat → Code → St X → Option (Ex × St X)) : Prop :=
  ∀ N c st e st', rec N c st = some (e, st') → CodeOK P OW gl N c st e st'

def SumsOK (P : Program) (OW : X → Nat → Assn) (gl : Nat → Option (List Value)) (S : Sums X) : Prop :=
  ∀ f s, S f = some s → Enters P f ∧ ∀ args H r H', s args H = some (r, H') → CallOK P OW gl f args H r H'

theorem argTms_ok : ∀ {l us : List Value} {i : Nat} {t t' : Tms} {L : Slots}, VRs σ l us → argTms i l t = some t' → (∀ s v, t.get s = some v → s < i ∧ ∃ u, find s L = some u ∧ VR σ v u) →
    ∀ s v, t'.get s = some v → ∃ u, (find s (argSlots i us) = some u ∨ (find s (argSlots i us) = none ∧ find s L = some u)) ∧ VR σ v u
  | [], _, i, t, t', L, h, e, hL => by
    cases h
    simp only [argTms, Option.some.injEq] at e; subst e
    intro s v hv
    obtain ⟨_, u, h1, h2⟩ := hL s v hv
    exact ⟨u, .inr ⟨rfl, h1⟩, h2⟩
  | v :: l, _, i, t, t', L, h, e, hL => by
    cases h with
    | @cons _ u _ us a b =>
      simp only [argTms] at e
      split at e
      · rename_i t2 ht2
        have := argTms_ok (L := (i, u) :: L) b e (by
          intro s w hw
          rw [Tr.get_set ht2] at hw
          split at hw
          · rename_i hs
            cases hw; subst hs
            exact ⟨by omega, u, by simp [find, Nat.beq_refl], a⟩
          · rename_i hs
            obtain ⟨h1, u', h2, h3⟩ := hL s w hw
            refine ⟨by omega, u', ?_, h3⟩
            simp only [find, nbeq, hs, decide_false, bif_f]; exact h2)
        intro s w hw
        obtain ⟨u', h1, h2⟩ := this s w hw
        refine ⟨u', ?_, h2⟩
        simp only [argSlots, find, nbeq, cond_decide] at h1 ⊢
        by_cases hs : s = i
        · subst hs
          simp only [if_true] at h1 ⊢
          left
          rcases h1 with h1 | ⟨_, h1⟩
          · have := find_argSlots _ _ _ _ h1
            omega
          · exact h1
        · simp only [hs, if_false] at h1 ⊢; exact h1
      · cases e

theorem callA_ok (hr : RecOK P OW gl rec) (hS : SumsOK P OW gl S) {f : FuncId} {args : List Value} {r : Value} (e : callA P gl S rec f args H = some (r, H')) : Enters P f ∧ CallOK P OW gl f args H r H' := by
  unfold callA at e
  split at e
  · rename_i s hs
    exact ⟨(hS f s hs).1, (hS f s hs).2 _ _ _ _ e⟩
  · split at e
    · rename_i fn hfn
      split at e
      · rename_i c hc
        cases hcc : fn.name == "runtime.NumGoroutine" || !Nat.ble args.length fn.ntmps with
        | true => rw [hcc] at e; cases e
        | false =>
          rw [hcc] at e
          simp only [bif_f] at e
          simp only [Bool.or_eq_false_iff, Bool.not_eq_false', ble_dec, decide_eq_true_eq] at hcc
          refine ⟨enters_of hfn hc hcc.1, ?_⟩
          split at e
          · rename_i tm0 htm
            have key : ∀ ex st', rec fn.ntmps c ⟨tm0, H, false⟩ = some (ex, st') → (∀ i, ex ≠ .exit i) → (match resV P gl st'.H st'.tm fn.results.toList with | some vs => some (tupled vs, st'.H) | none => none : Option (Value × Hs X)) = some (r, H') → CallOK P OW gl f args H r H' := by
              intro ex st' hrec hex e
              split at e
              · rename_i vs hvs
                simp only [Option.some.injEq, Prod.mk.injEq] at e
                obtain ⟨rfl, rfl⟩ := e
                intro σ F args' W0 w hg gg ha s
                have hlen := ha.length
                have htmr : TmR σ tm0 (argSlots 0 args') := by
                  intro s v hv
                  obtain ⟨u, h1 | ⟨_, h1⟩, h2⟩ := argTms_ok (L := []) ha htm (by intro s v hv; cases hv) s v hv
                  · exact ⟨u, h1, h2⟩
                  · cases h1
                have hJ := hr _ _ _ _ _ hrec σ (argSlots 0 args') F W0 (bodyPostM (fen none) 0 P fn fun e w' => ∃ u B, e = .returned u ∧ RV OW σ F (tupled vs) st'.H u B ∧ Sat W0 w' B) none rfl hg gg htmr ?_
                · refine callsIn_fen_out (r := none) (n := 0) (callsIn_of_wp_marks hfn hc trivial ?_ rfl)
                  have := hJ.run ⟨args'.toArray ++ Array.replicate (fn.ntmps - args'.toArray.size) undef, []⟩ w ⟨by simp; omega, ?_, rfl⟩ s
                  · exact wpIn_wide.2 this
                  · intro t v e
                    obtain ⟨_, h2⟩ := find_argSlots _ _ _ _ e
                    simp only [Nat.sub_zero] at h2
                    rw [Array.getElem?_append_left]
                    · simpa using h2
                    · have := (List.getElem?_eq_some_iff.1 h2).1
                      simpa using this
                · intro τ L' k' hk' he hg' ht'
                  refine ⟨fun a w fr s => ?_⟩
                  have hts : ∀ s v, st'.tm.get s = some v → ∃ u, a.tmps[s]? = some u ∧ VR τ v u := by
                    intro s v hv
                    obtain ⟨u, h1, h2⟩ := ht' s v hv
                    exact ⟨u, fr.get s u h1, h2⟩
                  have gg' := (gg.ext he).fof (k := k')
                  have fin : bodyPostM (fen none) 0 P fn (fun e w' => ∃ u B, e = .returned u ∧ RV OW σ F (tupled vs) st'.H u B ∧ Sat W0 w' B) .ret { a with defers := dsOf k' } w := by
                    cases k' with
                    | none =>
                      obtain ⟨u, h1, h2⟩ := results_ok (P := P) hg' gg' hts s hvs
                      exact ⟨u, h2, u, _, rfl, ⟨τ, he, hg', h1, rfl⟩, s⟩
                    | some D =>
                      have hsplit : HSat (hp w) [conc OW τ st'.H (star [pt D (.deferred (some [])), F])] := s.heap
                      have hD : w.heap[D]? = some (.deferred (some [])) := by
                        obtain ⟨k0, hk0, hs0⟩ := s.heap.at_ (i := 0) rfl
                        obtain ⟨k1, hk1, hs1⟩ := concF.frame hk0
                        obtain ⟨k2, hk2, hs2⟩ := HSat.at_ (i := 0) (A := pt D (.deferred (some []))) (As := [pt D (.deferred (some [])), F]) hk1 rfl
                        exact hs0 _ _ (hs1 _ _ (hs2 _ _ hk2))
                      have s2 : Sat W0 (w.putObj D (.deferred none)) [conc OW τ st'.H F] :=
                        (putObj_sat (p := .deferred none) (s.imp fun h hh => concF.out (by obtain ⟨h1, _, c, _, _, u, _⟩ := hh; exact c.mono u))).imp fun h hh => HSat.tail hh
                      have hts2 := hts
                      obtain ⟨u, h1, h2⟩ := results_ok (P := P) hg' (gg.ext he) hts s2 hvs
                      exact ⟨by simp, .inl ⟨D, _, rfl, run_takeDeferred hD, u, h2, u, _, rfl, ⟨τ, he, hg', h1, rfl⟩, s2⟩⟩
                  cases ex with
                  | norm => exact fin
                  | ret => exact fin
                  | exit i => exact absurd rfl (hex i)
              · cases e
            split at e
            · cases e
            · rename_i ex st' hne hrec
              exact key ex st' hrec (fun i c => hne i c) e
            · cases e
          · cases e
      · cases e
    · cases e
end
end Go.X.E
namespace Go.X.E

section
variable {P : Program} {X : Type} {OW : X → Nat → Assn} {gl : Nat → Option (List Value)} {S : Sums X} {rec : Nat → Code → St X → Option (Ex × St X)} {σ τ : Sg} {H H' : Hs X} {F : Assn} {tm : Tms} {L : Slots} {ty : TypeId} {op : Op} {A B : List Assn} {R R' : Value → List Assn → Prop} {N : Nat} {W0 : World}

theorem two_no {x : Option (Value × Hs X)} {f : FuncId} {args : List Value} : two x ≠ some (.call f args) := by
  unfold two; split <;> (intro h; cases h)
theorem same_no {x : Option Value} {f : FuncId} {args : List Value} : same H x ≠ some (.call f args) := by
  unfold same; split <;> (intro h; cases h)
theorem aOp_call {f : FuncId} {args : List Value} (ho : aOp P gl H tm op = some (.call f args)) : ∃ c, op = .call c ∧ aCall P gl H tm c = some (.call f args) := by
  unfold aOp at ho
  split at ho
  case h_10 => exact ⟨_, rfl, ho⟩
  all_goals exfalso
  all_goals first
    | exact same_no ho
    | (repeat' (first | (cases ho; done) | exact two_no ho | split at ho | (rw [Bool.cond_eq_ite] at ho)))

theorem doA_ok (hr : RecOK P OW gl rec) (hS : SumsOK P OW gl S) {o : Oper} {st st' : St X} (e : doA P gl S rec N o st = some st') (hg : HG σ st.H) (gg : GG gl σ F) (h : TmR σ st.tm L) :
    st'.rf = st.rf ∧ ∃ v, OpC P o.op o.type L [conc OW σ st.H F] (RV OW σ F v st'.H) ∧ putA N st.tm o.dst v = some st'.tm := by
  unfold doA at e
  split at e
  · rename_i v H2 ho
    split at e
    · rename_i tm' htm
      simp only [Option.some.injEq] at e; subst e
      exact ⟨rfl, v, aOp_ok hg gg h ho, htm⟩
    · cases e
  · rename_i f args ho
    split at e
    · rename_i v H2 hc
      split at e
      · rename_i tm' htm
        simp only [Option.some.injEq] at e; subst e
        obtain ⟨h1, h2⟩ := callA_ok hr hS hc
        refine ⟨rfl, v, ?_, htm⟩
        have hcall : ∃ c, o.op = .call c ∧ aCall P gl st.H st.tm c = some (.call f args) := by
          exact aOp_call ho
        obtain ⟨c, hop, hac⟩ := hcall
        rw [hop]
        exact call_ok hg gg h hac h1 h2
      · cases e
    · cases e
  · cases e

theorem putA_blt {d : Option Nat} {v : Value} {tm' : Tms} (e : putA N tm d v = some tm') : ∀ x, d = some x → Nat.blt x N = true := by
  rintro x rfl
  simp only [putA] at e
  cases hb : Nat.blt x N with
  | true => rfl
  | false => rw [hb] at e; cases e

theorem addL_blt {d : Option Nat} (h : ∀ x, d = some x → Nat.blt x N = true) {a : Act} (f : Fr N a L) (u : Value) : Fr N (a.put d u) (addL d u L) := by
  cases d with
  | none => exact f.put_none u
  | some x => exact f.put u (h x rfl)

theorem J.opD {ds : List Deferred} {ops : Array Oper} {Q : Exit → Act → World → Prop} {o : Oper} {rest : List Oper} (hgd : guardL ops o.guard L = some true) (hd : ∀ x, o.dst = some x → Nat.blt x N = true) (h : OpC P o.op o.type L A R)
    (k : ∀ v B, R v B → J W0 N (addL o.dst v L) B (LW P ds ops Q rest)) : J W0 N L A (LW P ds ops Q (o :: rest)) := by
  refine ⟨fun a w f s => ?_⟩
  obtain ⟨dst, op, ty, pos, aft, g⟩ := o
  unfold LW wpList
  rw [if_pos (guardL_wanted (a := a) f hgd)]
  refine Or.inl (h.wp dst pos aft g { a with defers := ds } W0 w (fun x _ u e => (f.eval (x := x) e : a.eval x = u)) s _ _ ?_)
  intro u B w' r s'
  have := (k u B r).run _ _ (addL_blt hd f u) s'
  cases dst <;> exact this

theorem J.opS {ds : List Deferred} {ops : Array Oper} {Q : Exit → Act → World → Prop} {o : Oper} {rest : List Oper} (hgd : guardL ops o.guard L = some false) (hd : ∀ x, o.dst = some x → Nat.blt x N = true)
    (k : J W0 N (addL o.dst undef L) A (LW P ds ops Q rest)) : J W0 N L A (LW P ds ops Q (o :: rest)) := by
  refine ⟨fun a w f s => ?_⟩
  unfold LW wpList
  rw [if_neg (by rw [guardL_wanted (a := a) f hgd]; exact Bool.false_ne_true)]
  have := k.run _ _ (addL_blt hd f undef) s
  cases hdst : o.dst with
  | none => rw [hdst] at this; exact this
  | some x => rw [hdst] at this; exact this

theorem opA_rf {ops : List Oper} {o : Oper} {st st1 : St X} (ho : opA P gl S rec N ops o st = some st1) : st1.rf = st.rf := by
  unfold opA at ho
  split at ho
  · unfold doA at ho
    split at ho
    · split at ho
      · cases ho; rfl
      · cases ho
    · split at ho
      · split at ho
        · cases ho; rfl
        · cases ho
      · cases ho
    · cases ho
  · split at ho
    · cases ho; rfl
    · cases ho
  · cases ho

theorem opsA_ok (hr : RecOK P OW gl rec) (hS : SumsOK P OW gl S) {ops : List Oper} : ∀ {l : List Oper} {st st' : St X}, opsA P gl S rec N ops l st = some st' → st'.rf = st.rf ∧
    ∀ (σ : Sg) (L : Slots) (F : Assn) (W0 : World) (Q : Exit → Act → World → Prop) (ds : List Deferred), HG σ st.H → GG gl σ F → TmR σ st.tm L →
    (∀ τ L', Ext σ τ → HG τ st'.H → TmR τ st'.tm L' → J W0 N L' [conc OW τ st'.H F] (EI Q ds .normal)) → J W0 N L [conc OW σ st.H F] (LW P ds ops.toArray Q l)
  | [], st, st', e => by
    simp only [opsA, Option.some.injEq] at e; subst e
    refine ⟨rfl, fun σ L F W0 Q ds hg gg h k => ⟨fun a w f s => ?_⟩⟩
    exact (k σ L (Ext.refl σ) hg h).run a w f s
  | o :: l, st, st', e => by
    simp only [opsA] at e
    split at e
    · rename_i st1 ho
      obtain ⟨h1, h2⟩ := opsA_ok hr hS e
      have hrf := opA_rf ho
      refine ⟨h1.trans hrf, fun σ L F W0 Q ds hg gg h k => ?_⟩
      unfold opA at ho
      split at ho
      · rename_i hw
        obtain ⟨_, v, hop, hput⟩ := doA_ok hr hS ho hg gg h
        have hd : ∀ x, o.dst = some x → Nat.blt x N = true := putA_blt hput
        refine J.opD (wanted_ok h hw) hd hop ?_
        rintro u B ⟨τ, he, hg', hv, rfl⟩
        exact h2 τ _ F W0 Q ds hg' (gg.ext he) ((h.mono he).put hv hput).1 fun τ' L' he' => k τ' L' (he.trans he')
      · rename_i hw
        split at ho
        · rename_i tm' hput
          simp only [Option.some.injEq] at ho; subst ho
          have hp := h.put (flat_VR 1 undef rfl) hput
          exact J.opS (wanted_ok h hw) hp.2 (h2 σ _ F W0 Q ds hg gg hp.1 k)
        · cases ho
      · cases ho
    · cases e

theorem loudOf_iff : ∀ {l : List Oper} {k i : Nat}, i ∈ loudOf k l ↔ ∃ o, k ≤ i ∧ l[i - k]? = some o ∧ quietO o = false
  | [], k, i => by simp [loudOf]
  | o :: l, k, i => by
    simp only [loudOf]
    cases hq : quietO o with
    | true =>
      simp only [bif_t, loudOf_iff (l := l)]
      constructor
      · rintro ⟨p, h1, h2, h3⟩
        exact ⟨p, by omega, by rw [show i - k = (i - (k + 1)) + 1 from by omega]; simpa using h2, h3⟩
      · rintro ⟨p, h1, h2, h3⟩
        by_cases hk : i = k
        · subst hk; simp at h2; subst h2; rw [hq] at h3; cases h3
        · exact ⟨p, by omega, by rw [show i - k = (i - (k + 1)) + 1 from by omega] at h2; simpa using h2, h3⟩
    | false =>
      simp only [bif_f, List.mem_cons, loudOf_iff (l := l)]
      constructor
      · rintro (rfl | ⟨p, h1, h2, h3⟩)
        · exact ⟨o, Nat.le_refl _, by simp, hq⟩
        · exact ⟨p, by omega, by rw [show i - k = (i - (k + 1)) + 1 from by omega]; simpa using h2, h3⟩
      · rintro ⟨p, h1, h2, h3⟩
        by_cases hk : i = k
        · exact .inl hk
        · exact .inr ⟨p, by omega, by rw [show i - k = (i - (k + 1)) + 1 from by omega] at h2; simpa using h2, h3⟩

theorem loud_of {l : List Oper} {i : Nat} {o : Oper} (h : l[i]? = some o) : i ∈ loudOf 0 l ↔ quietO o = false := by
  rw [loudOf_iff]
  constructor
  · rintro ⟨p, _, h2, h3⟩
    rw [Nat.sub_zero, h] at h2; cases h2; exact h3
  · intro hq; exact ⟨o, Nat.zero_le _, by simpa using h, hq⟩

theorem readyQ_ok {S' : List Nat} : ∀ {l : List Oper} {k i : Nat} {o : Oper}, readyQ S' k l = some (i, o) → k ≤ i ∧ l[i - k]? = some o ∧ quietO o = true ∧ memN i S' = false ∧ allN S' (dirs o) = true
  | [], _, _, _, h => by simp [readyQ] at h
  | p :: l, k, i, o, h => by
    simp only [readyQ] at h
    cases hc : quietO p && !memN k S' && allN S' (dirs p) with
    | true =>
      rw [hc] at h
      simp only [bif_t, Option.some.injEq, Prod.mk.injEq] at h
      obtain ⟨rfl, rfl⟩ := h
      simp only [Bool.and_eq_true, Bool.not_eq_true'] at hc
      exact ⟨Nat.le_refl _, by simp, hc.1.1, hc.1.2, hc.2⟩
    | false =>
      rw [hc] at h
      simp only [bif_f] at h
      obtain ⟨h1, h2, h3⟩ := readyQ_ok h
      exact ⟨by omega, by rw [show i - k = (i - (k + 1)) + 1 from by omega]; simpa using h2, h3⟩

theorem look_mem {l : List Oper} {p : Oper} : ∀ {js : List Nat} {j : Nat}, j ∈ js → l[j]? = some p → p ∈ look l js
  | j' :: js, j, h, hp => by
    simp only [look]
    rcases List.mem_cons.1 h with rfl | h
    · rw [hp]; simp
    · split
      · exact List.mem_cons_of_mem _ (look_mem h hp)
      · exact look_mem h hp

theorem waits_ok {l : List Oper} {S' is : List Nat} {j i : Nat} {p : Oper} (hj : j ∈ S') (hp : l[j]? = some p) (hi : i ∈ is) :
    (((masks [] l)[i]?).getD 0).testBit j = true ∨ j ∈ loudOf 0 l ∨ p ∈ waits l (masks [] l) S' is := by
  by_cases h1 : (((masks [] l)[i]?).getD 0).testBit j = true
  · exact .inl h1
  · right
    cases hq : quietO p with
    | false => exact .inl ((loud_of hp).2 hq)
    | true =>
      right
      refine look_mem (j := j) ?_ hp
      rw [List.mem_filter]
      refine ⟨hj, ?_⟩
      simp only [hp, hq, Bool.true_and, Bool.not_eq_true']
      rw [List.all_eq_false]
      exact ⟨i, hi, h1⟩

theorem quietO_dst {o : Oper} (h : quietO o = true) : ∃ d, o.dst = some d := by
  unfold quietO at h
  cases hd : o.dst with
  | none => rw [hd] at h; simp at h
  | some d => exact ⟨d, rfl⟩
end
end Go.X.E
namespace Go.X.E

section
variable {P : Program} {X : Type} {OW : X → Nat → Assn} {gl : Nat → Option (List Value)} {S : Sums X} {rec : Nat → Code → St X → Option (Ex × St X)} {σ τ : Sg} {H H' : Hs X} {F : Assn} {tm : Tms} {L : Slots} {ty : TypeId} {op : Op} {A B : List Assn} {R R' : Value → List Assn → Prop} {N : Nat} {W0 : World}

theorem readyQ_none {S' : List Nat} : ∀ {l : List Oper} {k i : Nat} {o : Oper}, readyQ S' k l = none → k ≤ i → l[i - k]? = some o → quietO o = true → memN i S' = false → allN S' (dirs o) = true → False
  | [], _, _, _, _, _, h, _, _, _ => by simp at h
  | p :: l, k, i, o, h, hk, hl, hq, hm, ha => by
    simp only [readyQ] at h
    cases hc : quietO p && !memN k S' && allN S' (dirs p) with
    | true => rw [hc] at h; cases h
    | false =>
      rw [hc] at h
      simp only [bif_f] at h
      by_cases hik : i = k
      · subst hik
        simp at hl; subst hl
        rw [hq, hm, ha] at hc; cases hc
      · exact readyQ_none h (by omega) (by rw [show i - k = (i - (k + 1)) + 1 from by omega] at hl; simpa using hl) hq hm ha

theorem front_mem {l : List Oper} {S' : List Nat} {i : Nat} (h : i ∈ front l S') : i < l.length ∧ memN i S' = false ∧ ∃ o, l[i]? = some o ∧ allN S' (dirs o) = true := by
  simp only [front, List.mem_filter, List.mem_range, Bool.and_eq_true, Bool.not_eq_true'] at h
  refine ⟨h.1, h.2.1, ?_⟩
  cases ho : l[i]? with
  | none => rw [ho] at h; simp at h
  | some o => rw [ho] at h; exact ⟨o, rfl, h.2.2⟩

theorem find_swap {x y : Nat} {p q : Value} (h : x ≠ y) (s : Nat) : find s ((x, p) :: (y, q) :: L) = find s ((y, q) :: (x, p) :: L) := by
  simp only [find, nbeq, cond_decide]
  by_cases hx : s = x
  · by_cases hy : s = y
    · omega
    · simp [hx, h]
  · simp [hx]
theorem find_under {x : Nat} {p : Value} {L' : Slots} (h : ∀ s, find s L = find s L') (s : Nat) : find s ((x, p) :: L) = find s ((x, p) :: L') := by
  simp only [find, h s]

theorem TmR.same {L' : Slots} (h : TmR σ tm L) (e : ∀ s, find s L = find s L') : TmR σ tm L' := fun s v hv => by
  obtain ⟨u, h1, h2⟩ := h s v hv; exact ⟨u, by rw [← e s]; exact h1, h2⟩
theorem TmR.free {d : Nat} {u : Value} (h : TmR σ tm L) (hf : freeT tm (some d) = true) : TmR σ tm ((d, u) :: L) := fun s v hv => by
  obtain ⟨u', h1, h2⟩ := h s v hv
  refine ⟨u', ?_, h2⟩
  have hs : s ≠ d := by
    rintro rfl
    simp only [freeT, hv] at hf
    cases hf
  simp only [find, nbeq, hs, decide_false, bif_f]; exact h1

def mkO : Obj := .map #[] 0

theorem twoMaps {ia ib r1 r2 : Nat} {H1 H2 H3 : Hs X} (hg : HG σ H1) (h2 : H1.new .emap = some (ia, H2)) (h3 : H2.new .emap = some (ib, H3)) :
    ∃ τ, Ext σ τ ∧ HG τ H3 ∧ VR τ (.map (some ia)) (.map (some r1)) ∧ VR τ (.map (some ib)) (.map (some r2)) ∧ ∀ h, HSat h [pt r1 mkO, pt r2 mkO, conc OW σ H1 F] → conc OW τ H3 F h := by
  obtain ⟨g2, e2⟩ := hg.new (l := ⟨r1, 0, 0, 1⟩) h2 (fun cs hc => by cases hc) (fun r hr => by cases hr)
  obtain ⟨g3, e3⟩ := g2.new (l := ⟨r2, 0, 0, 1⟩) h3 (fun cs hc => by cases hc) (fun r hr => by cases hr)
  obtain ⟨rfl, n2, m2⟩ := Hs.new_get h2
  obtain ⟨rfl, n3, m3⟩ := Hs.new_get h3
  refine ⟨_, e2.trans e3, g3, ?_, ?_, ?_⟩
  · exact VR.map (loc := ⟨r1, 0, 0, 1⟩) (e3 _ _ (by simp [updS]))
  · exact VR.map (loc := ⟨r2, 0, 0, 1⟩) (by simp [updS])
  · intro h s
    obtain ⟨k1, k2, a1, s2, d, u1, u2⟩ := s.swap
    have c2 : conc OW (updS σ H1.nx ⟨r1, 0, 0, 1⟩) H2 F k2 :=
      concF.unfocus (loc := ⟨r1, 0, 0, 1⟩) (o := .emap) (s2.under fun k s => s.imp (concF.ext e2)) (hg.none _ (Nat.le_refl _)) (by simp [updS]) m2
    exact concF.unfocus (g := H2.get) (loc := ⟨r2, 0, 0, 1⟩) (o := .emap) ⟨k1, k2, a1, one_sat (concF.ext e3 _ c2), d, u1, u2⟩ (g2.none _ (Nat.le_refl _)) (by simp [updS]) m3

theorem star_out {Y : Assn} {g : Nat → Option (AObj X)} : ∀ h, HSat h [concF OW σ g (star [Y, F])] → HSat h [Y, concF OW σ g F] := fun h s => by
  obtain ⟨h1, _, c, _, _, u, _⟩ := s
  exact (concF.out c).mono u
theorem star_out2 {Y Z : Assn} {g : Nat → Option (AObj X)} : ∀ h, HSat h [concF OW σ g (star [Y, star [Z, F]])] → HSat h [Y, Z, concF OW σ g F] := fun h s => (star_out h s).under star_out

theorem mkC {o : Oper} (h : isMk o = true) : OpC P o.op o.type L [conc OW σ H F] (fun u B => ∃ r, u = .map (some r) ∧ B = [conc OW σ H (star [pt r mkO, F])]) ∧ o.guard = none ∧ ∃ d, o.dst = some d := by
  obtain ⟨dst, op, ty, pos, aft, g⟩ := o
  unfold isMk at h
  split at h
  · rename_i d T T' h1 h2 h3
    simp only at h1 h2 h3
    subst h1; subst h2; subst h3
    refine ⟨weakC C.mkMap ?_, rfl, _, rfl⟩
    rintro u B ⟨r, rfl, rfl⟩
    exact ⟨_, ⟨r, rfl, rfl⟩, fun k s => one_sat (concF.inn s)⟩
  · cases h

theorem GG.star {Y : Assn} (gg : GG gl σ F) : GG gl σ (_root_.Go.X.star [Y, F]) := by
  refine ⟨gg.lo, fun g cs h => ?_⟩
  obtain ⟨vs, h1, h2, h3⟩ := gg.gl g cs h
  refine ⟨vs, h1, h2, fun h s => ?_⟩
  obtain ⟨k, hk, hs⟩ := HSat.at_ (i := 1) (A := F) (As := [Y, F]) s rfl
  obtain ⟨e, z, h4⟩ := h3 k hk
  exact ⟨e, z, hs _ _ h4⟩

section many
variable {l : List Oper} {Q : Exit → Act → World → Prop} {S' : List Nat} {i j k : Nat} {o a b : Oper} {st st1 st2 st3 : St X}

theorem many_ok (hr : RecOK P OW gl rec) (hS : SumsOK P OW gl S) (hR : RegOK l (loudOf 0 l)) (hf : front l S' = [i, j, k]) (hi : l[i]? = some o) (hj : l[j]? = some a) (hk : l[k]? = some b) (ha : isMk a = true) (hb : isMk b = true) (hog : o.guard = none)
    (hap : apart l S' i j k o a b = true) (ho1 : doA P gl S rec N o st = some st1) (ho2 : mkA N a st1 = some st2) (ho3 : mkA N b st2 = some st3)
    (s0 : ∀ p, p ∈ waits l (masks [] l) S' [i, j, k] → still P gl l st p = true) (s1 : ∀ p, p ∈ waits l (masks [] l) S' [i, j, k] → still P gl l ⟨st.tm, st1.H, st.rf⟩ p = true)
    (s3 : ∀ p, p ∈ waits l (masks [] l) S' [i, j, k] → still P gl l ⟨st.tm, st3.H, st.rf⟩ p = true)
    (f1 : freeT st.tm o.dst = true) (f2 : freeT st.tm a.dst = true) (f3 : freeT st.tm b.dst = true) (hg : HG σ st.H) (gg : GG gl σ F) (h : TmR σ st.tm L)
    (K : ∀ τ L', Ext σ τ → HG τ st3.H → TmR τ st3.tm L' → RG P W0 N l (loudOf 0 l) Q (k :: j :: i :: S') L' [conc OW τ st3.H F] []) :
    RG P W0 N l (loudOf 0 l) Q S' L [conc OW σ st.H F] [] := by
  -- the slots
  obtain ⟨_, hga, da, hda⟩ := mkC (P := P) (OW := OW) (σ := σ) (H := st.H) (F := F) (L := L) ha
  obtain ⟨_, hgb, db, hdb⟩ := mkC (P := P) (OW := OW) (σ := σ) (H := st.H) (F := F) (L := L) hb
  unfold apart at hap
  rw [hda, hdb] at hap
  simp only [Bool.and_eq_true] at hap
  obtain ⟨⟨⟨⟨⟨⟨⟨q1, q2⟩, c1⟩, c2⟩, c3⟩, c4⟩, c5⟩, c6⟩ := hap
  obtain ⟨dx, hdx, n1, n2, n3⟩ : ∃ dx, o.dst = some dx ∧ dx ≠ da ∧ dx ≠ db ∧ da ≠ db := by
    cases hd : o.dst with
    | none => rw [hd] at q1; cases q1
    | some dx =>
      rw [hd] at q1
      simp only [Bool.and_eq_true, Bool.not_eq_true', nbeq, decide_eq_false_iff_not] at q1
      exact ⟨dx, rfl, q1.1.1, q1.1.2, q1.2⟩
  simp only [beq_iff_eq] at c1 c2 c3 c4 c5 c6
  rw [hdx] at f1; rw [hda] at f2; rw [hdb] at f3
  have li : i ∈ loudOf 0 l := (loud_of hi).2 (by simpa using q2)
  have lm : ∀ {m : Nat} {p : Oper}, l[m]? = some p → isMk p = true → m ∈ loudOf 0 l := by
    intro m p hp hm
    refine (loud_of hp).2 ?_
    obtain ⟨dst, op, ty, pos, aft, g⟩ := p
    unfold isMk at hm
    split at hm
    · rename_i h1 h2 h3
      simp only at h1 h2 h3
      subst h1; subst h2; rfl
    · cases hm
  have lj := lm hj ha
  have lk := lm hk hb
  -- what is derived stays
  have pend : ∀ (τ' : Sg) (H' : Hs X) (F' : Assn) (L' : Slots) (S'' : List Nat) (q : Nat), q ∈ [i, j, k] → (∀ x, x ∈ S'' → x ∈ S' ∨ x ∈ [i, j, k]) → (∀ p, p ∈ waits l (masks [] l) S' [i, j, k] → still P gl l ⟨st.tm, H', st.rf⟩ p = true) →
      HG τ' H' → GG gl τ' F' → TmR τ' st.tm L' → ∀ y, y ∈ S'' → (((masks [] l)[q]?).getD 0).testBit y = true ∨ y ∈ loudOf 0 l ∨ ∀ p d v', l[y]? = some p → p.dst = some d → find d L' = some v' → Pend P l p L' [conc OW τ' H' F'] v' := by
    intro τ' H' F' L' S'' q hq hsub hst hg' gg' ht y hy
    rcases hsub y hy with hy' | hy'
    · cases hp : l[y]? with
      | none => exact .inr (.inr fun p d v' hp' => by cases hp')
      | some p =>
        rcases waits_ok hy' hp hq with hw | hw | hw
        · exact .inl hw
        · exact .inr (.inl hw)
        · refine .inr (.inr fun p' d v' hp' hd hv => ?_)
          cases hp'
          exact still_ok (st := ⟨st.tm, H', st.rf⟩) hg' gg' ht (hst p hw) hd hv
    · simp only [List.mem_cons, List.not_mem_nil, or_false] at hy'
      rcases hy' with rfl | rfl | rfl
      · exact .inr (.inl li)
      · exact .inr (.inl lj)
      · exact .inr (.inl lk)
  -- the abstract steps
  obtain ⟨_, v, _, hput1⟩ := doA_ok hr hS ho1 hg gg h
  rw [hdx] at hput1
  have main : ∀ (F' : Assn) (L' : Slots), GG gl σ F' → TmR σ st.tm L' → OpC P o.op o.type L' [conc OW σ st.H F'] (RV OW σ F' v st1.H) := by
    intro F' L' gg' ht
    obtain ⟨_, v', h1, h2⟩ := doA_ok hr hS ho1 hg gg' ht
    have : v' = v := by
      rw [hdx] at h2
      simp only [putA] at hput1 h2
      cases hbl : Nat.blt dx N with
      | false => rw [hbl] at h2; cases h2
      | true =>
        rw [hbl] at h2 hput1
        simp only [bif_t, force_eq] at h2 hput1
        have e1 := Tr.get_set h2 dx
        have e2 := Tr.get_set hput1 dx
        rw [if_pos rfl] at e1 e2
        rw [e1] at e2; cases e2; rfl
    subst this; exact h1
  obtain ⟨ia, H2, hn2, hput2, hs2⟩ : ∃ ia H2, st1.H.new .emap = some (ia, H2) ∧ putA N st1.tm (some da) (.map (some ia)) = some st2.tm ∧ st2.H = H2 := by
    unfold mkA at ho2
    rw [hda] at ho2
    split at ho2
    · rename_i ia H2 hn
      split at ho2
      · rename_i tm' ht; cases ho2; exact ⟨ia, H2, hn, ht, rfl⟩
      · cases ho2
    · cases ho2
  obtain ⟨ib, H3, hn3, hput3, hs3⟩ : ∃ ib H3, st2.H.new .emap = some (ib, H3) ∧ putA N st2.tm (some db) (.map (some ib)) = some st3.tm ∧ st3.H = H3 := by
    unfold mkA at ho3
    rw [hdb] at ho3
    split at ho3
    · rename_i ib H3 hn
      split at ho3
      · rename_i tm' ht; cases ho3; exact ⟨ib, H3, hn, ht, rfl⟩
      · cases ho3
    · cases ho3
  rw [hs2] at hn3
  have hdX : ∀ d, o.dst = some d → d < N := fun d hd => by rw [hdx] at hd; cases hd; simpa [Nat.blt_eq] using putA_blt hput1 _ rfl
  have hdA : ∀ d, a.dst = some d → d < N := fun d hd => by rw [hda] at hd; cases hd; simpa [Nat.blt_eq] using putA_blt hput2 _ rfl
  have hdB : ∀ d, b.dst = some d → d < N := fun d hd => by rw [hdb] at hd; cases hd; simpa [Nat.blt_eq] using putA_blt hput3 _ rfl
  have gi : ∀ L', guardL l.toArray o.guard L' = some true := fun L' => by rw [hog]; rfl
  have ga : ∀ L', guardL l.toArray a.guard L' = some true := fun L' => by rw [hga]; rfl
  have gb : ∀ L', guardL l.toArray b.guard L' = some true := fun L' => by rw [hgb]; rfl
  -- the end
  have fin : ∀ (τ : Sg) (u : Value) (r1 r2 : Nat), Ext σ τ → HG τ st1.H → VR τ v u → ∃ ρ, Ext σ ρ ∧ HG ρ st3.H ∧ (∀ h, HSat h [pt r1 mkO, pt r2 mkO, conc OW τ st1.H F] → HSat h [conc OW ρ st3.H F]) ∧
      ∀ (L' : Slots) (S'' : List Nat), (∀ s, find s L' = find s ((db, .map (some r2)) :: (da, .map (some r1)) :: (dx, u) :: L)) → (∀ x, x ∈ S'' ↔ x ∈ k :: j :: i :: S') → RG P W0 N l (loudOf 0 l) Q S'' L' [conc OW ρ st3.H F] [] := by
    intro τ u r1 r2 he hg1 hv
    obtain ⟨ρ, e1, g3, v1, v2, hm⟩ := twoMaps (OW := OW) (F := F) (r1 := r1) (r2 := r2) hg1 hn2 hn3
    rw [← hs3] at g3
    refine ⟨ρ, he.trans e1, g3, fun h s => one_sat (by rw [hs3]; exact hm h s), fun L' S'' hL hS'' => RG.mem hS'' (K ρ L' (he.trans e1) g3 ?_)⟩
    have t1 := ((h.mono (he.trans e1)).put (hv.mono e1) hput1).1
    have t2 := (t1.put v1 hput2).1
    have t3 := (t2.put v2 hput3).1
    exact t3.same fun s => (hL s).symm
  have tfr : ∀ {τ' : Sg} {L' : Slots} (d : Nat) (u : Value), freeT st.tm (some d) = true → TmR τ' st.tm L' → TmR τ' st.tm ((d, u) :: L') := fun d u hfr ht => ht.free hfr
  have s0' : ∀ p, p ∈ waits l (masks [] l) S' [i, j, k] → still P gl l ⟨st.tm, st.H, st.rf⟩ p = true := s0
  have mk : ∀ {x : Oper} (hx : isMk x = true) (σ' : Sg) (H' : Hs X) (F' : Assn) (L' : Slots), OpC P x.op x.type L' [conc OW σ' H' F'] (fun u B => ∃ r, u = .map (some r) ∧ B = [conc OW σ' H' (_root_.Go.X.star [pt r mkO, F'])]) := fun hx σ' H' F' L' => (mkC hx).1
  -- the last of the three
  have lastB : ∀ (τ : Sg) (u : Value) (r1 : Nat) (L' : Slots) (S'' : List Nat), Ext σ τ → HG τ st1.H → VR τ v u → TmR τ st.tm L' → (∀ s, find s L' = find s ((da, .map (some r1)) :: (dx, u) :: L)) → (∀ x, x ∈ S'' ↔ x ∈ j :: i :: S') →
      RG P W0 N l (loudOf 0 l) Q S'' L' [conc OW τ st1.H (_root_.Go.X.star [pt r1 mkO, F])] [] := by
    intro τ u r1 L' S'' he hg1 hv ht hL hS''
    have hfr : front l S'' = [k] := by rw [front_ext hS'', c4]
    refine RG.nextQ hR (by rw [hfr]; simp) fun q hq => ?_
    rw [hfr] at hq
    obtain rfl : q = k := by simpa using hq
    refine ⟨b, hk, lk, hdB, .inr ⟨gb _, fun w B => ∃ r2 ρ, w = .map (some r2) ∧ Ext σ ρ ∧ HG ρ st3.H ∧ TmR ρ st.tm L' ∧ B = [conc OW ρ st3.H F] ∧ (∀ (L' : Slots) (S'' : List Nat), (∀ s, find s L' = find s ((db, .map (some r2)) :: (da, .map (some r1)) :: (dx, u) :: L)) → (∀ x, x ∈ S'' ↔ x ∈ q :: j :: i :: S') → RG P W0 N l (loudOf 0 l) Q S'' L' [conc OW ρ st3.H F] []), weakC (mk hb τ st1.H _ L') ?_, ?_⟩⟩
    · rintro w B ⟨r2, rfl, rfl⟩
      obtain ⟨ρ, e1, g3, hm, hc⟩ := fin τ u r1 r2 he hg1 hv
      refine ⟨_, ⟨r2, ρ, rfl, e1, g3, ?_, rfl, hc⟩, fun h s => hm h (star_out2 h s).swap⟩
      exact (tfr da (.map (some r1)) f2 (tfr dx u f1 (h.mono e1))).same fun s => (hL s).symm
    · rintro w B ⟨r2, ρ, rfl, e1, g3, ht3, rfl, hc⟩
      refine ⟨pend ρ st3.H F L' S'' q (by simp) (fun x hx => by have := (hS'' x).1 hx; simp only [List.mem_cons, List.not_mem_nil, or_false] at this ⊢; grind) s3 g3 (gg.ext e1) ht3, ?_⟩
      rw [hdb]
      exact hc _ _ (find_under hL) (fun x => by simp [hS'' x])
  have lastA : ∀ (τ : Sg) (u : Value) (r2 : Nat) (L' : Slots) (S'' : List Nat), Ext σ τ → HG τ st1.H → VR τ v u → TmR τ st.tm L' → (∀ s, find s L' = find s ((db, .map (some r2)) :: (dx, u) :: L)) → (∀ x, x ∈ S'' ↔ x ∈ k :: i :: S') →
      RG P W0 N l (loudOf 0 l) Q S'' L' [conc OW τ st1.H (_root_.Go.X.star [pt r2 mkO, F])] [] := by
    intro τ u r2 L' S'' he hg1 hv ht hL hS''
    have hfr : front l S'' = [j] := by rw [front_ext hS'', c5]
    refine RG.nextQ hR (by rw [hfr]; simp) fun q hq => ?_
    rw [hfr] at hq
    obtain rfl : q = j := by simpa using hq
    refine ⟨a, hj, lj, hdA, .inr ⟨ga _, fun w B => ∃ r1 ρ, w = .map (some r1) ∧ Ext σ ρ ∧ HG ρ st3.H ∧ TmR ρ st.tm L' ∧ B = [conc OW ρ st3.H F] ∧ (∀ (L' : Slots) (S'' : List Nat), (∀ s, find s L' = find s ((db, .map (some r2)) :: (da, .map (some r1)) :: (dx, u) :: L)) → (∀ x, x ∈ S'' ↔ x ∈ k :: q :: i :: S') → RG P W0 N l (loudOf 0 l) Q S'' L' [conc OW ρ st3.H F] []), weakC (mk ha τ st1.H _ L') ?_, ?_⟩⟩
    · rintro w B ⟨r1, rfl, rfl⟩
      obtain ⟨ρ, e1, g3, hm, hc⟩ := fin τ u r1 r2 he hg1 hv
      refine ⟨_, ⟨r1, ρ, rfl, e1, g3, ?_, rfl, hc⟩, fun h s => hm h (star_out2 h s)⟩
      exact (tfr db (.map (some r2)) f3 (tfr dx u f1 (h.mono e1))).same fun s => (hL s).symm
    · rintro w B ⟨r1, ρ, rfl, e1, g3, ht3, rfl, hc⟩
      refine ⟨pend ρ st3.H F L' S'' q (by simp) (fun x hx => by have := (hS'' x).1 hx; simp only [List.mem_cons, List.not_mem_nil, or_false] at this ⊢; grind) s3 g3 (gg.ext e1) ht3, ?_⟩
      rw [hda]
      refine hc _ _ (fun s => ?_) (fun x => by simp only [List.mem_cons, hS'' x]; grind)
      show find s ((da, .map (some r1)) :: L') = _
      rw [find_under hL s, find_swap n3]
  have lastI : ∀ (r1 r2 : Nat) (F' : Assn) (L' : Slots) (S'' : List Nat), GG gl σ F' → (∀ (τ : Sg) h, HSat h [conc OW τ st1.H F'] → HSat h [pt r1 mkO, pt r2 mkO, conc OW τ st1.H F]) → (∀ s, find s L' = find s ((db, .map (some r2)) :: (da, .map (some r1)) :: L)) → (∀ x, x ∈ S'' ↔ x ∈ k :: j :: S') →
      RG P W0 N l (loudOf 0 l) Q S'' L' [conc OW σ st.H F'] [] := by
    intro r1 r2 F' L' S'' gg' hF hL hS''
    have ht : TmR σ st.tm L' := (tfr db (.map (some r2)) f3 (tfr da (.map (some r1)) f2 h)).same fun s => (hL s).symm
    have hfr : front l S'' = [i] := by rw [front_ext hS'', c6]
    refine RG.nextQ hR (by rw [hfr]; simp) fun q hq => ?_
    rw [hfr] at hq
    obtain rfl : q = i := by simpa using hq
    refine ⟨o, hi, li, hdX, .inr ⟨gi _, fun w B => ∃ ρ, Ext σ ρ ∧ HG ρ st3.H ∧ TmR ρ st.tm L' ∧ B = [conc OW ρ st3.H F] ∧ (∀ (L' : Slots) (S'' : List Nat), (∀ s, find s L' = find s ((db, .map (some r2)) :: (da, .map (some r1)) :: (dx, w) :: L)) → (∀ x, x ∈ S'' ↔ x ∈ k :: j :: q :: S') → RG P W0 N l (loudOf 0 l) Q S'' L' [conc OW ρ st3.H F] []), weakC (main F' L' gg' ht) ?_, ?_⟩⟩
    · rintro w B ⟨τ, he, hg1, hv, rfl⟩
      obtain ⟨ρ, e1, g3, hm, hc⟩ := fin τ w r1 r2 he hg1 hv
      exact ⟨_, ⟨ρ, e1, g3, ht.mono e1, rfl, hc⟩, fun h s => hm h (hF τ h s)⟩
    · rintro w B ⟨ρ, e1, g3, ht3, rfl, hc⟩
      refine ⟨pend ρ st3.H F L' S'' q (by simp) (fun x hx => by have := (hS'' x).1 hx; simp only [List.mem_cons, List.not_mem_nil, or_false] at this ⊢; grind) s3 g3 (gg.ext e1) ht3, ?_⟩
      rw [hdx]
      refine hc _ _ (fun s => ?_) (fun x => by simp only [List.mem_cons, hS'' x]; grind)
      show find s ((dx, w) :: L') = _
      rw [find_under hL s, find_swap n2, find_under (find_swap n1) s]
  -- the second
  have midI : ∀ (τ : Sg) (u : Value), Ext σ τ → HG τ st1.H → VR τ v u → RG P W0 N l (loudOf 0 l) Q (i :: S') ((dx, u) :: L) [conc OW τ st1.H F] [] := by
    intro τ u he hg1 hv
    have ht : TmR τ st.tm ((dx, u) :: L) := tfr dx u f1 (h.mono he)
    refine RG.nextQ hR (by rw [c1]; simp) fun q hq => ?_
    rw [c1] at hq
    simp only [List.mem_cons, List.not_mem_nil, or_false] at hq
    rcases hq with rfl | rfl
    · refine ⟨a, hj, lj, hdA, .inr ⟨ga _, _, mk ha τ st1.H F _, ?_⟩⟩
      rintro w B ⟨r1, rfl, rfl⟩
      refine ⟨pend τ st1.H _ _ _ q (by simp) (fun x hx => by simp only [List.mem_cons, List.not_mem_nil, or_false] at hx ⊢; grind) s1 hg1 (gg.ext he).star ht, ?_⟩
      rw [hda]
      exact lastB τ u r1 _ _ he hg1 hv (tfr da _ f2 ht) (fun s => rfl) (fun x => Iff.rfl)
    · refine ⟨b, hk, lk, hdB, .inr ⟨gb _, _, mk hb τ st1.H F _, ?_⟩⟩
      rintro w B ⟨r2, rfl, rfl⟩
      refine ⟨pend τ st1.H _ _ _ q (by simp) (fun x hx => by simp only [List.mem_cons, List.not_mem_nil, or_false] at hx ⊢; grind) s1 hg1 (gg.ext he).star ht, ?_⟩
      rw [hdb]
      exact lastA τ u r2 _ _ he hg1 hv (tfr db _ f3 ht) (fun s => rfl) (fun x => Iff.rfl)
  have midA : ∀ (r1 : Nat), RG P W0 N l (loudOf 0 l) Q (j :: S') ((da, .map (some r1)) :: L) [conc OW σ st.H (_root_.Go.X.star [pt r1 mkO, F])] [] := by
    intro r1
    have ht : TmR σ st.tm ((da, .map (some r1)) :: L) := tfr da _ f2 h
    refine RG.nextQ hR (by rw [c2]; simp) fun q hq => ?_
    rw [c2] at hq
    simp only [List.mem_cons, List.not_mem_nil, or_false] at hq
    rcases hq with rfl | rfl
    · refine ⟨o, hi, li, hdX, .inr ⟨gi _, _, main _ _ gg.star ht, ?_⟩⟩
      rintro w B ⟨τ, he, hg1, hv, rfl⟩
      refine ⟨pend τ st1.H _ _ _ q (by simp) (fun x hx => by simp only [List.mem_cons, List.not_mem_nil, or_false] at hx ⊢; grind) s1 hg1 (gg.ext he).star (ht.mono he), ?_⟩
      rw [hdx]
      exact lastB τ w r1 _ _ he hg1 hv (tfr dx _ f1 (ht.mono he)) (find_swap n1) (fun x => by simp only [List.mem_cons]; grind)
    · refine ⟨b, hk, lk, hdB, .inr ⟨gb _, _, mk hb σ st.H _ _, ?_⟩⟩
      rintro w B ⟨r2, rfl, rfl⟩
      refine ⟨pend σ st.H _ _ _ q (by simp) (fun x hx => by simp only [List.mem_cons, List.not_mem_nil, or_false] at hx ⊢; grind) s0' hg gg.star.star ht, ?_⟩
      rw [hdb]
      exact lastI r1 r2 _ _ _ gg.star.star (fun τ h s => (star_out2 h s).swap) (fun s => rfl) (fun x => Iff.rfl)
  have midB : ∀ (r2 : Nat), RG P W0 N l (loudOf 0 l) Q (k :: S') ((db, .map (some r2)) :: L) [conc OW σ st.H (_root_.Go.X.star [pt r2 mkO, F])] [] := by
    intro r2
    have ht : TmR σ st.tm ((db, .map (some r2)) :: L) := tfr db _ f3 h
    refine RG.nextQ hR (by rw [c3]; simp) fun q hq => ?_
    rw [c3] at hq
    simp only [List.mem_cons, List.not_mem_nil, or_false] at hq
    rcases hq with rfl | rfl
    · refine ⟨o, hi, li, hdX, .inr ⟨gi _, _, main _ _ gg.star ht, ?_⟩⟩
      rintro w B ⟨τ, he, hg1, hv, rfl⟩
      refine ⟨pend τ st1.H _ _ _ q (by simp) (fun x hx => by simp only [List.mem_cons, List.not_mem_nil, or_false] at hx ⊢; grind) s1 hg1 (gg.ext he).star (ht.mono he), ?_⟩
      rw [hdx]
      exact lastA τ w r2 _ _ he hg1 hv (tfr dx _ f1 (ht.mono he)) (find_swap n2) (fun x => by simp only [List.mem_cons]; grind)
    · refine ⟨a, hj, lj, hdA, .inr ⟨ga _, _, mk ha σ st.H _ _, ?_⟩⟩
      rintro w B ⟨r1, rfl, rfl⟩
      refine ⟨pend σ st.H _ _ _ q (by simp) (fun x hx => by simp only [List.mem_cons, List.not_mem_nil, or_false] at hx ⊢; grind) s0' hg gg.star.star ht, ?_⟩
      rw [hda]
      exact lastI r1 r2 _ _ _ gg.star.star (fun τ h s => star_out2 h s) (find_swap n3) (fun x => by simp only [List.mem_cons]; grind)
  -- the first
  refine RG.nextQ hR (by rw [hf]; simp) fun q hq => ?_
  rw [hf] at hq
  simp only [List.mem_cons, List.not_mem_nil, or_false] at hq
  rcases hq with rfl | rfl | rfl
  · refine ⟨o, hi, li, hdX, .inr ⟨gi _, _, main _ _ gg h, ?_⟩⟩
    rintro w B ⟨τ, he, hg1, hv, rfl⟩
    refine ⟨pend τ st1.H _ _ _ q (by simp) (fun x hx => .inl hx) s1 hg1 (gg.ext he) (h.mono he), ?_⟩
    rw [hdx]
    exact midI τ w he hg1 hv
  · refine ⟨a, hj, lj, hdA, .inr ⟨ga _, _, mk ha σ st.H _ _, ?_⟩⟩
    rintro w B ⟨r1, rfl, rfl⟩
    refine ⟨pend σ st.H _ _ _ q (by simp) (fun x hx => .inl hx) s0' hg gg.star h, ?_⟩
    rw [hda]
    exact midA r1
  · refine ⟨b, hk, lk, hdB, .inr ⟨gb _, _, mk hb σ st.H _ _, ?_⟩⟩
    rintro w B ⟨r2, rfl, rfl⟩
    refine ⟨pend σ st.H _ _ _ q (by simp) (fun x hx => .inl hx) s0' hg gg.star h, ?_⟩
    rw [hdb]
    exact midB r2
end many
end
end Go.X.E
namespace Go.X.E

section
variable {P : Program} {X : Type} {OW : X → Nat → Assn} {gl : Nat → Option (List Value)} {S : Sums X} {rec : Nat → Code → St X → Option (Ex × St X)} {σ τ : Sg} {H H' : Hs X} {F : Assn} {tm : Tms} {L : Slots} {ty : TypeId} {op : Op} {A B : List Assn} {R R' : Value → List Assn → Prop} {N : Nat} {W0 : World}

theorem doA_rf {o : Oper} {st st1 : St X} (ho : doA P gl S rec N o st = some st1) : st1.rf = st.rf := by
  unfold doA at ho
  split at ho
  · split at ho
    · cases ho; rfl
    · cases ho
  · split at ho
    · split at ho
      · cases ho; rfl
      · cases ho
    · cases ho
  · cases ho
theorem mkA_rf {o : Oper} {st st1 : St X} (ho : mkA N o st = some st1) : st1.rf = st.rf := by
  unfold mkA at ho
  split at ho
  · split at ho
    · cases ho; rfl
    · cases ho
  · cases ho

theorem memN_not {l : List Nat} {n : Nat} (h : n ∉ l) : memN n l = false := by
  cases hb : memN n l with
  | true => exact absurd (memN_iff.1 hb) h
  | false => rfl

theorem drawA_ok (hr : RecOK P OW gl rec) (hS : SumsOK P OW gl S) {l : List Oper} (hR : RegOK l (loudOf 0 l)) : ∀ (n : Nat) (S' : List Nat) (pl : List Stp) (st st' : St X),
    plan l (masks [] l) n S' = some pl → drawA P gl S rec N l pl st = some st' → st'.rf = st.rf ∧
    ∀ (σ : Sg) (L : Slots) (F : Assn) (W0 : World) (Q : Exit → Act → World → Prop), HG σ st.H → GG gl σ F → TmR σ st.tm L →
    (∀ τ L', Ext σ τ → HG τ st'.H → TmR τ st'.tm L' → J W0 N L' [conc OW τ st'.H F] (Q .normal)) → RG P W0 N l (loudOf 0 l) Q S' L [conc OW σ st.H F] []
  | 0, S', pl, st, st', e, _ => by simp [plan] at e
  | n + 1, S', pl, st, st', e, hd => by
    simp only [plan] at e
    split at e
    · -- a quiet one
      rename_i i o hq
      split at e
      · rename_i r hpl
        cases e
        obtain ⟨_, hl, hqo, hm, ha⟩ := readyQ_ok hq
        rw [Nat.sub_zero] at hl
        obtain ⟨d, hdst⟩ := quietO_dst hqo
        have hnq : memN i (loudOf 0 l) = false := memN_not fun hi => by rw [(loud_of hl).1 hi] at hqo; cases hqo
        simp only [drawA] at hd
        split at hd
        · rename_i hw
          split at hd
          · rename_i v hv
            split at hd
            · rename_i tm' hput
              obtain ⟨h1, h2⟩ := drawA_ok hr hS hR n _ _ _ _ hpl hd
              refine ⟨h1, fun σ L F W0 Q hg gg h k => ?_⟩
              obtain ⟨u, h3, h4⟩ := aQ_ok (P := P) (OW := OW) (ty := o.type) hg gg h hv
              have hp := h.put h3 hput
              refine RG.pend hR hl hdst ha hnq hm (hp.2 d hdst) (.inl ⟨wanted_ok h hw, h4⟩) ?_
              have := h2 σ _ F W0 Q hg gg hp.1 k
              rw [hdst] at this; exact this
            · cases hd
          · cases hd
        · rename_i hw
          split at hd
          · rename_i tm' hput
            obtain ⟨h1, h2⟩ := drawA_ok hr hS hR n _ _ _ _ hpl hd
            refine ⟨h1, fun σ L F W0 Q hg gg h k => ?_⟩
            have hp := h.put (flat_VR 1 undef rfl) hput
            refine RG.pend hR hl hdst ha hnq hm (hp.2 d hdst) (.inr ⟨wanted_ok h hw, rfl⟩) ?_
            have := h2 σ _ F W0 Q hg gg hp.1 k
            rw [hdst] at this; exact this
          · cases hd
        · cases hd
      · cases e
    · rename_i hnone
      split at e
      · -- all is derived
        rename_i hf
        cases hall : (List.range l.length).all (fun i => memN i S') with
        | false => rw [hall] at e; cases e
        | true =>
          rw [hall] at e
          cases e
          simp only [drawA, Option.some.injEq] at hd
          subst hd
          refine ⟨rfl, fun σ L F W0 Q hg gg h k => RG.done hR (fun i hi => ?_) (k σ L (Ext.refl σ) hg h)⟩
          rw [List.all_eq_true] at hall
          exact memN_iff.1 (hall i (List.mem_range.2 hi))
      · -- one
        rename_i i hf
        split at e
        · rename_i o r hl hpl
          cases e
          have him : i ∈ front l S' := by rw [hf]; simp
          obtain ⟨hil, hm, o', ho', ha⟩ := front_mem him
          rw [hl] at ho'; cases ho'
          have hloud : i ∈ loudOf 0 l := by
            rw [loud_of hl]
            cases hqo : quietO o with
            | false => rfl
            | true => exact (readyQ_none (l := l) (k := 0) (i := i) hnone (Nat.zero_le _) (by simpa using hl) hqo hm ha).elim
          simp only [drawA] at hd
          split at hd
          · rename_i st1 ho
            cases hst : (waits l (masks [] l) S' [i]).all (still P gl l ⟨st.tm, st1.H, st.rf⟩) with
            | false => rw [hst] at hd; cases hd
            | true =>
              rw [hst] at hd
              simp only [bif_t] at hd
              rw [List.all_eq_true] at hst
              obtain ⟨h1, h2⟩ := drawA_ok hr hS hR n _ _ _ _ hpl hd
              refine ⟨h1.trans (opA_rf ho), fun σ L F W0 Q hg gg h k => ?_⟩
              refine RG.nextQ hR (by rw [hf]; simp) fun q hq => ?_
              rw [hf] at hq
              obtain rfl : q = i := by simpa using hq
              unfold opA at ho
              split at ho
              · rename_i hw
                obtain ⟨_, v, hop, hput⟩ := doA_ok hr hS ho hg gg h
                refine ⟨o, hl, hloud, fun d hdd => by simpa [Nat.blt_eq] using putA_blt hput d hdd, .inr ⟨wanted_ok h hw, _, hop, ?_⟩⟩
                rintro u B ⟨τ, he, hg', hv, rfl⟩
                refine ⟨fun j hj => ?_, h2 τ _ F W0 Q hg' (gg.ext he) ((h.mono he).put hv hput).1 fun τ' L' he' => k τ' L' (he.trans he')⟩
                cases hp : l[j]? with
                | none => exact .inr (.inr fun p d v' hp' => by cases hp')
                | some p =>
                  rcases waits_ok hj hp (List.mem_singleton.2 rfl) with hw' | hw' | hw'
                  · exact .inl hw'
                  · exact .inr (.inl hw')
                  · refine .inr (.inr fun p' d v' hp' hd' hv' => ?_)
                    cases hp'
                    exact still_ok (st := ⟨st.tm, st1.H, st.rf⟩) hg' (gg.ext he) (h.mono he) (hst p hw') hd' hv'
              · rename_i hw
                split at ho
                · rename_i tm' hput
                  simp only [Option.some.injEq] at ho; subst ho
                  have hp := h.put (flat_VR 1 undef rfl) hput
                  exact ⟨o, hl, hloud, fun d hdd => by simpa [Nat.blt_eq] using hp.2 d hdd, .inl ⟨wanted_ok h hw, h2 σ _ F W0 Q hg gg hp.1 k⟩⟩
                · cases ho
              · cases ho
          · cases hd
        · cases e
      · -- one beside two maps
        rename_i i j k hf
        split at e
        · rename_i o a b r hi hj hk hpl
          cases hc : isMk a && isMk b && o.guard.isNone && apart l S' i j k o a b with
          | false => rw [hc] at e; cases e
          | true =>
            rw [hc] at e
            simp only [bif_t, Option.some.injEq] at e; subst e
            simp only [Bool.and_eq_true, Option.isNone_iff_eq_none] at hc
            simp only [drawA] at hd
            cases hs : (waits l (masks [] l) S' [i, j, k]).all (still P gl l st) && freeT st.tm o.dst && freeT st.tm a.dst && freeT st.tm b.dst with
            | false => rw [hs] at hd; cases hd
            | true =>
              rw [hs] at hd
              simp only [bif_t] at hd
              simp only [Bool.and_eq_true, List.all_eq_true] at hs
              split at hd
              · rename_i st1 ho1
                split at hd
                · rename_i st2 ho2
                  split at hd
                  · rename_i st3 ho3
                    cases hs2 : (waits l (masks [] l) S' [i, j, k]).all (still P gl l ⟨st.tm, st1.H, st.rf⟩) && (waits l (masks [] l) S' [i, j, k]).all (still P gl l ⟨st.tm, st3.H, st.rf⟩) with
                    | false => rw [hs2] at hd; cases hd
                    | true =>
                      rw [hs2] at hd
                      simp only [bif_t] at hd
                      simp only [Bool.and_eq_true, List.all_eq_true] at hs2
                      obtain ⟨h1, h2⟩ := drawA_ok hr hS hR n _ _ _ _ hpl hd
                      refine ⟨h1.trans ((mkA_rf ho3).trans ((mkA_rf ho2).trans (doA_rf ho1))), fun σ L F W0 Q hg gg h kk => ?_⟩
                      exact many_ok hr hS hR hf hi hj hk hc.1.1.1 hc.1.1.2 hc.1.2 hc.2 ho1 ho2 ho3 hs.1.1.1 hs2.1 hs2.2 hs.1.1.2 hs.1.2 hs.2 hg gg h
                        fun τ L' he hg' ht => h2 τ L' F W0 Q hg' (gg.ext he) ht fun τ' L'' he' => kk τ' L'' (he.trans he')
                  · cases hd
                · cases hd
              · cases hd
        · cases e
      · cases e
end
end Go.X.E
namespace Go.X.E

section
variable {P : Program} {X : Type} {OW : X → Nat → Assn} {gl : Nat → Option (List Value)} {S : Sums X} {rec : Nat → Code → St X → Option (Ex × St X)} {σ τ : Sg} {H H' : Hs X} {F : Assn} {tm : Tms} {L : Slots} {ty : TypeId} {op : Op} {A B : List Assn} {R R' : Value → List Assn → Prop} {N : Nat} {W0 : World}

def WC (P : Program) (n : Nat) (c : Code) (Q : Exit → Act → World → Prop) (a : Act) (w : World) : Prop :=
  match c with
  | .loop b => Code.rounds P b Q n a w
  | c => c.wp P Q a w

theorem WC.wp {n : Nat} {c : Code} {Q : Exit → Act → World → Prop} {a : Act} {w : World} (h : WC P n c Q a w) : c.wp P Q a w := by
  cases c
  case loop b => exact wp_loop_rounds n h
  all_goals exact h

def CodeN (P : Program) (OW : X → Nat → Assn) (gl : Nat → Option (List Value)) (n N : Nat) (c : Code) (st : St X) (e : Ex) (st' : St X) : Prop :=
  ∀ (σ : Sg) (L : Slots) (F : Assn) (W0 : World) (Q : Exit → Act → World → Prop) (k : Option Nat), k.isSome = st.rf → HG σ st.H → GG gl σ F → TmR σ st.tm L →
    (∀ τ L' k', k'.isSome = st'.rf → Ext σ τ → HG τ st'.H → TmR τ st'.tm L' → J W0 N L' [conc OW τ st'.H (FOf F k')] (EI Q (dsOf k') (exE e))) →
    J W0 N L [conc OW σ st.H (FOf F k)] (fun a w => WC P n c Q { a with defers := dsOf k } w)

theorem CodeN.ok {n : Nat} {c : Code} {st st' : St X} {e : Ex} (h : CodeN P OW gl n N c st e st') : CodeOK P OW gl N c st e st' :=
  fun σ L F W0 Q k hk hg gg ht K => (h σ L F W0 Q k hk hg gg ht K).mono fun _ _ => WC.wp

theorem HG.skip {l : Loc} (hg : HG σ H) : HG (updS σ H.nx l) ⟨H.hp, H.nx + 1⟩ ∧ Ext σ (updS σ H.nx l) := by
  have he : Ext σ (updS σ H.nx l) := updS_ext (hg.fresh _ (Nat.le_refl _))
  refine ⟨⟨?_, ?_, ?_, ?_, ?_⟩, he⟩
  · intro b hb
    simp only at hb
    simp only [updS]; rw [if_neg (by omega)]; exact hg.fresh b (by omega)
  · intro b hb
    exact hg.none b (by simp only at hb; omega)
  · intro b o cs ho hc
    obtain ⟨vs, h⟩ := hg.cells b o cs ho hc
    exact ⟨vs, h.mono he⟩
  · intro b o ho
    obtain ⟨l', h⟩ := hg.loc b o ho
    exact ⟨l', he _ _ h⟩
  · intro b r ho
    obtain ⟨l', h⟩ := hg.iter b r ho
    exact ⟨l', he _ _ h⟩

theorem J.outD {Q : Exit → Act → World → Prop} {c : Code} (h : J W0 N L A (c.wp P Q)) : J W0 N L A (fun a w => c.wp P Q { a with defers := [] } w) :=
  ⟨fun a w f s => by
    have := h.run a w f s
    have e : ({ a with defers := [] } : Act) = a := by have h0 : a.defers = [] := f.defers; rw [← h0]
    rw [e]; exact this⟩
theorem J.inD {Q : Exit → Act → World → Prop} {e : Exit} (h : J W0 N L A (EI Q [] e)) : J W0 N L A (Q e) :=
  ⟨fun a w f s => by
    have := h.run a w f s
    have e : ({ a with defers := [] } : Act) = a := by have h0 : a.defers = [] := f.defers; rw [← h0]
    unfold EI at this
    rw [e] at this; exact this⟩

theorem isSome_false {k : Option Nat} (h : k.isSome = false) : k = none := by cases k <;> simp_all

theorem ranges_ok (hr : RecOK P OW gl rec) (hS : SumsOK P OW gl S) {g : Operand} {ps : Array Tmp} {assign body : Code} {st st' : St X} {e : Ex} (hs : stepA P gl S rec N (.rangeFunc g ps assign body) st = some (e, st')) :
    CodeOK P OW gl N (.rangeFunc g ps assign body) st e st' := by
  simp only [stepA] at hs
  cases hrf : st.rf with
  | true => rw [hrf] at hs; cases hs
  | false =>
    rw [hrf] at hs
    simp only [bif_f] at hs
    split at hs
    · rename_i gf cap hf
      rw [seqN_eq] at hs
      split at hs
      · rename_i v H1 hc
        cases hs
        intro σ L F W0 Q k hk hg gg ht K
        rw [hrf] at hk
        obtain rfl := isSome_false hk
        obtain ⟨u, h1, h2⟩ := aev_ok ht gg hf
        cases h2 with
        | @func _ xs ys cs ds hx hd =>
          cases hx
          obtain ⟨hen, hok⟩ := callA_ok hr hS hc
          refine ⟨fun a w f s => (wpIn_wide (n := 0)).1 (wpIn_rangeFunc ?_)⟩
          intro fn _
          obtain ⟨rc, hrc⟩ : ∃ rc : Obj, rc = lrec fn a.tmps ps.toList assign body w.heap.size .ready none := ⟨_, rfl⟩
          have s1 : Sat W0 ((w.alloc (.deferred (some []))).alloc rc) (pt (w.heap.size + 1) rc :: pt w.heap.size (.deferred (some [])) :: [conc OW σ st.H F]) := by
            have h1 := s.new (.deferred (some []))
            have h2 := h1.new rc
            rw [show ({ w with heap := w.heap.push (.deferred (some [])) } : World).heap.size = w.heap.size + 1 from by simp] at h2
            exact h2
          obtain ⟨W1, hW1⟩ : ∃ W1, (w.alloc (.deferred (some []))).alloc rc = W1 := ⟨_, rfl⟩
          rw [hW1] at s1
          refine ⟨w.heap.size + 1, [{ target := .collected w.heap.size, args := #[] }], W1, { target := .fn (.func gf) ds.toArray, args := #[.func (.yield (w.heap.size + 1)) #[] #[]] }, W1, gf,
            #[.func (.yield (w.heap.size + 1)) #[] #[]] ++ ds.toArray, W1, ?_, ?_, fun _ _ => trivial, ?_, fun h => (by cases h), ?_⟩
          · rw [← hW1, hrc]; simpa [lrec] using run_enterLoop_outer fn a.tmps ps assign body (w := w)
          · have : a.eval g = .func (.func gf) #[] ds.toArray := f.eval (x := g) h1
            have : ({ a with defers := dsOf none } : Act).eval g = .func (.func gf) #[] ds.toArray := this
            simp only [resolve, this]
            simp [go_sem]
          · have := hen (#[Value.func (.yield (w.heap.size + 1)) #[] #[]] ++ ds.toArray) W1
            simp only [invoke, go_sem]
            simpa using this
          · obtain ⟨hg1, he1⟩ := hg.skip (l := ⟨w.heap.size + 1, 0, 0, 0⟩)
            have s2 : Sat W0 W1 [conc OW (updS σ st.H.nx ⟨w.heap.size + 1, 0, 0, 0⟩) ⟨st.H.hp, st.H.nx + 1⟩ (_root_.Go.X.star [pt (w.heap.size + 1) rc, _root_.Go.X.star [pt w.heap.size (.deferred (some [])), F]])] := by
              refine s1.imp fun h hh => ?_
              have hh2 := hh.under fun k hk => one_sat (concF.inn hk)
              exact one_sat (concF.ext he1 _ (concF.inn hh2))
            have hy : VR (updS σ st.H.nx ⟨w.heap.size + 1, 0, 0, 0⟩) (.func (.yield st.H.nx) ⟨[]⟩ ⟨[]⟩) (.func (.yield (w.heap.size + 1)) ⟨[]⟩ ⟨[]⟩) :=
              VR.yield (loc := ⟨w.heap.size + 1, 0, 0, 0⟩) (by simp [updS])
            have hcall := hok _ _ (.func (.yield (w.heap.size + 1)) ⟨[]⟩ ⟨[]⟩ :: ds) W0 W1 hg1 ((gg.ext he1).star.star) (.cons hy (hd.mono he1)) s2
            refine callsIn_fen (r := none) (n := 0) ?_
            rw [show (Value.func (.yield (w.heap.size + 1)) ⟨[]⟩ ⟨[]⟩ :: ds).toArray = #[Value.func (.yield (w.heap.size + 1)) #[] #[]] ++ ds.toArray from by simp] at hcall
            refine hcall.mono ?_
            rintro e w' ⟨u, B, rfl, ⟨τ, he2, hg2, hv2, rfl⟩, t⟩
            have t1 : Sat W0 w' [pt (w.heap.size + 1) rc, conc OW τ H1 (_root_.Go.X.star [pt w.heap.size (.deferred (some [])), F])] := t.imp star_out
            have hl := t1.heap.at_ (i := 0) rfl
            have hl' : w'.heap[w.heap.size + 1]? = some (lrec fn a.tmps ps.toList assign body w.heap.size .ready none) := by
              obtain ⟨k, hk, hs⟩ := hl
              rw [← hrc]; exact hs _ _ hk
            refine ⟨_, _, run_endLoop hl' (by simp), ?_⟩
            have t2 : Sat W0 (w'.putObj (w.heap.size + 1) (lrec fn a.tmps ps.toList assign body w.heap.size .exhausted none)) [conc OW τ H1 (FOf F (some w.heap.size))] := (putObj_sat t1).imp fun h hh => HSat.tail hh
            have := (K τ L (some w.heap.size) rfl (he1.trans he2) hg2 (ht.mono (he1.trans he2))).run a _ f t2
            exact this
      · cases hs
    · cases hs

theorem step_ok {n : Nat} (hS : SumsOK P OW gl S) (hm : P.follows .mixedOrders = true) (hr : ∀ N c st e st', rec N c st = some (e, st') → CodeN P OW gl n N c st e st') :
    ∀ N c st e st', stepA P gl S rec N c st = some (e, st') → CodeN P OW gl (n + 1) N c st e st' := by
  have hR : RecOK P OW gl rec := fun N c st e st' h => (hr N c st e st' h).ok
  intro N c st e st' h
  have wrap : (∀ b, c ≠ .loop b) → CodeOK P OW gl N c st e st' → CodeN P OW gl (n + 1) N c st e st' := by
    intro hb ho σ L F W0 Q k hk hg gg ht K
    refine (ho σ L F W0 Q k hk hg gg ht K).mono fun a w hw => ?_
    cases c
    case loop b => exact absurd rfl (hb b)
    all_goals exact hw
  cases c with
  | skip =>
    simp only [stepA] at h; cases h
    exact wrap (fun _ h => by cases h) fun σ L F W0 Q k hk hg gg ht K => ⟨fun a w f s => wp_skip ((K σ L k hk (Ext.refl σ) hg ht).run a w f s)⟩
  | label l =>
    simp only [stepA] at h; cases h
    exact wrap (fun _ h => by cases h) fun σ L F W0 Q k hk hg gg ht K => ⟨fun a w f s => wp_label ((K σ L k hk (Ext.refl σ) hg ht).run a w f s)⟩
  | exit id =>
    simp only [stepA] at h; cases h
    exact wrap (fun _ h => by cases h) fun σ L F W0 Q k hk hg gg ht K => ⟨fun a w f s => wp_exit ((K σ L k hk (Ext.refl σ) hg ht).run a w f s)⟩
  | ret =>
    simp only [stepA] at h; cases h
    exact wrap (fun _ h => by cases h) fun σ L F W0 Q k hk hg gg ht K => ⟨fun a w f s => wp_ret ((K σ L k hk (Ext.refl σ) hg ht).run a w f s)⟩
  | seq x y =>
    refine wrap (fun _ h => by cases h) fun σ L F W0 Q k hk hg gg ht K => ?_
    simp only [stepA] at h
    split at h
    · rename_i st1 h1
      refine ⟨fun a w f s => wp_seq ((hR _ _ _ _ _ h1 σ L F W0 _ k hk hg gg ht ?_).run a w f s)⟩
      intro τ L' k' hk' he hg' ht'
      have := hR _ _ _ _ _ h τ L' F W0 Q k' hk' hg' (gg.ext he) ht' fun τ' L'' k'' hk'' he' => K τ' L'' k'' hk'' (he.trans he')
      exact ⟨fun a w f s => this.run a w f s⟩
    · rename_i hne
      refine ⟨fun a w f s => wp_seq ((hR _ _ _ _ _ h σ L F W0 _ k hk hg gg ht ?_).run a w f s)⟩
      intro τ L' k' hk' he hg' ht'
      have := K τ L' k' hk' he hg' ht'
      cases e with
      | norm => exact absurd h (hne st')
      | exit i => exact ⟨fun a w f s => this.run a w f s⟩
      | ret => exact ⟨fun a w f s => this.run a w f s⟩
  | cond x a b =>
    refine wrap (fun _ h => by cases h) fun σ L F W0 Q k hk hg gg ht K => ?_
    simp only [stepA] at h
    split at h
    · rename_i hx
      obtain ⟨u, h1, h2⟩ := aev_ok ht gg hx
      cases h2
      exact ⟨fun a w f s => wp_cond_true (f.eval h1) ((hR _ _ _ _ _ h σ L F W0 Q k hk hg gg ht K).run a w f s)⟩
    · rename_i hx
      obtain ⟨u, h1, h2⟩ := aev_ok ht gg hx
      cases h2
      exact ⟨fun a w f s => wp_cond_false (f.eval h1) ((hR _ _ _ _ _ h σ L F W0 Q k hk hg gg ht K).run a w f s)⟩
    · cases h
  | block id b =>
    refine wrap (fun _ h => by cases h) fun σ L F W0 Q k hk hg gg ht K => ?_
    simp only [stepA] at h
    split at h
    · rename_i i st1 h1
      cases hb : Nat.beq i id with
      | true =>
        rw [hb] at h; cases h
        rw [beq_iff] at hb; subst hb
        refine ⟨fun a w f s => wp_block ((hR _ _ _ _ _ h1 σ L F W0 _ k hk hg gg ht ?_).run a w f s)⟩
        intro τ L' k' hk' he hg' ht'
        have := K τ L' k' hk' he hg' ht'
        exact ⟨fun a w f s => by simp only [EI, exE, Exit.inBlock, if_true]; exact this.run a w f s⟩
      | false =>
        rw [hb] at h; cases h
        refine ⟨fun a w f s => wp_block ((hR _ _ _ _ _ h1 σ L F W0 _ k hk hg gg ht ?_).run a w f s)⟩
        intro τ L' k' hk' he hg' ht'
        have := K τ L' k' hk' he hg' ht'
        have hne : i ≠ id := fun e => by rw [(beq_iff _ _).2 e] at hb; cases hb
        exact ⟨fun a w f s => by simp only [EI, exE, Exit.inBlock, if_neg hne]; exact this.run a w f s⟩
    · rename_i hne
      refine ⟨fun a w f s => wp_block ((hR _ _ _ _ _ h σ L F W0 _ k hk hg gg ht ?_).run a w f s)⟩
      intro τ L' k' hk' he hg' ht'
      have := K τ L' k' hk' he hg' ht'
      cases e with
      | norm => exact ⟨fun a w f s => this.run a w f s⟩
      | exit i => exact absurd h (hne i st')
      | ret => exact ⟨fun a w f s => this.run a w f s⟩
  | loop b =>
    intro σ L F W0 Q k hk hg gg ht K
    simp only [stepA] at h
    split at h
    · rename_i st1 h1
      have := hR _ _ _ _ _ h1 σ L F W0 (Exit.then (Code.rounds P b Q n) Q) k hk hg gg ht ?_
      · exact ⟨fun a w f s => this.run a w f s⟩
      intro τ L' k' hk' he hg' ht'
      have := hr _ _ _ _ _ h τ L' F W0 Q k' hk' hg' (gg.ext he) ht' fun τ' L'' k'' hk'' he' => K τ' L'' k'' hk'' (he.trans he')
      exact ⟨fun a w f s => this.run a w f s⟩
    · rename_i hne
      have := hR _ _ _ _ _ h σ L F W0 (Exit.then (Code.rounds P b Q n) Q) k hk hg gg ht ?_
      · exact ⟨fun a w f s => this.run a w f s⟩
      intro τ L' k' hk' he hg' ht'
      have := K τ L' k' hk' he hg' ht'
      cases e with
      | norm => exact absurd h (hne st')
      | exit i => exact ⟨fun a w f s => this.run a w f s⟩
      | ret => exact ⟨fun a w f s => this.run a w f s⟩
  | scope b =>
    refine wrap (fun _ h => by cases h) fun σ L F W0 Q k hk hg gg ht K => ?_
    simp only [stepA] at h
    refine ⟨fun a w f s => wp_scope_straight ((hR _ _ _ _ _ h σ L F W0 _ k hk hg gg ht ?_).run a w f s)⟩
    intro τ L' k' hk' he hg' ht'
    have := K τ L' k' hk' he hg' ht'
    cases e <;> exact ⟨fun a w f s => this.run a w f s⟩
  | region id ops d =>
    refine wrap (fun _ h => by cases h) fun σ L F W0 Q k hk hg gg ht K => ?_
    cases d with
    | false =>
      simp only [stepA] at h
      split at h
      · rename_i st1 h1
        cases h
        obtain ⟨hrf, hok⟩ := opsA_ok hR hS h1
        have := hok σ L (FOf F k) W0 Q (dsOf k) hg gg.fof ht fun τ L' he hg' ht' => K τ L' k (by rw [hk, hrf]) he hg' ht'
        exact ⟨fun a w f s => wp_region_list (this.run a w f s)⟩
      · cases h
    | true =>
      simp only [stepA] at h
      cases hrf : st.rf with
      | true => rw [hrf] at h; cases h
      | false =>
        rw [hrf] at h hk
        obtain rfl := isSome_false hk
        simp only [bif_f] at h
        split at h
        · rename_i pl hpl
          split at h
          · rename_i st1 h1
            cases h
            unfold planOf at hpl
            cases hreg : regOK ops.toList (loudOf 0 ops.toList) with
            | false => rw [hreg] at hpl; cases hpl
            | true =>
              rw [hreg] at hpl
              simp only [bif_t] at hpl
              refine J.outD ?_
              refine J.draw (l := ops.toList) (loudOf 0 ops.toList) hm hreg fun hRO => ?_
              obtain ⟨h2, h3⟩ := drawA_ok hR hS hRO _ _ _ _ _ hpl h1
              refine h3 σ L F W0 Q hg gg ht fun τ L' he hg' ht' => ?_
              exact J.inD (K τ L' none (by rw [h2, hrf]; rfl) he hg' ht')
          · cases h
        · cases h
  | rangeFunc g ps assign body => exact wrap (fun _ h => by cases h) (ranges_ok hR hS h)
  | _ => simp only [stepA] at h; cases h

theorem exec_okN (hS : SumsOK P OW gl S) (hm : P.follows .mixedOrders = true) : ∀ (n : Nat) N c st e st', exec P gl S n N c st = some (e, st') → CodeN P OW gl n N c st e st'
  | 0, _, _, _, _, _, h => by cases h
  | n + 1, N, c, st, e, st', h => step_ok hS hm (exec_okN hS hm n) N c st e st' h

theorem exec_ok (hS : SumsOK P OW gl S) (hm : P.follows .mixedOrders = true) (n : Nat) : RecOK P OW gl (exec P gl S n) :=
  fun N c st e st' h => (exec_okN hS hm n N c st e st' h).ok

theorem run_ok (hS : SumsOK P OW gl S) (hm : P.follows .mixedOrders = true) (n : Nat) {f : FuncId} {args : List Value} {r : Value} {H H' : Hs X} (e : callA P gl S (exec P gl S n) f args H = some (r, H')) : Enters P f ∧ CallOK P OW gl f args H r H' :=
  callA_ok (exec_ok hS hm n) hS e
end
end Go.X.E
namespace Go.X.E

section
variable {P : Program} {X : Type} {OW : X → Nat → Assn} {gl : Nat → Option (List Value)} {S : Sums X}

def sig0 : Sg := fun g => if g < 16 then some ⟨g, 0, 0, 0⟩ else none

structure Glob (gl : Nat → Option (List Value)) (G : Assn) : Prop where
  lt : ∀ g cs, gl g = some cs → g < 16
  flat : ∀ g cs, gl g = some cs → ∀ v, v ∈ cs → Go.X.E.flat 4 v = true
  mem : ∀ g cs, gl g = some cs → ∀ h, G h → ∃ e z, h g = some (.cells cs.toArray e z)

theorem conc_zero {n : Nat} {σ : Sg} (F : Assn) : ∀ h, F h → conc OW σ (⟨.leaf, n⟩ : Hs X) F h :=
  fun h hF => ⟨fun _ _ => none, h, hF, Sub.refl h, (fun _ _ _ e => nomatch e), (fun _ _ => .inl rfl), (fun _ _ _ _ => .inl rfl), fun b o e => by simp [Hs.get, Tr.get] at e⟩
theorem HG_zero {n : Nat} (hn : 16 ≤ n) : HG sig0 (⟨.leaf, n⟩ : Hs X) where
  fresh := fun b hb => by simp only at hb; unfold sig0; rw [if_neg (by omega)]
  none := fun b _ => by simp [Hs.get, Tr.get]
  cells := fun b o cs e => by simp [Hs.get, Tr.get] at e
  loc := fun b o e => by simp [Hs.get, Tr.get] at e
  iter := fun b r e => by simp [Hs.get, Tr.get] at e
theorem GG_zero {G F : Assn} (hG : Glob gl G) : GG gl sig0 (star [G, F]) where
  lo := fun g hg => by unfold sig0; rw [if_pos hg]
  gl := fun g cs e => ⟨cs, flat_VRs 4 cs (hG.flat g cs e), by unfold sig0; rw [if_pos (hG.lt g cs e)], fun h s => by
    obtain ⟨h1, _, a, _, _, s1, _⟩ := s
    obtain ⟨t, z, h2⟩ := hG.mem g cs e h1 a
    exact ⟨t, z, s1 _ _ h2⟩⟩

theorem FSpec_run (hS : SumsOK P OW gl S) (hm : P.follows .mixedOrders = true) (n nx : Nat) (hnx : 16 ≤ nx) {f : FuncId} {args : List Value} {r : Value} {H' : Hs X} {G : Assn} (hG : Glob gl G) (ha : ∀ v, v ∈ args → flat 4 v = true) (hr : ∀ τ u, VR τ r u → u = r)
    (e : callA P gl S (exec P gl S n) f args ⟨.leaf, nx⟩ = some (r, H')) : FSpec P f args [G] (fun v B => v = r ∧ B = [G]) := by
  obtain ⟨_, hok⟩ := run_ok hS hm n e
  refine ⟨fun W0 w F s => ?_⟩
  have s1 : Sat W0 w [conc OW sig0 (⟨.leaf, nx⟩ : Hs X) (star [G, F])] := ⟨s.os, s.tape, s.out, hp w, fun _ => none, conc_zero _ _ s.heap, trivial, fun _ => .inr rfl, Sub.refl _, fun _ _ e => nomatch e⟩
  refine (hok sig0 (star [G, F]) args W0 w (HG_zero hnx) (GG_zero hG) (flat_VRs 4 args ha) s1).mono ?_
  rintro e w' ⟨u, B, rfl, ⟨τ, _, _, hv, rfl⟩, t⟩
  refine ⟨u, [G], rfl, ⟨hr τ u hv, rfl⟩, t.os, t.tape, t.out, ?_⟩
  obtain ⟨h1, _, ⟨_, hF, a, b, _⟩, _, _, c, _⟩ := t.heap
  exact HSat.mono a (b.trans c)

def S0 : Sums X := fun _ => none
theorem S0_ok : SumsOK P OW gl (S0 : Sums X) := fun f s h => by cases h
end
end Go.X.E
namespace Go.Proofs.YtblpcabdfbpcnaaGreatDoor
open Go.X Go.X.T Go.X.E

def tab64 : List Int := [0, 1, 56, 2, 57, 49, 28, 3, 61, 58, 42, 50, 38, 29, 17, 4, 62, 47, 59, 36, 45, 43, 51, 22, 53, 39, 33, 30, 24, 18, 12, 5, 63, 55, 48, 27, 60, 41, 37, 16, 46, 35, 44, 21, 52, 32, 23, 11, 54, 26, 40, 15, 34, 20, 31, 10, 25, 14, 19, 9, 13, 8, 7, 6]
def glT : Nat → Option (List Value)
  | 5 => some (tab64.map fun n => .int .u8 n)
  | _ => none
theorem glT_some {g : Nat} {cs : List Value} (h : glT g = some cs) : g = 5 ∧ cs = tab64.map fun n => .int .u8 n := by
  unfold glT at h
  split at h
  · exact ⟨rfl, (Option.some.inj h).symm⟩
  · cases h
theorem globT {G : Assn} (h : ∀ k, G k → ∃ e z, k 5 = some (.cells (tab64.map fun n => Value.int .u8 n).toArray e z)) : Glob glT G where
  lt := fun g cs e => by rw [(glT_some e).1]; decide
  flat := fun g cs e v hv => by
    rw [(glT_some e).2] at hv
    obtain ⟨n, _, rfl⟩ := List.mem_map.1 hv
    rfl
  mem := fun g cs e k hk => by rw [(glT_some e).1, (glT_some e).2]; exact h k hk

def eqBy : List UInt8 → List UInt8 → Bool
  | [], [] => true
  | a :: l, b :: m => Nat.beq a.toNat b.toNat && eqBy l m
  | _, _ => false
theorem eqBy_eq : ∀ {l m : List UInt8}, eqBy l m = true → l = m
  | [], [], _ => rfl
  | [], _ :: _, h => by simp [eqBy] at h
  | _ :: _, [], h => by simp [eqBy] at h
  | a :: l, b :: m, h => by
    simp only [eqBy, Bool.and_eq_true] at h
    have h1 : a.toNat = b.toNat := Nat.eq_of_beq_eq_true h.1
    rw [eqBy_eq h.2, UInt8.toNat_inj.1 h1]
def toldS {X : Type} (s : ByteArray) : Option (Value × Hs X) → Bool
  | some (.string t, _) => eqBy t.data.toList s.data.toList
  | _ => false
theorem toldS_of {X : Type} {s : ByteArray} {r : Option (Value × Hs X)} (h : toldS s r = true) : ∃ H, r = some (.string s, H) := by
  unfold toldS at h
  split at h
  · rename_i t H
    have h1 := eqBy_eq h
    refine ⟨H, ?_⟩
    cases t; cases s
    simp only [Array.toList_inj] at h1
    subst h1; rfl
  · cases h

def noOW : Unit → Nat → Assn := fun _ _ _ => True
theorem names_run : (List.range 15).all (fun i => toldS (nameB i) (callA Tryz.prog glT (S0 : Sums Unit) (exec Tryz.prog glT S0 10000) 36 [.int .u64 (3 : Nat), .int .i64 (i : Nat)] ⟨.leaf, 16⟩)) = true := by kernel_rfl
theorem nameOK_of {G : Assn} (hG : Glob glT G) : NameOK G := by
  intro i hi
  have h := List.all_eq_true.1 names_run i (List.mem_range.2 hi)
  obtain ⟨H, hH⟩ := toldS_of h
  refine FSpec_run (OW := noOW) S0_ok Tryz.mixed 10000 16 (Nat.le_refl _) hG (fun v hv => ?_) (fun τ u hu => by cases hu; rfl) hH
  rcases List.mem_cons.1 hv with rfl | hv
  · rfl
  · obtain rfl := List.mem_singleton.1 hv; rfl
end Go.Proofs.YtblpcabdfbpcnaaGreatDoor
namespace Go.Proofs.YtblpcabdfbpcnaaGreatDoor
open Go.Proofs.Tryz
open Go.X Go.X.T

def FirstS (zs : List SHR) (q : SHR → Bool) (r : Int) : Prop := (r = -1 ∧ ∀ z, z ∈ zs → q z = false) ∨ ∃ i : Nat, r = i ∧ i < zs.length ∧ (∀ z, zs[i]? = some z → q z = true) ∧ ∀ (j : Nat) z, j < i → zs[j]? = some z → q z = false
theorem flat4_at {zs : List SHR} {i : Nat} {z : SHR} (h : zs[i]? = some z) : ∀ (j : Nat) v, z.cells[j]? = some v → (zs.flatMap SHR.cells)[i * 4 + j]? = some v := fun _ _ hj => flat_get SHR.len h hj
theorem flat4_len (zs : List SHR) : (zs.flatMap SHR.cells).length = zs.length * 4 := by
  induction zs with
  | nil => rfl
  | cons z l ih => rw [List.flatMap_cons, List.length_append, ih, List.length_cons, SHR.len]; omega
theorem flat4_set {zs : List SHR} {i : Nat} {z : SHR} (h : i < zs.length) : splice (zs.flatMap SHR.cells) (i * 4) z.cells = (zs.set i z).flatMap SHR.cells := by
  have e1 : zs = zs.take i ++ zs[i] :: zs.drop (i + 1) := by rw [← List.drop_eq_getElem_cons h, List.take_append_drop]
  have hl := flat4_len zs
  have h4 : (i + 1) * 4 ≤ zs.length * 4 := Nat.mul_le_mul_right 4 h
  rw [splice_at _ _ _ (by rw [hl, SHR.len]; omega), List.set_eq_take_append_cons_drop, if_pos h, List.flatMap_append, List.flatMap_cons, List.append_assoc]
  have t1 : (zs.flatMap SHR.cells).take (i * 4) = (zs.take i).flatMap SHR.cells := by
    conv => lhs; rw [e1, List.flatMap_append]
    rw [List.take_append_of_le_length (by rw [flat4_len, List.length_take]; omega), List.take_of_length_le (by rw [flat4_len, List.length_take]; omega)]
  have t2 : (zs.flatMap SHR.cells).drop (i * 4 + z.cells.length) = (zs.drop (i + 1)).flatMap SHR.cells := by
    conv => lhs; rw [← List.take_append_drop (i + 1) zs, List.flatMap_append]
    rw [show i * 4 + z.cells.length = ((zs.take (i + 1)).flatMap SHR.cells).length by rw [flat4_len, List.length_take, SHR.len]; omega, List.drop_left]
  rw [t1, t2]
theorem flat4_take {zs : List SHR} {i : Nat} (h : i ≤ zs.length) : (zs.flatMap SHR.cells).take (i * 4) = (zs.take i).flatMap SHR.cells := by
  conv => lhs; rw [← List.take_append_drop i zs, List.flatMap_append]
  rw [List.take_append_of_le_length (by rw [flat4_len, List.length_take]; omega), List.take_of_length_le (by rw [flat4_len, List.length_take]; omega)]

theorem filt_step {kp : SHR → Bool} {zs : List SHR} {j : Nat} {z : SHR} (h : zs[j]? = some z) : (zs.take (j + 1)).filter kp = (zs.take j).filter kp ++ (if kp z then [z] else []) := by
  obtain ⟨h1, h2⟩ := List.getElem?_eq_some_iff.1 h
  rw [List.take_succ_eq_append_getElem h1, h2, List.filter_append]
  cases hk : kp z <;> simp [hk]
theorem drop_at {ys zs : List SHR} {j : Nat} (h : ys.drop j = zs.drop j) : ys[j]? = zs[j]? := by
  have := congrArg (fun l : List SHR => l[0]?) h
  simpa [List.getElem?_drop] using this
theorem drop_more {ys zs : List SHR} {j : Nat} (h : ys.drop j = zs.drop j) : ys.drop (j + 1) = zs.drop (j + 1) := by
  rw [← List.drop_drop, ← List.drop_drop, h]

section
variable (G : Assn) (b off n c : Nat) (zs : List SHR) (hzl : zs.length = n) (hn : n ≤ 1000000) (fid : FuncId) (cap : List Value) (q : SHR → Bool)
  (hcall : ∀ (args : Array Value) (w : World), (callFunc fid args).run Tryz.prog w = .ok (.enter fid args) w)
  (hf : ∀ z, z ∈ zs → FSpec Tryz.prog fid ([] ++ [.agg z.cells.toArray] ++ cap) [G] (fun v B => v = .bool (q z) ∧ B = [G]))
include hzl hn hcall hf
theorem indexS_spec : FSpec Tryz.prog 75 [.slice (some ⟨b, off, none⟩) n c, .func (.func fid) ([] : List Value).toArray cap.toArray] [own 87 4 (.slice (some ⟨b, off, none⟩) n c) (zs.flatMap SHR.cells), G]
    (fun v B => ∃ r : Int, v = .int .i64 r ∧ FirstS zs q r ∧ B = [own 87 4 (.slice (some ⟨b, off, none⟩) n c) (zs.flatMap SHR.cells), G]) := by
  refine FSpec.of func75 rfl ntmps75 rfl fun W0 F => ?_
  refine J.seq <| J.region <| J.p rfl (Q.asg rfl) <| J.nil <| J.then_n <| J.seq <| J.seq <| J.region <| J.m rfl <| J.p rfl (Q.lenSl runUnderlying38 rfl) <| J.m rfl <| J.nil <| J.then_n <| J.block ?_
  refine J.loopI (fun k : Nat => k ≤ n ∧ ∀ (i : Nat) z, i < k → zs[i]? = some z → q z = false) (fun k => n - k) (fun k => [(0, .slice (some ⟨b, off, none⟩) n c), (1, .func (.func fid) ([] : List Value).toArray cap.toArray), (7, .int .i64 n), (8, .int .i64 k)]) (fun _ => [own 87 4 (.slice (some ⟨b, off, none⟩) n c) (zs.flatMap SHR.cells), G, F]) 0 ⟨by omega, fun i z h => by omega⟩ ⟨rfl, rfl, rfl, rfl, trivial⟩ fun k hk => ?_
  obtain ⟨hk, hno⟩ := hk
  refine J.seq <| J.region <| J.p rfl (Q.lss rfl rfl) <| J.nil <| J.then_n <| J.seq ?_
  refine J.kases 9 rfl (fun hc9 => ?_) (fun hc9 => ?_)
  ·
   refine J.cond_t rfl <| J.cskip <| J.then_n <| J.seq <| J.block <| J.seq <| J.region ?_
   obtain ⟨z, hz⟩ : ∃ z, zs[k]? = some z := ⟨_, List.getElem?_eq_getElem (by omega)⟩
   have hfz := hf z (List.mem_of_getElem? hz)
   refine J.m rfl <| J.p rfl (Q.asg rfl) <| J.nil <| J.then_n <| J.seq <| J.region <| J.m rfl <| J.m rfl <| J.m rfl <| J.p rfl (Q.ia runUnderlying38 sizeOf87 rfl rfl (by omega) (by omega)) <| J.p rfl (Q.ldN (vs := z.cells) isAgg87 sizeOf87 rfl (rnO (cl := SHR.cells) SHR.len hz (by omega))) ?_
   refine J.pickI [G] ?_
   refine J.norm rfl ?_
   refine J.callv hcall hfz [0] rfl rfl rfl rfl rfl ?_
   rintro _ _ ⟨rfl, rfl⟩
   refine J.norm rfl <| J.nil <| J.then_n ?_
   refine J.kases 16 rfl (fun hc16 => ?_) (fun hc16 => ?_)
   ·
    refine J.cond_t rfl <| J.seq <| J.region <| J.m rfl <| J.p rfl (Q.asg rfl) <| J.nil <| J.then_n <| J.cret <| J.blk_r <| J.then_r <| J.lp_r <| J.blk_r <| J.then_r ?_
    exact J.ret1I [own 87 4 (.slice (some ⟨b, off, none⟩) n c) (zs.flatMap SHR.cells), G] rfl rfl ⟨k, rfl, .inr ⟨k, rfl, by omega, fun z' hz' => by rw [hz] at hz'; cases hz'; exact hc16, hno⟩, rfl⟩
   refine J.cond_f rfl <| J.cskip <| J.blk_n <| J.then_n <| J.region <| J.p rfl (Q.add64 rfl rfl (by omega)) <| J.m rfl <| J.nil ?_
   have hno2 : ∀ (i : Nat) z, i < k + 1 → zs[i]? = some z → q z = false := fun i z' hi hz' => by
    by_cases e : i = k
    · subst e; rw [hz] at hz'; cases hz'; exact hc16
    · exact hno i z' (by omega) hz'
   refine J.againI (k + 1) ⟨by omega, hno2⟩ (by omega) ⟨rfl, rfl, rfl, rfl, trivial⟩
  refine J.cond_f rfl <| J.exit <| J.then_x <| J.lp_x <| J.blk_x <| J.then_n <| J.seq <| J.region <| J.p rfl (Q.asg rfl) <| J.nil <| J.then_n <| J.cret ?_
  exact J.ret1I [own 87 4 (.slice (some ⟨b, off, none⟩) n c) (zs.flatMap SHR.cells), G] rfl rfl ⟨-1, rfl, .inl ⟨rfl, fun z hz => by obtain ⟨i, hi⟩ := List.getElem?_of_mem hz; exact hno i z (by have := (List.getElem?_eq_some_iff.1 hi).1; omega) hi⟩, rfl⟩

theorem deleteS_spec : FSpec Tryz.prog 38 [.slice (some ⟨b, off, none⟩) n c, .func (.func fid) ([] : List Value).toArray cap.toArray] [own 87 4 (.slice (some ⟨b, off, none⟩) n c) (zs.flatMap SHR.cells), G]
    (fun v B => v = .slice (some ⟨b, off, none⟩) (zs.filter fun z => !q z).length c ∧ B = [own 87 4 (.slice (some ⟨b, off, none⟩) (zs.filter fun z => !q z).length c) ((zs.filter fun z => !q z).flatMap SHR.cells), G]) := by
  obtain ⟨kp, hkp⟩ : ∃ kp : SHR → Bool, kp = fun z => !q z := ⟨_, rfl⟩
  rw [← hkp]
  refine FSpec.of func38 rfl ntmps38 rfl fun W0 F => ?_
  refine J.seq <| J.region <| J.p rfl (Q.asg rfl) <| J.nil <| J.then_n <| J.seq <| J.region <| J.m rfl <| J.m rfl ?_
  refine J.callI call75 (indexS_spec G b off n c zs hzl hn fid cap q hcall hf) rfl rfl rfl ?_
  rintro _ _ ⟨r, rfl, hr, rfl⟩
  refine J.norm rfl <| J.p rfl (Q.asg rfl) <| J.nil <| J.then_n <| J.seq <| J.seq <| J.region <| J.m rfl <| J.p rfl (Q.eql rfl rfl) <| J.nil <| J.then_n ?_
  refine J.kases 12 rfl (fun hc12 => ?_) (fun hc12 => ?_)
  ·
   refine J.cond_t rfl <| J.seq <| J.region <| J.m rfl <| J.p rfl (Q.asg rfl) <| J.nil <| J.then_n <| J.cret <| J.then_r ?_
   have hall : ∀ z, z ∈ zs → q z = false := by
    rcases hr with ⟨_, h⟩ | ⟨i, h, _⟩
    · exact h
    · omega
   have hfe : zs.filter kp = zs := List.filter_eq_self.2 fun z hz => by rw [hkp]; show (!q z) = true; rw [hall z hz]; rfl
   rw [hfe, hzl]
   exact J.ret1I [own 87 4 (.slice (some ⟨b, off, none⟩) n c) (zs.flatMap SHR.cells), G] rfl rfl ⟨rfl, rfl⟩
  refine J.cond_f rfl <| J.cskip <| J.then_n <| J.seq <| J.seq ?_
  obtain ⟨i0, hi0, hi1, hi3, hi2⟩ : ∃ i : Nat, r = i ∧ i < zs.length ∧ (∀ z, zs[i]? = some z → q z = true) ∧ ∀ (j : Nat) z, j < i → zs[j]? = some z → q z = false := by
   rcases hr with ⟨h, _⟩ | h
   · exact absurd h (by omega)
   · exact h
  subst hi0
  have hft : (zs.take i0).filter kp = zs.take i0 := List.filter_eq_self.2 fun z hz => by
   obtain ⟨j, hj⟩ := List.getElem?_of_mem hz
   rw [List.getElem?_take] at hj
   split at hj
   · rw [hkp]; show (!q z) = true; rw [hi2 j z (by omega) hj]; rfl
   · cases hj
  obtain ⟨z0, hz0⟩ : ∃ z, zs[i0]? = some z := ⟨_, List.getElem?_eq_getElem (by omega)⟩
  have hk0 : kp z0 = false := by rw [hkp]; show (!q z0) = false; rw [hi3 z0 hz0]; rfl
  have hst0 : (zs.take (i0 + 1)).filter kp = zs.take i0 := by rw [filt_step hz0, hft, hk0]; simp
  refine J.region <| J.m rfl <| J.p rfl (Q.add64 rfl rfl (by omega)) <| J.p rfl (Q.asg rfl) <| J.nil <| J.then_n <| J.block ?_
  refine J.loop3I (fun (i j : Nat) (ys : List SHR) => i ≤ j ∧ j ≤ n ∧ ys.length = n ∧ ys.take i = (zs.take j).filter kp ∧ ys.drop j = zs.drop j) (fun _ j _ => n - j) (fun i j _ => [(0, .slice (some ⟨b, off, none⟩) n c), (1, .func (.func fid) ([] : List Value).toArray cap.toArray), (5, .int .i64 i), (6, .int .i64 j)])
   (fun _ _ ys => [own 87 4 (.slice (some ⟨b, off, none⟩) n c) (ys.flatMap SHR.cells), G, F]) i0 (i0 + 1) zs ⟨by omega, by omega, hzl, hst0.symm, rfl⟩ ⟨rfl, rfl, rfl, rfl, trivial⟩ fun i j ys hw => ?_
  obtain ⟨hw1, hw2, hw3, hw4, hw5⟩ := hw
  refine J.seq <| J.seq <| J.region <| J.m rfl <| J.m rfl <| J.p rfl (Q.lenSl runUnderlying38 rfl) <| J.p rfl (Q.lss rfl rfl) <| J.nil <| J.then_n ?_
  refine J.kases 19 rfl (fun hc19 => ?_) (fun hc19 => ?_)
  ·
   refine J.cond_t rfl <| J.cskip <| J.then_n <| J.seq <| J.block <| J.seq ?_
   obtain ⟨z, hz⟩ : ∃ z, zs[j]? = some z := ⟨_, List.getElem?_eq_getElem (by omega)⟩
   have hzy : ys[j]? = some z := by rw [drop_at hw5]; exact hz
   have hfz := hf z (List.mem_of_getElem? hz)
   have hfs := filt_step (kp := kp) hz
   have hdr := drop_more hw5
   refine J.region <| J.m rfl <| J.m rfl <| J.p rfl (Q.ia runUnderlying38 sizeOf87 rfl rfl (by omega) (by omega)) <| J.p rfl (Q.ldN (vs := z.cells) isAgg87 sizeOf87 rfl (rnO (cl := SHR.cells) SHR.len hzy (by omega))) ?_
   refine J.c rfl rfl (C.alloc (l := [_, _, _, _]) zeroValue87 rfl) ?_
   rintro _ _ ⟨b7, rfl, rfl⟩
   refine J.norm rfl ?_
   refine J.stAI (vs := z.cells) rfl sizeOf87 rfl rfl (by exact rfl) (by exact rfl) (by exact rfl) ?_
   refine J.nil <| J.then_n <| J.seq <| J.region <| J.m rfl ?_
   refine J.p rfl (Q.ldN (vs := z.cells) isAgg87 sizeOf87 rfl rnI) ?_
   refine J.pickI [G] ?_
   refine J.norm rfl ?_
   refine J.callv hcall hfz [0] rfl rfl rfl rfl rfl ?_
   rintro _ _ ⟨rfl, rfl⟩
   refine J.norm rfl <| J.p rfl (Q.not rfl) <| J.nil <| J.then_n ?_
   refine J.kases 29 rfl (fun hc29 => ?_) (fun hc29 => ?_)
   ·
    refine J.cond_t rfl <| J.seq <| J.region <| J.m rfl <| J.m rfl ?_
    refine J.p rfl (Q.ldN (vs := z.cells) isAgg87 sizeOf87 rfl rnI) ?_
    refine J.p rfl (Q.ia runUnderlying38 sizeOf87 rfl rfl (by omega) (by omega)) ?_
    refine J.c0 rfl (C.stNO (vs := z.cells) (b := b) (i * 4) sizeOf87 rfl rfl rfl (by rw [flat4_len, SHR.len]; omega) (List.all_eq_true.2 fun v hv => SHR.one z v hv)) ?_
    rintro _ _ ⟨rfl, rfl⟩
    refine J.norm rfl ?_
    rw [flat4_set (by omega)]
    refine J.nil <| J.then_n <| J.region <| J.m rfl <| J.p rfl (Q.add64 rfl rfl (by omega)) <| J.p rfl (Q.asg rfl) <| J.nil <| J.blk_n <| J.then_n <| J.region <| J.m rfl <| J.p rfl (Q.add64 rfl rfl (by omega)) <| J.p rfl (Q.asg rfl) <| J.nil ?_
    have hkz : kp z = true := by rw [hkp]; first | exact hc29 | (show (!q z) = true; simpa using hc29)
    rw [hkz, if_pos rfl, ← hw4] at hfs
    have ht1 : (ys.set i z).take (i + 1) = (zs.take (j + 1)).filter kp := by
     rw [hfs, List.take_succ_eq_append_getElem (by simp; omega), List.take_set_of_le (by omega)]; simp
    have hd1 : (ys.set i z).drop (j + 1) = zs.drop (j + 1) := by rw [List.drop_set_of_lt (by omega)]; exact hdr
    refine J.againI (i + 1, j + 1, ys.set i z) ⟨by show i + 1 ≤ j + 1; omega, by show j + 1 ≤ n; omega, by show (ys.set i z).length = n; simp [hw3], ht1, hd1⟩ (by show n - (j + 1) < n - j; omega) ⟨rfl, rfl, rfl, rfl, trivial⟩
   refine J.cond_f rfl <| J.cskip <| J.blk_n <| J.then_n <| J.region <| J.m rfl <| J.p rfl (Q.add64 rfl rfl (by omega)) <| J.p rfl (Q.asg rfl) <| J.nil ?_
   have hkz : kp z = false := by rw [hkp]; first | exact hc29 | (show (!q z) = false; simpa using hc29)
   rw [hkz] at hfs
   simp only [Bool.false_eq_true, if_false, List.append_nil] at hfs
   refine J.againI (i, j + 1, ys) ⟨by show i ≤ j + 1; omega, by show j + 1 ≤ n; omega, hw3, by show ys.take i = _; rw [hfs]; exact hw4, hdr⟩ (by show n - (j + 1) < n - j; omega) ⟨rfl, rfl, rfl, rfl, trivial⟩
  refine J.cond_f rfl <| J.exit <| J.then_x <| J.lp_x <| J.blk_x <| J.then_n <| J.seq ?_
  obtain rfl : n = j := by omega
  rw [List.take_of_length_le (show zs.length ≤ n by omega)] at hw4
  have hil : (zs.filter kp).length = i := by rw [← hw4, List.length_take]; omega
  refine J.tellsI (own 87 4 (.slice (some ⟨b, off, none⟩) n c) (ys.flatMap SHR.cells)) own.len fun hln => ?_
  have hcap := hln.2
  refine J.region <| J.m rfl <| J.m rfl <| J.p rfl (Q.slL runUnderlying38 sizeOf87 rfl rfl (by omega) (by omega)) ?_
  refine J.c0 rfl (C.clearI (b := b) (i := i) (sz := 4) runUnderlying38 zeroValue87 rfl (by simp [Value.cells, oneC]) rfl (fun h => by rw [if_neg (by omega)]; rfl) (by omega) (by rw [flat4_len, hw3])) ?_
  rintro _ _ ⟨ys2, hy1, hy2, rfl, rfl⟩
  refine J.norm rfl <| J.nil <| J.then_n <| J.seq <| J.region <| J.m rfl <| J.m rfl <| J.p rfl (Q.slH runUnderlying38 sizeOf87 rfl rfl (by omega) (by omega)) <| J.p rfl (Q.asg rfl) <| J.nil <| J.then_n <| J.cret ?_
  rw [hil]
  refine J.convI (own 87 4 (.slice (some ⟨b, off, none⟩) n c) ys2) (own 87 4 (.slice (some ⟨b, off, none⟩) i c) ((zs.filter kp).flatMap SHR.cells)) (fun h s => by
   have := own.cutN (k := i) (by omega) h s
   rwa [hy2, flat4_take (by omega), hw4] at this) ?_
  exact J.ret1I [own 87 4 (.slice (some ⟨b, off, none⟩) i c) ((zs.filter kp).flatMap SHR.cells), G] rfl rfl ⟨rfl, rfl⟩
end

theorem mend1_spec (H : Assn) (b : Nat) (gb go n gc : Nat) (gs : List RowH) (hg : gs.length = n) (hH : SlR [H] 1 (.slice (some ⟨gb, go, none⟩) n gc) (gs.map RowH.val)) (z : SHR) (hz : z.i < n) (q : Bool) (hq : ∀ r, gs[z.i]? = some r → q = decide (0 < r.bs.length)) :
    FSpec Tryz.prog 39 ([] ++ [.agg z.cells.toArray] ++ [.pointer (some ⟨b, 0, none⟩)]) [star [slAt 45 b (.slice (some ⟨gb, go, none⟩) n gc), H]] (fun v B => v = .bool q ∧ B = [star [slAt 45 b (.slice (some ⟨gb, go, none⟩) n gc), H]]) := by
  refine FSpec.of func39 rfl ntmps39 rfl fun W0 F => ?_
  refine J.seq ?_
  refine J.unpackI [slAt 45 b (.slice (some ⟨gb, go, none⟩) n gc), H] ?_
  refine J.norm rfl ?_
  obtain ⟨r, hr⟩ : ∃ r, gs[z.i]? = some r := ⟨_, List.getElem?_eq_getElem (by omega)⟩
  have hrv : (gs.map RowH.val)[z.i]? = some r.val := by rw [List.getElem?_map, hr]; rfl
  obtain ⟨_, _, he, hrd⟩ := hH.some_ (by omega)
  cases he
  refine J.region ?_
  refine J.c rfl rfl (C.box (l := z.cells) rfl rfl) ?_
  rintro _ _ ⟨b2, rfl, rfl⟩
  refine J.norm rfl <| J.p rfl (Q.asg rfl) <| J.nil <| J.then_n <| J.seq <| J.region ?_
  refine J.p rfl (Q.ldI isAgg45 rfl) ?_
  refine J.p rfl (Q.fa (n := 1) runUnderlying87 rfl rfl sizeOf3 rfl) ?_
  refine J.p rfl (Q.ldI isAgg3 rfl) ?_
  refine J.p rfl (Q.ia runUnderlying45 sizeOf22 rfl rfl (by omega) (by omega)) <| J.p rfl (Q.ld isAgg22 rfl (((hrd z.i _ hrv).inI).cast (by simp))) <| J.p rfl (Q.lenSl runUnderlying22 rfl) <| J.p rfl (Q.gtr rfl rfl) <| J.p rfl (Q.asg rfl) <| J.nil <| J.then_n <| J.cret ?_
  refine J.shutI [slAt 45 b (.slice (some ⟨gb, go, none⟩) n gc), H] (star [slAt 45 b (.slice (some ⟨gb, go, none⟩) n gc), H]) (fun h s => s) ?_
  exact J.ret1I [star [slAt 45 b (.slice (some ⟨gb, go, none⟩) n gc), H]] rfl rfl ⟨by rw [hq r hr]; congr 1; simp, rfl⟩
end Go.Proofs.YtblpcabdfbpcnaaGreatDoor
namespace Go.X
theorem FSpec.openHd {P : Program} {f : FuncId} {args : List Value} {R : Value → List Assn → Prop} {α : Type} {U : Assn} {Bs : α → List Assn} {p : α → Prop} {As : List Assn} (g : ∀ h, U h → ∃ x, p x ∧ HSat h (Bs x)) (k : ∀ x, p x → FSpec P f args (Bs x ++ As) R) : FSpec P f args (U :: As) R := by
  refine ⟨fun W0 w F s => ?_⟩
  obtain ⟨h1, h2, a, b, d, u, v⟩ := s.heap
  obtain ⟨x, px, hx⟩ := g h1 a
  refine (k x px).call W0 w F ⟨s.os, s.tape, s.out, ?_⟩
  rw [List.append_assoc]
  exact HSat.of_append hx b d u v
theorem FSpec.knowHd {P : Program} {f : FuncId} {args : List Value} {R : Value → List Assn → Prop} {p : Prop} {U : Assn} {As : List Assn} (g : ∀ h, U h → p) (k : p → FSpec P f args (U :: As) R) : FSpec P f args (U :: As) R := by
  refine ⟨fun W0 w F s => ?_⟩
  obtain ⟨h1, _, a, _⟩ := s.heap
  exact (k (g h1 a)).call W0 w F s
end Go.X
namespace Go.Proofs.YtblpcabdfbpcnaaGreatDoor
open Go.Proofs.Tryz
open Go.X Go.X.T

theorem four_info : Tryz.prog.info? 5 = some Tryz.t5 := by kernel_rfl
theorem four_cells : Tryz.prog.cellsOf 5 = 1 := by kernel_rfl
theorem four_guard : Tryz.prog.eqGuardType Tryz.prog.depth 83 = false := by kernel_rfl
theorem four_same {L : Slots} {D : List Assn} {ty T' : TypeId} {a b : Operand} (n : Nat) (ea : ev L a = some (.agg (bytesV (lowB n 4)).toArray)) (eb : ev L b = some (.agg (bytesV (lowB n 4)).toArray)) : OpQ Tryz.prog (.binOp .neq 83 a b T') ty L D (.bool false) :=
  have e : bytesV (lowB n 4) = ((lowB n 4).map fun u : UInt8 => (u.toNat : Int)).map (Value.int .u8) := by simp [bytesV, byteV, Function.comp_def]
  Q.neqA (k := .u8) ((lowB n 4).map fun u : UInt8 => (u.toNat : Int)) (by rw [List.length_map, lowB_len]) underlying83 four_info four_cells underlying5 isAgg5 four_guard (e ▸ ea) (e ▸ eb)

abbrev rowsG (E : TypeId) (p : Option Addr) (n c : Nat) (hs : List RowH) : Assn := star [own E 1 (.slice p n c) (hs.map RowH.val), star (hs.map RowH.asn)]
structure RowsR (G : Assn) (p : Option Addr) (n c : Nat) (hs : List RowH) : Prop where
  outer : SlR [G] 1 (.slice p n c) (hs.map RowH.val)
  rows : ∀ r, r ∈ hs → SlR [G] 1 r.val (bytesV r.bs)
  cap : n ≤ c
theorem rowsG_read {E : TypeId} {p : Option Addr} {n c : Nat} {hs : List RowH} : ∀ h, rowsG E p n c hs h → RowsR (rowsG E p n c hs) p n c hs := by
  intro h s
  obtain ⟨h1, h2, a, ⟨h3, _, s3, _⟩, _, _, _⟩ := s
  have e1 : SlR [own E 1 (.slice p n c) (hs.map RowH.val)] 1 (.slice p n c) (hs.map RowH.val) := own.slr (i := 0) rfl ⟨h1, h1, fun _ => none, a, trivial, fun _ => .inr rfl, Sub.refl _, fun _ _ e => nomatch e⟩
  refine ⟨e1.into 0 rfl, fun r hr => ?_, (own.len h1 a).2⟩
  obtain ⟨k, hk⟩ := List.getElem?_of_mem hr
  have hm : (hs.map RowH.asn)[k]? = some r.asn := by rw [List.getElem?_map, hk]; rfl
  obtain ⟨q', hq', _⟩ := HSat.at_ s3 hm
  have e2 : SlR [r.asn] 1 r.val (bytesV r.bs) := own.slr (i := 0) rfl ⟨q', q', fun _ => none, hq', trivial, fun _ => .inr rfl, Sub.refl _, fun _ _ e => nomatch e⟩
  exact (e2.into (As := hs.map RowH.asn) k hm).into 1 rfl
theorem FSpec.rows {f : FuncId} {args : List Value} {R : Value → List Assn → Prop} {As : List Assn} {E : TypeId} {p : Option Addr} {n c : Nat} {l : Ml} (hl : l.length = n) (k : ∀ hs : List RowH, hs.map RowH.bs = l → RowsR (rowsG E p n c hs) p n c hs → FSpec Tryz.prog f args (rowsG E p n c hs :: As) R) :
    FSpec Tryz.prog f args (MatAt E p c l :: As) R :=
  FSpec.openHd (p := fun hs : List RowH => hs.map RowH.bs = l) (Bs := fun hs => [rowsG E p n c hs]) (fun h ⟨hs, h1, h2⟩ => ⟨hs, h1, by rw [hl] at h2; exact ⟨h, fun _ => none, h2, trivial, fun _ => .inr rfl, Sub.refl _, fun _ _ e => nomatch e⟩⟩) fun hs hh => FSpec.knowHd rowsG_read (k hs hh)

section
variable (x : PX) (hx : x.ok) (n : Nat) (hn : n = x.k + x.m) (hn15 : n < 15) (np : Option Addr) (nc : Nat) (hnv : x.nv = .slice np n nc) (Gl GN : Assn) (hname : NameOK Gl) (hN : SlR [GN] 1 (.slice np n nc) ((List.range n).map fun i : Nat => Value.int .i64 i))
include hx hn hn15 hnv hname hN
theorem shardsM_spec (full : Ml) (hfull : Rect n (shLen x.k x.sz) full) (p : Option Addr) (c : Nat) :
    FSpec Tryz.prog 26 [.agg x.cells.toArray, .slice p n c] [MatAt 22 p c full, Gl, GN] (fun v B => ∃ (q : Option Addr) (d : Nat) (zs : List SHR) (X : Assn), v = .slice q n d ∧ zs.map SHR.ib = stripeL x full n ∧ B = [own 87 4 (.slice q n d) (zs.flatMap SHR.cells), star (zs.map SHR.asn), Gl, GN, X]) := by
  refine FSpec.rows hfull.len fun hs hh hr => ?_
  refine ((shards_spec x hx n hn hn15 np nc hnv Gl GN (rowsG 22 p n c hs) hname hN full hfull p c hs hh hr.outer hr.rows).conv (fun h s => s.perm (X.pick_perm (is := [1, 2, 0]) rfl)) ?_)
  rintro v B ⟨q, d, zs, rfl, h1, rfl⟩
  exact ⟨_, ⟨q, d, zs, _, rfl, h1, rfl⟩, fun h s => s⟩

variable (data : List U) (hsz : data.length = x.sz) (hsum : crcL data = (x.sum : Int))
include hsz hsum
theorem Shards_spec (dp : Option Addr) (dc : Nat) (hd : SlR [Gl] 1 (.slice dp data.length dc) (bytesV data)) :
    FSpec Tryz.prog 7 [.agg x.cells.toArray, .slice dp data.length dc] [Gl, GN] (fun v B => ∃ (q : Option Addr) (d : Nat) (zs : List SHR), v = .tuple #[.slice q n d, .int .i64 0] ∧ zs.map SHR.ib = stripeL x (fullL x.k x.m (dataL x.k data)) n ∧ B = [own 87 4 (.slice q n d) (zs.flatMap SHR.cells), star (zs.map SHR.asn), Gl, GN]) := by
  refine FSpec.of func7 rfl ntmps7 rfl fun W0 F => ?_
  refine J.seq ?_
  have hk0 := hx.k0
  have hkm := hx.km
  have hsz2 := hx.sz
  have hsm := hx.sum
  have hrect := dataL_rect (k := x.k) (data := data) hk0
  have hfull := fullL_rect (m := x.m) hrect hk0
  rw [hsz, ← hn] at hfull
  refine J.region ?_
  refine J.c rfl rfl (C.box (l := [_, _, _, _, _, _, _, _, _]) rfl rfl) ?_
  rintro _ _ ⟨b2, rfl, rfl⟩
  refine J.norm rfl <| J.p rfl (Q.asg rfl) <| J.p rfl (Q.asg rfl) <| J.nil <| J.then_n <| J.seq <| J.region <| J.p rfl (Q.fa (n := 4) runUnderlying33 rfl rfl sizeOf3 rfl) ?_
  refine J.p rfl (Q.ldI isAgg3 rfl) ?_
  refine J.p rfl (Q.fa (n := 5) runUnderlying33 rfl rfl sizeOf3 rfl) ?_
  refine J.p rfl (Q.ldI isAgg3 rfl) ?_
  refine J.callI call15 (new_spec x.k x.m hk0 hkm) rfl rfl rfl ?_
  rintro _ _ ⟨cb, rfl, rfl⟩
  refine J.norm rfl <| J.m rfl <| J.p rfl (Q.ext rfl rfl) <| J.p rfl (Q.ext rfl rfl) <| J.p rfl (Q.asg rfl) <| J.p rfl (Q.asg rfl) <| J.nil <| J.then_n <| J.seq <| J.seq ?_
  refine J.pickI [pt b2 (.cells x.cells.toArray 33 (0, 0))] ?_
  refine J.norm rfl ?_
  refine J.drawE [11, 12, 13, 16] 1 Tryz.mixed (by kernel_rfl) rfl rfl fun hR => ?_
  refine RG.p 0 hR rfl (Q.mv rfl) <| RG.p 1 hR rfl (Q.neq rfl rfl) <| RG.p 2 hR rfl (Q.mv rfl) ?_
  refine RG.cases 18 rfl (fun hb18 => ?_) (fun hb18 => ?_)
  ·
   replace hb18 := X.nm hb18
   try (first | (cases hb18; done) | (exfalso; omega))
   all_goals
    refine RG.k 3 hR rfl <| RG.k 4 hR rfl <| RG.k 5 hR rfl <| RG.k 6 hR rfl <| RG.k 7 hR rfl <| RG.p 8 hR rfl (Q.pick_t rfl rfl) <| RG.p 9 hR rfl (Q.mv rfl) <| RG.k 10 hR rfl <| RG.k 14 hR rfl <| RG.k 15 hR rfl ?_
    refine RG.pass 11 hR rfl rfl rfl rfl rfl ?_
    refine RG.pass 12 hR rfl rfl rfl rfl rfl ?_
    refine RG.pass 13 hR rfl rfl rfl rfl rfl ?_
    refine RG.pass 16 hR rfl rfl rfl rfl rfl ?_
    refine RG.k 17 hR rfl <| RG.p 18 hR rfl (Q.pick_t rfl rfl) <| RG.p 19 hR rfl (Q.mv rfl) <| RG.k 20 hR rfl <| RG.k 21 hR rfl <| RG.k 22 hR rfl <| RG.k 23 hR rfl <| RG.k 24 hR rfl <| RG.k 25 hR rfl <| RG.k 26 hR rfl ?_
    refine RG.k 27 hR rfl <| RG.k 28 hR rfl <| RG.p 29 hR rfl (Q.pick_t rfl rfl) ?_
    refine RG.fin hR rfl ?_
    refine J.norm rfl <| J.then_n <| J.cond_t rfl <| J.seq <| J.region <| J.p rfl (Q.asg rfl) <| J.p rfl (Q.asg rfl) <| J.nil <| J.then_n <| J.cret <| J.then_r ?_
    exact J.ret2I [own 87 4 (.slice q n d) (zs.flatMap SHR.cells), star (zs.map SHR.asn), Gl, GN] rfl rfl rfl ⟨q, d, zs, rfl, hzs, rfl⟩
  replace hb18 := X.nm hb18
  try (first | (cases hb18; done) | (exfalso; omega))
  all_goals
   refine RG.p 3 hR rfl (Q.mv rfl) <| RG.p 4 hR rfl (Q.lenSl runUnderlying22 rfl) <| RG.p 5 hR rfl (Q.fa (n := 6) runUnderlying33 rfl rfl sizeOf3 rfl) ?_
   refine RG.p 6 hR rfl (Q.ldI isAgg3 rfl) ?_
   refine RG.p 7 hR rfl (Q.neq rfl rfl) <| RG.p 8 hR rfl (Q.pick_f rfl rfl) <| RG.p 9 hR rfl (Q.mv rfl) ?_
   refine RG.cases 25 rfl (fun hb25 => ?_) (fun hb25 => ?_)
   ·
    replace hb25 := X.nm hb25
    try (first | (cases hb25; done) | (exfalso; omega))
    all_goals
     refine RG.k 10 hR rfl <| RG.k 14 hR rfl <| RG.k 15 hR rfl ?_
     refine RG.pass 11 hR rfl rfl rfl rfl rfl ?_
     refine RG.pass 12 hR rfl rfl rfl rfl rfl ?_
     refine RG.pass 13 hR rfl rfl rfl rfl rfl ?_
     refine RG.pass 16 hR rfl rfl rfl rfl rfl ?_
     refine RG.k 17 hR rfl <| RG.p 18 hR rfl (Q.pick_t rfl rfl) <| RG.p 19 hR rfl (Q.mv rfl) <| RG.k 20 hR rfl <| RG.k 21 hR rfl <| RG.k 22 hR rfl <| RG.k 23 hR rfl <| RG.k 24 hR rfl <| RG.k 25 hR rfl <| RG.k 26 hR rfl ?_
     refine RG.k 27 hR rfl <| RG.k 28 hR rfl <| RG.p 29 hR rfl (Q.pick_t rfl rfl) ?_
     refine RG.fin hR rfl ?_
     refine J.norm rfl <| J.then_n <| J.cond_t rfl <| J.seq <| J.region <| J.p rfl (Q.asg rfl) <| J.p rfl (Q.asg rfl) <| J.nil <| J.then_n <| J.cret <| J.then_r ?_
     exact J.ret2I [own 87 4 (.slice q n d) (zs.flatMap SHR.cells), star (zs.map SHR.asn), Gl, GN] rfl rfl rfl ⟨q, d, zs, rfl, hzs, rfl⟩
   replace hb25 := X.nm hb25
   try (first | (cases hb25; done) | (exfalso; omega))
   all_goals
    refine RG.p 10 hR rfl (Q.mv rfl) <| RG.p 14 hR rfl (Q.fa (n := 7) runUnderlying33 rfl rfl sizeOf31 rfl) ?_
    refine RG.p 15 hR rfl (Q.ldI isAgg31 rfl) ?_
    refine RG.made 11 hR rfl rfl rfl rfl rfl (C.bslG (l := [.slice dp data.length dc]) runUnderlying45 sizeOf22 zeroValue22 (by decide) rfl rfl rfl rfl rfl) ?_
    rintro b27
    refine RG.callkI 12 hR rfl rfl rfl rfl rfl call23 (sum_spec Gl dp dc data hd (by omega) b27) rfl ?_
    rintro _ _ ⟨rfl, rfl⟩
    refine RG.normE rfl ?_
    refine RG.slot 28 (.int .u32 (x.sum : Int)) rfl (congrArg _ hsum) ?_
    refine RG.callkI 13 hR rfl rfl rfl rfl rfl call25 (four_spec x.sum hsm) rfl ?_
    rintro _ _ ⟨rfl, rfl⟩
    refine RG.normE rfl ?_
    refine RG.callI 16 hR rfl rfl rfl rfl rfl rfl call25 (four_spec x.sum hsm) rfl ?_
    rintro _ _ ⟨rfl, rfl⟩
    refine RG.norm rfl ?_
    refine RG.p 17 hR rfl (four_same x.sum rfl rfl) ?_
    refine RG.p 18 hR rfl (Q.pick_f rfl rfl) <| RG.p 19 hR rfl (Q.mv rfl) ?_
    refine RG.cases 35 rfl (fun hb35 => ?_) (fun hb35 => ?_)
    ·
     replace hb35 := X.nm hb35
     try (first | (cases hb35; done) | (exfalso; omega))
     all_goals
      refine RG.k 20 hR rfl <| RG.k 21 hR rfl <| RG.k 22 hR rfl <| RG.k 23 hR rfl <| RG.k 24 hR rfl <| RG.k 25 hR rfl <| RG.k 26 hR rfl <| RG.k 27 hR rfl <| RG.k 28 hR rfl <| RG.p 29 hR rfl (Q.pick_t rfl rfl) ?_
      refine RG.fin hR rfl ?_
      refine J.norm rfl <| J.then_n <| J.cond_t rfl <| J.seq <| J.region <| J.p rfl (Q.asg rfl) <| J.p rfl (Q.asg rfl) <| J.nil <| J.then_n <| J.cret <| J.then_r ?_
      exact J.ret2I [own 87 4 (.slice q n d) (zs.flatMap SHR.cells), star (zs.map SHR.asn), Gl, GN] rfl rfl rfl ⟨q, d, zs, rfl, hzs, rfl⟩
    replace hb35 := X.nm hb35
    try (first | (cases hb35; done) | (exfalso; omega))
    all_goals
     refine RG.p 20 hR rfl (Q.fa (n := 8) runUnderlying33 rfl rfl sizeOf23 rfl) ?_
     refine RG.p 21 hR rfl (Q.ld isAgg23 rfl (rdI (by exact congrArg some hnv))) ?_
     refine RG.p 22 hR rfl (Q.lenSl runUnderlying23 rfl) <| RG.p 23 hR rfl (Q.fa (n := 4) runUnderlying33 rfl rfl sizeOf3 rfl) ?_
     refine RG.p 24 hR rfl (Q.ldI isAgg3 rfl) ?_
     refine RG.p 25 hR rfl (Q.fa (n := 5) runUnderlying33 rfl rfl sizeOf3 rfl) ?_
     refine RG.p 26 hR rfl (Q.ldI isAgg3 rfl) ?_
     refine RG.p 27 hR rfl (Q.add64 rfl rfl (by omega)) <| RG.p 28 hR rfl (Q.neq rfl rfl) <| RG.p 29 hR rfl (Q.pick_f rfl rfl) ?_
     refine RG.fin hR rfl ?_
     refine J.norm rfl <| J.then_n ?_
     refine J.kases 45 rfl (fun hc45 => ?_) (fun hc45 => ?_)
     ·
      try (first | (cases hc45; done) | (exfalso; omega))
      all_goals
       refine J.cond_t rfl <| J.seq <| J.region <| J.p rfl (Q.asg rfl) <| J.p rfl (Q.asg rfl) <| J.nil <| J.then_n <| J.cret <| J.then_r ?_
       exact J.ret2I [own 87 4 (.slice q n d) (zs.flatMap SHR.cells), star (zs.map SHR.asn), Gl, GN] rfl rfl rfl ⟨q, d, zs, rfl, hzs, rfl⟩
     try (first | (cases hc45; done) | (exfalso; omega))
     all_goals
      refine J.cond_f rfl <| J.cskip <| J.then_n <| J.seq ?_
      refine J.pickI [pt b2 (.cells x.cells.toArray 33 (0, 0))] ?_
      refine J.norm rfl ?_
      refine J.drawE [3, 4, 5, 6] 1 Tryz.mixed (by kernel_rfl) rfl rfl fun hR => ?_
      refine RG.p 0 hR rfl (Q.ldN (vs := x.cells) isAgg33 sizeOf33 rfl rnI) ?_
      refine RG.p 1 hR rfl (Q.mv rfl) <| RG.p 2 hR rfl (Q.mv rfl) ?_
      refine RG.callkI 3 hR rfl rfl rfl rfl rfl call19 (encode_spec cb x.k x.m hk0 hkm Gl dp dc data hd (by omega)) rfl ?_
      rintro _ _ ⟨ep, ec, rfl, rfl⟩
      refine RG.normE rfl ?_
      refine RG.slot 49 (.slice ep n ec) rfl (by rw [hn]) ?_
      refine RG.callI 4 hR rfl rfl rfl rfl rfl rfl call26 (shardsM_spec x hx n hn hn15 np nc hnv Gl GN hname hN (fullL x.k x.m (dataL x.k data)) hfull ep ec) rfl ?_
      rintro _ _ ⟨q, d, zs, X0, rfl, hzs, rfl⟩
      refine RG.norm rfl ?_
      refine RG.bar 5 hR rfl rfl rfl rfl rfl rfl (Q.asg rfl).toC ?_
      rintro _ _ ⟨rfl, rfl⟩
      refine RG.norm rfl ?_
      refine RG.bar 6 hR rfl rfl rfl rfl rfl rfl (Q.asg rfl).toC ?_
      rintro _ _ ⟨rfl, rfl⟩
      refine RG.norm rfl ?_
      refine RG.fin hR rfl ?_
      refine J.norm rfl <| J.then_n <| J.cret ?_
      exact J.ret2I [own 87 4 (.slice q n d) (zs.flatMap SHR.cells), star (zs.map SHR.asn), Gl, GN] rfl rfl rfl ⟨q, d, zs, rfl, hzs, rfl⟩
end

theorem good_pres {full : Ml} {pres : Nat → Bool} {n w : Nat} (hfull : Rect n w full) (hw : 0 < w) {gs : List RowH} (h : gs.map RowH.bs = goodL full pres n) {i : Nat} (hi : i < n) : presB gs i = pres i := by
  have h1 := goodL_at (full := full) (pres := pres) hi
  rw [← h, List.getElem?_map] at h1
  obtain ⟨g, hg, hb⟩ := Option.map_eq_some_iff.1 h1
  rw [presB, rowAt_some hg, hb]
  cases pres i with
  | true => simp only [if_true]; exact decide_eq_true (by rw [atL_len hfull hi]; exact hw)
  | false => rfl
theorem good_count {full : Ml} {pres : Nat → Bool} {n w : Nat} (hfull : Rect n w full) (hw : 0 < w) {gs : List RowH} (h : gs.map RowH.bs = goodL full pres n) : ((List.range n).filter (presB gs)).length = (presL pres n).length := by
  unfold presL
  congr 1
  apply List.filter_congr
  intro i hi
  exact good_pres hfull hw h (List.mem_range.1 hi)
theorem good_is {full : Ml} {pres : Nat → Bool} {n w : Nat} (hfull : Rect n w full) {gs : List RowH} (h : gs.map RowH.bs = goodL full pres n) : ∀ (i : Nat) r, gs[i]? = some r → r.bs = [] ∨ full[i]? = some r.bs := by
  intro i r hr
  have hl : gs.length = n := by have := congrArg List.length h; rw [goodL_len] at this; simpa using this
  have hi : i < n := by have := (List.getElem?_eq_some_iff.1 hr).1; omega
  have h1 := goodL_at (full := full) (pres := pres) hi
  rw [← h, List.getElem?_map, hr] at h1
  have h2 : r.bs = if pres i then atL full i else [] := Option.some.inj h1
  obtain ⟨s, hs, _⟩ := hfull.at_ hi
  cases hp : pres i with
  | true => right; rw [h2, hp, if_pos rfl, atL, hs]; rfl
  | false => left; rw [h2, hp]; rfl

section
variable (x : PX) (hx : x.ok) (n : Nat) (hn : n = x.k + x.m) (data : List U) (hsz : data.length = x.sz) (hsum : crcL data = (x.sum : Int)) (pres : Nat → Bool) (G : Assn) (fp : Option Addr) (fc : Nat) (fs : List RowH) (hfs : fs.map RowH.bs = filesL x (fullL x.k x.m (dataL x.k data)) pres n)
  (hf : SlR [G] 1 (.slice fp n fc) (fs.map RowH.val)) (hfr : ∀ r, r ∈ fs → SlR [G] 1 r.val (bytesV r.bs) ∧ r.bs.length ≤ r.c)
include hx hn hsz hsum hfs hf hfr
theorem full_of : Rect n (shLen x.k x.sz) (fullL x.k x.m (dataL x.k data)) := by
  have h := fullL_rect (m := x.m) (dataL_rect (k := x.k) (data := data) hx.k0) hx.k0
  rwa [hsz, ← hn] at h
theorem gather_lost (hc : (presL pres n).length < x.k) : FSpec Tryz.prog 10 [.agg x.cells.toArray, .slice fp n fc] [G] (fun v B => v = .tuple #[.slice none 0 0, .int .i64 16] ∧ B = [G]) := by
  refine FSpec.of func10 rfl ntmps10 rfl fun W0 F => ?_
  refine J.seq ?_
  have hk0 := hx.k0
  have hkm := hx.km
  have hfull := full_of x hx n hn data hsz hsum pres G fp fc fs hfs hf hfr
  refine J.region ?_
  refine J.c rfl rfl (C.box (l := [_, _, _, _, _, _, _, _, _]) rfl rfl) ?_
  rintro _ _ ⟨b2, rfl, rfl⟩
  refine J.norm rfl <| J.p rfl (Q.asg rfl) <| J.p rfl (Q.asg rfl) <| J.nil <| J.then_n <| J.seq <| J.region <| J.p rfl (Q.fa (n := 4) runUnderlying33 rfl rfl sizeOf3 rfl) ?_
  refine J.p rfl (Q.ldI isAgg3 rfl) ?_
  refine J.p rfl (Q.fa (n := 5) runUnderlying33 rfl rfl sizeOf3 rfl) ?_
  refine J.p rfl (Q.ldI isAgg3 rfl) ?_
  refine J.callI call15 (new_spec x.k x.m hk0 hkm) rfl rfl rfl ?_
  rintro _ _ ⟨cb, rfl, rfl⟩
  refine J.norm rfl <| J.m rfl <| J.p rfl (Q.ext rfl rfl) <| J.p rfl (Q.ext rfl rfl) <| J.p rfl (Q.asg rfl) <| J.p rfl (Q.asg rfl) <| J.nil <| J.then_n <| J.seq <| J.seq <| J.region <| J.m rfl <| J.p rfl (Q.neq rfl rfl) <| J.m rfl ?_
  refine J.kases 20 rfl (fun hb20 => ?_) (fun hb20 => ?_)
  ·
   try (first | (exfalso; omega))
   all_goals
    refine J.k rfl <| J.k rfl <| J.k rfl <| J.k rfl <| J.k rfl <| J.k rfl <| J.k rfl <| J.k rfl <| J.p rfl (Q.pick_t rfl rfl) <| J.nil <| J.then_n <| J.cond_t rfl <| J.seq <| J.region <| J.p rfl (Q.asg rfl) <| J.p rfl (Q.asg rfl) <| J.nil <| J.then_n <| J.cret <| J.then_r ?_
    exact J.ret2I [G] rfl rfl rfl ⟨rfl, rfl⟩
  try (first | (exfalso; omega))
  all_goals
   refine J.m rfl <| J.p rfl (Q.lenSl runUnderlying45 rfl) <| J.p rfl (Q.fa (n := 4) runUnderlying33 rfl rfl sizeOf3 rfl) ?_
   refine J.p rfl (Q.ldI isAgg3 rfl) ?_
   refine J.p rfl (Q.fa (n := 5) runUnderlying33 rfl rfl sizeOf3 rfl) ?_
   refine J.p rfl (Q.ldI isAgg3 rfl) ?_
   refine J.p rfl (Q.add64 rfl rfl (by omega)) <| J.p rfl (Q.neq rfl rfl) <| J.p rfl (Q.pick_f rfl rfl) <| J.nil <| J.then_n ?_
   refine J.kases 29 rfl (fun hc29 => ?_) (fun hc29 => ?_)
   ·
    try (first | (exfalso; omega))
    all_goals
     refine J.cond_t rfl <| J.seq <| J.region <| J.p rfl (Q.asg rfl) <| J.p rfl (Q.asg rfl) <| J.nil <| J.then_n <| J.cret <| J.then_r ?_
     exact J.ret2I [G] rfl rfl rfl ⟨rfl, rfl⟩
   try (first | (exfalso; omega))
   all_goals
    refine J.cond_f rfl <| J.cskip <| J.then_n <| J.seq <| J.region ?_
    refine J.p rfl (Q.ldN (vs := x.cells) isAgg33 sizeOf33 rfl rnI) ?_
    refine J.m rfl ?_
    refine J.callI call32 (good_spec x hx (fullL x.k x.m (dataL x.k data)) pres n hn hfull G fp fc fs hfs hf hfr) rfl rfl rfl ?_
    rintro _ _ ⟨gp, gc, gs, rfl, hgs, rfl⟩
    refine J.norm rfl <| J.p rfl (Q.asg rfl) <| J.nil <| J.then_n <| J.seq <| J.seq ?_
    refine J.pickI [pt b2 (.cells x.cells.toArray 33 (0, 0))] ?_
    refine J.norm rfl ?_
    refine J.drawE [2] 1 Tryz.mixed (by kernel_rfl) rfl rfl fun hR => ?_
    refine RG.p 0 hR rfl (Q.ldN (vs := x.cells) isAgg33 sizeOf33 rfl rnI) ?_
    refine RG.p 1 hR rfl (Q.mv rfl) <| RG.p 4 hR rfl (Q.fa (n := 4) runUnderlying33 rfl rfl sizeOf3 rfl) ?_
    refine RG.p 5 hR rfl (Q.ldI isAgg3 rfl) ?_
    refine RG.callkI 2 hR rfl rfl rfl rfl rfl call33 (Good_spec x hx (fullL x.k x.m (dataL x.k data)) pres n hn hfull G fp fc fs hfs hf hfr) rfl ?_
    rintro _ _ ⟨op, oc, rfl, rfl⟩
    refine RG.normE rfl <| RG.p 3 hR rfl (Q.lenSl runUnderlying23 rfl) <| RG.p 6 hR rfl (Q.lss rfl rfl) ?_
    refine RG.fin hR rfl ?_
    refine J.norm rfl <| J.then_n ?_
    refine J.cases 39 rfl (fun hc39 => ?_) (fun hc39 => ?_)
    ·
     replace hc39 := X.nm hc39
     try (first | (exfalso; omega))
     all_goals
      refine J.cond_t rfl <| J.seq <| J.region <| J.p rfl (Q.asg rfl) <| J.p rfl (Q.asg rfl) <| J.nil <| J.then_n <| J.cret <| J.then_r ?_
      exact J.ret2I [G] rfl rfl rfl ⟨rfl, rfl⟩
    have h := X.nm hc39; exfalso; omega
theorem gather_ok (hc : x.k ≤ (presL pres n).length) : FSpec Tryz.prog 10 [.agg x.cells.toArray, .slice fp n fc] [G] (fun v B => ∃ (p : Option Addr) (c : Nat), v = .tuple #[.slice p data.length c, .int .i64 0] ∧ B = [own 5 1 (.slice p data.length c) (bytesV data), G]) := by
  refine FSpec.of func10 rfl ntmps10 rfl fun W0 F => ?_
  refine J.seq ?_
  have hk0 := hx.k0
  have hkm := hx.km
  have hxs := hx.sz
  have hsm := hx.sum
  have hfull := full_of x hx n hn data hsz hsum pres G fp fc fs hfs hf hfr
  have hs1 := shLen_ge (k := x.k) (n := x.sz)
  have hs2 := shLen_lt (k := x.k) (n := x.sz)
  refine J.region ?_
  refine J.c rfl rfl (C.box (l := [_, _, _, _, _, _, _, _, _]) rfl rfl) ?_
  rintro _ _ ⟨b2, rfl, rfl⟩
  refine J.norm rfl <| J.p rfl (Q.asg rfl) <| J.p rfl (Q.asg rfl) <| J.nil <| J.then_n <| J.seq <| J.region <| J.p rfl (Q.fa (n := 4) runUnderlying33 rfl rfl sizeOf3 rfl) ?_
  refine J.p rfl (Q.ldI isAgg3 rfl) ?_
  refine J.p rfl (Q.fa (n := 5) runUnderlying33 rfl rfl sizeOf3 rfl) ?_
  refine J.p rfl (Q.ldI isAgg3 rfl) ?_
  refine J.callI call15 (new_spec x.k x.m hk0 hkm) rfl rfl rfl ?_
  rintro _ _ ⟨cb, rfl, rfl⟩
  refine J.norm rfl <| J.m rfl <| J.p rfl (Q.ext rfl rfl) <| J.p rfl (Q.ext rfl rfl) <| J.p rfl (Q.asg rfl) <| J.p rfl (Q.asg rfl) <| J.nil <| J.then_n <| J.seq <| J.seq <| J.region <| J.m rfl <| J.p rfl (Q.neq rfl rfl) <| J.m rfl ?_
  refine J.kases 20 rfl (fun hb20 => ?_) (fun hb20 => ?_)
  ·
   try (first | (cases hb20; done) | (exfalso; omega))
   all_goals
    refine J.k rfl <| J.k rfl <| J.k rfl <| J.k rfl <| J.k rfl <| J.k rfl <| J.k rfl <| J.k rfl <| J.p rfl (Q.pick_t rfl rfl) <| J.nil <| J.then_n <| J.cond_t rfl <| J.seq <| J.region <| J.p rfl (Q.asg rfl) <| J.p rfl (Q.asg rfl) <| J.nil <| J.then_n <| J.cret <| J.then_r ?_
    exact J.ret2I [own 5 1 (.slice dp data.length dc) (bytesV data), G] rfl rfl rfl ⟨dp, dc, rfl, rfl⟩
  try (first | (cases hb20; done) | (exfalso; omega))
  all_goals
   refine J.m rfl <| J.p rfl (Q.lenSl runUnderlying45 rfl) <| J.p rfl (Q.fa (n := 4) runUnderlying33 rfl rfl sizeOf3 rfl) ?_
   refine J.p rfl (Q.ldI isAgg3 rfl) ?_
   refine J.p rfl (Q.fa (n := 5) runUnderlying33 rfl rfl sizeOf3 rfl) ?_
   refine J.p rfl (Q.ldI isAgg3 rfl) ?_
   refine J.p rfl (Q.add64 rfl rfl (by omega)) <| J.p rfl (Q.neq rfl rfl) <| J.p rfl (Q.pick_f rfl rfl) <| J.nil <| J.then_n ?_
   refine J.kases 29 rfl (fun hc29 => ?_) (fun hc29 => ?_)
   ·
    try (first | (cases hc29; done) | (exfalso; omega))
    all_goals
     refine J.cond_t rfl <| J.seq <| J.region <| J.p rfl (Q.asg rfl) <| J.p rfl (Q.asg rfl) <| J.nil <| J.then_n <| J.cret <| J.then_r ?_
     exact J.ret2I [own 5 1 (.slice dp data.length dc) (bytesV data), G] rfl rfl rfl ⟨dp, dc, rfl, rfl⟩
   try (first | (cases hc29; done) | (exfalso; omega))
   all_goals
    refine J.cond_f rfl <| J.cskip <| J.then_n <| J.seq <| J.region ?_
    refine J.p rfl (Q.ldN (vs := x.cells) isAgg33 sizeOf33 rfl rnI) ?_
    refine J.m rfl ?_
    refine J.callI call32 (good_spec x hx (fullL x.k x.m (dataL x.k data)) pres n hn hfull G fp fc fs hfs hf hfr) rfl rfl rfl ?_
    rintro _ _ ⟨gp, gc, gs, rfl, hgs, rfl⟩
    refine J.norm rfl ?_
    refine J.shutI [own 22 1 (.slice gp n gc) (gs.map RowH.val), star (gs.map RowH.asn)] (rowsG 22 gp n gc gs) (fun h s => s) ?_
    refine J.tellsI (rowsG 22 gp n gc gs) rowsG_read fun hrr => ?_
    have hgl : gs.length = x.k + x.m := by have := congrArg List.length hgs; rw [goodL_len] at this; rw [← hn]; simpa using this
    refine J.p rfl (Q.asg rfl) <| J.nil <| J.then_n <| J.seq <| J.seq ?_
    refine J.pickI [pt b2 (.cells x.cells.toArray 33 (0, 0))] ?_
    refine J.norm rfl ?_
    refine J.drawE [2] 1 Tryz.mixed (by kernel_rfl) rfl rfl fun hR => ?_
    refine RG.p 0 hR rfl (Q.ldN (vs := x.cells) isAgg33 sizeOf33 rfl rnI) ?_
    refine RG.p 1 hR rfl (Q.mv rfl) <| RG.p 4 hR rfl (Q.fa (n := 4) runUnderlying33 rfl rfl sizeOf3 rfl) ?_
    refine RG.p 5 hR rfl (Q.ldI isAgg3 rfl) ?_
    refine RG.callkI 2 hR rfl rfl rfl rfl rfl call33 (Good_spec x hx (fullL x.k x.m (dataL x.k data)) pres n hn hfull G fp fc fs hfs hf hfr) rfl ?_
    rintro _ _ ⟨op, oc, rfl, rfl⟩
    refine RG.normE rfl <| RG.p 3 hR rfl (Q.lenSl runUnderlying23 rfl) <| RG.p 6 hR rfl (Q.lss rfl rfl) ?_
    refine RG.fin hR rfl ?_
    refine J.norm rfl <| J.then_n ?_
    refine J.cases 39 rfl (fun hc39 => ?_) (fun hc39 => ?_)
    ·
     have h := X.nm hc39; exfalso; omega
    replace hc39 := X.nm hc39
    try (first | (cases hc39; done) | (exfalso; omega))
    all_goals
     refine J.cond_f rfl <| J.cskip <| J.then_n <| J.seq <| J.region <| J.m rfl <| J.p rfl (Q.fa (n := 6) runUnderlying33 rfl rfl sizeOf3 rfl) ?_
     refine J.p rfl (Q.ldI isAgg3 rfl) ?_
     refine J.m rfl ?_
     have hcap := hrr.cap
     have hcnt := good_count hfull (by omega) hgs
     rw [hn] at hcnt
     have hdr := dataL_rect (k := x.k) (data := data) hk0
     rw [hsz] at hdr
     refine J.slot 44 (.slice gp (x.k + x.m) gc) rfl (by rw [hn]) ?_
     refine J.callI call34 (decode_spec cb x.k x.m (shLen x.k x.sz) hk0 hkm hs1 (by omega) (dataL x.k data) hdr (rowsG 22 gp n gc gs) gp gc (by omega) gs hgl (by rw [← hn]; exact hrr.outer) hrr.rows (good_is hfull hgs) (by rw [hcnt, ← hn]; exact hc) x.sz (shLen_le hk0)) rfl rfl rfl ?_
     rintro _ _ ⟨dp, dc, rfl, rfl⟩
     refine J.norm rfl ?_
     have hdata : (dataL x.k data).flatten.take x.sz = data := by rw [← hsz]; exact dataL_take hk0
     rw [hdata, ← hsz]
     refine J.m rfl <| J.p rfl (Q.ext rfl rfl) <| J.p rfl (Q.ext rfl rfl) <| J.p rfl (Q.asg rfl) <| J.p rfl (Q.asg rfl) <| J.nil <| J.then_n <| J.seq <| J.block <| J.seq <| J.region <| J.m rfl <| J.p rfl (Q.neq rfl rfl) <| J.p rfl (Q.asg rfl) <| J.nil <| J.then_n ?_
     refine J.cases 48 rfl (fun hc48 => ?_) (fun hc48 => ?_)
     ·
      have h := X.nm hc48; exact absurd rfl h
     replace hc48 := X.nm hc48
     try (first | (cases hc48; done) | (exfalso; omega))
     all_goals
      refine J.cond_f rfl <| J.seq ?_
      refine J.slrI (E0 := 5) (sz := 1) (p := dp) (n := data.length) (c := dc) (xs := bytesV data) fun hsD => ?_
      refine J.pickI [pt b2 (.cells x.cells.toArray 33 (0, 0))] ?_
      refine J.norm rfl ?_
      refine J.drawE [1, 2, 3, 6, 8] 1 Tryz.mixed (by kernel_rfl) rfl rfl fun hR => ?_
      refine RG.p 0 hR rfl (Q.mv rfl) <| RG.p 4 hR rfl (Q.fa (n := 7) runUnderlying33 rfl rfl sizeOf31 rfl) ?_
      refine RG.p 5 hR rfl (Q.ldI isAgg31 rfl) ?_
      refine RG.made 1 hR rfl rfl rfl rfl rfl (C.bslG (l := [.slice dp data.length dc]) runUnderlying45 sizeOf22 zeroValue22 (by decide) rfl rfl rfl rfl rfl) ?_
      rintro b54
      refine RG.callkI 2 hR rfl rfl rfl rfl rfl call23 (sum_spec (own 5 1 (.slice dp data.length dc) (bytesV data)) dp dc data hsD (by omega) b54) rfl ?_
      rintro _ _ ⟨rfl, rfl⟩
      refine RG.normE rfl ?_
      refine RG.slot 55 (.int .u32 (x.sum : Int)) rfl (congrArg _ hsum) ?_
      refine RG.callkI 3 hR rfl rfl rfl rfl rfl call25 (four_spec x.sum hsm) rfl ?_
      rintro _ _ ⟨rfl, rfl⟩
      refine RG.normE rfl ?_
      refine RG.callI 6 hR rfl rfl rfl rfl rfl rfl call25 (four_spec x.sum hsm) rfl ?_
      rintro _ _ ⟨rfl, rfl⟩
      refine RG.norm rfl ?_
      refine RG.p 7 hR rfl (four_same x.sum rfl rfl) ?_
      refine RG.bar 8 hR rfl rfl rfl rfl rfl rfl (Q.asg rfl).toC ?_
      rintro _ _ ⟨rfl, rfl⟩
      refine RG.norm rfl ?_
      refine RG.fin hR rfl ?_
      refine J.norm rfl <| J.then_n ?_
      refine J.kases 52 rfl (fun hc52 => ?_) (fun hc52 => ?_)
      ·
       try (first | (cases hc52; done) | (exfalso; omega))
       all_goals
        refine J.cond_t rfl <| J.seq <| J.region <| J.p rfl (Q.asg rfl) <| J.p rfl (Q.asg rfl) <| J.nil <| J.then_n <| J.cret <| J.blk_r <| J.then_r ?_
        exact J.ret2I [own 5 1 (.slice dp data.length dc) (bytesV data), G] rfl rfl rfl ⟨dp, dc, rfl, rfl⟩
      try (first | (cases hc52; done) | (exfalso; omega))
      all_goals
       refine J.cond_f rfl <| J.cskip <| J.blk_n <| J.then_n <| J.seq <| J.region <| J.m rfl <| J.p rfl (Q.asg rfl) <| J.p rfl (Q.asg rfl) <| J.nil <| J.then_n <| J.cret ?_
       exact J.ret2I [own 5 1 (.slice dp data.length dc) (bytesV data), G] rfl rfl rfl ⟨dp, dc, rfl, rfl⟩
end

theorem indexI_spec (G : Assn) (sp : Option Addr) (sn sc : Nat) (vals : List Value) (fid : FuncId) (cap : List Value) (q : Nat → Bool)
    (hcall : ∀ (args : Array Value) (w : World), (callFunc fid args).run Tryz.prog w = .ok (.enter fid args) w)
    (hs : SlR [G] 1 (.slice sp sn sc) vals) (hn : sn ≤ 140737488355328)
    (hf : ∀ i u, vals[i]? = some u → FSpec Tryz.prog fid ([] ++ [u] ++ cap) [G] (fun v B => v = .bool (q i) ∧ B = [G])) :
    FSpec Tryz.prog 57 [.slice sp sn sc, .func (.func fid) ([] : List Value).toArray cap.toArray] [G] (fun v B => ∃ r : Int, v = .int .i64 r ∧ First sn q r ∧ B = [G]) := by
  refine FSpec.of func57 rfl ntmps57 rfl fun W0 F => ?_
  refine J.seq <| J.region <| J.p rfl (Q.asg rfl) <| J.nil <| J.then_n <| J.seq <| J.seq <| J.region <| J.m rfl <| J.p rfl (Q.lenSl runUnderlying23 rfl) <| J.m rfl <| J.nil <| J.then_n <| J.block ?_
  have hlen : vals.length = sn := by have := hs.len; simpa using this
  refine J.loop (fun k : Nat => k ≤ sn ∧ ∀ i, i < k → q i = false) (fun k => sn - k) (fun k => [(0, .slice sp sn sc), (1, .func (.func fid) ([] : List Value).toArray cap.toArray), (7, .int .i64 sn), (8, .int .i64 k)]) (fun _ => [G, F]) 0 ⟨by omega, fun i h => by omega⟩ ⟨rfl, rfl, rfl, rfl, trivial⟩ rfl fun k hk => ?_
  obtain ⟨hk, hno⟩ := hk
  refine J.seq <| J.region <| J.p rfl (Q.lss rfl rfl) <| J.nil <| J.then_n <| J.seq ?_
  refine J.kases 9 rfl (fun hc9 => ?_) (fun hc9 => ?_)
  ·
   refine J.cond_t rfl <| J.cskip <| J.then_n <| J.seq <| J.block <| J.seq <| J.region ?_
   obtain ⟨b, off, rfl, hrd⟩ := hs.some_ (by omega)
   obtain ⟨u, hu⟩ : ∃ u, vals[k]? = some u := ⟨_, List.getElem?_eq_getElem (by omega)⟩
   refine J.m rfl <| J.p rfl (Q.asg rfl) <| J.nil <| J.then_n <| J.seq <| J.region <| J.m rfl <| J.m rfl <| J.m rfl <| J.p rfl (Q.ia runUnderlying23 sizeOf3 rfl rfl (by omega) (by omega)) ?_
   refine J.p rfl (Q.ld isAgg3 rfl (((hrd k u hu).within (i := 0) rfl).cast (by simp))) ?_
   refine J.callv hcall (hf k u hu) [0] rfl rfl rfl rfl rfl ?_
   rintro _ _ ⟨rfl, rfl⟩
   refine J.norm rfl <| J.nil <| J.then_n ?_
   refine J.kases 16 rfl (fun hc16 => ?_) (fun hc16 => ?_)
   ·
    refine J.cond_t rfl <| J.seq <| J.region <| J.m rfl <| J.p rfl (Q.asg rfl) <| J.nil <| J.then_n <| J.cret <| J.blk_r <| J.then_r <| J.lp_r <| J.blk_r <| J.then_r ?_
    refine J.ret1 (B := [G]) rfl rfl ⟨_, rfl, .inr ⟨k, rfl, by omega, hc16⟩, rfl⟩ rfl
   refine J.cond_f rfl <| J.cskip <| J.blk_n <| J.then_n <| J.region <| J.p rfl (Q.add64 rfl rfl (by omega)) <| J.m rfl <| J.nil ?_
   have hno2 : ∀ i, i < k + 1 → q i = false := fun i hi => by
    by_cases e : i = k
    · subst e; exact hc16
    · exact hno i (by omega)
   refine J.again (k + 1) ⟨by omega, hno2⟩ (by omega) ⟨rfl, rfl, rfl, rfl, trivial⟩ rfl
  refine J.cond_f rfl <| J.exit <| J.then_x <| J.lp_x <| J.blk_x <| J.then_n <| J.seq <| J.region <| J.p rfl (Q.asg rfl) <| J.nil <| J.then_n <| J.cret ?_
  refine J.ret1 (B := [G]) rfl rfl ⟨_, rfl, .inl ⟨rfl, fun i hi => hno i (by omega)⟩, rfl⟩ rfl
theorem containsI_spec (G : Assn) (sp : Option Addr) (sn sc : Nat) (vals : List Value) (fid : FuncId) (cap : List Value) (q : Nat → Bool)
    (hcall : ∀ (args : Array Value) (w : World), (callFunc fid args).run Tryz.prog w = .ok (.enter fid args) w)
    (hs : SlR [G] 1 (.slice sp sn sc) vals) (hn : sn ≤ 140737488355328)
    (hf : ∀ i u, vals[i]? = some u → FSpec Tryz.prog fid ([] ++ [u] ++ cap) [G] (fun v B => v = .bool (q i) ∧ B = [G])) (hq : ∀ i, i < sn → q i = false) :
    FSpec Tryz.prog 20 [.slice sp sn sc, .func (.func fid) ([] : List Value).toArray cap.toArray] [G] (fun v B => v = .bool false ∧ B = [G]) := by
  refine FSpec.of func20 rfl ntmps20 rfl fun W0 F => ?_
  refine J.seq <| J.region <| J.p rfl (Q.asg rfl) <| J.nil <| J.then_n <| J.seq <| J.region <| J.m rfl <| J.m rfl ?_
  refine J.call call57 (indexI_spec G sp sn sc vals fid cap q hcall hs hn hf) [0] rfl rfl rfl rfl ?_
  rintro _ _ ⟨r, rfl, hr, rfl⟩
  refine J.norm rfl <| J.p rfl (Q.geq rfl rfl) <| J.p rfl (Q.asg rfl) <| J.nil <| J.then_n <| J.cret ?_
  have hlt : ¬ 0 ≤ r := by
   rcases hr with ⟨h, _⟩ | ⟨i, h, hi, hqi⟩
   · omega
   · rw [hq i hi] at hqi; cases hqi
  refine J.ret1 (B := [G]) rfl rfl ⟨by simp [hlt], rfl⟩ rfl
theorem node_spec (G : Assn) (i : Nat) (h : i < 16) : FSpec Tryz.prog 22 [.int .i64 i] [G] (fun v B => v = .bool true ∧ B = [G]) := by
  refine FSpec.of func22 rfl ntmps22 rfl fun W0 F => ?_
  refine J.seq <| J.region <| J.p rfl (Q.asg rfl) <| J.nil <| J.then_n <| J.seq <| J.region <| J.m rfl <| J.p rfl (Q.geq rfl rfl) <| J.m rfl ?_
  refine J.kases 5 rfl (fun hb5 => ?_) (fun hb5 => ?_)
  ·
   try (first | (cases hb5; done) | (exfalso; omega))
   all_goals
    refine J.m rfl <| J.p rfl (Q.lss rfl rfl) <| J.p rfl (Q.pick_t rfl rfl) <| J.p rfl (Q.asg rfl) <| J.nil <| J.then_n <| J.cret ?_
    exact J.ret1I [G] rfl rfl ⟨by simp; omega, rfl⟩
  try (first | (cases hb5; done) | (exfalso; omega))
  all_goals
   refine J.k rfl <| J.k rfl <| J.p rfl (Q.pick_f rfl rfl) <| J.p rfl (Q.asg rfl) <| J.nil <| J.then_n <| J.cret ?_
   exact J.ret1I [G] rfl rfl ⟨by simp; omega, rfl⟩
theorem point1_spec (G : Assn) (i : Nat) (h : i < 16) : FSpec Tryz.prog 21 [.int .i64 i] [G] (fun v B => v = .bool false ∧ B = [G]) := by
  refine FSpec.of func21 rfl ntmps21 rfl fun W0 F => ?_
  refine J.seq <| J.region <| J.p rfl (Q.asg rfl) <| J.nil <| J.then_n <| J.seq <| J.region <| J.m rfl ?_
  refine J.callI call22 (node_spec G i h) rfl rfl rfl ?_
  rintro _ _ ⟨rfl, rfl⟩
  refine J.norm rfl <| J.p rfl (Q.not rfl) <| J.p rfl (Q.asg rfl) <| J.nil <| J.then_n <| J.cret ?_
  exact J.ret1I [G] rfl rfl ⟨rfl, rfl⟩
theorem cloneI_spec (G : Assn) (sp : Option Addr) (n sc : Nat) (vs : List Value) (h0 : 0 < n) (hs : SlR [G] 1 (.slice sp n sc) vs) (hone : ∀ v, v ∈ vs → oneC v = true) (hn : n ≤ 1000000) :
    FSpec Tryz.prog 24 [.slice sp n sc] [G] (fun v B => ∃ p c, v = .slice p n c ∧ B = [own 3 1 (.slice p n c) vs, G]) := by
  refine FSpec.of func24 rfl ntmps24 rfl fun W0 F => ?_
  refine J.seq <| J.region <| J.p rfl (Q.asg rfl) <| J.nil <| J.then_n <| J.seq <| J.seq ?_
  obtain ⟨b, off, rfl, hrd⟩ := hs.some_ h0
  refine J.region <| J.m rfl <| J.p rfl (Q.eqlsl runUnderlying23 rfl rfl) <| J.nil <| J.then_n ?_
  refine J.cases 4 rfl (fun hc4 => ?_) (fun hc4 => ?_)
  ·
   have h := X.nm hc4; simp at h
  replace hc4 := X.nm hc4
  refine J.cond_f rfl <| J.cskip <| J.then_n <| J.seq <| J.region ?_
  refine J.c rfl rfl (C.bslG (l := []) runUnderlying23 sizeOf3 zeroValue3 (by decide) rfl rfl rfl rfl rfl) ?_
  rintro _ _ ⟨b5, rfl, rfl⟩
  refine J.norm rfl <| J.m rfl ?_
  refine J.c rfl rfl (C.appI runUnderlying23 runUnderlying23 typeInfo3 sizeOf3 zeroValue3 rfl rfl (hs.inI) hone (by simp [Tryz.t3] <;> omega) (by decide)) ?_
  rintro _ _ ⟨p7, c7, rfl, rfl⟩
  refine J.norm rfl <| J.p rfl (Q.asg rfl) <| J.nil <| J.then_n <| J.cret ?_
  rw [Nat.zero_add, List.nil_append]
  exact J.ret1I [own 3 1 (.slice p7 n c7) vs, G] rfl rfl ⟨p7, c7, rfl, rfl⟩

def intsL (n : Nat) : List Value := (List.range n).map fun i : Nat => Value.int .i64 i
theorem point_spec (bk ky : ByteArray) (ver k m n : Nat) (hver : ver = 3) (hk : 0 < k) (hn : n = k + m) (hn15 : n < 15) (GN G : Assn) (np : Option Addr) (nc : Nat) (hN : SlR [GN] 1 (.slice np n nc) (intsL n)) (dp : Option Addr) (dc : Nat) (data : List U) (hd : SlR [G] 1 (.slice dp data.length dc) (bytesV data)) (hdl : data.length ≤ 999999) :
    FSpec Tryz.prog 6 [.agg #[.string bk, .string ky, .int .u64 ver, .int .i64 data.length], .slice dp data.length dc, .int .i64 k, .int .i64 m, .slice np n nc] [GN, G]
      (fun v B => ∃ (p : Option Addr) (c sum : Nat), crcL data = (sum : Int) ∧ sum < 4294967296 ∧ v = .tuple #[.agg (PX.cells ⟨bk, ky, 3, k, m, data.length, sum, .slice p n c⟩).toArray, .int .i64 0] ∧ B = [own 3 1 (.slice p n c) (intsL n), GN, G]) := by
  subst hver
  obtain ⟨cr, hcr, hcr2⟩ := crcL_nat data
  refine FSpec.of func6 rfl ntmps6 rfl fun W0 F => ?_
  refine J.seq <| J.region ?_
  refine J.c rfl rfl (C.box (l := [_, _, _, _]) rfl rfl) ?_
  rintro _ _ ⟨b5, rfl, rfl⟩
  refine J.norm rfl ?_
  refine J.c rfl rfl (C.alloc (l := [_, _, _, _, _, _, _, _, _]) zeroValue33 rfl) ?_
  rintro _ _ ⟨b10, rfl, rfl⟩
  refine J.norm rfl <| J.p rfl (Q.asg rfl) <| J.nil <| J.then_n <| J.seq <| J.region <| J.m rfl <| J.m rfl ?_
  refine J.callI call15 (new_spec k m hk (by omega)) rfl rfl rfl ?_
  rintro _ _ ⟨cb, rfl, rfl⟩
  refine J.norm rfl <| J.m rfl <| J.p rfl (Q.ext rfl rfl) <| J.p rfl (Q.ext rfl rfl) <| J.p rfl (Q.asg rfl) <| J.p rfl (Q.asg rfl) <| J.nil <| J.then_n <| J.seq <| J.seq <| J.region <| J.m rfl <| J.p rfl (Q.neq rfl rfl) <| J.m rfl ?_
  refine J.kases 22 rfl (fun hb22 => ?_) (fun hb22 => ?_)
  ·
   try (first | (cases hb22; done) | (exfalso; omega))
   all_goals
    refine J.k rfl <| J.k rfl <| J.k rfl <| J.k rfl <| J.k rfl <| J.k rfl <| J.p rfl (Q.pick_t rfl rfl) <| J.m rfl <| J.k rfl <| J.k rfl <| J.p rfl (Q.pick_t rfl rfl) <| J.m rfl <| J.k rfl <| J.k rfl <| J.k rfl <| J.k rfl <| J.k rfl <| J.p rfl (Q.pick_t rfl rfl) <| J.m rfl ?_
    refine J.k rfl <| J.k rfl <| J.k rfl <| J.p rfl (Q.pick_t rfl rfl) <| J.nil <| J.then_n <| J.cond_t rfl <| J.seq <| J.region <| J.p rfl (Q.bld (l := [_, _, _, _, _, _, _, _, _]) runUnderlying33 zeroValue33 places33 rfl rfl) ?_
    refine J.stAJ (vs := [_, _, _, _, _, _, _, _, _]) rfl sizeOf33 rfl rfl ?_
    refine J.p rfl (Q.asg rfl) <| J.nil <| J.then_n <| J.cret <| J.then_r ?_
    exact J.retC2I (vs := PX.cells ⟨bk, ky, 3, k, m, data.length, cr, .slice p n c⟩) [own 3 1 (.slice p n c) (intsL n), GN, G] rfl rfl rfl isAgg33 sizeOf33 rnI ⟨p, c, cr, hcr, hcr2, rfl, rfl⟩
  try (first | (cases hb22; done) | (exfalso; omega))
  all_goals
   refine J.m rfl <| J.p rfl (Q.lenSl runUnderlying23 rfl) <| J.m rfl <| J.m rfl <| J.p rfl (Q.add64 rfl rfl (by omega)) <| J.p rfl (Q.neq rfl rfl) <| J.p rfl (Q.pick_f rfl rfl) <| J.m rfl ?_
   refine J.kases 30 rfl (fun hb30 => ?_) (fun hb30 => ?_)
   ·
    try (first | (cases hb30; done) | (exfalso; omega))
    all_goals
     refine J.k rfl <| J.k rfl <| J.p rfl (Q.pick_t rfl rfl) <| J.m rfl <| J.k rfl <| J.k rfl <| J.k rfl <| J.k rfl <| J.k rfl <| J.p rfl (Q.pick_t rfl rfl) <| J.m rfl <| J.k rfl <| J.k rfl <| J.k rfl <| J.p rfl (Q.pick_t rfl rfl) <| J.nil <| J.then_n <| J.cond_t rfl <| J.seq <| J.region <| J.p rfl (Q.bld (l := [_, _, _, _, _, _, _, _, _]) runUnderlying33 zeroValue33 places33 rfl rfl) ?_
     refine J.stAJ (vs := [_, _, _, _, _, _, _, _, _]) rfl sizeOf33 rfl rfl ?_
     refine J.p rfl (Q.asg rfl) <| J.nil <| J.then_n <| J.cret <| J.then_r ?_
     exact J.retC2I (vs := PX.cells ⟨bk, ky, 3, k, m, data.length, cr, .slice p n c⟩) [own 3 1 (.slice p n c) (intsL n), GN, G] rfl rfl rfl isAgg33 sizeOf33 rnI ⟨p, c, cr, hcr, hcr2, rfl, rfl⟩
   try (first | (cases hb30; done) | (exfalso; omega))
   all_goals
    refine J.m rfl ?_
    refine J.callI call20 (containsI_spec GN np n nc (intsL n) 21 [] (fun _ => false) call21 hN (by omega) (fun i u hu => by rw [intsL, List.getElem?_map] at hu; obtain ⟨j, hj, rfl⟩ := Option.map_eq_some_iff.1 hu; have hlt := (List.getElem?_eq_some_iff.1 hj).1; rw [List.length_range] at hlt; rw [List.getElem?_range hlt] at hj; cases hj; exact point1_spec GN i (by omega)) (fun _ _ => rfl)) rfl rfl rfl ?_
    rintro _ _ ⟨rfl, rfl⟩
    refine J.norm rfl <| J.p rfl (Q.pick_f rfl rfl) <| J.m rfl ?_
    refine J.kases 34 rfl (fun hb34 => ?_) (fun hb34 => ?_)
    ·
     try (first | (cases hb34; done) | (exfalso; omega))
     all_goals
      refine J.k rfl <| J.k rfl <| J.k rfl <| J.k rfl <| J.k rfl <| J.p rfl (Q.pick_t rfl rfl) <| J.m rfl <| J.k rfl <| J.k rfl <| J.k rfl <| J.p rfl (Q.pick_t rfl rfl) <| J.nil <| J.then_n <| J.cond_t rfl <| J.seq <| J.region <| J.p rfl (Q.bld (l := [_, _, _, _, _, _, _, _, _]) runUnderlying33 zeroValue33 places33 rfl rfl) ?_
      refine J.stAJ (vs := [_, _, _, _, _, _, _, _, _]) rfl sizeOf33 rfl rfl ?_
      refine J.p rfl (Q.asg rfl) <| J.nil <| J.then_n <| J.cret <| J.then_r ?_
      exact J.retC2I (vs := PX.cells ⟨bk, ky, 3, k, m, data.length, cr, .slice p n c⟩) [own 3 1 (.slice p n c) (intsL n), GN, G] rfl rfl rfl isAgg33 sizeOf33 rnI ⟨p, c, cr, hcr, hcr2, rfl, rfl⟩
    try (first | (cases hb34; done) | (exfalso; omega))
    all_goals
     refine J.m rfl <| J.p rfl (Q.lenSl runUnderlying22 rfl) <| J.p rfl (Q.fa (n := 3) runUnderlying37 rfl rfl sizeOf3 rfl) ?_
     refine J.p rfl (Q.ldI isAgg3 rfl) ?_
     refine J.p rfl (Q.neq rfl rfl) <| J.p rfl (Q.pick_f rfl rfl) <| J.m rfl ?_
     refine J.kases 41 rfl (fun hb41 => ?_) (fun hb41 => ?_)
     ·
      try (first | (cases hb41; done) | (exfalso; omega))
      all_goals
       refine J.k rfl <| J.k rfl <| J.k rfl <| J.p rfl (Q.pick_t rfl rfl) <| J.nil <| J.then_n <| J.cond_t rfl <| J.seq <| J.region <| J.p rfl (Q.bld (l := [_, _, _, _, _, _, _, _, _]) runUnderlying33 zeroValue33 places33 rfl rfl) ?_
       refine J.stAJ (vs := [_, _, _, _, _, _, _, _, _]) rfl sizeOf33 rfl rfl ?_
       refine J.p rfl (Q.asg rfl) <| J.nil <| J.then_n <| J.cret <| J.then_r ?_
       exact J.retC2I (vs := PX.cells ⟨bk, ky, 3, k, m, data.length, cr, .slice p n c⟩) [own 3 1 (.slice p n c) (intsL n), GN, G] rfl rfl rfl isAgg33 sizeOf33 rnI ⟨p, c, cr, hcr, hcr2, rfl, rfl⟩
     try (first | (cases hb41; done) | (exfalso; omega))
     all_goals
      refine J.m rfl <| J.p rfl (Q.lenSl runUnderlying22 rfl) <| J.p rfl (Q.gtr rfl rfl) <| J.p rfl (Q.pick_f rfl rfl) <| J.nil <| J.then_n ?_
      refine J.kases 45 rfl (fun hc45 => ?_) (fun hc45 => ?_)
      ·
       try (first | (cases hc45; done) | (exfalso; omega))
       all_goals
        refine J.cond_t rfl <| J.seq <| J.region <| J.p rfl (Q.bld (l := [_, _, _, _, _, _, _, _, _]) runUnderlying33 zeroValue33 places33 rfl rfl) ?_
        refine J.stAJ (vs := [_, _, _, _, _, _, _, _, _]) rfl sizeOf33 rfl rfl ?_
        refine J.p rfl (Q.asg rfl) <| J.nil <| J.then_n <| J.cret <| J.then_r ?_
        exact J.retC2I (vs := PX.cells ⟨bk, ky, 3, k, m, data.length, cr, .slice p n c⟩) [own 3 1 (.slice p n c) (intsL n), GN, G] rfl rfl rfl isAgg33 sizeOf33 rnI ⟨p, c, cr, hcr, hcr2, rfl, rfl⟩
      try (first | (cases hc45; done) | (exfalso; omega))
      all_goals
       refine J.cond_f rfl <| J.cskip <| J.then_n <| J.seq ?_
       refine J.pickI [pt b5 (.cells [.string bk, .string ky, .int .u64 (3 : Nat), .int .i64 data.length].toArray 37 (0, 0))] ?_
       refine J.norm rfl ?_
       refine J.drawE [13, 14, 16, 18, 19] 1 Tryz.mixed (by kernel_rfl) rfl rfl fun hR => ?_
       refine RG.p 0 hR rfl (Q.fa (n := 0) runUnderlying37 rfl rfl sizeOf9 rfl) ?_
       refine RG.p 1 hR rfl (Q.ldI isAgg9 rfl) ?_
       refine RG.p 2 hR rfl (Q.fa (n := 1) runUnderlying37 rfl rfl sizeOf9 rfl) ?_
       refine RG.p 3 hR rfl (Q.ldI isAgg9 rfl) ?_
       refine RG.p 4 hR rfl (Q.fa (n := 2) runUnderlying37 rfl rfl sizeOf30 rfl) ?_
       refine RG.p 5 hR rfl (Q.ldI isAgg30 rfl) ?_
       refine RG.p 6 hR rfl (Q.fa (n := 2) runUnderlying37 rfl rfl sizeOf30 rfl) ?_
       refine RG.p 7 hR rfl (Q.ldI isAgg30 rfl) ?_
       refine RG.p 8 hR rfl (Q.mv rfl) <| RG.p 9 hR rfl (Q.mv rfl) <| RG.p 10 hR rfl (Q.fa (n := 3) runUnderlying37 rfl rfl sizeOf3 rfl) ?_
       refine RG.p 11 hR rfl (Q.ldI isAgg3 rfl) ?_
       refine RG.p 12 hR rfl (Q.mv rfl) <| RG.p 15 hR rfl (Q.mv rfl) ?_
       refine RG.made 13 hR rfl rfl rfl rfl rfl (C.bslG (l := [.slice dp data.length dc]) runUnderlying45 sizeOf22 zeroValue22 (by decide) rfl rfl rfl rfl rfl) ?_
       rintro b60
       refine RG.callkI 14 hR rfl rfl rfl rfl rfl call23 (sum_spec G dp dc data hd (by omega) b60) rfl ?_
       rintro _ _ ⟨rfl, rfl⟩
       refine RG.normE rfl ?_
       refine RG.slot 61 (.int .u32 (cr : Int)) rfl (congrArg _ hcr) ?_
       refine RG.callkI 16 hR rfl rfl rfl rfl rfl call24 (cloneI_spec GN np n nc (intsL n) (by omega) hN (by simp [intsL, oneC]) (by omega)) rfl ?_
       rintro _ _ ⟨p, c, rfl, rfl⟩
       refine RG.normE rfl <| RG.p 17 hR rfl (Q.bld (l := PX.cells ⟨bk, ky, 3, k, m, data.length, cr, .slice p n c⟩) runUnderlying33 zeroValue33 places33 rfl (by kernel_rfl)) ?_
       refine RG.stAI (vs := PX.cells ⟨bk, ky, 3, k, m, data.length, cr, .slice p n c⟩) 18 hR rfl rfl rfl rfl rfl sizeOf33 rfl rfl (by exact rfl) (by exact rfl) (by exact rfl) ?_
       refine RG.bar 19 hR rfl rfl rfl rfl rfl rfl (Q.asg rfl).toC ?_
       rintro _ _ ⟨rfl, rfl⟩
       refine RG.norm rfl ?_
       refine RG.fin hR rfl ?_
       refine J.norm rfl <| J.then_n <| J.cret ?_
       exact J.retC2I (vs := PX.cells ⟨bk, ky, 3, k, m, data.length, cr, .slice p n c⟩) [own 3 1 (.slice p n c) (intsL n), GN, G] rfl rfl rfl isAgg33 sizeOf33 rnI ⟨p, c, cr, hcr, hcr2, rfl, rfl⟩

section
variable (x : PX) (hx : x.ok) (n : Nat) (hn : n = x.k + x.m) (hn15 : n < 15) (np : Option Addr) (nc : Nat) (hnv : x.nv = .slice np n nc) (Gl GN : Assn) (hname : NameOK Gl) (hN : SlR [GN] 1 (.slice np n nc) (intsL n))
  (data : List U) (hsz : data.length = x.sz) (hsum : crcL data = (x.sum : Int)) (pres : Nat → Bool) (G : Assn) (fp : Option Addr) (fc : Nat) (fs : List RowH) (hfs : fs.map RowH.bs = filesL x (fullL x.k x.m (dataL x.k data)) pres n)
  (hf : SlR [G] 1 (.slice fp n fc) (fs.map RowH.val)) (hfr : ∀ r, r ∈ fs → SlR [G] 1 r.val (bytesV r.bs) ∧ r.bs.length ≤ r.c)
include hx hn hn15 hnv hname hN hsz hsum hfs hf hfr
theorem mend_spec (hc : x.k ≤ (presL pres n).length) : FSpec Tryz.prog 12 [.agg x.cells.toArray, .slice fp n fc] [Gl, GN, G]
    (fun v B => ∃ (q : Option Addr) (d : Nat) (zs : List SHR), v = .tuple #[.slice q (zs.filter fun z => !pres z.i).length d, .int .i64 0] ∧ zs.map SHR.ib = stripeL x (fullL x.k x.m (dataL x.k data)) n ∧
      B = [own 87 4 (.slice q (zs.filter fun z => !pres z.i).length d) ((zs.filter fun z => !pres z.i).flatMap SHR.cells), star (zs.map SHR.asn), Gl, GN, G]) := by
  refine FSpec.of func12 rfl ntmps12 rfl fun W0 F => ?_
  refine J.seq ?_
  have hk0 := hx.k0
  have hkm := hx.km
  have hxs := hx.sz
  have hfull := full_of x hx n hn data hsz hsum pres G fp fc fs hfs hf hfr
  have hs1 := shLen_ge (k := x.k) (n := x.sz)
  have hs2 := shLen_lt (k := x.k) (n := x.sz)
  refine J.region ?_
  refine J.c rfl rfl (C.box (l := [_, _, _, _, _, _, _, _, _]) rfl rfl) ?_
  rintro _ _ ⟨b2, rfl, rfl⟩
  refine J.norm rfl <| J.p rfl (Q.asg rfl) <| J.p rfl (Q.asg rfl) <| J.nil <| J.then_n <| J.seq <| J.seq <| J.region ?_
  refine J.p rfl (Q.ldN (vs := x.cells) isAgg33 sizeOf33 rfl rnI) ?_
  refine J.m rfl ?_
  refine J.callI call10 (gather_ok x hx n hn data hsz hsum pres G fp fc fs hfs hf hfr hc) rfl rfl rfl ?_
  rintro _ _ ⟨gp0, gc0, rfl, rfl⟩
  refine J.norm rfl <| J.m rfl <| J.p rfl (Q.ext rfl rfl) <| J.p rfl (Q.ext rfl rfl) <| J.p rfl (Q.asg rfl) <| J.p rfl (Q.asg rfl) <| J.nil <| J.then_n <| J.seq <| J.region <| J.m rfl <| J.p rfl (Q.neq rfl rfl) <| J.nil <| J.then_n ?_
  refine J.cases 20 rfl (fun hc20 => ?_) (fun hc20 => ?_)
  ·
   have h := X.nm hc20; exact absurd rfl h
  replace hc20 := X.nm hc20
  try (first | (cases hc20; done) | (exfalso; omega))
  all_goals
   refine J.cond_f rfl <| J.cskip <| J.then_n <| J.seq <| J.seq <| J.region <| J.p rfl (Q.fa (n := 8) runUnderlying33 rfl rfl sizeOf23 rfl) ?_
   refine J.p rfl (Q.ld isAgg23 rfl (rdI (by exact congrArg some hnv))) ?_
   refine J.p rfl (Q.lenSl runUnderlying23 rfl) <| J.p rfl (Q.fa (n := 4) runUnderlying33 rfl rfl sizeOf3 rfl) ?_
   refine J.p rfl (Q.ldI isAgg3 rfl) ?_
   refine J.p rfl (Q.fa (n := 5) runUnderlying33 rfl rfl sizeOf3 rfl) ?_
   refine J.p rfl (Q.ldI isAgg3 rfl) ?_
   refine J.p rfl (Q.add64 rfl rfl (by omega)) <| J.p rfl (Q.neq rfl rfl) <| J.nil <| J.then_n ?_
   refine J.cases 30 rfl (fun hc30 => ?_) (fun hc30 => ?_)
   ·
    have h := X.nm hc30; exfalso; omega
   replace hc30 := X.nm hc30
   try (first | (cases hc30; done) | (exfalso; omega))
   all_goals
    refine J.cond_f rfl <| J.cskip <| J.then_n <| J.seq <| J.region <| J.p rfl (Q.fa (n := 4) runUnderlying33 rfl rfl sizeOf3 rfl) ?_
    refine J.p rfl (Q.ldI isAgg3 rfl) ?_
    refine J.p rfl (Q.fa (n := 5) runUnderlying33 rfl rfl sizeOf3 rfl) ?_
    refine J.p rfl (Q.ldI isAgg3 rfl) ?_
    refine J.callI call15 (new_spec x.k x.m hk0 hkm) rfl rfl rfl ?_
    rintro _ _ ⟨cb, rfl, rfl⟩
    refine J.norm rfl <| J.m rfl <| J.p rfl (Q.ext rfl rfl) <| J.p rfl (Q.ext rfl rfl) <| J.p rfl (Q.asg rfl) <| J.p rfl (Q.asg rfl) <| J.nil <| J.then_n <| J.seq <| J.region ?_
    refine J.p rfl (Q.ldN (vs := x.cells) isAgg33 sizeOf33 rfl rnI) ?_
    refine J.m rfl ?_
    refine J.callI call32 (good_spec x hx (fullL x.k x.m (dataL x.k data)) pres n hn hfull G fp fc fs hfs hf hfr) rfl rfl rfl ?_
    rintro _ _ ⟨gp, gc, gs, rfl, hgs, rfl⟩
    refine J.norm rfl ?_
    refine J.shutI [own 22 1 (.slice gp n gc) (gs.map RowH.val), star (gs.map RowH.asn)] (rowsG 22 gp n gc gs) (fun h s => s) ?_
    refine J.tellsI (rowsG 22 gp n gc gs) rowsG_read fun hrr => ?_
    obtain ⟨gb, go, rfl, _⟩ := hrr.outer.some_ (by omega)
    have hgl : gs.length = x.k + x.m := by have := congrArg List.length hgs; rw [goodL_len] at this; rw [← hn]; simpa using this
    refine J.c rfl rfl (C.alloc (l := [_]) zeroValue45 rfl) ?_
    rintro _ _ ⟨b10, rfl, rfl⟩
    refine J.norm rfl ?_
    refine J.stJ rfl sizeOf45 rfl rfl rfl ?_
    refine J.nil <| J.then_n <| J.seq <| J.region <| J.m rfl ?_
    refine J.p rfl (Q.ldI isAgg45 rfl) ?_
    have hcap := hrr.cap
    have hcnt := good_count hfull (by omega) hgs
    rw [hn] at hcnt
    have hdr := dataL_rect (k := x.k) (data := data) hk0
    rw [hsz] at hdr
    refine J.slot 44 (.slice (some ⟨gb, go, none⟩) (x.k + x.m) gc) rfl (by rw [hn]) ?_
    refine J.callI call37 (repair_spec cb x.k x.m (shLen x.k x.sz) hk0 hkm hs1 (by omega) (dataL x.k data) hdr (rowsG 22 (some ⟨gb, go, none⟩) n gc gs) (some ⟨gb, go, none⟩) gc (by omega) gs hgl (by rw [← hn]; exact hrr.outer) hrr.rows (good_is hfull hgs) (by rw [hcnt, ← hn]; exact hc)) rfl rfl rfl ?_
    rintro _ _ ⟨ap, ac, rfl, rfl⟩
    refine J.norm rfl ?_
    refine J.slot 45 (.tuple #[.slice ap n ac, .int .i64 0]) rfl (by rw [hn]) ?_
    refine J.m rfl <| J.p rfl (Q.ext rfl rfl) <| J.p rfl (Q.ext rfl rfl) <| J.p rfl (Q.asg rfl) <| J.p rfl (Q.asg rfl) <| J.nil <| J.then_n <| J.seq <| J.region ?_
    refine J.p rfl (Q.ldN (vs := x.cells) isAgg33 sizeOf33 rfl rnI) ?_
    refine J.m rfl ?_
    refine J.callI call26 (shardsM_spec x hx n hn hn15 np nc hnv Gl GN hname hN (fullL x.k x.m (dataL x.k data)) hfull ap ac) rfl rfl rfl ?_
    rintro _ _ ⟨q, d, zs, X0, rfl, hzs, rfl⟩
    refine J.norm rfl ?_
    have hzl : zs.length = n := by have := congrArg List.length hzs; simpa [stripeL] using this
    refine J.slrI (E0 := 87) (sz := 4) (p := q) (n := n) (c := d) (xs := zs.flatMap SHR.cells) fun hzr => ?_
    obtain ⟨zb, zo, rfl, _⟩ := hzr.some_ (by omega)
    have hzi : ∀ z, z ∈ zs → z.i < n := fun z hz => by
     have : z.ib ∈ stripeL x (fullL x.k x.m (dataL x.k data)) n := hzs ▸ List.mem_map_of_mem hz
     simp only [stripeL, List.mem_map, List.mem_range] at this
     obtain ⟨i, h1, h2⟩ := this
     have := congrArg Prod.fst h2
     simp only [SHR.ib] at this
     omega
    refine J.shutI [slAt 45 b10 (.slice (some ⟨gb, go, none⟩) n gc), rowsG 22 (some ⟨gb, go, none⟩) n gc gs] (star [slAt 45 b10 (.slice (some ⟨gb, go, none⟩) n gc), rowsG 22 (some ⟨gb, go, none⟩) n gc gs]) (fun h s => s) ?_
    refine J.p rfl (Q.func rfl rfl) ?_
    refine J.callI call38 (deleteS_spec (star [slAt 45 b10 (.slice (some ⟨gb, go, none⟩) n gc), rowsG 22 (some ⟨gb, go, none⟩) n gc gs]) zb zo n d zs hzl (by omega) 39 [.pointer (some ⟨b10, 0, none⟩)] (fun z => pres z.i) call39 (fun z hz => mend1_spec (rowsG 22 (some ⟨gb, go, none⟩) n gc gs) b10 gb go n gc gs (by omega) hrr.outer z (hzi z hz) (pres z.i) (fun r hr => by have h1 := good_pres hfull (by omega) hgs (hzi z hz); rw [presB, rowAt_some hr] at h1; exact h1.symm))) rfl rfl rfl ?_
    rintro _ _ ⟨rfl, rfl⟩
    refine J.norm rfl <| J.p rfl (Q.asg rfl) <| J.p rfl (Q.asg rfl) <| J.nil <| J.then_n <| J.cret ?_
    exact J.ret2I [own 87 4 (.slice (some ⟨zb, zo, none⟩) (zs.filter fun z => !pres z.i).length d) ((zs.filter fun z => !pres z.i).flatMap SHR.cells), star (zs.map SHR.asn), Gl, GN, G] rfl rfl rfl ⟨_, _, zs, rfl, hzs, rfl⟩
end
end Go.Proofs.YtblpcabdfbpcnaaGreatDoor
namespace Go.Proofs.YtblpcabdfbpcnaaGreatDoor.Dk
open Go.X Go.X.T

def nameCh (c : UInt8) : Bool := (decide (97 ≤ c.toNat) && decide (c.toNat ≤ 122)) || (decide (48 ≤ c.toNat) && decide (c.toNat ≤ 57)) || decide (c.toNat = 45) || decide (c.toNat = 46)
def nameOK (s : List UInt8) : Bool := decide (1 ≤ s.length) && decide (s.length ≤ 64) && s.all nameCh

theorem nameCh_iff (c : UInt8) : nameCh c = true ↔ ((97 ≤ (c.toNat : Int) ∧ (c.toNat : Int) ≤ 122) ∨ (48 ≤ (c.toNat : Int) ∧ (c.toNat : Int) ≤ 57) ∨ (c.toNat : Int) = 45 ∨ (c.toNat : Int) = 46) := by
  simp only [nameCh, Bool.or_eq_true, Bool.and_eq_true, decide_eq_true_eq]; omega
theorem nameCh_not (c : UInt8) : nameCh c = false ↔ ¬ ((97 ≤ (c.toNat : Int) ∧ (c.toNat : Int) ≤ 122) ∨ (48 ≤ (c.toNat : Int) ∧ (c.toNat : Int) ≤ 57) ∨ (c.toNat : Int) = 45 ∨ (c.toNat : Int) = 46) := by
  rw [← nameCh_iff]; simp
theorem all_take_succ {l : List UInt8} {k : Nat} {c : UInt8} (h : (l.take k).all nameCh = true) (hc : l[k]? = some c) (hk : nameCh c = true) : (l.take (k + 1)).all nameCh = true := by
  obtain ⟨h1, h2⟩ := List.getElem?_eq_some_iff.1 hc
  rw [List.take_succ_eq_append_getElem h1, List.all_append, h, h2]; simp [hk]
theorem nameOK_short {l : List UInt8} (h : l.length < 1) : nameOK l = false := by
  have : ¬ 1 ≤ l.length := by omega
  simp only [nameOK, this, decide_false, Bool.false_and]
theorem nameOK_long {l : List UInt8} (h : 64 < l.length) : nameOK l = false := by
  have : ¬ l.length ≤ 64 := by omega
  simp only [nameOK, this, decide_false, Bool.false_and, Bool.and_false]
theorem nameOK_bad {l : List UInt8} {k : Nat} {c : UInt8} (hc : l[k]? = some c) (hk : nameCh c = false) : nameOK l = false := by
  have : l.all nameCh = false := by
    cases h : l.all nameCh with
    | false => rfl
    | true => rw [List.all_eq_true] at h; have := h c (List.mem_of_getElem? hc); rw [hk] at this; cases this
  simp [nameOK, this]
theorem nameOK_good {l : List UInt8} (h1 : 1 ≤ l.length) (h2 : l.length ≤ 64) (h3 : l.all nameCh = true) : nameOK l = true := by
  simp only [nameOK, h1, h2, h3, decide_true, Bool.and_self]

theorem name_spec (s : ByteArray) (hs : s.size ≤ 140737488355328) : FSpec Tryz.prog 60 [.string s] [] (fun v B => v = .bool (nameOK s.data.toList) ∧ B = []) := by
  have hlen : s.data.toList.length = s.size := by simp
  refine FSpec.of Tryz.func60 rfl Tryz.ntmps60 rfl fun W0 F => ?_
  refine J.seq <| J.region <| J.p rfl (Q.asg rfl) <| J.nil <| J.then_n <| J.seq <| J.seq <| J.region <| J.m rfl <| J.p rfl (Q.lenS Tryz.runUnderlying9 rfl) <| J.p rfl (Q.lss rfl rfl) <| J.m rfl ?_
  refine J.kases 8 rfl (fun hb8 => ?_) (fun hb8 => ?_)
  ·
   refine J.k rfl <| J.k rfl <| J.k rfl <| J.p rfl (Q.pick_t rfl rfl) <| J.nil <| J.then_n <| J.cond_t rfl <| J.seq <| J.region <| J.p rfl (Q.asg rfl) <| J.nil <| J.then_n <| J.cret <| J.then_r ?_
   refine J.ret1 (B := []) rfl rfl ⟨?_, rfl⟩ rfl
   rw [nameOK_short (l := s.data.toList) (by omega)]
  refine J.m rfl <| J.p rfl (Q.lenS Tryz.runUnderlying9 rfl) <| J.p rfl (Q.gtr rfl rfl) <| J.p rfl (Q.pick_f rfl rfl) <| J.nil <| J.then_n ?_
  refine J.kases 12 rfl (fun hc12 => ?_) (fun hc12 => ?_)
  ·
   refine J.cond_t rfl <| J.seq <| J.region <| J.p rfl (Q.asg rfl) <| J.nil <| J.then_n <| J.cret <| J.then_r ?_
   refine J.ret1 (B := []) rfl rfl ⟨?_, rfl⟩ rfl
   rw [nameOK_long (l := s.data.toList) (by omega)]
  refine J.cond_f rfl <| J.cskip <| J.then_n <| J.seq <| J.seq <| J.region <| J.m rfl <| J.p rfl (Q.lenS Tryz.runUnderlying9 rfl) <| J.m rfl <| J.nil <| J.then_n <| J.block ?_
  refine J.loop (fun k : Nat => k ≤ s.size ∧ (s.data.toList.take k).all nameCh = true) (fun k => s.size - k) (fun k => [(0, .string s), (14, .int .i64 s.size), (15, .int .i64 k)]) (fun _ => [F]) 0 ⟨by omega, rfl⟩ ⟨rfl, rfl, rfl, trivial⟩ rfl fun k hk => ?_
  obtain ⟨hk, hall⟩ := hk
  refine J.seq <| J.region <| J.p rfl (Q.lss rfl rfl) <| J.nil <| J.then_n <| J.seq ?_
  refine J.kases 16 rfl (fun hc16 => ?_) (fun hc16 => ?_)
  ·
   have hlt : k < s.size := by omega
   refine J.cond_t rfl <| J.cskip <| J.then_n <| J.seq <| J.block <| J.seq <| J.region <| J.m rfl <| J.p rfl (Q.asg rfl) <| J.nil <| J.then_n <| J.seq <| J.region <| J.m rfl <| J.m rfl ?_
   obtain ⟨c, hc⟩ : ∃ c, s.data.toList[((k : Int)).toNat]? = some c := ⟨_, List.getElem?_eq_getElem (by simp only [Int.toNat_natCast]; omega)⟩
   refine J.p rfl (Q.idxs Tryz.runUnderlying9 rfl rfl (by omega) hc) <| J.p rfl (Q.asg rfl) <| J.nil <| J.then_n <| J.seq <| J.region <| J.m rfl <| J.p rfl (Q.geq rfl rfl) <| J.m rfl ?_
   refine J.kases 23 rfl (fun hb23 => ?_) (fun hb23 => ?_)
   ·
    refine J.m rfl <| J.p rfl (Q.leq rfl rfl) <| J.p rfl (Q.pick_t rfl rfl) <| J.m rfl ?_
    refine J.kases 27 rfl (fun hb27 => ?_) (fun hb27 => ?_)
    ·
     refine J.k rfl <| J.k rfl <| J.k rfl <| J.k rfl <| J.k rfl <| J.k rfl <| J.p rfl (Q.pick_t rfl rfl) <| J.m rfl <| J.k rfl <| J.k rfl <| J.p rfl (Q.pick_t rfl rfl) <| J.m rfl <| J.k rfl <| J.k rfl <| J.p rfl (Q.pick_t rfl rfl) <| J.p rfl (Q.not rfl) <| J.nil <| J.then_n <| J.cond_f rfl <| J.cskip ?_
     refine J.blk_n <| J.then_n <| J.region <| J.p rfl (Q.add64 rfl rfl (by omega)) <| J.m rfl <| J.nil ?_
     have hck : nameCh c = true := by rw [nameCh_iff]; omega
     refine J.again (k + 1) ⟨by omega, all_take_succ hall (by simpa using hc) hck⟩ (by omega) ⟨rfl, rfl, rfl, trivial⟩ rfl
    refine J.m rfl <| J.p rfl (Q.geq rfl rfl) <| J.m rfl ?_
    refine J.kases 30 rfl (fun hb30 => ?_) (fun hb30 => ?_)
    ·
     refine J.m rfl <| J.p rfl (Q.leq rfl rfl) <| J.p rfl (Q.pick_t rfl rfl) <| J.p rfl (Q.pick_f rfl rfl) <| J.m rfl ?_
     refine J.kases 35 rfl (fun hb35 => ?_) (fun hb35 => ?_)
     ·
      refine J.k rfl <| J.k rfl <| J.p rfl (Q.pick_t rfl rfl) <| J.m rfl <| J.k rfl <| J.k rfl <| J.p rfl (Q.pick_t rfl rfl) <| J.p rfl (Q.not rfl) <| J.nil <| J.then_n <| J.cond_f rfl <| J.cskip <| J.blk_n <| J.then_n <| J.region <| J.p rfl (Q.add64 rfl rfl (by omega)) <| J.m rfl <| J.nil ?_
      have hck : nameCh c = true := by rw [nameCh_iff]; omega
      refine J.again (k + 1) ⟨by omega, all_take_succ hall (by simpa using hc) hck⟩ (by omega) ⟨rfl, rfl, rfl, trivial⟩ rfl
     refine J.m rfl <| J.p rfl (Q.eql rfl rfl) <| J.p rfl (Q.pick_f rfl rfl) <| J.m rfl ?_
     refine J.kases 39 rfl (fun hb39 => ?_) (fun hb39 => ?_)
     ·
      refine J.k rfl <| J.k rfl <| J.p rfl (Q.pick_t rfl rfl) <| J.p rfl (Q.not rfl) <| J.nil <| J.then_n <| J.cond_f rfl <| J.cskip <| J.blk_n <| J.then_n <| J.region <| J.p rfl (Q.add64 rfl rfl (by omega)) <| J.m rfl <| J.nil ?_
      have hck : nameCh c = true := by rw [nameCh_iff]; omega
      refine J.again (k + 1) ⟨by omega, all_take_succ hall (by simpa using hc) hck⟩ (by omega) ⟨rfl, rfl, rfl, trivial⟩ rfl
     refine J.m rfl <| J.p rfl (Q.eql rfl rfl) <| J.p rfl (Q.pick_f rfl rfl) <| J.p rfl (Q.not rfl) <| J.nil <| J.then_n ?_
     refine J.kases 43 rfl (fun hc43 => ?_) (fun hc43 => ?_)
     ·
      refine J.cond_t rfl <| J.seq <| J.region <| J.p rfl (Q.asg rfl) <| J.nil <| J.then_n <| J.cret <| J.blk_r <| J.then_r <| J.lp_r <| J.blk_r <| J.then_r ?_
      first
        | (have hck : nameCh c = false := by rw [nameCh_not]; omega
           refine J.ret1 (B := []) rfl rfl ⟨?_, rfl⟩ rfl
           rw [nameOK_bad (by simpa using hc) hck])
        | (refine J.ret1 (B := []) rfl rfl ⟨?_, rfl⟩ rfl
           rw [nameOK_good (by omega) (by omega) (by rw [← hall, hge, List.take_of_length_le (by omega)])])
     refine J.cond_f rfl <| J.cskip <| J.blk_n <| J.then_n <| J.region <| J.p rfl (Q.add64 rfl rfl (by omega)) <| J.m rfl <| J.nil ?_
     have hck : nameCh c = true := by rw [nameCh_iff]; omega
     refine J.again (k + 1) ⟨by omega, all_take_succ hall (by simpa using hc) hck⟩ (by omega) ⟨rfl, rfl, rfl, trivial⟩ rfl
    refine J.k rfl <| J.k rfl <| J.p rfl (Q.pick_f rfl rfl) <| J.p rfl (Q.pick_f rfl rfl) <| J.m rfl <| J.m rfl <| J.p rfl (Q.eql rfl rfl) <| J.p rfl (Q.pick_f rfl rfl) <| J.m rfl ?_
    refine J.kases 39 rfl (fun hb39 => ?_) (fun hb39 => ?_)
    ·
     refine J.k rfl <| J.k rfl <| J.p rfl (Q.pick_t rfl rfl) <| J.p rfl (Q.not rfl) <| J.nil <| J.then_n <| J.cond_f rfl <| J.cskip <| J.blk_n <| J.then_n <| J.region <| J.p rfl (Q.add64 rfl rfl (by omega)) <| J.m rfl <| J.nil ?_
     have hck : nameCh c = true := by rw [nameCh_iff]; omega
     refine J.again (k + 1) ⟨by omega, all_take_succ hall (by simpa using hc) hck⟩ (by omega) ⟨rfl, rfl, rfl, trivial⟩ rfl
    refine J.m rfl <| J.p rfl (Q.eql rfl rfl) <| J.p rfl (Q.pick_f rfl rfl) <| J.p rfl (Q.not rfl) <| J.nil <| J.then_n ?_
    refine J.kases 43 rfl (fun hc43 => ?_) (fun hc43 => ?_)
    ·
     refine J.cond_t rfl <| J.seq <| J.region <| J.p rfl (Q.asg rfl) <| J.nil <| J.then_n <| J.cret <| J.blk_r <| J.then_r <| J.lp_r <| J.blk_r <| J.then_r ?_
     first
       | (have hck : nameCh c = false := by rw [nameCh_not]; omega
          refine J.ret1 (B := []) rfl rfl ⟨?_, rfl⟩ rfl
          rw [nameOK_bad (by simpa using hc) hck])
       | (refine J.ret1 (B := []) rfl rfl ⟨?_, rfl⟩ rfl
          rw [nameOK_good (by omega) (by omega) (by rw [← hall, hge, List.take_of_length_le (by omega)])])
    refine J.cond_f rfl <| J.cskip <| J.blk_n <| J.then_n <| J.region <| J.p rfl (Q.add64 rfl rfl (by omega)) <| J.m rfl <| J.nil ?_
    have hck : nameCh c = true := by rw [nameCh_iff]; omega
    refine J.again (k + 1) ⟨by omega, all_take_succ hall (by simpa using hc) hck⟩ (by omega) ⟨rfl, rfl, rfl, trivial⟩ rfl
   refine J.k rfl <| J.k rfl <| J.p rfl (Q.pick_f rfl rfl) <| J.m rfl <| J.m rfl <| J.p rfl (Q.geq rfl rfl) <| J.m rfl ?_
   refine J.kases 30 rfl (fun hb30 => ?_) (fun hb30 => ?_)
   ·
    refine J.m rfl <| J.p rfl (Q.leq rfl rfl) <| J.p rfl (Q.pick_t rfl rfl) <| J.p rfl (Q.pick_f rfl rfl) <| J.m rfl ?_
    refine J.kases 35 rfl (fun hb35 => ?_) (fun hb35 => ?_)
    ·
     refine J.k rfl <| J.k rfl <| J.p rfl (Q.pick_t rfl rfl) <| J.m rfl <| J.k rfl <| J.k rfl <| J.p rfl (Q.pick_t rfl rfl) <| J.p rfl (Q.not rfl) <| J.nil <| J.then_n <| J.cond_f rfl <| J.cskip <| J.blk_n <| J.then_n <| J.region <| J.p rfl (Q.add64 rfl rfl (by omega)) <| J.m rfl <| J.nil ?_
     have hck : nameCh c = true := by rw [nameCh_iff]; omega
     refine J.again (k + 1) ⟨by omega, all_take_succ hall (by simpa using hc) hck⟩ (by omega) ⟨rfl, rfl, rfl, trivial⟩ rfl
    refine J.m rfl <| J.p rfl (Q.eql rfl rfl) <| J.p rfl (Q.pick_f rfl rfl) <| J.m rfl ?_
    refine J.kases 39 rfl (fun hb39 => ?_) (fun hb39 => ?_)
    ·
     refine J.k rfl <| J.k rfl <| J.p rfl (Q.pick_t rfl rfl) <| J.p rfl (Q.not rfl) <| J.nil <| J.then_n <| J.cond_f rfl <| J.cskip <| J.blk_n <| J.then_n <| J.region <| J.p rfl (Q.add64 rfl rfl (by omega)) <| J.m rfl <| J.nil ?_
     have hck : nameCh c = true := by rw [nameCh_iff]; omega
     refine J.again (k + 1) ⟨by omega, all_take_succ hall (by simpa using hc) hck⟩ (by omega) ⟨rfl, rfl, rfl, trivial⟩ rfl
    refine J.m rfl <| J.p rfl (Q.eql rfl rfl) <| J.p rfl (Q.pick_f rfl rfl) <| J.p rfl (Q.not rfl) <| J.nil <| J.then_n ?_
    refine J.kases 43 rfl (fun hc43 => ?_) (fun hc43 => ?_)
    ·
     refine J.cond_t rfl <| J.seq <| J.region <| J.p rfl (Q.asg rfl) <| J.nil <| J.then_n <| J.cret <| J.blk_r <| J.then_r <| J.lp_r <| J.blk_r <| J.then_r ?_
     first
       | (have hck : nameCh c = false := by rw [nameCh_not]; omega
          refine J.ret1 (B := []) rfl rfl ⟨?_, rfl⟩ rfl
          rw [nameOK_bad (by simpa using hc) hck])
       | (refine J.ret1 (B := []) rfl rfl ⟨?_, rfl⟩ rfl
          rw [nameOK_good (by omega) (by omega) (by rw [← hall, hge, List.take_of_length_le (by omega)])])
    refine J.cond_f rfl <| J.cskip <| J.blk_n <| J.then_n <| J.region <| J.p rfl (Q.add64 rfl rfl (by omega)) <| J.m rfl <| J.nil ?_
    have hck : nameCh c = true := by rw [nameCh_iff]; omega
    refine J.again (k + 1) ⟨by omega, all_take_succ hall (by simpa using hc) hck⟩ (by omega) ⟨rfl, rfl, rfl, trivial⟩ rfl
   refine J.k rfl <| J.k rfl <| J.p rfl (Q.pick_f rfl rfl) <| J.p rfl (Q.pick_f rfl rfl) <| J.m rfl <| J.m rfl <| J.p rfl (Q.eql rfl rfl) <| J.p rfl (Q.pick_f rfl rfl) <| J.m rfl ?_
   refine J.kases 39 rfl (fun hb39 => ?_) (fun hb39 => ?_)
   ·
    refine J.k rfl <| J.k rfl <| J.p rfl (Q.pick_t rfl rfl) <| J.p rfl (Q.not rfl) <| J.nil <| J.then_n <| J.cond_f rfl <| J.cskip <| J.blk_n <| J.then_n <| J.region <| J.p rfl (Q.add64 rfl rfl (by omega)) <| J.m rfl <| J.nil ?_
    have hck : nameCh c = true := by rw [nameCh_iff]; omega
    refine J.again (k + 1) ⟨by omega, all_take_succ hall (by simpa using hc) hck⟩ (by omega) ⟨rfl, rfl, rfl, trivial⟩ rfl
   refine J.m rfl <| J.p rfl (Q.eql rfl rfl) <| J.p rfl (Q.pick_f rfl rfl) <| J.p rfl (Q.not rfl) <| J.nil <| J.then_n ?_
   refine J.kases 43 rfl (fun hc43 => ?_) (fun hc43 => ?_)
   ·
    refine J.cond_t rfl <| J.seq <| J.region <| J.p rfl (Q.asg rfl) <| J.nil <| J.then_n <| J.cret <| J.blk_r <| J.then_r <| J.lp_r <| J.blk_r <| J.then_r ?_
    first
      | (have hck : nameCh c = false := by rw [nameCh_not]; omega
         refine J.ret1 (B := []) rfl rfl ⟨?_, rfl⟩ rfl
         rw [nameOK_bad (by simpa using hc) hck])
      | (refine J.ret1 (B := []) rfl rfl ⟨?_, rfl⟩ rfl
         rw [nameOK_good (by omega) (by omega) (by rw [← hall, hge, List.take_of_length_le (by omega)])])
   refine J.cond_f rfl <| J.cskip <| J.blk_n <| J.then_n <| J.region <| J.p rfl (Q.add64 rfl rfl (by omega)) <| J.m rfl <| J.nil ?_
   have hck : nameCh c = true := by rw [nameCh_iff]; omega
   refine J.again (k + 1) ⟨by omega, all_take_succ hall (by simpa using hc) hck⟩ (by omega) ⟨rfl, rfl, rfl, trivial⟩ rfl
  have hge : k = s.size := by omega
  refine J.cond_f rfl <| J.exit <| J.then_x <| J.lp_x <| J.blk_x <| J.then_n <| J.seq <| J.region <| J.p rfl (Q.asg rfl) <| J.nil <| J.then_n <| J.cret ?_
  first
    | (have hck : nameCh c = false := by rw [nameCh_not]; omega
       refine J.ret1 (B := []) rfl rfl ⟨?_, rfl⟩ rfl
       rw [nameOK_bad (by simpa using hc) hck])
    | (refine J.ret1 (B := []) rfl rfl ⟨?_, rfl⟩ rfl
       rw [nameOK_good (by omega) (by omega) (by rw [← hall, hge, List.take_of_length_le (by omega)])])

end Go.Proofs.YtblpcabdfbpcnaaGreatDoor.Dk
namespace Go.Proofs.YtblpcabdfbpcnaaGreatDoor.Dk
open Go.X Go.X.T

structure FM where
  name : ByteArray
  bs : List UInt8
  sy : Nat

structure DM where
  size : Nat
  born : Nat
  files : List FM

def lenSum : List FM → Nat
  | [] => 0
  | f :: l => f.bs.length + lenSum l

def DM.used (d : DM) : Nat := lenSum d.files

def fget (n : ByteArray) : List FM → Option FM
  | [] => none
  | f :: l => if n = f.name then some f else fget n l
def fset (g : FM) : List FM → List FM
  | [] => []
  | f :: l => if g.name = f.name then g :: l else f :: fset g l
def fdel (n : ByteArray) : List FM → List FM
  | [] => []
  | f :: l => if n = f.name then l else f :: fdel n l

structure DM.wf (d : DM) : Prop where
  names : (d.files.map (·.name)).Nodup
  sy : ∀ f, f ∈ d.files → f.sy ≤ f.bs.length
  used : d.used ≤ d.size
  size : d.size ≤ 1073741824
  born : d.born ≤ 1000000

structure FW where
  f : FM
  p : Nat
  sp : Option Addr
  sc : Nat
  born : Nat

def FW.ptr (x : FW) : Value := .pointer (some ⟨x.p, 0, none⟩)
def FW.sl (x : FW) : Value := .slice x.sp x.f.bs.length x.sc
def FW.ent (x : FW) : MEnt := ⟨x.f.name, x.ptr, x.born⟩
def FW.asns (x : FW) : List Assn := [pt x.p (.cells [x.sl, .int .i64 x.f.sy].toArray 148 (0, 0)), own 5 1 x.sl (bytesV x.f.bs)]
def FW.asn (x : FW) : Assn := star x.asns

structure DW where
  r : Nat
  c : Nat
  fs : List FW

def DW.asns (x : DW) (p : Nat) (d : DM) : List Assn :=
  [pt p (.cells [.int .i64 d.size, .int .i64 d.used, .int .i64 d.born, .map (some x.r)].toArray 78 (0, 0)), pt x.r (mobj (x.fs.map FW.ent) x.c), star (x.fs.map FW.asn)]

structure DW.ok (x : DW) (d : DM) : Prop where
  files : x.fs.map (·.f) = d.files
  nodup : (x.fs.map (·.born)).Nodup
  born : ∀ f, f ∈ x.fs → f.born < x.c

def DiskAt (p : Nat) (d : DM) : Assn := fun h => ∃ x : DW, x.ok d ∧ HSat h (x.asns p d)

theorem DiskAt.open_ {p : Nat} {d : DM} : ∀ h, DiskAt p d h → ∃ x : DW, x.ok d ∧ HSat h (x.asns p d) := fun _ h => h

def kidx (k : ByteArray) : List ByteArray → Option Nat
  | [] => none
  | n :: l => if k = n then some 0 else (kidx k l).map (· + 1)

theorem look (k : ByteArray) : ∀ xs : List FW, (mget k (xs.map FW.ent) = none ∧ fget k (xs.map (·.f)) = none ∧ mdel k (xs.map FW.ent) = xs.map FW.ent ∧ fdel k (xs.map (·.f)) = xs.map (·.f) ∧ kidx k (xs.map (·.f.name)) = none) ∨
    ∃ i x, xs[i]? = some x ∧ x.f.name = k ∧ mget k (xs.map FW.ent) = some x.ptr ∧ fget k (xs.map (·.f)) = some x.f ∧
      (∀ g : FM, g.name = k → fset g (xs.map (·.f)) = (xs.map (·.f)).set i g) ∧ fdel k (xs.map (·.f)) = (xs.map (·.f)).eraseIdx i ∧
      mdel k (xs.map FW.ent) = (xs.map FW.ent).eraseIdx i ∧ (∀ v, mset k v (xs.map FW.ent) = (xs.map FW.ent).set i ⟨k, v, x.born⟩) ∧ kidx k (xs.map (·.f.name)) = some i
  | [] => .inl ⟨rfl, rfl, rfl, rfl, rfl⟩
  | y :: xs => by
    by_cases h : k = y.f.name
    · refine .inr ⟨0, y, rfl, h.symm, ?_, ?_, fun g hg => by simp [fset, hg, h], ?_, ?_, ?_, ?_⟩ <;> simp [mget, fget, fdel, mdel, mset, kidx, FW.ent, h]
    · have e : ¬ k = (FW.ent y).key := h
      rcases look k xs with ⟨h1, h2, h3, h4, h9⟩ | ⟨i, x, h1, h2, h3, h4, h5, h6, h7, h8, h9⟩
      · left; refine ⟨?_, ?_, ?_, ?_, ?_⟩
        · simp only [List.map_cons, mget, e, if_false, h1]
        · simp only [List.map_cons, fget, h, if_false, h2]
        · simp only [List.map_cons, mdel, e, if_false, h3]
        · simp only [List.map_cons, fdel, h, if_false, h4]
        · simp only [List.map_cons, kidx, h, if_false, h9, Option.map_none]
      · right
        refine ⟨i + 1, x, by simpa using h1, h2, ?_, ?_, ?_, ?_, ?_, ?_, by simp only [List.map_cons, kidx, h, if_false, h9, Option.map_some]⟩
        · simp only [List.map_cons, mget, e, if_false, h3]
        · simp only [List.map_cons, fget, h, if_false, h4]
        · intro g hg
          have : ¬ g.name = y.f.name := by rw [hg]; exact h
          simp only [List.map_cons, fset, this, if_false, h5 g hg, List.set_cons_succ]
        · simp only [List.map_cons, fdel, h, if_false, h6, List.eraseIdx_cons_succ]
        · simp only [List.map_cons, mdel, e, if_false, h7, List.eraseIdx_cons_succ]
        · intro v; simp only [List.map_cons, mset, e, if_false, h8 v, List.set_cons_succ]

structure Found (k : ByteArray) (xs : List FW) (i : Nat) (x : FW) : Prop where
  at_ : xs[i]? = some x
  name : x.f.name = k
  mget : mget k (xs.map FW.ent) = some x.ptr
  fget : fget k (xs.map (·.f)) = some x.f
  fset : ∀ g : FM, g.name = k → fset g (xs.map (·.f)) = (xs.map (·.f)).set i g
  fdel : fdel k (xs.map (·.f)) = (xs.map (·.f)).eraseIdx i
  mdel : mdel k (xs.map FW.ent) = (xs.map FW.ent).eraseIdx i
  mset : ∀ v, mset k v (xs.map FW.ent) = (xs.map FW.ent).set i ⟨k, v, x.born⟩
  idx : kidx k (xs.map (·.f.name)) = some i
structure Lost (k : ByteArray) (xs : List FW) : Prop where
  mget : mget k (xs.map FW.ent) = none
  fget : fget k (xs.map (·.f)) = none
  mdel : mdel k (xs.map FW.ent) = xs.map FW.ent
  fdel : fdel k (xs.map (·.f)) = xs.map (·.f)
  idx : kidx k (xs.map (·.f.name)) = none

theorem look' (k : ByteArray) (xs : List FW) : ∃ o : Option Addr, (mget k (xs.map FW.ent)).getD (.pointer none) = .pointer o ∧ ((o = none ∧ Lost k xs) ∨ ∃ i x, o = some ⟨x.p, 0, none⟩ ∧ Found k xs i x) := by
  rcases look k xs with ⟨h1, h2, h3, h4, h9⟩ | ⟨i, x, h1, h2, h3, h4, h5, h6, h7, h8, h9⟩
  · exact ⟨none, by rw [h1]; rfl, .inl ⟨rfl, ⟨h1, h2, h3, h4, h9⟩⟩⟩
  · exact ⟨some ⟨x.p, 0, none⟩, by rw [h3]; rfl, .inr ⟨i, x, rfl, ⟨h1, h2, h3, h4, h5, h6, h7, h8, h9⟩⟩⟩

theorem Found.of_idx {k : ByteArray} {xs : List FW} {i : Nat} (h : kidx k (xs.map (·.f.name)) = some i) : ∃ x, Found k xs i x := by
  rcases look k xs with ⟨_, _, _, _, h9⟩ | ⟨j, x, h1, h2, h3, h4, h5, h6, h7, h8, h9⟩
  · rw [h9] at h; cases h
  · rw [h9] at h; cases h
    exact ⟨x, ⟨h1, h2, h3, h4, h5, h6, h7, h8, h9⟩⟩

theorem look_none {k : ByteArray} {xs : List FW} {o : Option Addr} (h : (o = none ∧ Lost k xs) ∨ ∃ i x, o = some ⟨x.p, 0, none⟩ ∧ Found k xs i x) (e : o.isNone = true) : o = none ∧ Lost k xs := by
  rcases h with h | ⟨i, x, rfl, _⟩
  · exact h
  · cases e
theorem look_some {k : ByteArray} {xs : List FW} {o : Option Addr} (h : (o = none ∧ Lost k xs) ∨ ∃ i x, o = some ⟨x.p, 0, none⟩ ∧ Found k xs i x) (e : o.isNone = false) : ∃ i x, o = some ⟨x.p, 0, none⟩ ∧ Found k xs i x := by
  rcases h with ⟨rfl, _⟩ | h
  · cases e
  · exact h

theorem look_isNone (k : ByteArray) (xs : List FW) : ∃ o : Option Addr, (mget k (xs.map FW.ent)).getD (.pointer none) = .pointer o ∧ o.isNone = (fget k (xs.map (·.f))).isNone := by
  obtain ⟨o, h1, ⟨rfl, h2⟩ | ⟨i, x, rfl, h2⟩⟩ := look' k xs
  · exact ⟨none, h1, by rw [h2.fget]; rfl⟩
  · exact ⟨_, h1, by rw [h2.fget]; rfl⟩

theorem lenSum_set {f : FM} : ∀ {l : List FM} {i : Nat} {g : FM}, l[i]? = some f → lenSum (l.set i g) + f.bs.length = lenSum l + g.bs.length
  | [], _, _, h => by simp at h
  | x :: l, 0, g, h => by simp at h; subst h; simp [lenSum]; omega
  | x :: l, i + 1, g, h => by
    have := lenSum_set (l := l) (i := i) (g := g) (by simpa using h)
    simp [lenSum]; omega
theorem lenSum_append : ∀ l m : List FM, lenSum (l ++ m) = lenSum l + lenSum m
  | [], m => by simp [lenSum]
  | x :: l, m => by simp [lenSum, lenSum_append l m]; omega
theorem lenSum_mem {f : FM} : ∀ {l : List FM}, f ∈ l → f.bs.length ≤ lenSum l
  | [], h => by cases h
  | x :: l, h => by
    rcases List.mem_cons.1 h with rfl | h
    · simp [lenSum]
    · have := lenSum_mem h; simp [lenSum]; omega

theorem map_set_same {β : Type} {g : FW → β} : ∀ {l : List FW} {i : Nat} {y y' : FW}, l[i]? = some y → g y' = g y → (l.set i y').map g = l.map g
  | [], _, _, _, h, _ => by simp at h
  | x :: l, 0, y, y', h, e => by simp at h; subst h; simp [e]
  | x :: l, i + 1, y, y', h, e => by
    simp only [List.set_cons_succ, List.map_cons]
    rw [map_set_same (by simpa using h) e]

theorem DW.put {x : DW} {d : DM} (ok : x.ok d) {i : Nat} {y : FW} (hat : x.fs[i]? = some y) (y' : FW) (hn : y'.f.name = y.f.name) (hp : y'.p = y.p) (hb : y'.born = y.born) :
    DW.ok ⟨x.r, x.c, x.fs.set i y'⟩ { d with files := d.files.set i y'.f } ∧ (x.fs.set i y').map FW.ent = x.fs.map FW.ent := by
  refine ⟨⟨?_, ?_, ?_⟩, map_set_same hat (by unfold FW.ent FW.ptr; rw [hn, hp, hb])⟩
  · show (x.fs.set i y').map (·.f) = d.files.set i y'.f
    rw [← ok.files, List.map_set]
  · show ((x.fs.set i y').map (·.born)).Nodup
    rw [map_set_same hat hb]; exact ok.nodup
  · intro f hf
    rcases List.mem_or_eq_of_mem_set hf with h | rfl
    · exact ok.born f h
    · rw [hb]; exact ok.born y (List.mem_of_getElem? hat)

theorem born_spec (p : Nat) (d : DM) : FSpec Tryz.prog 136 [.pointer (some ⟨p, 0, none⟩)] [DiskAt p d] (fun v B => v = .int .i64 d.born ∧ B = [DiskAt p d]) := by
  refine FSpec.of Tryz.func136 rfl Tryz.ntmps136 rfl fun W0 F => ?_
  refine J.seq <| J.region <| J.p rfl (Q.asg rfl) <| J.nil <| J.then_n <| J.seq ?_
  refine J.open_ 0 rfl rfl DiskAt.open_ fun x hx => ?_
  refine J.norm rfl <| J.region <| J.m rfl <| J.p rfl (Q.nil_ rfl) <| J.p rfl (Q.fa (n := 2) Tryz.runUnderlying78 rfl rfl Tryz.sizeOf3 rfl) ?_
  refine J.p rfl (Q.ldI Tryz.isAgg3 rfl) ?_
  refine J.p rfl (Q.asg rfl) <| J.nil <| J.then_n <| J.cret ?_
  refine J.shut [0, 1, 2] (DiskAt p d) rfl (fun h s => ⟨x, hx, s⟩) ?_
  refine J.ret1 (B := [DiskAt p d]) rfl rfl ⟨rfl, rfl⟩ rfl

def Held (b p : Nat) (d : DM) : Assn := star [pt b (.cells [Value.pointer (some ⟨p, 0, none⟩)].toArray 26 (0, 0)), DiskAt p d]

theorem all1_spec (p b : Nat) (d : DM) (s : ByteArray) : FSpec Tryz.prog 119 [.string s, .pointer (some ⟨b, 0, none⟩)] [Held b p d] (fun v B => v = .bool (fget s d.files).isNone ∧ B = [Held b p d]) := by
  refine FSpec.of Tryz.func119 rfl Tryz.ntmps119 rfl fun W0 F => ?_
  refine J.seq <| J.region <| J.p rfl (Q.asg rfl) <| J.nil <| J.then_n <| J.seq ?_
  refine J.conv (Y := star [pt b (.cells [Value.pointer (some ⟨p, 0, none⟩)].toArray 26 (0, 0)), DiskAt p d]) 0 rfl (fun _ h => h) ?_
  refine J.unpack 0 rfl rfl ?_
  refine J.open_ 1 rfl rfl DiskAt.open_ fun x hx => ?_
  refine J.norm rfl ?_
  obtain ⟨o, ho, hn⟩ := look_isNone s x.fs
  rw [hx.files] at hn
  refine J.region ?_
  refine J.p rfl (Q.ldI Tryz.isAgg26 rfl) ?_
  refine J.p rfl (Q.nil_ rfl) <| J.p rfl (Q.fa (n := 3) Tryz.runUnderlying78 rfl rfl Tryz.sizeOf76 rfl) ?_
  refine J.p rfl (Q.ldI Tryz.isAgg76 rfl) ?_
  refine J.m rfl ?_
  refine J.p rfl (Q.lk (i := 1) Tryz.runUnderlying76 Tryz.runUnderlying9 Tryz.zeroValue146 rfl rfl rfl ho) ?_
  refine J.p rfl (Q.eqlp Tryz.runUnderlying146 rfl rfl) <| J.p rfl (Q.asg rfl) <| J.nil <| J.then_n <| J.cret ?_
  refine J.shut [0, 1, 2] (DiskAt p d) rfl (fun h s => ⟨x, hx, s⟩) ?_
  refine J.pack [1, 0] rfl ?_
  refine J.ret1 (B := [Held b p d]) rfl rfl ⟨by rw [hn], rfl⟩ rfl

theorem take_any {q : ByteArray → Bool} {l : List ByteArray} {k : Nat} {s : ByteArray} (hs : l[k]? = some s) (h : (l.take k).any q = false) (hq : q s = false) : (l.take (k + 1)).any q = false := by
  obtain ⟨h1, h2⟩ := List.getElem?_eq_some_iff.1 hs
  rw [List.take_succ_eq_append_getElem h1, List.any_append, h, h2]; simp [hq]
theorem any_at {q : ByteArray → Bool} {l : List ByteArray} {k : Nat} {s : ByteArray} (hs : l[k]? = some s) (hq : q s = true) : l.any q = true :=
  List.any_eq_true.2 ⟨s, List.mem_of_getElem? hs, hq⟩

theorem indexFunc_spec (G : Assn) (sp : Option Addr) (sn sc : Nat) (names : List ByteArray) (fid : FuncId) (cap : List Value) (q : ByteArray → Bool)
    (hcall : ∀ (args : Array Value) (w : World), (callFunc fid args).run Tryz.prog w = .ok (.enter fid args) w)
    (hs : SlR [G] 1 (.slice sp sn sc) (names.map Value.string)) (hn : sn ≤ 140737488355328)
    (hf : ∀ s, s ∈ names → FSpec Tryz.prog fid ([] ++ [.string s] ++ cap) [G] (fun v B => v = .bool (q s) ∧ B = [G])) :
    FSpec Tryz.prog 187 [.slice sp sn sc, .func (.func fid) ([] : List Value).toArray cap.toArray] [G] (fun v B => ∃ r : Int, v = .int .i64 r ∧ decide (0 ≤ r) = names.any q ∧ B = [G]) := by
  refine FSpec.of Tryz.func187 rfl Tryz.ntmps187 rfl fun W0 F => ?_
  refine J.seq <| J.region <| J.p rfl (Q.asg rfl) <| J.nil <| J.then_n <| J.seq <| J.seq <| J.region <| J.m rfl <| J.p rfl (Q.lenSl Tryz.runUnderlying116 rfl) <| J.m rfl <| J.nil <| J.then_n <| J.block ?_
  have hlen : names.length = sn := by have := hs.len; simpa using this
  refine J.loop (fun k : Nat => k ≤ sn ∧ (names.take k).any q = false) (fun k => sn - k) (fun k => [(0, .slice sp sn sc), (1, .func (.func fid) ([] : List Value).toArray cap.toArray), (7, .int .i64 sn), (8, .int .i64 k)]) (fun _ => [G, F]) 0 ⟨by omega, rfl⟩ ⟨rfl, rfl, rfl, rfl, trivial⟩ rfl fun k hk => ?_
  obtain ⟨hk, hno⟩ := hk
  refine J.seq <| J.region <| J.p rfl (Q.lss rfl rfl) <| J.nil <| J.then_n <| J.seq ?_
  refine J.kases 9 rfl (fun hc9 => ?_) (fun hc9 => ?_)
  ·
   refine J.cond_t rfl <| J.cskip <| J.then_n <| J.seq <| J.block <| J.seq <| J.region ?_
   obtain ⟨b, off, rfl, hrd⟩ := hs.some_ (by omega)
   obtain ⟨nm, hnm⟩ : ∃ nm, names[k]? = some nm := ⟨_, List.getElem?_eq_getElem (by omega)⟩
   refine J.m rfl <| J.p rfl (Q.asg rfl) <| J.nil <| J.then_n <| J.seq <| J.region <| J.m rfl <| J.m rfl <| J.m rfl <| J.p rfl (Q.ia Tryz.runUnderlying116 Tryz.sizeOf9 rfl rfl (by omega) (by omega)) ?_
   refine J.p rfl (Q.ld Tryz.isAgg9 rfl (((hrd k (.string nm) (by simp [hnm])).within (i := 0) rfl).cast (by simp))) ?_
   refine J.callv hcall (hf nm (List.mem_of_getElem? hnm)) [0] rfl rfl rfl rfl rfl ?_
   rintro _ _ ⟨rfl, rfl⟩
   refine J.norm rfl <| J.nil <| J.then_n ?_
   refine J.kases 16 rfl (fun hc16 => ?_) (fun hc16 => ?_)
   ·
    refine J.cond_t rfl <| J.seq <| J.region <| J.m rfl <| J.p rfl (Q.asg rfl) <| J.nil <| J.then_n <| J.cret <| J.blk_r <| J.then_r <| J.lp_r <| J.blk_r <| J.then_r ?_
    refine J.ret1 (B := [G]) rfl rfl ⟨_, rfl, ?_, rfl⟩ rfl
    rw [any_at hnm hc16]; simp
   refine J.cond_f rfl <| J.cskip <| J.blk_n <| J.then_n <| J.region <| J.p rfl (Q.add64 rfl rfl (by omega)) <| J.m rfl <| J.nil ?_
   refine J.again (k + 1) ⟨by omega, take_any hnm hno hc16⟩ (by omega) ⟨rfl, rfl, rfl, rfl, trivial⟩ rfl
  refine J.cond_f rfl <| J.exit <| J.then_x <| J.lp_x <| J.blk_x <| J.then_n <| J.seq <| J.region <| J.p rfl (Q.asg rfl) <| J.nil <| J.then_n <| J.cret ?_
  refine J.ret1 (B := [G]) rfl rfl ⟨_, rfl, ?_, rfl⟩ rfl
  rw [List.take_of_length_le (by omega)] at hno
  rw [hno]; rfl

theorem containsFunc_spec (G : Assn) (sp : Option Addr) (sn sc : Nat) (names : List ByteArray) (fid : FuncId) (cap : List Value) (q : ByteArray → Bool)
    (hcall : ∀ (args : Array Value) (w : World), (callFunc fid args).run Tryz.prog w = .ok (.enter fid args) w)
    (hs : SlR [G] 1 (.slice sp sn sc) (names.map Value.string)) (hn : sn ≤ 140737488355328)
    (hf : ∀ s, s ∈ names → FSpec Tryz.prog fid ([] ++ [.string s] ++ cap) [G] (fun v B => v = .bool (q s) ∧ B = [G])) :
    FSpec Tryz.prog 118 [.slice sp sn sc, .func (.func fid) ([] : List Value).toArray cap.toArray] [G] (fun v B => v = .bool (names.any q) ∧ B = [G]) := by
  refine FSpec.of Tryz.func118 rfl Tryz.ntmps118 rfl fun W0 F => ?_
  refine J.seq <| J.region <| J.p rfl (Q.asg rfl) <| J.nil <| J.then_n <| J.seq <| J.region <| J.m rfl <| J.m rfl ?_
  refine J.call Tryz.call187 (indexFunc_spec G sp sn sc names fid cap q hcall hs hn hf) [0] rfl rfl rfl rfl ?_
  rintro _ _ ⟨r, rfl, hr, rfl⟩
  refine J.norm rfl <| J.p rfl (Q.geq rfl rfl) <| J.p rfl (Q.asg rfl) <| J.nil <| J.then_n <| J.cret ?_
  refine J.ret1 (B := [G]) rfl rfl ⟨by rw [hr], rfl⟩ rfl

theorem not_any_isNone (l : List FM) : ∀ names : List ByteArray, (!names.any fun s => (fget s l).isNone) = names.all fun s => (fget s l).isSome
  | [] => rfl
  | n :: ns => by
    simp only [List.any_cons, List.all_cons, Bool.not_or, not_any_isNone l ns]
    cases fget n l <;> rfl

theorem all_spec (p : Nat) (d : DM) (G : Assn) (sp : Option Addr) (sn sc : Nat) (names : List ByteArray) (hs : SlR [G] 1 (.slice sp sn sc) (names.map Value.string)) (hn : sn ≤ 140737488355328) :
    FSpec Tryz.prog 61 [.pointer (some ⟨p, 0, none⟩), .slice sp sn sc] [DiskAt p d, G] (fun v B => v = .bool (names.all fun s => (fget s d.files).isSome) ∧ B = [DiskAt p d, G]) := by
  refine FSpec.of Tryz.func61 rfl Tryz.ntmps61 rfl fun W0 F => ?_
  refine J.seq <| J.region ?_
  refine J.c rfl rfl (C.box (l := [_]) rfl rfl) ?_
  rintro _ _ ⟨b2, rfl, rfl⟩
  refine J.norm rfl <| J.p rfl (Q.asg rfl) <| J.nil <| J.then_n <| J.seq <| J.region ?_
  refine J.pack [0, 1] rfl ?_
  refine J.conv (Y := Held b2 p d) 0 rfl (fun _ h => h) ?_
  refine J.pack [0, 1] rfl ?_
  have hs' : SlR [star [Held b2 p d, G]] 1 (.slice sp sn sc) (names.map Value.string) := hs.into 1 rfl
  have hcl : ∀ s, FSpec Tryz.prog 119 ([] ++ [.string s] ++ [.pointer (some ⟨b2, 0, none⟩)]) [star [Held b2 p d, G]] (fun v B => v = .bool (fget s d.files).isNone ∧ B = [star [Held b2 p d, G]]) := fun s =>
    FSpec.packed ((all1_spec p b2 d s).frame [G]) (by rintro v B ⟨B1, ⟨rfl, rfl⟩, rfl⟩; exact ⟨rfl, rfl⟩)
  refine J.m rfl <| J.p rfl (Q.func rfl rfl) ?_
  refine J.call Tryz.call118 (containsFunc_spec (star [Held b2 p d, G]) sp sn sc names 119 [.pointer (some ⟨b2, 0, none⟩)] (fun s => (fget s d.files).isNone) Tryz.call119 hs' hn (fun s _ => hcl s)) [0] rfl rfl rfl rfl ?_
  rintro _ _ ⟨rfl, rfl⟩
  refine J.norm rfl ?_
  refine J.unpack 0 rfl rfl ?_
  refine J.conv (Y := star [pt b2 (.cells [Value.pointer (some ⟨p, 0, none⟩)].toArray 26 (0, 0)), DiskAt p d]) 0 rfl (fun _ h => h) ?_
  refine J.unpack 0 rfl rfl ?_
  refine J.p rfl (Q.not rfl) <| J.p rfl (Q.asg rfl) <| J.nil <| J.then_n <| J.cret ?_
  refine J.keep [1, 2, 3] rfl ?_
  refine J.ret1 (B := [DiskAt p d, G]) rfl rfl ⟨?_, rfl⟩ rfl
  rw [not_any_isNone]

end Go.Proofs.YtblpcabdfbpcnaaGreatDoor.Dk
namespace Go.Proofs.YtblpcabdfbpcnaaGreatDoor.Dk
open Go.X Go.X.T


structure Part where
  sp : Option Addr
  sc : Nat
  bs : List UInt8
def Part.val (q : Part) : Value := .slice q.sp q.bs.length q.sc
def pcat : List Part → List UInt8
  | [] => []
  | q :: l => q.bs ++ pcat l
theorem pcat_snoc (l : List Part) (q : Part) : pcat (l ++ [q]) = pcat l ++ q.bs := by
  induction l with
  | nil => simp [pcat]
  | cons x l ih => simp [pcat, ih]
theorem pcat_take {l : List Part} {k : Nat} {q : Part} (h : l[k]? = some q) : pcat (l.take (k + 1)) = pcat (l.take k) ++ q.bs := by
  obtain ⟨h1, h2⟩ := List.getElem?_eq_some_iff.1 h
  rw [List.take_succ_eq_append_getElem h1, h2, pcat_snoc]
theorem pcat_app (l m : List Part) : pcat (l ++ m) = pcat l ++ pcat m := by
  induction l with
  | nil => simp [pcat]
  | cons x l ih => simp [pcat, ih]
theorem pcat_le (l : List Part) (k : Nat) : (pcat (l.take k)).length ≤ (pcat l).length := by
  conv => rhs; rw [← List.take_append_drop k l, pcat_app]
  simp

def fens (n : ByteArray) (l : List FM) : List FM := match fget n l with | some _ => l | none => l ++ [⟨n, [], 0⟩]
def fput (n : ByteArray) (bs : List UInt8) (l : List FM) : List FM := match fget n (fens n l) with | some f => fset ⟨n, f.bs ++ bs, f.sy⟩ (fens n l) | none => l
def DM.append (d : DM) (name : ByteArray) (bs : List UInt8) : Int × DM :=
  if nameOK name.data.toList = false then (1, d) else if d.size < d.used + bs.length then (5, d) else (0, { d with files := fput name bs d.files })

theorem found_of {n : ByteArray} {xs : List FW} (i : Nat) (y : FW) (h : fget n (xs.map (·.f)) = none) (e : i = xs.length) (hy : y.f.name = n) : Found n (xs ++ [y]) i y := by
  subst e
  induction xs with
  | nil => refine ⟨rfl, hy, ?_, ?_, fun g hg => by simp [fset, hg, hy], ?_, ?_, ?_, ?_⟩ <;> simp [mget, fget, fdel, mdel, mset, kidx, FW.ent, hy]
  | cons x xs ih =>
    simp only [List.map_cons, fget] at h
    split at h
    · cases h
    · rename_i hne
      have e : ¬ n = (FW.ent x).key := hne
      obtain ⟨h1, h2, h3, h4, h5, h6, h7, h8, h9⟩ := ih h
      refine ⟨by simp, h2, ?_, ?_, ?_, ?_, ?_, ?_, by simp only [List.cons_append, List.map_cons, kidx, hne, if_false, h9, Option.map_some, List.length_cons]⟩
      · simp only [List.cons_append, List.map_cons, X.mget, e, if_false, h3]
      · simp only [List.cons_append, List.map_cons, YtblpcabdfbpcnaaGreatDoor.Dk.fget, hne, if_false, h4]
      · intro g hg
        have : ¬ g.name = x.f.name := by rw [hg]; exact hne
        simp only [List.cons_append, List.map_cons, YtblpcabdfbpcnaaGreatDoor.Dk.fset, this, if_false, h5 g hg, List.length_cons, List.set_cons_succ]
      · simp only [List.cons_append, List.map_cons, YtblpcabdfbpcnaaGreatDoor.Dk.fdel, hne, if_false, h6, List.length_cons, List.eraseIdx_cons_succ]
      · simp only [List.cons_append, List.map_cons, X.mdel, e, if_false, h7, List.length_cons, List.eraseIdx_cons_succ]
      · intro v; simp only [List.cons_append, List.map_cons, X.mset, e, if_false, h8 v, List.length_cons, List.set_cons_succ]

structure AtFile (d : DM) (name : ByteArray) where
  x : DW
  i : Nat
  y : FW
  ok : x.ok { d with files := fens name d.files }
  found : Found name x.fs i y

def AtFile.asns {d : DM} {name : ByteArray} (t : AtFile d name) (p : Nat) (bs : List UInt8) (sp : Option Addr) (sc : Nat) : List Assn :=
  [pt t.y.p (.cells [.slice sp bs.length sc, .int .i64 t.y.f.sy].toArray 148 (0, 0)), own 5 1 (.slice sp bs.length sc) (bytesV bs), star ((t.x.fs.eraseIdx t.i).map FW.asn),
   pt p (.cells [.int .i64 d.size, .int .i64 d.used, .int .i64 d.born, .map (some t.x.r)].toArray 78 (0, 0)), pt t.x.r (mobj (t.x.fs.map FW.ent) t.x.c)]

theorem fens_lost {n : ByteArray} {l : List FM} (h : fget n l = none) : fens n l = l ++ [⟨n, [], 0⟩] := by unfold fens; rw [h]
theorem fens_found {n : ByteArray} {l : List FM} {f : FM} (h : fget n l = some f) : fens n l = l := by unfold fens; rw [h]
theorem lenSum_fens (n : ByteArray) (l : List FM) : lenSum (fens n l) = lenSum l := by
  unfold fens; split
  · rfl
  · rw [lenSum_append]; simp [lenSum]

theorem append_spec (p : Nat) (d : DM) (hd : d.wf) (name : ByteArray) (hnm : name.size ≤ 140737488355328) (G : Assn) (pp : Option Addr) (pn pc : Nat) (parts : List Part) (hp : SlR [G] 1 (.slice pp pn pc) (parts.map Part.val)) (hpn : pn ≤ 1000000)
    (hq : ∀ q, q ∈ parts → SlR [G] 1 q.val (bytesV q.bs)) (htot : (pcat parts).length ≤ 1099511627776) :
    FSpec Tryz.prog 27 [.pointer (some ⟨p, 0, none⟩), .string name, .slice pp pn pc] [DiskAt p d, G] (fun v B => v = .int .i64 (d.append name (pcat parts)).1 ∧ B = [DiskAt p (d.append name (pcat parts)).2, G]) := by
  refine FSpec.of Tryz.func27 rfl Tryz.ntmps27 rfl fun W0 F => ?_
  refine J.seq <| J.region <| J.p rfl (Q.asg rfl) <| J.nil <| J.then_n <| J.seq <| J.region <| J.p rfl (Q.asg rfl) <| J.nil <| J.then_n <| J.seq <| J.seq <| J.region <| J.m rfl <| J.p rfl (Q.lenSl Tryz.runUnderlying45 rfl) <| J.m rfl <| J.nil <| J.then_n <| J.block ?_
  have hlen : parts.length = pn := by have := hp.len; simpa using this
  refine J.loop (fun k : Nat => k ≤ pn) (fun k => pn - k) (fun k => [(0, .pointer (some ⟨p, 0, none⟩)), (1, .string name), (2, .slice pp pn pc), (13, .slice pp pn pc), (14, .int .i64 pn), (15, .int .i64 k), (7, .int .i64 (pcat (parts.take k)).length)]) (fun _ => [DiskAt p d, G, F]) 0 (by omega) ⟨rfl, rfl, rfl, rfl, rfl, rfl, rfl, trivial⟩ rfl fun k hk => ?_
  refine J.seq <| J.region <| J.p rfl (Q.lss rfl rfl) <| J.nil <| J.then_n <| J.seq ?_
  refine J.kases 16 rfl (fun hc16 => ?_) (fun hc16 => ?_)
  ·
   refine J.cond_t rfl <| J.cskip <| J.then_n <| J.seq <| J.block <| J.seq <| J.region ?_
   obtain ⟨b, off, rfl, hrd⟩ := hp.some_ (by omega)
   obtain ⟨q, hqk⟩ : ∃ q, parts[k]? = some q := ⟨_, List.getElem?_eq_getElem (by omega)⟩
   have hps := congrArg List.length (pcat_take hqk)
   rw [List.length_append] at hps
   have hle := pcat_le parts (k + 1)
   refine J.p rfl (Q.ia Tryz.runUnderlying45 Tryz.sizeOf22 rfl rfl (by omega) (by omega)) ?_
   refine J.p rfl (Q.ld Tryz.isAgg22 rfl (((hrd k q.val (by simp [hqk])).within (i := 1) rfl).cast (by simp))) ?_
   refine J.p rfl (Q.asg rfl) <| J.nil <| J.then_n <| J.region <| J.m rfl <| J.m rfl <| J.p rfl (Q.lenSl Tryz.runUnderlying22 rfl) <| J.p rfl (Q.add64 rfl rfl (by omega)) <| J.p rfl (Q.asg rfl) <| J.nil <| J.blk_n <| J.then_n <| J.region <| J.p rfl (Q.add64 rfl rfl (by omega)) <| J.m rfl <| J.nil ?_
   refine J.again (k + 1) (by omega) (by omega) ⟨rfl, rfl, rfl, rfl, rfl, rfl, by rw [hps]; rfl, trivial⟩ rfl
  refine J.cond_f rfl <| J.exit <| J.then_x <| J.lp_x <| J.blk_x <| J.then_n <| J.seq <| J.block <| J.seq <| J.region ?_
  have hkn : k = pn := by omega
  subst hkn
  rw [List.take_of_length_le (by omega)]
  refine J.m rfl ?_
  refine J.call Tryz.call60 (name_spec name hnm) [] rfl rfl rfl rfl ?_
  rintro _ _ ⟨rfl, rfl⟩
  refine J.norm rfl <| J.p rfl (Q.not rfl) <| J.p rfl (Q.asg rfl) <| J.nil <| J.then_n ?_
  refine J.kases 24 rfl (fun hc24 => ?_) (fun hc24 => ?_)
  ·
   refine J.cond_t rfl <| J.seq <| J.region <| J.p rfl (Q.asg rfl) <| J.nil <| J.then_n <| J.cret <| J.blk_r <| J.then_r ?_
   have hno : nameOK name.data.toList = false := by simpa using hc24
   have hap : d.append name (pcat parts) = (1, d) := by unfold DM.append; rw [if_pos hno]
   refine J.ret1 (B := [DiskAt p d, G]) rfl rfl ⟨by rw [hap], by rw [hap]⟩ rfl
  refine J.cond_f rfl <| J.seq ?_
  have hok : nameOK name.data.toList = true := by simpa using hc24
  refine J.open_ 0 rfl rfl DiskAt.open_ fun x hx => ?_
  refine J.norm rfl ?_
  have hu := hd.used
  have hsz := hd.size
  refine J.draw [11] Tryz.mixed (by kernel_rfl) fun hR => ?_
  refine RG.p 0 hR rfl (Q.mv rfl) <| RG.p 1 hR rfl (Q.nil_ rfl) <| RG.p 2 hR rfl (Q.fa (n := 1) Tryz.runUnderlying78 rfl rfl Tryz.sizeOf3 rfl) ?_
  refine RG.p 3 hR rfl (Q.ldI Tryz.isAgg3 rfl) ?_
  refine RG.p 4 hR rfl (Q.mv rfl) <| RG.p 5 hR rfl (Q.add64 rfl rfl (by omega)) <| RG.p 6 hR rfl (Q.mv rfl) <| RG.p 7 hR rfl (Q.nil_ rfl) <| RG.p 8 hR rfl (Q.fa (n := 0) Tryz.runUnderlying78 rfl rfl Tryz.sizeOf3 rfl) ?_
  refine RG.p 9 hR rfl (Q.ldI Tryz.isAgg3 rfl) ?_
  refine RG.p 10 hR rfl (Q.gtr rfl rfl) ?_
  refine RG.bar 11 hR rfl rfl rfl rfl rfl rfl (Q.asg rfl).toC ?_
  rintro _ _ ⟨rfl, rfl⟩
  refine RG.norm rfl ?_
  refine RG.fin hR rfl ?_
  refine J.norm rfl <| J.then_n ?_
  refine J.kases 28 rfl (fun hc28 => ?_) (fun hc28 => ?_)
  ·
   refine J.cond_t rfl <| J.seq <| J.region <| J.p rfl (Q.asg rfl) <| J.nil <| J.then_n <| J.cret <| J.blk_r <| J.then_r ?_
   have hap : d.append name (pcat parts) = (5, d) := by unfold DM.append; rw [if_neg (by rw [hok]; simp), if_pos (by omega)]
   refine J.shut [0, 1, 2] (DiskAt p d) rfl (fun h s => ⟨x, hx, s⟩) ?_
   refine J.ret1 (B := [DiskAt p d, G]) rfl rfl ⟨by rw [hap], by rw [hap]⟩ rfl
  refine J.cond_f rfl <| J.cskip <| J.blk_n <| J.then_n <| J.seq <| J.region <| J.m rfl <| J.p rfl (Q.nil_ rfl) <| J.p rfl (Q.fa (n := 3) Tryz.runUnderlying78 rfl rfl Tryz.sizeOf76 rfl) ?_
  refine J.p rfl (Q.ldI Tryz.isAgg76 rfl) ?_
  refine J.m rfl ?_
  obtain ⟨o, ho, hlk⟩ := look' name x.fs
  refine J.p rfl (Q.lk (i := 1) Tryz.runUnderlying76 Tryz.runUnderlying9 Tryz.zeroValue146 rfl rfl rfl ho) ?_
  refine J.p rfl (Q.asg rfl) <| J.nil <| J.then_n ?_
  have hfull : ¬ d.size < d.used + (pcat parts).length := by omega
  refine J.cut (fun _ : AtFile d name => True) (fun t : AtFile d name => [(0, .pointer (some ⟨p, 0, none⟩)), (1, .string name), (2, .slice pp k pc), (7, .int .i64 (pcat parts).length), (10, t.y.ptr)]) (fun t : AtFile d name => t.asns p t.y.f.bs t.y.sp t.y.sc ++ [G, F]) ?_ fun t _ => ?_
  ·
   refine J.seq <| J.region <| J.m rfl <| J.p rfl (Q.eqlp Tryz.runUnderlying146 rfl rfl) <| J.nil <| J.then_n ?_
   refine J.kases 47 rfl (fun hc47 => ?_) (fun hc47 => ?_)
   ·
    obtain ⟨rfl, hl⟩ := look_none hlk hc47
    refine J.cond_t rfl <| J.seq <| J.region <| J.p rfl (Q.bld (l := [_, _]) Tryz.runUnderlying148 Tryz.zeroValue148 Tryz.places148 rfl rfl) ?_
    refine J.c rfl rfl (C.box (l := [_, _]) rfl rfl) ?_
    rintro _ _ ⟨b49, rfl, rfl⟩
    refine J.norm rfl <| J.p rfl (Q.asg rfl) <| J.nil <| J.then_n <| J.region <| J.m rfl <| J.p rfl (Q.nil_ rfl) <| J.p rfl (Q.fa (n := 3) Tryz.runUnderlying78 rfl rfl Tryz.sizeOf76 rfl) ?_
    refine J.p rfl (Q.ldI Tryz.isAgg76 rfl) ?_
    refine J.m rfl <| J.m rfl ?_
    refine J.c0 rfl (C.mput (i := 2) Tryz.runUnderlying76 Tryz.runUnderlying9 rfl rfl rfl rfl) ?_
    rintro _ _ ⟨rfl, rfl⟩
    refine J.norm rfl <| J.nil ?_
    have hmp : mput name (Value.pointer (some ⟨b49, 0, none⟩)) (x.fs.map FW.ent) x.c = ((x.fs ++ [(⟨⟨name, [], 0⟩, b49, none, 0, x.c⟩ : FW)]).map FW.ent, x.c + 1) := by
      unfold mput; rw [hl.mget]; simp [FW.ent, FW.ptr]
    have her : (x.fs ++ [(⟨⟨name, [], 0⟩, b49, none, 0, x.c⟩ : FW)]).eraseIdx x.fs.length = x.fs := by rw [List.eraseIdx_append_of_length_le (Nat.le_refl _)]; simp
    have hxok : DW.ok ⟨x.r, x.c + 1, x.fs ++ [⟨⟨name, [], 0⟩, b49, none, 0, x.c⟩]⟩ { d with files := fens name d.files } := by
      refine ⟨?_, ?_, ?_⟩
      · show _ = fens name d.files
        rw [fens_lost (by rw [← hx.files]; exact hl.fget), ← hx.files]; simp
      · rw [List.map_append, List.nodup_append]
        refine ⟨hx.nodup, by simp, ?_⟩
        intro a ha b hb
        simp only [List.map_cons, List.map_nil, List.mem_singleton] at hb
        simp only [List.mem_map] at ha
        obtain ⟨f, hf, rfl⟩ := ha
        have := hx.born f hf
        omega
      · intro f hf
        rcases List.mem_append.1 hf with hf | hf
        · have := hx.born f hf; show f.born < x.c + 1; omega
        · simp only [List.mem_singleton] at hf; subst hf; show x.c < x.c + 1; omega
    refine J.give (own.nil 5 1 _) ?_
    refine J.pick [1, 0, 4, 2, 3] rfl ?_
    refine J.meet (⟨⟨x.r, x.c + 1, x.fs ++ [⟨⟨name, [], 0⟩, b49, none, 0, x.c⟩]⟩, x.fs.length, ⟨⟨name, [], 0⟩, b49, none, 0, x.c⟩, hxok, found_of _ _ hl.fget rfl rfl⟩ : AtFile d name) trivial ⟨rfl, rfl, rfl, rfl, rfl, trivial⟩ ?_
    rw [hmp]
    unfold AtFile.asns
    rw [her]
    rfl
   obtain ⟨i, y, rfl, hl⟩ := look_some hlk hc47
   refine J.cond_f rfl <| J.cskip ?_
   have hxok : x.ok { d with files := fens name d.files } := ⟨by rw [fens_found (by rw [← hx.files]; exact hl.fget)]; exact hx.files, hx.nodup, hx.born⟩
   refine J.focus 2 i rfl hl.at_ ?_
   refine J.conv (Y := star y.asns) 0 rfl (fun _ h => h) ?_
   refine J.unpack 0 rfl rfl ?_
   refine J.meet (⟨x, i, y, hxok, hl⟩ : AtFile d name) trivial ⟨rfl, rfl, rfl, rfl, rfl, trivial⟩ ?_
   rfl
  refine J.seq <| J.seq <| J.region <| J.m rfl <| J.p rfl (Q.lenSl Tryz.runUnderlying45 rfl) <| J.m rfl <| J.nil <| J.then_n <| J.block ?_
  have hu := hd.used
  have hsz := hd.size
  have hyb : t.y.f.bs.length ≤ d.used := by
    have h1 : t.y.f ∈ t.x.fs.map (·.f) := List.mem_map_of_mem (List.mem_of_getElem? t.found.at_)
    rw [t.ok.files] at h1
    have h2 := lenSum_mem h1
    change t.y.f.bs.length ≤ lenSum (fens name d.files) at h2
    rw [lenSum_fens] at h2; exact h2
  refine J.loop (fun z : Nat × Option Addr × Nat => z.1 ≤ k) (fun z => k - z.1) (fun z => [(0, .pointer (some ⟨p, 0, none⟩)), (7, .int .i64 (pcat parts).length), (10, t.y.ptr), (56, .slice pp k pc), (57, .int .i64 k), (58, .int .i64 z.1)]) (fun z => t.asns p (t.y.f.bs ++ pcat (parts.take z.1)) z.2.1 z.2.2 ++ [G, F]) (0, t.y.sp, t.y.sc) (by simp) ⟨rfl, rfl, rfl, rfl, rfl, rfl, trivial⟩ (by simp [pcat]) fun z hz => ?_
  refine J.norm rfl ?_
  replace hz : z.1 ≤ k := hz
  refine J.seq <| J.region <| J.p rfl (Q.lss rfl rfl) <| J.nil <| J.then_n <| J.seq ?_
  refine J.kases 59 rfl (fun hc59 => ?_) (fun hc59 => ?_)
  ·
   refine J.cond_t rfl <| J.cskip <| J.then_n <| J.seq <| J.block <| J.seq <| J.region ?_
   obtain ⟨b, off, rfl, hrd⟩ := hp.some_ (by omega)
   obtain ⟨q, hqk⟩ : ∃ q, parts[z.1]? = some q := ⟨_, List.getElem?_eq_getElem (by omega)⟩
   have hps := pcat_take hqk
   have hle := pcat_le parts (z.1 + 1)
   have hle' := congrArg List.length hps
   rw [List.length_append] at hle'
   refine J.p rfl (Q.ia Tryz.runUnderlying45 Tryz.sizeOf22 rfl rfl (by omega) (by omega)) ?_
   refine J.p rfl (Q.ld Tryz.isAgg22 rfl (((hrd z.1 q.val (by simp [hqk])).within (i := 5) rfl).cast (by simp))) ?_
   refine J.p rfl (Q.asg rfl) <| J.nil <| J.then_n <| J.region <| J.m rfl <| J.m rfl <| J.p rfl (Q.nil_ rfl) <| J.p rfl (Q.fa (n := 0) Tryz.runUnderlying148 rfl rfl Tryz.sizeOf22 rfl) ?_
   refine J.p rfl (Q.ldI Tryz.isAgg22 rfl) ?_
   refine J.m rfl ?_
   refine J.c rfl rfl (C.app (i := 1) Tryz.runUnderlying22 Tryz.runUnderlying22 Tryz.typeInfo5 Tryz.sizeOf5 Tryz.zeroValue5 rfl rfl rfl ((hq q (List.mem_of_getElem? hqk)).within (i := 5) rfl) (bytesV_one q.bs) (by rw [show Tryz.t5.bytes = 1 from rfl, List.length_append]; omega) (by decide)) ?_
   rintro _ _ ⟨p68, c68, rfl, rfl⟩
   refine J.norm rfl <| J.p rfl (Q.nil_ rfl) <| J.p rfl (Q.fa (n := 0) Tryz.runUnderlying148 rfl rfl Tryz.sizeOf22 rfl) ?_
   refine J.stJ rfl Tryz.sizeOf22 rfl rfl rfl ?_
   refine J.nil <| J.blk_n <| J.then_n <| J.region <| J.p rfl (Q.add64 rfl rfl (by omega)) <| J.m rfl <| J.nil ?_
   refine J.again (z.1 + 1, p68, c68) (by show z.1 + 1 ≤ k; omega) (by show k - (z.1 + 1) < k - z.1; omega) ⟨rfl, rfl, rfl, rfl, rfl, rfl, trivial⟩ ?_
   simp only [AtFile.asns, hps, bytesV_append, List.length_append, List.append_assoc, Nat.add_assoc]
   rfl
  refine J.cond_f rfl <| J.exit <| J.then_x <| J.lp_x <| J.blk_x <| J.then_n <| J.seq <| J.region <| J.m rfl <| J.p rfl (Q.nil_ rfl) <| J.p rfl (Q.fa (n := 1) Tryz.runUnderlying78 rfl rfl Tryz.sizeOf3 rfl) ?_
  refine J.p rfl (Q.ldI Tryz.isAgg3 rfl) ?_
  refine J.m rfl <| J.p rfl (Q.add64 rfl rfl (by omega)) <| J.p rfl (Q.nil_ rfl) <| J.p rfl (Q.fa (n := 1) Tryz.runUnderlying78 rfl rfl Tryz.sizeOf3 rfl) ?_
  refine J.stJ rfl Tryz.sizeOf3 rfl rfl rfl ?_
  refine J.nil <| J.then_n <| J.seq <| J.region <| J.p rfl (Q.asg rfl) <| J.nil <| J.then_n <| J.cret ?_
  have hzk : z.1 = k := by omega
  have hall : parts.take k = parts := List.take_of_length_le (by omega)
  rw [hzk, hall]
  have hnf : nameOK name.data.toList = true := hok
  obtain ⟨hxok, hent⟩ := DW.put t.ok t.found.at_ ⟨⟨name, t.y.f.bs ++ pcat parts, t.y.f.sy⟩, t.y.p, z.2.1, z.2.2, t.y.born⟩ t.found.name.symm rfl rfl
  have hget : fget name (fens name d.files) = some t.y.f := by have := t.found.fget; rwa [t.ok.files] at this
  have hset := t.found.fset ⟨name, t.y.f.bs ++ pcat parts, t.y.f.sy⟩ rfl
  rw [t.ok.files] at hset
  have hput : fput name (pcat parts) d.files = (fens name d.files).set t.i ⟨name, t.y.f.bs ++ pcat parts, t.y.f.sy⟩ := by unfold fput; rw [hget]; exact hset
  have hat : (fens name d.files)[t.i]? = some t.y.f := by
    have h1 : (t.x.fs.map (·.f))[t.i]? = some t.y.f := by rw [List.getElem?_map, t.found.at_]; rfl
    rwa [t.ok.files] at h1
  have hus : ((d.used : Int) + (pcat parts).length) = ((lenSum (fput name (pcat parts) d.files) : Nat) : Int) := by
    have h1 := lenSum_set (g := ⟨name, t.y.f.bs ++ pcat parts, t.y.f.sy⟩) hat
    rw [lenSum_fens, ← hput, List.length_append] at h1
    have h2 : lenSum d.files = d.used := rfl
    omega
  have hap : d.append name (pcat parts) = (0, { d with files := fput name (pcat parts) d.files }) := by unfold DM.append; rw [if_neg (by rw [hnf]; simp), if_neg hfull]
  refine J.pack [0, 1] rfl ?_
  refine J.conv (Y := FW.asn ⟨⟨name, t.y.f.bs ++ pcat parts, t.y.f.sy⟩, t.y.p, z.2.1, z.2.2, t.y.born⟩) 0 rfl (fun _ h => h) ?_
  refine J.unfocus 0 1 t.i ⟨⟨name, t.y.f.bs ++ pcat parts, t.y.f.sy⟩, t.y.p, z.2.1, z.2.2, t.y.born⟩ rfl (List.getElem?_eq_some_iff.1 t.found.at_).1 ?_
  refine J.shut [1, 2, 0] (DiskAt p { d with files := fput name (pcat parts) d.files }) rfl (fun h s => ⟨⟨t.x.r, t.x.c, t.x.fs.set t.i ⟨⟨name, t.y.f.bs ++ pcat parts, t.y.f.sy⟩, t.y.p, z.2.1, z.2.2, t.y.born⟩⟩, by rw [hput]; exact hxok, by unfold DW.asns; rw [hent]; rw [hus] at s; exact s⟩) ?_
  refine J.ret1 (B := [DiskAt p { d with files := fput name (pcat parts) d.files }, G]) rfl rfl ⟨by rw [hap], by rw [hap]⟩ rfl

end Go.Proofs.YtblpcabdfbpcnaaGreatDoor.Dk
namespace Go.Proofs.YtblpcabdfbpcnaaGreatDoor.Dk
open Go.X Go.X.T

def DM.bytes (d : DM) (n : ByteArray) : List UInt8 := match fget n d.files with | some f => f.bs | none => []
def DM.found (d : DM) (n : ByteArray) : Int := match fget n d.files with | some _ => 0 | none => 4
theorem DM.wf.len {d : DM} (hd : d.wf) {n : ByteArray} {f : FM} (h : fget n d.files = some f) : f ∈ d.files ∧ f.bs.length ≤ d.size ∧ f.sy ≤ f.bs.length := by
  have key : ∀ l : List FM, fget n l = some f → f ∈ l := by
    intro l
    induction l with
    | nil => intro h; cases h
    | cons x l ih =>
      intro h
      simp only [fget] at h
      split at h
      · cases h; simp
      · exact List.mem_cons_of_mem _ (ih h)
  have hm := key _ h
  have h1 := lenSum_mem hm
  have h2 := hd.used
  unfold DM.used at h2
  exact ⟨hm, by omega, hd.sy f hm⟩

theorem read_spec (p : Nat) (d : DM) (hd : d.wf) (name : ByteArray) : FSpec Tryz.prog 35 [.pointer (some ⟨p, 0, none⟩), .string name] [DiskAt p d]
    (fun v B => ∃ sp sc, (fget name d.files = none → sp = none ∧ sc = 0) ∧ v = .tuple #[.slice sp (d.bytes name).length sc, .int .i64 (d.found name)] ∧ B = [own 5 1 (.slice sp (d.bytes name).length sc) (bytesV (d.bytes name)), DiskAt p d]) := by
  refine FSpec.of Tryz.func35 rfl Tryz.ntmps35 rfl fun W0 F => ?_
  refine J.seq <| J.region <| J.p rfl (Q.asg rfl) <| J.p rfl (Q.asg rfl) <| J.nil <| J.then_n <| J.seq ?_
  refine J.open_ 0 rfl rfl DiskAt.open_ fun x hx => ?_
  refine J.norm rfl ?_
  obtain ⟨o, ho, hlk⟩ := look' name x.fs
  refine J.region <| J.m rfl <| J.p rfl (Q.nil_ rfl) <| J.p rfl (Q.fa (n := 3) Tryz.runUnderlying78 rfl rfl Tryz.sizeOf76 rfl) ?_
  refine J.p rfl (Q.ldI Tryz.isAgg76 rfl) ?_
  refine J.m rfl ?_
  refine J.p rfl (Q.lk (i := 1) Tryz.runUnderlying76 Tryz.runUnderlying9 Tryz.zeroValue146 rfl rfl rfl ho) ?_
  refine J.p rfl (Q.asg rfl) <| J.nil <| J.then_n <| J.seq <| J.seq <| J.region <| J.m rfl <| J.p rfl (Q.eqlp Tryz.runUnderlying146 rfl rfl) <| J.nil <| J.then_n ?_
  refine J.kases 14 rfl (fun hc14 => ?_) (fun hc14 => ?_)
  ·
   obtain ⟨rfl, hl⟩ := look_none hlk hc14
   refine J.cond_t rfl <| J.seq <| J.region <| J.p rfl (Q.asg rfl) <| J.p rfl (Q.asg rfl) <| J.nil <| J.then_n <| J.cret <| J.then_r ?_
   have hg : fget name d.files = none := by rw [← hx.files]; exact hl.fget
   refine J.shut [0, 1, 2] (DiskAt p d) rfl (fun h s => ⟨x, hx, s⟩) ?_
   refine J.give (own.nil 5 1 _) ?_
   refine J.ret2 (B := [own 5 1 (.slice none 0 0) [], DiskAt p d]) rfl rfl rfl ⟨none, 0, fun _ => ⟨rfl, rfl⟩, by simp only [DM.bytes, DM.found, hg]; rfl, by simp only [DM.bytes, hg]; rfl⟩ rfl
  obtain ⟨i, y, rfl, hl⟩ := look_some hlk hc14
  refine J.cond_f rfl <| J.cskip <| J.then_n <| J.seq ?_
  have hg : fget name d.files = some y.f := by rw [← hx.files]; exact hl.fget
  obtain ⟨_, hlen, _⟩ := hd.len hg
  have hsz := hd.size
  refine J.focus 2 i rfl hl.at_ ?_
  refine J.conv (Y := star y.asns) 0 rfl (fun _ h => h) ?_
  refine J.unpack 0 rfl rfl ?_
  refine J.region <| J.m rfl <| J.p rfl (Q.nil_ rfl) <| J.p rfl (Q.fa (n := 0) Tryz.runUnderlying148 rfl rfl Tryz.sizeOf22 rfl) ?_
  refine J.p rfl (Q.ldI Tryz.isAgg22 rfl) ?_
  refine J.slr1 1 rfl fun hsl => ?_
  refine J.call Tryz.call70 (clone_spec (own 5 1 (.slice y.sp y.f.bs.length y.sc) (bytesV y.f.bs)) y.sp y.sc y.f.bs hsl (by omega)) [1] rfl rfl rfl rfl ?_
  rintro _ _ ⟨sp', sc', rfl, rfl⟩
  refine J.norm rfl <| J.p rfl (Q.asg rfl) <| J.p rfl (Q.asg rfl) <| J.nil <| J.then_n <| J.cret ?_
  refine J.pack [2, 1] rfl ?_
  refine J.conv (Y := FW.asn y) 0 rfl (fun _ h => h) ?_
  refine J.refocus 0 2 i y rfl hl.at_ ?_
  refine J.shut [2, 3, 0] (DiskAt p d) rfl (fun h s => ⟨x, hx, s⟩) ?_
  refine J.pick [1, 0] rfl ?_
  refine J.ret2 (B := [own 5 1 (.slice sp' y.f.bs.length sc') (bytesV y.f.bs), DiskAt p d]) rfl rfl rfl ⟨sp', sc', (fun h => by rw [hg] at h; cases h), by simp only [DM.bytes, DM.found, hg], by simp only [DM.bytes, hg]⟩ rfl


theorem new_yes (n : Nat) (h1 : 1 ≤ n) (h2 : n ≤ 1073741824) : FSpec Tryz.prog 5 [.int .i64 n] [] (fun v B => ∃ p, v = .tuple #[.pointer (some ⟨p, 0, none⟩), .int .i64 0] ∧ B = [DiskAt p ⟨n, 0, []⟩]) := by
  refine FSpec.of Tryz.func5 rfl Tryz.ntmps5 rfl fun W0 F => ?_
  refine J.seq <| J.region <| J.p rfl (Q.asg rfl) <| J.p rfl (Q.asg rfl) <| J.nil <| J.then_n <| J.seq <| J.seq <| J.region <| J.m rfl <| J.p rfl (Q.lss rfl rfl) <| J.m rfl ?_
  refine J.kases 6 rfl (fun hb6 => ?_) (fun hb6 => ?_)
  ·
   refine J.k rfl <| J.k rfl <| J.p rfl (Q.pick_t rfl rfl) <| J.nil <| J.then_n <| J.cond_t rfl <| J.seq <| J.region <| J.p rfl (Q.asg rfl) <| J.p rfl (Q.asg rfl) <| J.nil <| J.then_n <| J.cret <| J.then_r ?_
   omega
  refine J.m rfl <| J.p rfl (Q.gtr rfl rfl) <| J.p rfl (Q.pick_f rfl rfl) <| J.nil <| J.then_n ?_
  refine J.kases 9 rfl (fun hc9 => ?_) (fun hc9 => ?_)
  ·
   refine J.cond_t rfl <| J.seq <| J.region <| J.p rfl (Q.asg rfl) <| J.p rfl (Q.asg rfl) <| J.nil <| J.then_n <| J.cret <| J.then_r ?_
   omega
  refine J.cond_f rfl <| J.cskip <| J.then_n <| J.seq <| J.region <| J.m rfl ?_
  refine J.c rfl rfl C.mkMap ?_
  rintro _ _ ⟨b11, rfl, rfl⟩
  refine J.norm rfl <| J.p rfl (Q.bld (l := [_, _, _, _]) Tryz.runUnderlying78 Tryz.zeroValue78 Tryz.places78 rfl rfl) ?_
  refine J.c rfl rfl (C.box (l := [_, _, _, _]) rfl rfl) ?_
  rintro _ _ ⟨b13, rfl, rfl⟩
  refine J.norm rfl <| J.p rfl (Q.asg rfl) <| J.p rfl (Q.asg rfl) <| J.nil <| J.then_n <| J.cret ?_
  refine J.give (X := star (([] : List FW).map FW.asn)) trivial ?_
  refine J.shut [1, 2, 0] (DiskAt b13 ⟨n, 0, []⟩) rfl (fun h s => ⟨⟨b11, 0, []⟩, ⟨rfl, List.nodup_nil, by simp⟩, s⟩) ?_
  refine J.ret2 (B := [DiskAt b13 ⟨n, 0, []⟩]) rfl rfl rfl ⟨_, rfl, rfl⟩ rfl

def DM.lose (d : DM) : DM := ⟨d.size, d.born + 1, []⟩
theorem lose_spec (p : Nat) (d : DM) (hd : d.wf) : FSpec Tryz.prog 31 [.pointer (some ⟨p, 0, none⟩)] [DiskAt p d] (fun v B => v = .tuple #[] ∧ B = [DiskAt p d.lose]) := by
  have hb := hd.born
  refine FSpec.of Tryz.func31 rfl Tryz.ntmps31 rfl fun W0 F => ?_
  refine J.open_ 0 rfl rfl DiskAt.open_ fun x hx => ?_
  refine J.norm rfl <| J.seq <| J.region <| J.m rfl <| J.m rfl ?_
  refine J.c rfl rfl C.mkMap ?_
  rintro _ _ ⟨b4, rfl, rfl⟩
  refine J.norm rfl <| J.p rfl (Q.nil_ rfl) <| J.p rfl (Q.fa (n := 3) Tryz.runUnderlying78 rfl rfl Tryz.sizeOf76 rfl) ?_
  refine J.stJ rfl Tryz.sizeOf76 rfl rfl rfl ?_
  refine J.p rfl (Q.nil_ rfl) <| J.p rfl (Q.fa (n := 1) Tryz.runUnderlying78 rfl rfl Tryz.sizeOf3 rfl) ?_
  refine J.stJ rfl Tryz.sizeOf3 rfl rfl rfl ?_
  refine J.nil <| J.then_n <| J.region <| J.m rfl <| J.p rfl (Q.nil_ rfl) <| J.p rfl (Q.fa (n := 2) Tryz.runUnderlying78 rfl rfl Tryz.sizeOf3 rfl) ?_
  refine J.p rfl (Q.ldI Tryz.isAgg3 rfl) ?_
  refine J.p rfl (Q.add64 rfl rfl (by omega)) <| J.p rfl (Q.nil_ rfl) <| J.p rfl (Q.fa (n := 2) Tryz.runUnderlying78 rfl rfl Tryz.sizeOf3 rfl) ?_
  refine J.stJ rfl Tryz.sizeOf3 rfl rfl rfl ?_
  refine J.nil ?_
  refine J.give (X := star (([] : List FW).map FW.asn)) trivial ?_
  refine J.keep [2, 1, 0, 5] rfl ?_
  refine J.shut [0, 1, 2] (DiskAt p d.lose) rfl (fun h s => ⟨⟨b4, 0, []⟩, ⟨rfl, List.nodup_nil, by simp⟩, s⟩) ?_
  refine J.end0 (B := [DiskAt p d.lose]) rfl ⟨rfl, rfl⟩ rfl

end Go.Proofs.YtblpcabdfbpcnaaGreatDoor.Dk

