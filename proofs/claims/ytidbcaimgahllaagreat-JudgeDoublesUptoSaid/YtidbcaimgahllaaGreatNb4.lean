/-
  What the proof of the last of these texts leans on: part 4 of 6.
-/
import Derived.Test.YtidbcaimgahllaaGreatRows
import Derived.Laws.StructEq
import Derived.Shelf.SortM.Plain
import Derived.Shelf.SortM.SortNone
import Derived.Ground.SlgmProg
import Derived.ProofKit
import Derived.OpenShut
import Derived.ShutString
import Derived.ChangeOld
import Derived.Below
import Derived.WideShapes
import Derived.ChangeArms
import Derived.Test.YtidbcaimgahllaaGreatNb3
namespace Go.Proofs.YtidbcaimgahllaaGreat
set_option linter.unusedSectionVars false
set_option linter.unusedSimpArgs false
set_option linter.unusedVariables false
open Go.X

def boxOwnS (b : Nat) (xs : List ByteArray) : Assn := fun h => ∃ z : Option Addr × Nat, HSat h [pt b (.cells [.slice z.1 xs.length z.2].toArray 41 (0, 0)), own 9 1 (.slice z.1 xs.length z.2) (xs.map Value.string)]

theorem appendSeqS (gf : FuncId) (lb : List Value) (G : Assn) (S : List ByteArray → Prop) (ok : List ByteArray → ByteArray → Prop) (eg : ∀ (args : Array Value) (w : World), (callFunc gf args).run Tryz.prog w = .ok (.enter gf args) w)
    (hit : ItSpec Tryz.prog gf lb (fun x : ByteArray => [Value.string x]) [G] S ok) (hok : ∀ pre x, ok pre x → pre.length < 1099511627776) :
    FSpec Tryz.prog 103 [.slice none 0 0, .func (.func gf) #[] lb.toArray] [G] (fun v B => ∃ (xs : List ByteArray) (p : Option Addr) (c : Nat), S xs ∧ v = .slice p xs.length c ∧ B = [own 9 1 (.slice p xs.length c) (xs.map Value.string), G]) := by
  refine FSpec.ofM Tryz.func103 rfl Tryz.ntmps103 rfl fun W0 F => ?_
  refine JI.seq ?_
  refine JI.region ?_
  refine JI.c rfl rfl (fun _ e => nomatch e) (C.box (l := [_]) rfl rfl) ?_
  rintro _ _ ⟨b2, rfl, rfl⟩
  refine J.norm rfl ?_
  refine JI.q rfl rfl (fun _ e => nomatch e) (Q.asg rfl) ?_
  refine JI.nil ?_
  refine JI.then_n ?_
  refine JI.seq ?_
  refine JI.seq ?_
  refine JI.region ?_
  refine JI.q rfl rfl (fun _ e => nomatch e) (Q.mv rfl) ?_
  refine JI.nil ?_
  refine JI.then_n ?_
  refine JI.block ?_
  refine J.give (own.nil 9 1 _) ?_
  refine J.shut [1, 0] (boxOwnS b2 []) rfl (fun h s => ⟨(none, 0), s⟩) ?_
  refine J.sub [(2, .pointer (some ⟨b2, 0, none⟩)), (6, .func (.func gf) #[] lb.toArray)] ⟨rfl, rfl, trivial⟩ ?_
  refine JI.rangeFunc gf lb (fun x : ByteArray => [Value.string x]) S ok (fun pre => [boxOwnS b2 pre]) (fun x => [(5, Value.string x), (2, .pointer (some ⟨b2, 0, none⟩))]) rfl eg hit (by decide) (fun _ => rfl) [0, 1] rfl ?_ ?_ ?_
  · intro l W1 F1 pre x _
    refine JI.region ?_
    refine JI.q rfl rfl (fun _ e => nomatch e) (Q.asg rfl) ?_
    refine JI.nil ?_
    exact JI.asgEnd ⟨rfl, rfl, trivial⟩ rfl
  · intro l W1 F1 pre x hk
    have hlen := hok pre x hk
    refine JI.block ?_
    refine JI.region ?_
    refine J.open_ 0 (p := fun _ => True) rfl rfl (fun h hh => by obtain ⟨z, hz⟩ := hh; exact ⟨z, trivial, hz⟩) fun z _ => ?_
    refine J.norm rfl ?_
    refine JI.q rfl rfl (fun _ e => nomatch e) (Q.ld Tryz.isAgg41 rfl (Reads.pt 0 rfl rfl)) ?_
    refine JI.q rfl rfl (fun _ e => nomatch e) (Q.mv rfl) ?_
    refine JI.c rfl rfl (fun _ e => nomatch e) (C.bslG (l := [_]) Tryz.runUnderlying41 Tryz.sizeOf9 Tryz.zeroValue9 (by decide) rfl rfl rfl rfl rfl) ?_
    rintro _ _ ⟨b10, rfl, rfl⟩
    refine J.norm rfl ?_
    refine JI.c rfl rfl (fun _ e => nomatch e) (C.app (i := 2) Tryz.runUnderlying41 Tryz.runUnderlying41 Tryz.typeInfo9 Tryz.sizeOf9 Tryz.zeroValue9 rfl rfl rfl (SlR.pt 0 rfl rfl (xs := [Value.string x]) (fun j u h => by rw [Nat.zero_add]; exact h)) (by intro v hv; obtain rfl := List.mem_singleton.1 hv; rfl) (by simp [Tryz.t9]; omega) (by decide)) ?_
    rintro _ _ ⟨p11, c11, rfl, rfl⟩
    refine J.norm rfl ?_
    refine JI.c0 rfl (fun _ e => nomatch e) (C.stl (i := 1) Tryz.sizeOf41 rfl rfl rfl rfl rfl rfl rfl) ?_
    rintro _ _ ⟨rfl, rfl⟩
    refine JI.nil ?_
    refine JI.blk_n ?_
    refine J.shut [1, 2] (boxOwnS b2 (pre ++ [x])) rfl (fun h s => ⟨(p11, c11), by simpa [List.length_append] using s⟩) ?_
    refine J.keep [0, 2] rfl ?_
    exact JI.bodyEnd rfl
  · intro D xs hS
    refine J.norm rfl ?_
    refine JI.blk_n ?_
    refine JI.then_n ?_
    refine JI.seq ?_
    refine JI.region ?_
    refine J.open_ 1 (p := fun _ => True) rfl rfl (fun h hh => by obtain ⟨z, hz⟩ := hh; exact ⟨z, trivial, hz⟩) fun z _ => ?_
    refine J.norm rfl ?_
    refine JI.q rfl rfl (fun _ e => nomatch e) (Q.ld Tryz.isAgg41 rfl (Reads.pt 0 rfl rfl)) ?_
    refine JI.q rfl rfl (fun _ e => nomatch e) (Q.asg rfl) ?_
    refine JI.nil ?_
    refine JI.then_n ?_
    refine JI.ret ?_
    refine J.keep [2, 1, 3, 4] rfl ?_
    exact JI.ret1 rfl rfl ⟨xs, z.1, z.2, hS, rfl, rfl⟩ rfl

theorem collectS (gf : FuncId) (lb : List Value) (G : Assn) (S : List ByteArray → Prop) (ok : List ByteArray → ByteArray → Prop) (eg : ∀ (args : Array Value) (w : World), (callFunc gf args).run Tryz.prog w = .ok (.enter gf args) w)
    (hit : ItSpec Tryz.prog gf lb (fun x : ByteArray => [Value.string x]) [G] S ok) (hok : ∀ pre x, ok pre x → pre.length < 1099511627776) :
    FSpec Tryz.prog 100 [.func (.func gf) #[] lb.toArray] [G] (fun v B => ∃ (xs : List ByteArray) (p : Option Addr) (c : Nat), S xs ∧ v = .slice p xs.length c ∧ B = [own 9 1 (.slice p xs.length c) (xs.map Value.string), G]) := by
  refine FSpec.of Tryz.func100 rfl Tryz.ntmps100 rfl fun W0 F => ?_
  refine J.seq <| J.region <| J.p rfl (Q.asg rfl) <| J.nil <| J.then_n <| J.seq <| J.region <| J.m rfl ?_
  refine J.call Tryz.call103 (appendSeqS gf lb G S ok eg hit hok) [0] rfl rfl rfl rfl ?_
  rintro _ _ ⟨xs, p, c, hS, rfl, rfl⟩
  refine J.norm rfl <| J.p rfl (Q.asg rfl) <| J.nil <| J.then_n <| J.cret ?_
  refine J.ret1 (B := [_, G]) rfl rfl ⟨xs, p, c, hS, rfl, rfl⟩ rfl
end Go.Proofs.YtidbcaimgahllaaGreat
namespace Go.Proofs
open Go.Shelf
def Tryz.sort101_ren : Go.Shelf.Ren := ⟨fun | 6 => 101 | 8 => 105 | 9 => 104 | 19 => 115 | 20 => 116 | 21 => 106 | 22 => 107 | 23 => 108 | 24 => 109 | 25 => 110 | 26 => 111 | 27 => 112 | 28 => 113 | 29 => 114 | 36 => 117 | 31 => 118 | 32 => 119 | 37 => 120 | 38 => 121 | 39 => 122 | 41 => 123 | n => n, fun | 27 => 41 | 29 => 9 | 3 => 3 | 32 => 174 | 26 => 41 | 0 => 0 | 44 => 65 | 46 => 40 | 4 => 4 | 36 => 196 | 35 => 195 | 41 => 132 | 5 => 5 | 9 => 9 | 53 => 203 | 57 => 206 | 63 => 208 | 64 => 209 | n => n, fun | n => n⟩
theorem Tryz.sort101 : Go.Proofs.SlLaysM.n6 Tryz.prog Tryz.sort101_ren := {
  mixed := by kernel_rfl
  f6 := ⟨Tryz.f101.name, by decide, Tryz.func101.trans (congrArg some (by kernel_rfl))⟩
  f8 := Tryz.func105.trans (congrArg some (by kernel_rfl))
  f9 := ⟨Tryz.f104.name, by decide, Tryz.func104.trans (congrArg some (by kernel_rfl))⟩
  f19 := Tryz.func115.trans (congrArg some (by kernel_rfl))
  f20 := Tryz.func116.trans (congrArg some (by kernel_rfl))
  f21 := ⟨Tryz.f106.name, by decide, Tryz.func106.trans (congrArg some (by kernel_rfl))⟩
  f22 := ⟨Tryz.f107.name, by decide, Tryz.func107.trans (congrArg some (by kernel_rfl))⟩
  f23 := ⟨Tryz.f108.name, by decide, Tryz.func108.trans (congrArg some (by kernel_rfl))⟩
  f24 := ⟨Tryz.f109.name, by decide, Tryz.func109.trans (congrArg some (by kernel_rfl))⟩
  f25 := ⟨Tryz.f110.name, by decide, Tryz.func110.trans (congrArg some (by kernel_rfl))⟩
  f26 := ⟨Tryz.f111.name, by decide, Tryz.func111.trans (congrArg some (by kernel_rfl))⟩
  f27 := ⟨Tryz.f112.name, by decide, Tryz.func112.trans (congrArg some (by kernel_rfl))⟩
  f28 := ⟨Tryz.f113.name, by decide, Tryz.func113.trans (congrArg some (by kernel_rfl))⟩
  f29 := ⟨Tryz.f114.name, by decide, Tryz.func114.trans (congrArg some (by kernel_rfl))⟩
  f31 := Tryz.func118.trans (congrArg some (by kernel_rfl))
  f32 := Tryz.func119.trans (congrArg some (by kernel_rfl))
  f36 := ⟨Tryz.f117.name, by decide, Tryz.func117.trans (congrArg some (by kernel_rfl))⟩
  f37 := ⟨Tryz.f120.name, by decide, Tryz.func120.trans (congrArg some (by kernel_rfl))⟩
  f38 := ⟨Tryz.f121.name, by decide, Tryz.func121.trans (congrArg some (by kernel_rfl))⟩
  f39 := ⟨Tryz.f122.name, by decide, Tryz.func122.trans (congrArg some (by kernel_rfl))⟩
  f41 := ⟨Tryz.f123.name, by decide, Tryz.func123.trans (congrArg some (by kernel_rfl))⟩
  t0 := Tryz.underlying0
  a0 := Tryz.isAgg0
  z0 := Tryz.sizeOf0
  v0 := Tryz.zeroValue0
  t3 := Tryz.underlying3
  a3 := Tryz.isAgg3
  z3 := Tryz.sizeOf3
  v3 := Tryz.zeroValue3
  t4 := Tryz.underlying4
  a4 := Tryz.isAgg4
  z4 := Tryz.sizeOf4
  v4 := Tryz.zeroValue4
  t5 := Tryz.underlying5
  a5 := Tryz.isAgg5
  z5 := Tryz.sizeOf5
  v5 := Tryz.zeroValue5
  t9 := Tryz.underlying9
  a9 := Tryz.isAgg9
  z9 := Tryz.sizeOf9
  v9 := Tryz.zeroValue9
  t26 := Tryz.underlying41
  a26 := Tryz.isAgg41
  z26 := Tryz.sizeOf41
  v26 := Tryz.zeroValue41
  t27 := Tryz.underlying41
  a27 := Tryz.isAgg41
  z27 := Tryz.sizeOf41
  v27 := Tryz.zeroValue41
  t29 := Tryz.underlying9
  a29 := Tryz.isAgg9
  z29 := Tryz.sizeOf9
  v29 := Tryz.zeroValue9
  t32 := Tryz.underlying174
  a32 := Tryz.isAgg174
  z32 := Tryz.sizeOf174
  v32 := Tryz.zeroValue174
  t35 := Tryz.underlying195
  a35 := Tryz.isAgg195
  z35 := Tryz.sizeOf195
  v35 := Tryz.zeroValue195
  t36 := Tryz.underlying196
  a36 := Tryz.isAgg196
  z36 := Tryz.sizeOf196
  v36 := Tryz.zeroValue196
  t41 := Tryz.underlying132
  a41 := Tryz.isAgg132
  z41 := Tryz.sizeOf132
  v41 := Tryz.zeroValue132
  t44 := Tryz.underlying65
  a44 := Tryz.isAgg65
  z44 := Tryz.sizeOf65
  v44 := Tryz.zeroValue65
  t46 := Tryz.underlying40
  a46 := Tryz.isAgg40
  z46 := Tryz.sizeOf40
  v46 := Tryz.zeroValue40
  t53 := Tryz.underlying203
  a53 := Tryz.isAgg203
  z53 := Tryz.sizeOf203
  v53 := Tryz.zeroValue203
  t57 := Tryz.underlying206
  a57 := Tryz.isAgg206
  z57 := Tryz.sizeOf206
  v57 := Tryz.zeroValue206
  t63 := Tryz.underlying208
  a63 := Tryz.isAgg208
  z63 := Tryz.sizeOf208
  v63 := Tryz.zeroValue208
  t64 := Tryz.underlying209
  a64 := Tryz.isAgg209
  z64 := Tryz.sizeOf209
  v64 := Tryz.zeroValue209 }
end Go.Proofs
namespace Go.Proofs.YtidbcaimgahllaaGreat
set_option linter.unusedSectionVars false
set_option linter.unusedSimpArgs false
set_option linter.unusedVariables false
open Go.X
open Go.Sort (Holds putRow putCells grow mapBlock onCells)

section
variable {α : Type} [Inhabited α] {enc : α → Value} {W0 w : World} {E b off n c : Nat} {zs zs' : List α} {F : List Assn}
theorem own_open (s : Sat W0 w (own E 1 (.slice (some ⟨b, off, none⟩) n c) (zs.map enc) :: F)) : ∃ o : Lies, o.ok 1 (.slice (some ⟨b, off, none⟩) n c) (zs.map enc) ∧ o.b = b ∧ o.off = off ∧ Sat W0 w (pt b (.cells o.l.toArray E o.z) :: F) := by
  obtain ⟨h1, h2, a, q, d, x, y⟩ := s.heap
  rcases a with ⟨h, _⟩ | ⟨o, ho, hp⟩
  · cases h
  · have hv := ho.val
    simp only [Value.slice.injEq, Option.some.injEq, Addr.mk.injEq] at hv
    obtain ⟨⟨e1, e2, _⟩, _, _⟩ := hv
    exact ⟨o, ho, e1.symm, e2.symm, s.os, s.tape, s.out, h1, h2, e1 ▸ hp, q, d, x, y⟩
theorem own_holds (s : Sat W0 w (own E 1 (.slice (some ⟨b, off, none⟩) n c) (zs.map enc) :: F)) : Holds enc w b off zs.toArray ∧ b < w.heap.size := by
  obtain ⟨o, ho, rfl, rfl, t⟩ := own_open s
  have hb := t.at_ (i := 0) rfl
  refine ⟨fun j hj => ?_, (Array.getElem?_eq_some_iff.1 hb).1⟩
  have hj' : j < zs.length := by simpa using hj
  have hg := ho.get j (enc zs[j]!) (by simp [hj'])
  have hlt := (List.getElem?_eq_some_iff.1 hg).1
  refine ⟨?_, ?_⟩
  · simp only [World.cell?, hb]
    simpa [hj'] using hg
  · have := ho.free (o.off + j) hlt
    simp only [World.frozen?, hb]
    simpa using this
theorem own_putRow (s : Sat W0 w (own E 1 (.slice (some ⟨b, off, none⟩) n c) (zs.map enc) :: F)) (hl : zs'.length = zs.length) (m : Nat) (os : Array Obj) :
    Sat W0 (grow (putRow enc (Go.Sort.ahead w m) b off zs'.toArray) os) (own E 1 (.slice (some ⟨b, off, none⟩) n c) (zs'.map enc) :: F) := by
  obtain ⟨o, ho, rfl, rfl, t⟩ := own_open s
  have hb : hp w o.b = some (.cells o.l.toArray E o.z) := t.at_ (i := 0) rfl
  have hlen : zs.length = n := by have := ho.len; have hv := ho.val; simp only [Value.slice.injEq] at hv; rw [← hv.2.1] at this; simpa using this
  have e1 : hp (putRow enc (Go.Sort.ahead w m) o.b o.off zs'.toArray) = upd (hp w) o.b (.cells (putCells enc o.off zs'.toArray o.l.toArray) E o.z) := hp_modify w o.b (onCells (putCells enc o.off zs'.toArray)) _ hb
  have hsub : Sub (hp (putRow enc (Go.Sort.ahead w m) o.b o.off zs'.toArray)) (hp (grow (putRow enc (Go.Sort.ahead w m) o.b o.off zs'.toArray) os)) := by
    intro x p hx
    have hlt := (Array.getElem?_eq_some_iff.1 (show (putRow enc (Go.Sort.ahead w m) o.b o.off zs'.toArray).heap[x]? = some p from hx)).1
    show ((putRow enc (Go.Sort.ahead w m) o.b o.off zs'.toArray).heap ++ os)[x]? = some p
    rw [Array.getElem?_append_left hlt]; exact hx
  have hu : HSat (upd (hp w) o.b (.cells (putCells enc o.off zs'.toArray o.l.toArray) E o.z)) (pt o.b (.cells (putCells enc o.off zs'.toArray o.l.toArray) E o.z) :: F) := by
    have := HSat.update (i := 0) (b := o.b) (o := .cells (putCells enc o.off zs'.toArray o.l.toArray) E o.z) (A := pt o.b (.cells o.l.toArray E o.z)) (B := pt o.b (.cells (putCells enc o.off zs'.toArray o.l.toArray) E o.z)) t.heap rfl fun k hk => ⟨⟨_, hk⟩, by simp [pt, upd]⟩
    simpa using this
  refine ⟨t.os, t.tape, t.out, (HSat.mono ?_ (e1 ▸ hsub))⟩
  refine hu.imp fun h hh => .inr ⟨{ o with l := (putCells enc o.off zs'.toArray o.l.toArray).toList }, ⟨ho.val, ?_, ho.cap, ?_, ?_, ?_⟩, hh⟩
  · have := ho.len; simp only [List.length_map] at this ⊢; omega
  · have := ho.fits; simpa [putCells] using this
  · intro j u hj
    have hj' : j < zs'.length := by have := (List.getElem?_eq_some_iff.1 hj).1; simpa using this
    have hg := ho.get j (enc zs[j]!) (by simp [show j < zs.length by omega])
    have hlt := (List.getElem?_eq_some_iff.1 hg).1
    simp only [List.getElem?_map, List.getElem?_eq_getElem hj', Option.map_some, Option.some.injEq] at hj
    subst hj
    simp only [putCells, Array.getElem?_toList, Array.getElem?_mapIdx, List.getElem?_toArray, hg, Option.map_some, List.size_toArray]
    rw [if_pos (by omega)]
    simp [hj']
  · intro k hk
    exact ho.free k (by simpa [putCells] using hk)
end

def leBy (a b : ByteArray) : Bool := decide (a.data.toList ≤ b.data.toList)
def ordS (l : List ByteArray) : List ByteArray := l.mergeSort leBy
theorem ordS_map (l : List ByteArray) : (ordS l).map (·.data.toList) = (l.map (·.data.toList)).mergeSort fun x y => decide (x ≤ y) :=
  List.map_mergeSort fun a _ b _ => rfl
theorem bytes_inj {a b : ByteArray} (h : a.data.toList = b.data.toList) : a = b := by
  cases a; cases b; simp only [ByteArray.mk.injEq] at *; exact Array.toList_inj.1 h
theorem ordS_perm {l m : List ByteArray} (h : l.Perm m) : ordS l = ordS m := by
  unfold ordS
  have t1 : ∀ a b c : ByteArray, leBy a b = true → leBy b c = true → leBy a c = true := fun a b c h1 h2 => by
    simp only [leBy, decide_eq_true_eq] at *; exact List.le_trans h1 h2
  have t2 : ∀ a b : ByteArray, (leBy a b || leBy b a) = true := fun a b => by
    simp only [leBy, Bool.or_eq_true, decide_eq_true_eq]; exact List.le_total _ _
  refine List.Perm.eq_of_pairwise (le := fun a b => leBy a b = true) ?_ (List.pairwise_mergeSort t1 t2 l) (List.pairwise_mergeSort t1 t2 m) (((List.mergeSort_perm l _).trans h).trans (List.mergeSort_perm m _).symm)
  intro a b _ _ h1 h2
  simp only [leBy, decide_eq_true_eq] at h1 h2
  exact bytes_inj (List.le_antisymm h1 h2)
theorem ordS_enc (l : List ByteArray) : l.map Value.string = (l.map (·.data.toList)).map encStr := by
  rw [List.map_map]
  refine List.map_congr_left fun p _ => ?_
  show Value.string p = Value.string ⟨p.data.toList.toArray⟩
  rw [Array.toArray_toList]

theorem sortAnyS (p : Option Addr) (c : Nat) (l : List ByteArray) (hs : l.length ≤ 1099511627776) :
    FSpec Tryz.prog 101 [.slice p l.length c] [own 9 1 (.slice p l.length c) (l.map Value.string)] (fun v B => v = .tuple #[] ∧ B = [own 9 1 (.slice p l.length c) ((ordS l).map Value.string)]) := by
  refine ⟨fun W0 w F s => ?_⟩
  obtain ⟨k, hk, _⟩ := s.heap.at_ (i := 0) rfl
  rcases hk with ⟨h1, h2⟩ | ⟨o, ho, _⟩
  · have hl : l = [] := by simpa using h2
    subst hl
    refine (AnyM.slices_Sort_string_none Tryz.sort101 p c w).mono ?_
    rintro e w' ⟨rfl, rfl⟩
    exact ⟨_, _, rfl, ⟨rfl, rfl⟩, by simpa [ordS] using s⟩
  · have hv := ho.val
    simp only [Value.slice.injEq] at hv
    obtain ⟨rfl, _, _⟩ := hv
    rw [ordS_enc] at s
    obtain ⟨q1, q2⟩ := own_holds (F := [F]) s
    have hc := AnyM.slices_Sort_string Tryz.sort101 o.b o.off c (l.map (·.data.toList)) w q1 q2 (by simp; omega)
    rw [List.length_map] at hc
    refine hc.mono ?_
    rintro e w' ⟨rfl, m, os, rfl⟩
    refine ⟨_, _, rfl, ⟨rfl, rfl⟩, ?_⟩
    rw [ordS_enc, ordS_map]
    exact own_putRow (F := [F]) s (by simp [List.length_mergeSort]) m os

theorem sortedS (gf : FuncId) (lb : List Value) (G : Assn) (M : List ByteArray) (ok : List ByteArray → ByteArray → Prop) (eg : ∀ (args : Array Value) (w : World), (callFunc gf args).run Tryz.prog w = .ok (.enter gf args) w)
    (hit : ItSpec Tryz.prog gf lb (fun x : ByteArray => [Value.string x]) [G] (fun xs => xs.Perm M) ok) (hok : ∀ pre x, ok pre x → pre.length < 1099511627776) (hs : M.length ≤ 1099511627776) :
    FSpec Tryz.prog 97 [.func (.func gf) #[] lb.toArray] [G] (fun v B => ∃ (p : Option Addr) (c : Nat), v = .slice p M.length c ∧ B = [own 9 1 (.slice p M.length c) ((ordS M).map Value.string), G]) := by
  refine FSpec.of Tryz.func97 rfl Tryz.ntmps97 rfl fun W0 F => ?_
  refine J.seq <| J.region <| J.p rfl (Q.asg rfl) <| J.nil <| J.then_n <| J.seq <| J.region <| J.m rfl ?_
  refine J.call Tryz.call100 (collectS gf lb G (fun xs => xs.Perm M) ok eg hit hok) [0] rfl rfl rfl rfl ?_
  rintro _ _ ⟨xs, p, c, hS, rfl, rfl⟩
  refine J.norm rfl ?_
  have hlen : xs.length = M.length := hS.length_eq
  refine J.p rfl (Q.asg rfl) <| J.nil <| J.then_n <| J.seq <| J.region <| J.m rfl ?_
  refine J.call Tryz.call101 (sortAnyS p c xs (by omega)) [0] rfl rfl rfl rfl ?_
  rintro _ _ ⟨rfl, rfl⟩
  refine J.norm rfl <| J.nil <| J.then_n <| J.seq <| J.region <| J.m rfl <| J.p rfl (Q.asg rfl) <| J.nil <| J.then_n <| J.cret ?_
  rw [ordS_perm hS, hlen]
  refine J.ret1 (B := [_, G]) rfl rfl ⟨p, c, rfl, rfl⟩ rfl
end Go.Proofs.YtidbcaimgahllaaGreat
namespace Go.Proofs.YtidbcaimgahllaaGreat
set_option linter.unusedSectionVars false
set_option linter.unusedSimpArgs false
set_option linter.unusedVariables false
open Go.X
open Go.X.G (Ord3 ord3_nat ord3_int ord3_str ltB sget sput sdel Srtd MapAt MapHole Ent Ents)

theorem srtS {ν : Type} {S : List (ByteArray × ν)} (h : Srtd ltB S) : ordS (S.map (·.1)) = S.map (·.1) := by
  refine List.mergeSort_of_pairwise ?_
  rw [List.pairwise_map]
  refine h.imp fun {a b} h => ?_
  simp only [ltB, leBy, decide_eq_true_eq] at h ⊢
  exact List.le_of_lt h
end Go.Proofs.YtidbcaimgahllaaGreat
namespace Go.Proofs.YtidbcaimgahllaaGreat
set_option linter.unusedSectionVars false
set_option linter.unusedSimpArgs false
set_option linter.unusedVariables false
open Go.X
open Go.X.G (Ord3 ord3_nat ord3_int ord3_str ltB sget sput sdel Srtd MapAt MapHole Ent Ents edone eleft)

theorem keysItOb (bm r : Nat) (S0 : List (ByteArray × (List UInt8))) : ItSpec Tryz.prog 102 [.pointer (some ⟨bm, 0, none⟩)] (fun x : ByteArray => [Value.string x]) [star [pt bm (.cells [.map (some r)].toArray 179 (0, 0)), MapAt Value.string datRep r S0]]
    (fun xs => xs.Perm (S0.map (·.1))) (fun pre _ => pre.length < S0.length) := by
  intro l Inv hY
  refine FSpec.of Tryz.func102 rfl Tryz.ntmps102 rfl fun W0 F => ?_
  refine J.seq ?_
  refine J.unpack 1 rfl rfl ?_
  refine J.open_ 1 rfl rfl (fun _ h => h) fun q hq => ?_
  refine J.norm rfl <| J.region ?_
  refine J.p rfl (Q.ld Tryz.isAgg179 rfl (rdI (by exact rfl))) ?_
  refine J.c rfl rfl (X.G.C.range (i := 0) Tryz.runUnderlying179 rfl rfl) ?_
  rintro _ _ ⟨b5, rfl, rfl⟩
  refine J.norm rfl <| J.nil <| J.then_n <| J.block ?_
  refine J.pick [0, 1, 2, 3, 4, 5] rfl ?_
  refine J.loop (fun z : List Nat × List ByteArray => z.2.Perm ((edone q.1 z.1).map (·.key))) (fun z => (eleft q.1 z.1).length) (fun z => [(0, .func (.yield l) #[] #[]), (5, .pointer (some ⟨b5, 0, none⟩))])
    (fun z => [pt b5 (X.G.miter r q.2 z.1), pt r (X.G.mobj Value.string (q.1.map Ent.m) q.2), star (q.1.map (Ent.asn datRep)), pt bm (.cells [.map (some r)].toArray 179 (0, 0)), Inv z.2, F])
    ([], []) (by simp [X.G.edone_nil]) ⟨rfl, rfl, trivial⟩ rfl fun z hz => ?_
  obtain ⟨seen, pre⟩ := z
  dsimp only at hz
  refine J.seq <| J.region ?_
  refine J.c rfl rfl (X.G.C.nextE (i := 0) (j := 1) hq rfl rfl rfl) ?_
  rintro _ _ ⟨t, rest, seen', rfl, rfl, hst⟩
  refine J.norm rfl <| J.p rfl (Q.ext rfl rfl) <| J.nil <| J.then_n <| J.seq ?_
  refine J.cases 7 rfl (fun hc7 => ?_) (fun hc7 => ?_)
  ·
   replace hc7 := X.nm hc7
   obtain ⟨e, he, rfl⟩ : ∃ e, e ∈ eleft q.1 seen ∧ seen' = seen ++ [e.born] := by rcases hst with ⟨h, _⟩ | ⟨_, h⟩; exact absurd hc7 (by rw [h]; decide); exact h
   refine J.cond_t rfl <| J.cskip <| J.then_n <| J.block <| J.seq <| J.region ?_
   have hstep := X.G.estep hq.born he
   have hlt : pre.length < S0.length := by
     have h1 := hstep.1.length_eq
     have h2 : (edone q.1 (seen ++ [e.born])).length ≤ q.1.length := List.length_filter_le _ _
     have h3 := hz.length_eq
     have h4 := hq.len
     simp only [List.length_cons, List.length_map] at h1 h3
     omega
   have hnx : (pre ++ [e.key]).Perm ((edone q.1 (seen ++ [e.born])).map (·.key)) := by
     refine (List.perm_append_singleton _ _).trans ?_
     refine (hz.cons e.key).trans ?_
     exact (hstep.1.map (·.key)).symm
   refine J.p rfl (X.G.Q.entryE (i := 0) (j := 1) hq he rfl rfl rfl) ?_
   refine J.p rfl (Q.ext rfl rfl) <| J.p rfl (Q.asg rfl) <| J.nil <| J.then_n <| J.seq ?_
   refine J.regionY ?_
   refine JI.q rfl rfl (fun _ e => nomatch e) (Q.mv rfl) ?_
   refine JI.q rfl rfl (fun _ e => nomatch e) (Q.mv rfl) ?_
   refine JI.yield (hY pre e.key hlt) [4] rfl rfl rfl rfl rfl ?_
   rintro _ _ ⟨rfl, rfl⟩
   refine J.norm rfl ?_
   refine JI.q rfl rfl (fun _ e => nomatch e) (Q.not rfl) ?_
   refine JI.nil ?_
   refine JI.out ?_
   refine J.then_n ?_
   refine J.cases 13 rfl (fun hc13 => ?_) (fun hc13 => ?_)
   ·
    cases hc13
   replace hc13 := X.nm hc13
   refine J.cond_f rfl <| J.cskip <| J.blk_n ?_
   refine J.pick [1, 2, 3, 4, 0, 5] rfl ?_
   refine J.again (seen ++ [e.born], pre ++ [e.key]) hnx hstep.2 ⟨rfl, rfl, trivial⟩ rfl
  replace hc7 := X.nm hc7
  obtain ⟨hall, rfl⟩ : edone q.1 seen = q.1 ∧ seen' = seen := by rcases hst with ⟨_, h⟩ | ⟨h, _⟩; exact h; exact absurd hc7 (by rw [h]; decide)
  refine J.cond_f rfl <| J.exit <| J.then_x <| J.lp_x <| J.blk_x ?_
  rw [hall] at hz
  have hfin : pre.Perm (S0.map (·.1)) := by
    refine hz.trans ?_
    have := hq.perm.map (·.1)
    rw [List.map_map] at this
    exact this
  refine J.shut [1, 2] (MapAt Value.string datRep r S0) rfl (fun h s => ⟨q, hq, s⟩) ?_
  refine J.pick [2, 0, 1, 3, 4] rfl ?_
  refine J.pack [0, 1] rfl ?_
  refine J.keep [2, 0, 3] rfl ?_
  refine J.end0 (B := [Inv pre, _]) rfl ⟨pre, hfin, rfl⟩ rfl

theorem keysOb (r : Option Nat) : FSpec Tryz.prog 98 [.map r] [] (fun v B => ∃ bm, v = .func (.func 102) #[] #[.pointer (some ⟨bm, 0, none⟩)] ∧ B = [pt bm (.cells [.map r].toArray 179 (0, 0))]) := by
  refine FSpec.of Tryz.func98 rfl Tryz.ntmps98 rfl fun W0 F => ?_
  refine J.seq <| J.region ?_
  refine J.c rfl rfl (C.box (l := [_]) rfl rfl) ?_
  rintro _ _ ⟨b1, rfl, rfl⟩
  refine J.norm rfl <| J.p rfl (Q.asg rfl) <| J.nil <| J.then_n <| J.seq <| J.region <| J.p rfl (Q.func rfl rfl) <| J.p rfl (Q.asg rfl) <| J.nil <| J.then_n <| J.cret ?_
  refine J.keep [0, 1] rfl ?_
  refine J.ret1 (B := [_]) rfl rfl ⟨_, rfl, rfl⟩ rfl

theorem sortedOb (bm r : Nat) (S0 : List (ByteArray × (List UInt8))) (hS : Srtd ltB S0) (hl : S0.length ≤ 32768) : FSpec Tryz.prog 97 [.func (.func 102) #[] #[.pointer (some ⟨bm, 0, none⟩)]] [pt bm (.cells [.map (some r)].toArray 179 (0, 0)), MapAt Value.string datRep r S0]
    (fun v B => ∃ (p : Option Addr) (c : Nat), v = .slice p S0.length c ∧ B = [own 9 1 (.slice p S0.length c) ((S0.map (·.1)).map Value.string), pt bm (.cells [.map (some r)].toArray 179 (0, 0)), MapAt Value.string datRep r S0]) := by
  have h := sortedS 102 [.pointer (some ⟨bm, 0, none⟩)] _ (S0.map (·.1)) _ Tryz.call102 (keysItOb bm r S0) (fun pre _ h => by omega) (by rw [List.length_map]; omega)
  refine h.conv (fun k s => HSat.pack (Bs := []) (by simpa using s)) ?_
  rintro v B' ⟨p, c, rfl, rfl⟩
  rw [List.length_map, srtS hS]
  refine ⟨_, ⟨p, c, rfl, rfl⟩, fun k s => ?_⟩
  exact HSat.under s fun _ s => HSat.unpack (Bs := []) s
end Go.Proofs.YtidbcaimgahllaaGreat
namespace Go.Proofs.YtidbcaimgahllaaGreat
set_option linter.unusedSectionVars false
set_option linter.unusedSimpArgs false
set_option linter.unusedVariables false
open Go.X
open Go.X.G (Ord3 ord3_nat ord3_int ord3_str ltB sget sput sdel Srtd MapAt MapHole Ent Ents mobj)

theorem leqs {P : Program} {L : Slots} {D : List Assn} {ty T T' : TypeId} {x y : Operand} {s t : ByteArray} (ex : ev L x = some (.string s)) (ey : ev L y = some (.string t)) : OpQ P (.binOp .leq T x y T') ty L D (.bool (!ltB t s)) :=
  Q.bin ex ey fun w => by
    have h : (Op.bytesLess s.data.toList t.data.toList || decide (s.data.toList = t.data.toList)) = !ltB t s := by
      rw [Bool.eq_iff_iff]
      simp only [Bool.or_eq_true, less_iff, decide_eq_true_eq, Bool.not_eq_true', ltB, decide_eq_false_iff_not, List.not_lt]
      exact ⟨fun h => h.elim List.le_of_lt (fun e => by rw [e]; exact List.le_refl _), fun h => by
        rcases List.le_total t.data.toList s.data.toList with h' | h'
        · exact .inr (List.le_antisymm h h')
        · rcases Classical.em (s.data.toList = t.data.toList) with e | e
          · exact .inr e
          · exact .inl (by
              rcases Classical.em (s.data.toList < t.data.toList) with g | g
              · exact g
              · exact absurd (List.le_antisymm h (List.not_lt.1 g)) e)⟩
    simp only [Sem.run_bind, guard_str, Result.andThen_ok, binOp, Op.stringOp, ByteArray.toList_eq, list_beq, ← h]; rfl

structure BM.kok (M : BM) : Prop where
  ob : ∀ n o, sget n M.buckets = some o → ∀ p, p ∈ o → p.1.size ≤ 1024
  up : ∀ n u, sget n M.uploads = some u → u.key.size ≤ 1024

def keysM (M : BM) (name : ByteArray) : List ByteArray := match sget name M.buckets with | none => [] | some o => o.map (·.1)

theorem keysNil (bm : Nat) : ItSpec Tryz.prog 102 [.pointer (some ⟨bm, 0, none⟩)] (fun x : ByteArray => [Value.string x]) [pt bm (.cells [.map none].toArray 179 (0, 0))]
    (fun xs => xs.Perm []) (fun _ _ => False) := by
  intro l Inv hY
  refine FSpec.of Tryz.func102 rfl Tryz.ntmps102 rfl fun W0 F => ?_
  refine J.seq <| J.region ?_
  refine J.p rfl (Q.ld Tryz.isAgg179 rfl (rdI (by exact rfl))) ?_
  refine J.c rfl rfl (X.G.C.rangeNil Tryz.runUnderlying179 rfl) ?_
  rintro _ _ ⟨b5, rfl, rfl⟩
  refine J.norm rfl <| J.nil <| J.then_n <| J.block ?_
  refine J.loop (fun _ : Unit => True) (fun _ => 0) (fun _ => [(5, .pointer (some ⟨b5, 0, none⟩))]) (fun _ => [pt b5 X.G.miterNil, Inv [], pt bm (.cells [.map none].toArray 179 (0, 0)), F]) () trivial ⟨rfl, trivial⟩ rfl fun _ _ => ?_
  refine J.seq <| J.region ?_
  refine J.p rfl (X.G.Q.nextNil (i := 0) rfl rfl) ?_
  refine J.p rfl (Q.ext rfl rfl) <| J.nil <| J.then_n <| J.seq ?_
  refine J.cases 7 rfl (fun hc7 => ?_) (fun hc7 => ?_)
  ·
   exfalso; cases hc7
  replace hc7 := X.nm hc7
  refine J.cond_f rfl <| J.exit <| J.then_x <| J.lp_x <| J.blk_x ?_
  refine J.keep [1, 2, 3] rfl ?_
  refine J.end0 (B := [_, _]) rfl ⟨[], List.Perm.refl _, rfl⟩ rfl

section
variable {k : Nat} (m : Nat) (M : BM) (hM : M.ok k) (hK : M.kok) (hk : k ≤ 32768) (name : ByteArray)
include hM hK hk
theorem objects_no (hB : sget name M.buckets = none) : FSpec Tryz.prog 95 [.pointer (some ⟨m, 0, none⟩), .string name] [BktAt m M] (fun v B => ∃ p c, v = .slice p (keysM M name).length c ∧ B = [own 9 1 (.slice p (keysM M name).length c) ((keysM M name).map Value.string), BktAt m M]) := by
  have hke : keysM M name = [] := by unfold keysM; rw [hB]
  rw [hke]
  refine FSpec.of Tryz.func95 rfl Tryz.ntmps95 rfl fun W0 F => ?_
  refine J.seq <| J.region <| J.p rfl (Q.asg rfl) <| J.nil <| J.then_n <| J.seq ?_
  refine J.open1 0 rfl (fun _ h => h) fun z => ?_
  refine J.norm rfl <| J.region <| J.m rfl <| J.p rfl (Q.nil_ rfl) <| J.p rfl (Q.fa (n := 0) Tryz.runUnderlying167 rfl rfl Tryz.sizeOf163 rfl) ?_
  refine J.p rfl (Q.ld Tryz.isAgg163 rfl (rdI (by exact rfl))) ?_
  refine J.m rfl ?_
  refine J.p rfl (X.G.Q.lkNo (i := 1) Tryz.runUnderlying163 keyS Tryz.zeroValue179 rfl rfl rfl hB) ?_
  refine J.call Tryz.call98 (keysOb none) [] rfl rfl rfl rfl ?_
  rintro _ _ ⟨bk, rfl, rfl⟩
  refine J.norm rfl ?_
  refine J.call Tryz.call97 (sortedS 102 [.pointer (some ⟨bk, 0, none⟩)] _ [] (fun _ _ => False) Tryz.call102 (keysNil bk) (fun _ _ h => h.elim) (by decide)) [0] rfl rfl rfl rfl ?_
  rintro _ _ ⟨p12, c12, rfl, rfl⟩
  refine J.norm rfl ?_
  have e0 : ordS [] = [] := by simp [ordS]
  rw [e0]
  refine J.p rfl (Q.asg rfl) <| J.nil <| J.then_n <| J.cret ?_
  refine J.shut [2, 3, 4, 5] (BktAt m M) rfl (fun h s => ⟨z, s⟩) ?_
  refine J.keep [1, 0, 3] rfl ?_
  refine J.ret1 (B := [own 9 1 (.slice p12 0 c12) [], BktAt m M]) rfl rfl ⟨p12, c12, rfl, rfl⟩ rfl
theorem objects_yes {objs : Objs} (hB : sget name M.buckets = some objs) : FSpec Tryz.prog 95 [.pointer (some ⟨m, 0, none⟩), .string name] [BktAt m M] (fun v B => ∃ p c, v = .slice p (keysM M name).length c ∧ B = [own 9 1 (.slice p (keysM M name).length c) ((keysM M name).map Value.string), BktAt m M]) := by
  have hke : keysM M name = objs.map (·.1) := by unfold keysM; rw [hB]
  have hO := hM.os _ _ hB
  have hob := hK.ob _ _ hB
  rw [hke, List.length_map]
  refine FSpec.of Tryz.func95 rfl Tryz.ntmps95 rfl fun W0 F => ?_
  refine J.seq <| J.region <| J.p rfl (Q.asg rfl) <| J.nil <| J.then_n <| J.seq ?_
  refine J.open1 0 rfl (fun _ h => h) fun z => ?_
  refine J.norm rfl ?_
  refine J.mapFocus 1 hB rfl fun val => ?_
  refine J.norm rfl ?_
  refine J.open_ 0 rfl rfl (fun _ h => h) fun r hr => ?_
  subst hr
  refine J.norm rfl <| J.region <| J.m rfl <| J.p rfl (Q.nil_ rfl) <| J.p rfl (Q.fa (n := 0) Tryz.runUnderlying167 rfl rfl Tryz.sizeOf163 rfl) ?_
  refine J.p rfl (Q.ld Tryz.isAgg163 rfl (rdI (by exact rfl))) ?_
  refine J.m rfl ?_
  refine J.p rfl (X.G.Q.lkYes (i := 1) Tryz.runUnderlying163 keyS Tryz.zeroValue179 rfl rfl rfl) ?_
  refine J.call Tryz.call98 (keysOb (some r)) [] rfl rfl rfl rfl ?_
  rintro _ _ ⟨bk, rfl, rfl⟩
  refine J.norm rfl ?_
  refine J.call Tryz.call97 (sortedOb bk r objs hO.1 (by omega)) [0, 1] rfl rfl rfl rfl ?_
  rintro _ _ ⟨p12, c12, rfl, rfl⟩
  refine J.norm rfl <| J.p rfl (Q.asg rfl) <| J.nil <| J.then_n <| J.cret ?_
  refine J.shut [2] (bRep name objs (.map (some r))) rfl (fun h s => ⟨r, rfl, s⟩) ?_
  refine J.mapSame 0 3 ord3_str hM.bs hB rfl ?_
  refine J.shut [3, 0, 4, 5] (BktAt m M) rfl (fun h s => ⟨z, s⟩) ?_
  refine J.keep [1, 0, 3] rfl ?_
  refine J.ret1 (B := [own 9 1 (.slice p12 objs.length c12) ((objs.map (·.1)).map Value.string), BktAt m M]) rfl rfl ⟨p12, c12, rfl, rfl⟩ rfl
theorem objects_spec : FSpec Tryz.prog 95 [.pointer (some ⟨m, 0, none⟩), .string name] [BktAt m M] (fun v B => ∃ p c, v = .slice p (keysM M name).length c ∧ B = [own 9 1 (.slice p (keysM M name).length c) ((keysM M name).map Value.string), BktAt m M]) := by
  cases hB : sget name M.buckets with
  | none => exact objects_no m M hM hK hk name hB
  | some objs => exact objects_yes m M hM hK hk name hB
end
end Go.Proofs.YtidbcaimgahllaaGreat
namespace Go.Proofs.YtidbcaimgahllaaGreat
set_option linter.unusedSectionVars false
set_option linter.unusedSimpArgs false
set_option linter.unusedVariables false
open Go.X
open Go.X.G (Ord3 ord3_nat ord3_int ord3_str ltB sget sput sdel Srtd MapAt MapHole Ent Ents mobj)

theorem prefix_spec (s p : ByteArray) : FSpec Tryz.prog 99 [.string s, .string p] [] (fun v B => v = .bool (beg s p) ∧ B = []) := by
  refine FSpec.of Tryz.func99 rfl Tryz.ntmps99 rfl fun W0 F => ?_
  refine J.seq <| J.region <| J.p rfl (Q.asg rfl) <| J.nil <| J.then_n <| J.seq <| J.region <| J.m rfl <| J.p rfl (Q.lenS Tryz.runUnderlying9 rfl) <| J.m rfl <| J.p rfl (Q.lenS Tryz.runUnderlying9 rfl) <| J.p rfl (Q.geq rfl rfl) <| J.m rfl ?_
  refine J.cases 10 rfl (fun hb10 => ?_) (fun hb10 => ?_)
  ·
   replace hb10 := X.nm hb10
   refine J.m rfl <| J.m rfl <| J.p rfl (Q.lenS Tryz.runUnderlying9 rfl) <| J.p rfl (Q.strH Tryz.runUnderlying9 rfl rfl (by omega) (by omega)) <| J.m rfl <| J.p rfl (Q.eqls rfl rfl) <| J.p rfl (Q.pick_t rfl rfl) <| J.p rfl (Q.asg rfl) <| J.nil <| J.then_n <| J.cret ?_
   refine J.ret1 (B := []) rfl rfl ⟨?_, rfl⟩ rfl
   unfold beg
   first
     | (rw [decide_eq_true (show p.size ≤ s.size by omega)]; simp only [Bool.true_and, Int.toNat_natCast]; done)
     | (rw [decide_eq_true (show p.size ≤ s.size by omega)]; rfl)
     | (rw [decide_eq_false (show ¬ p.size ≤ s.size by omega)]; rfl)
  replace hb10 := X.nm hb10
  refine J.skip rfl rfl <| J.skip rfl rfl <| J.skip rfl rfl <| J.skip rfl rfl <| J.skip rfl rfl <| J.skip rfl rfl <| J.p rfl (Q.pick_f rfl rfl) <| J.p rfl (Q.asg rfl) <| J.nil <| J.then_n <| J.cret ?_
  refine J.ret1 (B := []) rfl rfl ⟨?_, rfl⟩ rfl
  unfold beg
  first
    | (rw [decide_eq_true (show p.size ≤ s.size by omega)]; simp only [Bool.true_and, Int.toNat_natCast]; done)
    | (rw [decide_eq_true (show p.size ≤ s.size by omega)]; rfl)
    | (rw [decide_eq_false (show ¬ p.size ≤ s.size by omega)]; rfl)
theorem hasPrefix_spec (s p : ByteArray) : FSpec Tryz.prog 96 [.string s, .string p] [] (fun v B => v = .bool (beg s p) ∧ B = []) := by
  refine FSpec.of Tryz.func96 rfl Tryz.ntmps96 rfl fun W0 F => ?_
  refine J.seq <| J.region <| J.p rfl (Q.asg rfl) <| J.nil <| J.then_n <| J.seq <| J.region <| J.m rfl <| J.m rfl ?_
  refine J.call Tryz.call99 (prefix_spec s p) [] rfl rfl rfl rfl ?_
  rintro _ _ ⟨rfl, rfl⟩
  refine J.norm rfl <| J.p rfl (Q.asg rfl) <| J.nil <| J.then_n <| J.cret ?_
  refine J.ret1 (B := []) rfl rfl ⟨rfl, rfl⟩ rfl

def lsel (o : OM) (a : ByteArray) : Bool := beg a o.key && ltB o.after a
theorem filter_take {p : ByteArray → Bool} {l : List ByteArray} {j : Nat} {a : ByteArray} (h : l[j]? = some a) : (l.take (j + 1)).filter p = (l.take j).filter p ++ (if p a then [a] else []) := by
  obtain ⟨h1, h2⟩ := List.getElem?_eq_some_iff.1 h
  rw [List.take_succ_eq_append_getElem h1, List.filter_append, h2]
  cases hp : p a <;> simp [List.filter, hp]
theorem filter_more {p : ByteArray → Bool} {l : List ByteArray} {j : Nat} {a : ByteArray} (h : l[j]? = some a) (hp : p a = true) : ∃ r, l.filter p = (l.take j).filter p ++ a :: r := by
  obtain ⟨h1, h2⟩ := List.getElem?_eq_some_iff.1 h
  refine ⟨(l.drop (j + 1)).filter p, ?_⟩
  conv => lhs; rw [← List.take_append_drop j l, List.filter_append, List.drop_eq_getElem_cons h1, h2]
  rw [List.filter_cons, if_pos hp]

section
variable {k : Nat} (m : Nat) (M : BM) (hM : M.ok k) (hK : M.kok) (hk : k ≤ 32768) (x : OW) (G : Assn) (hx : x.ok G) (hc : x.o.chkB = true) (h6 : x.o.kind = 6)
include hM hK hk hx hc h6
theorem list_no_all : (∀ (hB : sget x.o.bucket M.buckets = none), FSpec Tryz.prog 89 [.pointer (some ⟨m, 0, none⟩), .agg x.cells.toArray] [BktAt m M, G] (ActR m G (st 404, M))) ∧ (∀ {objs : Objs} (hB : sget x.o.bucket M.buckets = some objs), FSpec Tryz.prog 89 [.pointer (some ⟨m, 0, none⟩), .agg x.cells.toArray] [BktAt m M, G] (ActR m G (⟨200, 0, (listed x.o objs).take x.o.n.toNat, decide (x.o.n.toNat < (listed x.o objs).length), []⟩, M))) := by
  refine ⟨fun hB => ?_, fun {objs} hB => ?_⟩
  all_goals
   have hn := chk_6 hc h6
   try have hO := hM.os _ _ hB
   try have hke : keysM M x.o.bucket = objs.map (·.1) := by unfold keysM; rw [hB]
   refine FSpec.of Tryz.func89 rfl Tryz.ntmps89 rfl fun W0 F => ?_
   refine J.seq <| J.region ?_
   refine J.c rfl rfl (C.box (l := [_, _, _, _, _, _, _, _, _]) rfl rfl) ?_
   rintro _ _ ⟨b3, rfl, rfl⟩
   refine J.norm rfl ?_
   refine J.c rfl rfl (C.alloc (l := [_, _, _, _, _]) Tryz.zeroValue44 rfl) ?_
   rintro _ _ ⟨b4, rfl, rfl⟩
   refine J.norm rfl <| J.nil <| J.then_n <| J.seq <| J.seq <| J.region <| J.m rfl ?_
   refine J.p rfl (Q.ldN (vs := [_, _, _, _, _, _, _, _, _]) Tryz.isAgg52 Tryz.sizeOf52 rfl rnI) ?_
   refine J.call Tryz.call94 ((by first | exact known_no m M x hB | exact known_yes m M hM x hB)) [2] rfl rfl rfl rfl ?_
   rintro _ _ ⟨rfl, rfl⟩
   refine J.norm rfl <| J.p rfl (Q.not rfl) <| J.nil <| J.then_n ?_
   refine J.cases 11 rfl (fun hc11 => ?_) (fun hc11 => ?_)
   ·
    replace hc11 := X.nm hc11
    try (first | (cases hc11; done) | (exfalso; simp at hc11; done))
    all_goals
     refine J.cond_t rfl <| J.seq <| J.region ?_
     refine J.call Tryz.call73 (status_spec 404) [] rfl rfl rfl rfl ?_
     rintro _ _ ⟨y, rfl, hy, rfl⟩
     refine J.norm rfl ?_
     refine J.stAI (vs := [_, _, _, _, _]) rfl Tryz.sizeOf44 rfl rfl (by exact rfl) (by exact rfl) (by exact rfl) ?_
     refine J.nil <| J.then_n <| J.cret <| J.then_r ?_
     refine J.retC [1, 0, 4, 5] (vs := [_, _, _, _, _]) rfl rfl Tryz.isAgg44 Tryz.sizeOf44 (ReadsN.pt 2 rfl) rfl (B := [_, _, _]) ⟨_, rfl, hy, rfl⟩
   replace hc11 := X.nm hc11
   try (first | (cases hc11; done) | (exfalso; simp at hc11; done))
   all_goals
    refine J.cond_f rfl <| J.cskip <| J.then_n <| J.seq <| J.region ?_
    refine J.call Tryz.call73 (status_spec 200) [] rfl rfl rfl rfl ?_
    rintro _ _ ⟨y, rfl, hy, rfl⟩
    refine J.norm rfl ?_
    obtain ⟨yr, kp, kc, dp, dc⟩ := y
    dsimp only at hy
    subst hy
    refine J.c rfl rfl (C.alloc (l := [_, _, _, _, _]) Tryz.zeroValue44 rfl) ?_
    rintro _ _ ⟨b5, rfl, rfl⟩
    refine J.norm rfl ?_
    refine J.stAI (vs := [_, _, _, _, _]) rfl Tryz.sizeOf44 rfl rfl (by exact rfl) (by exact rfl) (by exact rfl) ?_
    refine J.nil <| J.then_n ?_
    refine J.cut (fun w : List ByteArray × Option Addr × Nat × Bool => w.1 = (listed x.o objs).take x.o.n.toNat ∧ w.2.2.2 = decide (x.o.n.toNat < (listed x.o objs).length)) (fun w => [(4, .pointer (some ⟨b4, 0, none⟩)), (5, .pointer (some ⟨b5, 0, none⟩))]) (fun w => [own 9 1 (.slice w.2.1 w.1.length w.2.2.1) (w.1.map Value.string), own 5 1 (.slice dp 0 dc) [], BktAt m M, pt b5 (.cells [Value.int .i64 200, .int .u64 0, .slice w.2.1 w.1.length w.2.2.1, .bool w.2.2.2, .slice dp 0 dc].toArray 44 (0, 0)), pt b4 (.cells [Value.int .i64 0, .int .u64 0, .slice none 0 0, .bool false, .slice none 0 0].toArray 44 (0, 0)), G, F]) ?_ fun w hw => ?_
    ·
     refine J.seq <| J.region <| J.m rfl <| J.p rfl (Q.fa (n := 2) Tryz.runUnderlying52 rfl rfl Tryz.sizeOf9 rfl) ?_
     refine J.p rfl (Q.ld Tryz.isAgg9 rfl (rdI (by exact rfl))) ?_
     refine J.call Tryz.call95 (objects_spec m M hM hK hk x.o.bucket) [2] rfl rfl rfl rfl ?_
     rintro _ _ ⟨p17, c17, rfl, rfl⟩
     refine J.norm rfl ?_
     obtain ⟨ks, hks⟩ : ∃ ks, ks = keysM M x.o.bucket := ⟨_, rfl⟩
     rw [← hks]
     have hkl : ks.length ≤ 1048576 := by rw [hks, hke, List.length_map]; omega
     have hlst : listed x.o objs = ks.filter (lsel x.o) := by rw [hks, hke]; rfl
     refine J.unpack 3 rfl rfl ?_
     refine J.norm rfl ?_
     refine J.slr1 2 rfl fun hs17 => ?_
     refine J.p rfl (Q.lenSl Tryz.runUnderlying41 rfl) <| J.m rfl <| J.nil <| J.then_n <| J.block ?_
     refine J.loop (fun w : Nat × Option Addr × Nat => w.1 ≤ ks.length ∧ ((ks.take w.1).filter (lsel x.o)).length ≤ x.o.n.toNat) (fun w => ks.length - w.1) (fun w => [(3, .pointer (some ⟨b3, 0, none⟩)), (4, .pointer (some ⟨b4, 0, none⟩)), (5, .pointer (some ⟨b5, 0, none⟩)), (17, .slice p17 ks.length c17), (18, .int .i64 ks.length), (19, .int .i64 w.1)])
       (fun w => [own 9 1 (.slice w.2.1 ((ks.take w.1).filter (lsel x.o)).length w.2.2) (((ks.take w.1).filter (lsel x.o)).map Value.string), own 5 1 (.slice dp 0 dc) [], own 9 1 (.slice p17 ks.length c17) (ks.map Value.string), BktAt m M, pt b5 (.cells [Value.int .i64 200, .int .u64 0, .slice w.2.1 ((ks.take w.1).filter (lsel x.o)).length w.2.2, .bool false, .slice dp 0 dc].toArray 44 (0, 0)), pt b4 (.cells [Value.int .i64 0, .int .u64 0, .slice none 0 0, .bool false, .slice none 0 0].toArray 44 (0, 0)), pt b3 (.cells x.cells.toArray 52 (0, 0)), G, F]) (0, kp, kc) ⟨Nat.zero_le _, Nat.zero_le _⟩ ⟨rfl, rfl, rfl, rfl, rfl, rfl, trivial⟩ rfl fun w hw => ?_
     obtain ⟨j, pa, ca⟩ := w
     obtain ⟨hj, ha⟩ := hw
     dsimp only at hj ha
     refine J.seq <| J.region <| J.p rfl (Q.lss rfl rfl) <| J.nil <| J.then_n <| J.seq ?_
     refine J.cases 20 rfl (fun hc20 => ?_) (fun hc20 => ?_)
     ·
      replace hc20 := X.nm hc20
      try (first | (cases hc20; done) | (exfalso; simp at hc20; done))
      all_goals
       refine J.cond_t rfl <| J.cskip <| J.then_n <| J.seq <| J.block <| J.seq ?_
       obtain ⟨bb, ob, hpp, hrd⟩ := hs17.some_ (by omega)
       obtain ⟨a, hka⟩ : ∃ a, ks[j]? = some a := ⟨_, List.getElem?_eq_getElem (by omega)⟩
       have hft := filter_take (p := lsel x.o) hka
       refine J.slot 17 (.slice (some ⟨bb, ob, none⟩) ks.length c17) rfl (by rw [hpp]) ?_
       refine J.region <| J.p rfl (Q.ia Tryz.runUnderlying41 Tryz.sizeOf9 rfl rfl (by omega) (by omega)) ?_
       refine J.p rfl (Q.ld Tryz.isAgg9 rfl (((hrd j (.string a) (by simp [hka])).within (i := 2) rfl).cast (by simp))) ?_
       refine J.p rfl (Q.asg rfl) <| J.nil <| J.then_n <| J.seq <| J.seq <| J.region <| J.m rfl <| J.p rfl (Q.fa (n := 3) Tryz.runUnderlying52 rfl rfl Tryz.sizeOf9 rfl) ?_
       refine J.p rfl (Q.ld Tryz.isAgg9 rfl (rdI (by exact rfl))) ?_
       refine J.call Tryz.call96 (hasPrefix_spec a x.o.key) [] rfl rfl rfl rfl ?_
       rintro _ _ ⟨rfl, rfl⟩
       refine J.norm rfl <| J.p rfl (Q.not rfl) <| J.m rfl ?_
       refine J.cases 28 rfl (fun hb28 => ?_) (fun hb28 => ?_)
       ·
        replace hb28 := X.nm hb28
        try (first | (cases hb28; done) | (exfalso; simp at hb28; done))
        all_goals
         refine J.skip rfl rfl <| J.skip rfl rfl <| J.skip rfl rfl <| J.skip rfl rfl <| J.p rfl (Q.pick_t rfl rfl) <| J.nil <| J.then_n <| J.cond_t rfl <| J.exit <| J.then_x <| J.blk_x <| J.then_n <| J.region <| J.p rfl (Q.add64 rfl rfl (by omega)) <| J.m rfl <| J.nil ?_
         have hsel : lsel x.o a = false := by unfold lsel; first | (have h1 := hb28; have h2 : ltB x.o.after a = false := (by simpa using hc33); revert h1 h2; cases beg a x.o.key <;> cases ltB x.o.after a <;> decide) | (have h1 := hb28; revert h1; cases beg a x.o.key <;> cases ltB x.o.after a <;> decide)
         rw [hsel] at hft
         simp only [Bool.false_eq_true, if_false, List.append_nil] at hft
         refine J.again (j + 1, pa, ca) ⟨by show j + 1 ≤ _; omega, by show ((ks.take (j + 1)).filter (lsel x.o)).length ≤ _; rw [hft]; exact ha⟩ (by show ks.length - (j + 1) < ks.length - j; omega) ⟨rfl, rfl, rfl, (by show _ = some (Value.slice p17 _ _); rw [hpp]; rfl), rfl, rfl, trivial⟩ ?_
         show _ = [own 9 1 (.slice pa ((ks.take (j + 1)).filter (lsel x.o)).length ca) (((ks.take (j + 1)).filter (lsel x.o)).map Value.string), _, _, _, pt b5 (.cells [Value.int .i64 200, .int .u64 0, .slice pa ((ks.take (j + 1)).filter (lsel x.o)).length ca, .bool false, .slice dp 0 dc].toArray 44 (0, 0)), _, _, _, _]
         rw [hft]
       replace hb28 := X.nm hb28
       try (first | (cases hb28; done) | (exfalso; simp at hb28; done))
       all_goals
        refine J.m rfl <| J.p rfl (Q.fa (n := 4) Tryz.runUnderlying52 rfl rfl Tryz.sizeOf9 rfl) ?_
        refine J.p rfl (Q.ld Tryz.isAgg9 rfl (rdI (by exact rfl))) ?_
        refine J.p rfl (leqs rfl rfl) ?_
        refine J.p rfl (Q.pick_f rfl rfl) <| J.nil <| J.then_n ?_
        refine J.cases 33 rfl (fun hc33 => ?_) (fun hc33 => ?_)
        ·
         replace hc33 := X.nm hc33
         try (first | (cases hc33; done) | (exfalso; simp at hc33; done))
         all_goals
          refine J.cond_t rfl <| J.exit <| J.then_x <| J.blk_x <| J.then_n <| J.region <| J.p rfl (Q.add64 rfl rfl (by omega)) <| J.m rfl <| J.nil ?_
          have hsel : lsel x.o a = false := by unfold lsel; first | (have h1 := hb28; have h2 : ltB x.o.after a = false := (by simpa using hc33); revert h1 h2; cases beg a x.o.key <;> cases ltB x.o.after a <;> decide) | (have h1 := hb28; revert h1; cases beg a x.o.key <;> cases ltB x.o.after a <;> decide)
          rw [hsel] at hft
          simp only [Bool.false_eq_true, if_false, List.append_nil] at hft
          refine J.again (j + 1, pa, ca) ⟨by show j + 1 ≤ _; omega, by show ((ks.take (j + 1)).filter (lsel x.o)).length ≤ _; rw [hft]; exact ha⟩ (by show ks.length - (j + 1) < ks.length - j; omega) ⟨rfl, rfl, rfl, (by show _ = some (Value.slice p17 _ _); rw [hpp]; rfl), rfl, rfl, trivial⟩ ?_
          show _ = [own 9 1 (.slice pa ((ks.take (j + 1)).filter (lsel x.o)).length ca) (((ks.take (j + 1)).filter (lsel x.o)).map Value.string), _, _, _, pt b5 (.cells [Value.int .i64 200, .int .u64 0, .slice pa ((ks.take (j + 1)).filter (lsel x.o)).length ca, .bool false, .slice dp 0 dc].toArray 44 (0, 0)), _, _, _, _]
          rw [hft]
        replace hc33 := X.nm hc33
        try (first | (cases hc33; done) | (exfalso; simp at hc33; done))
        all_goals
         refine J.cond_f rfl <| J.cskip <| J.then_n <| J.seq <| J.seq <| J.region <| J.p rfl (Q.fa (n := 2) Tryz.runUnderlying44 rfl rfl Tryz.sizeOf41 rfl) ?_
         refine J.p rfl (Q.ld Tryz.isAgg41 rfl (rdI (by exact rfl))) ?_
         refine J.p rfl (Q.lenSl Tryz.runUnderlying41 rfl) <| J.p rfl (Q.fa (n := 5) Tryz.runUnderlying52 rfl rfl Tryz.sizeOf3 rfl) ?_
         refine J.p rfl (Q.ld Tryz.isAgg3 rfl (rdI (by exact rfl))) ?_
         refine J.p rfl (Q.eql rfl rfl) <| J.p rfl (Q.fa (n := 3) Tryz.runUnderlying44 rfl rfl Tryz.sizeOf4 rfl) ?_
         refine J.stI rfl Tryz.sizeOf4 rfl rfl rfl (by exact rfl) (by exact rfl) (by exact rfl) ?_
         refine J.nil <| J.then_n <| J.seq <| J.region <| J.p rfl (Q.fa (n := 3) Tryz.runUnderlying44 rfl rfl Tryz.sizeOf4 rfl) ?_
         refine J.p rfl (Q.ld Tryz.isAgg4 rfl (rdI (by exact rfl))) ?_
         refine J.nil <| J.then_n ?_
         refine J.cases 42 rfl (fun hc42 => ?_) (fun hc42 => ?_)
         ·
          replace hc42 := X.nm hc42
          try (first | (cases hc42; done) | (exfalso; simp at hc42; done))
          all_goals
           refine J.cond_t rfl <| J.exit <| J.then_x <| J.blk_o rfl <| J.then_x <| J.lp_x <| J.blk_x ?_
           have hsel : lsel x.o a = true := by unfold lsel; first | (have h1 := hb28; have h2 : ltB x.o.after a = true := (by simpa using hc33); revert h1 h2; cases beg a x.o.key <;> cases ltB x.o.after a <;> decide) | (have h1 := hb28; revert h1; cases beg a x.o.key <;> cases ltB x.o.after a <;> decide)
           obtain ⟨r, hr⟩ := filter_more hka hsel
           have hdt := decide_eq_true hc42
           dsimp only at hc42
           have hal : ((ks.take j).filter (lsel x.o)).length = x.o.n.toNat := by omega
           refine J.keep [0, 1, 3, 4, 5, 7, 8] rfl ?_
           refine J.meet ((ks.take j).filter (lsel x.o), pa, ca, true) ⟨?_, ?_⟩ ⟨rfl, rfl, trivial⟩ ?_
           · show _ = List.take _ _
             rw [hlst, hr, ← hal, List.take_left]
           · show true = _
             rw [hlst, hr, ← hal, List.length_append, List.length_cons]
             simp
           · rw [hdt]
         replace hc42 := X.nm hc42
         try (first | (cases hc42; done) | (exfalso; simp at hc42; done))
         all_goals
          refine J.cond_f rfl <| J.cskip <| J.then_n <| J.region <| J.p rfl (Q.fa (n := 2) Tryz.runUnderlying44 rfl rfl Tryz.sizeOf41 rfl) ?_
          refine J.p rfl (Q.ld Tryz.isAgg41 rfl (rdI (by exact rfl))) ?_
          refine J.m rfl ?_
          refine J.c rfl rfl (C.bslG (l := [_]) Tryz.runUnderlying41 Tryz.sizeOf9 Tryz.zeroValue9 (by decide) rfl rfl rfl rfl rfl) ?_
          rintro _ _ ⟨b46, rfl, rfl⟩
          refine J.norm rfl ?_
          refine J.conv (Y := own 9 1 (.slice (some ⟨b46, 0, none⟩) 1 1) [.string a]) 0 rfl (own_of_block rfl) ?_
          refine J.slr1 0 rfl fun hs46 => ?_
          refine J.c rfl rfl (C.app (i := 1) Tryz.runUnderlying41 Tryz.runUnderlying41 Tryz.typeInfo9 Tryz.sizeOf9 Tryz.zeroValue9 rfl rfl rfl (hs46.within (i := 0) rfl) (by intro v hv; simp at hv; subst hv; rfl) (by rw [show Tryz.t9.bytes = 16 from rfl]; show (_ + 1) * 16 ≤ _; dsimp only; omega) (by decide)) ?_
          rintro _ _ ⟨p47, c47, rfl, rfl⟩
          refine J.norm rfl <| J.p rfl (Q.fa (n := 2) Tryz.runUnderlying44 rfl rfl Tryz.sizeOf41 rfl) ?_
          refine J.stI rfl Tryz.sizeOf41 rfl rfl rfl (by exact rfl) (by exact rfl) (by exact rfl) ?_
          refine J.nil <| J.blk_n <| J.then_n <| J.region <| J.p rfl (Q.add64 rfl rfl (by omega)) <| J.m rfl <| J.nil ?_
          have hsel : lsel x.o a = true := by unfold lsel; first | (have h1 := hb28; have h2 : ltB x.o.after a = true := (by simpa using hc33); revert h1 h2; cases beg a x.o.key <;> cases ltB x.o.after a <;> decide) | (have h1 := hb28; revert h1; cases beg a x.o.key <;> cases ltB x.o.after a <;> decide)
          have e1 : (ks.take (j + 1)).filter (lsel x.o) = (ks.take j).filter (lsel x.o) ++ [a] := by rw [hft, hsel]; rfl
          have hdf := decide_eq_false hc42
          refine J.keep [1, 2, 3, 4, 5, 6, 7, 8, 9] rfl ?_
          refine J.again (j + 1, p47, c47) ⟨by show j + 1 ≤ _; omega, by show ((ks.take (j + 1)).filter (lsel x.o)).length ≤ _; rw [e1, List.length_append]; dsimp only at hc42; simp only [List.length_cons, List.length_nil]; omega⟩ (by show ks.length - (j + 1) < ks.length - j; omega) ⟨rfl, rfl, rfl, (by show _ = some (Value.slice p17 _ _); rw [hpp]; rfl), rfl, rfl, trivial⟩ ?_
          show _ = [own 9 1 (.slice p47 ((ks.take (j + 1)).filter (lsel x.o)).length c47) (((ks.take (j + 1)).filter (lsel x.o)).map Value.string), _, _, _, pt b5 (.cells [Value.int .i64 200, .int .u64 0, .slice p47 ((ks.take (j + 1)).filter (lsel x.o)).length c47, .bool false, .slice dp 0 dc].toArray 44 (0, 0)), _, _, _, _]
          rw [e1, List.length_append, List.map_append, hdf]
          rfl
     replace hc20 := X.nm hc20
     try (first | (cases hc20; done) | (exfalso; simp at hc20; done))
     all_goals
      refine J.cond_f rfl <| J.exit <| J.then_x <| J.lp_x <| J.blk_x ?_
      have hjn : j = ks.length := by omega
      subst hjn
      rw [List.take_length] at ha ⊢
      refine J.keep [0, 1, 3, 4, 5, 7, 8] rfl ?_
      refine J.meet (ks.filter (lsel x.o), pa, ca, false) ⟨?_, ?_⟩ ⟨rfl, rfl, trivial⟩ rfl
      · show _ = List.take _ _
        rw [hlst, List.take_of_length_le ha]
      · show false = _
        rw [hlst]
        simp; omega
    obtain ⟨kl, pk, ck, more⟩ := w
    obtain ⟨h1, h2⟩ := hw
    dsimp only at h1 h2
    refine J.seq <| J.region ?_
    refine J.p rfl (Q.ldN (vs := [_, _, _, _, _]) Tryz.isAgg44 Tryz.sizeOf44 rfl rnI) ?_
    refine J.stAI (vs := [_, _, _, _, _]) rfl Tryz.sizeOf44 rfl rfl (by exact rfl) (by exact rfl) (by exact rfl) ?_
    refine J.nil <| J.then_n <| J.cret ?_
    refine J.pack [0, 1] rfl ?_
    refine J.retC [1, 0, 4, 5] (vs := [_, _, _, _, _]) rfl rfl Tryz.isAgg44 Tryz.sizeOf44 (ReadsN.pt 3 rfl) rfl (B := [_, _, _]) ⟨⟨⟨200, 0, kl, more, []⟩, pk, ck, dp, dc⟩, rfl, ?_, rfl⟩
    rw [h1, h2]
theorem list_no (hB : sget x.o.bucket M.buckets = none) : FSpec Tryz.prog 89 [.pointer (some ⟨m, 0, none⟩), .agg x.cells.toArray] [BktAt m M, G] (ActR m G (st 404, M)) := (list_no_all m M hM hK hk x G hx hc h6).1 hB
theorem list_yes {objs : Objs} (hB : sget x.o.bucket M.buckets = some objs) : FSpec Tryz.prog 89 [.pointer (some ⟨m, 0, none⟩), .agg x.cells.toArray] [BktAt m M, G] (ActR m G (⟨200, 0, (listed x.o objs).take x.o.n.toNat, decide (x.o.n.toNat < (listed x.o objs).length), []⟩, M)) := (list_no_all m M hM hK hk x G hx hc h6).2 hB
theorem list_spec : FSpec Tryz.prog 89 [.pointer (some ⟨m, 0, none⟩), .agg x.cells.toArray] [BktAt m M, G] (ActR m G (M.list x.o)) := by
  unfold BM.list
  cases hB : sget x.o.bucket M.buckets with
  | none => exact list_no m M hM hK hk x G hx hc h6 hB
  | some objs => exact list_yes m M hM hK hk x G hx hc h6 hB
end

theorem do_all {k : Nat} (m : Nat) (M : BM) (hM : M.ok k) (hK : M.kok) (hk : k ≤ 32768) (x : OW) (G : Assn) (hx : x.ok G) : FSpec Tryz.prog 51 [.pointer (some ⟨m, 0, none⟩), .agg x.cells.toArray] [BktAt m M, G] (ActR m G (M.run x.o)) :=
  do_spec m M hM x G hx fun hc => hasAct m M hM x G hx hc fun h6 => list_spec m M hM hK hk x G hx hc h6
end Go.Proofs.YtidbcaimgahllaaGreat
namespace Go.Proofs.YtidbcaimgahllaaGreat
set_option linter.unusedSectionVars false
set_option linter.unusedSimpArgs false
set_option linter.unusedVariables false
open Go.X
open Go.X.G (Ord3 ord3_nat ord3_int ord3_str ltB sget sput sdel Srtd)

theorem rdone_spec (m : Nat) (M : BM) (hM : M.lite) (n : Nat) : FSpec Tryz.prog 31 [.pointer (some ⟨m, 0, none⟩), .int .u64 n] [RefAt m M]
    (fun v B => v = .tuple #[bareV ((sget n M.done).getD ⟨0, 0, [], false, []⟩), .bool (sget n M.done).isSome] ∧ B = [RefAt m M]) := by
  refine FSpec.of Tryz.func31 rfl Tryz.ntmps31 rfl fun W0 F => ?_
  refine J.seq <| J.region ?_
  refine J.c rfl rfl (C.alloc (l := [_, _, _, _, _]) Tryz.zeroValue44 rfl) ?_
  rintro _ _ ⟨b4, rfl, rfl⟩
  refine J.norm rfl <| J.p rfl (Q.asg rfl) <| J.nil <| J.then_n <| J.seq <| J.seq ?_
  refine J.openRef (m := m) (M := M) fun p1 c1 bs p2 c2 us p3 c3 hyb hyu hyk => ?_
  refine J.norm rfl ?_
  have hbs : Srtd ltB (bs.map RBk.kv) := by rw [hyb]; exact hM.bs
  have hus : Srtd ltN (us.map RUp.kv) := by rw [hyu]; exact hM.us
  have hbl : bs.length = M.buckets.length := by rw [← hyb, List.length_map]
  have hul : us.length = M.uploads.length := by rw [← hyu, List.length_map]
  have hlen := hM.len
  refine J.slrI (E0 := 136) (sz := 2) (p := p1) (n := bs.length) (c := c1) (xs := bs.flatMap RBk.cells) fun hsb => ?_
  refine J.slrI (E0 := 143) (sz := 4) (p := p2) (n := us.length) (c := c2) (xs := us.flatMap RUp.cells) fun hsu => ?_
  refine J.tells 3 rfl own.len fun hck => ?_
  refine J.slrI (E0 := 105) (sz := 6) (p := p3) (n := M.done.length) (c := c3) (xs := M.done.flatMap RKp.cells) fun hsk => ?_
  refine J.region <| J.p rfl (Q.asg rfl) <| J.nil <| J.then_n <| J.block ?_
  refine J.loop (fun j : Nat => j ≤ M.done.length ∧ ∀ q, q ∈ M.done.take j → q.1 ≠ n) (fun j => M.done.length - j) (fun j => [(0, .pointer (some ⟨m, 0, none⟩)), (1, .int .u64 n), (4, .pointer (some ⟨b4, 0, none⟩)), (6, .int .i64 j)])
   (fun _ => refL m M p1 c1 bs p2 c2 us p3 c3 ++ [pt b4 (.cells [Value.int .i64 0, .int .u64 0, .slice none 0 0, .bool false, .slice none 0 0].toArray 44 (0, 0)), F]) 0 ⟨Nat.zero_le _, (fun _ h => by cases h)⟩ ⟨rfl, rfl, rfl, rfl, trivial⟩ rfl fun j hj => ?_
  obtain ⟨hj, hno⟩ := hj
  refine J.norm rfl <| J.seq <| J.seq <| J.region <| J.m rfl <| J.m rfl <| J.p rfl (Q.nil_ rfl) <| J.p rfl (Q.fa (n := 2) Tryz.runUnderlying98 rfl rfl Tryz.sizeOf96 rfl) ?_
  refine J.p rfl (Q.ld Tryz.isAgg96 rfl (rdI (by exact rfl))) ?_
  refine J.p rfl (Q.lenSl Tryz.runUnderlying96 rfl) <| J.p rfl (Q.lss rfl rfl) <| J.nil <| J.then_n ?_
  refine J.cases 13 rfl (fun hc13 => ?_) (fun hc13 => ?_)
  ·
   replace hc13 := X.nm hc13
   refine J.cond_t rfl <| J.cskip <| J.then_n <| J.seq <| J.block <| J.seq ?_
   obtain ⟨bb, off, rfl, hrd⟩ := hsk.some_ (by omega)
   obtain ⟨q, hq⟩ : ∃ q, M.done[j]? = some q := ⟨_, List.getElem?_eq_getElem (by omega)⟩
   refine J.region <| J.m rfl <| J.p rfl (Q.nil_ rfl) <| J.p rfl (Q.fa (n := 2) Tryz.runUnderlying98 rfl rfl Tryz.sizeOf96 rfl) ?_
   refine J.p rfl (Q.ld Tryz.isAgg96 rfl (rdI (by exact rfl))) ?_
   refine J.m rfl <| J.p rfl (Q.ia Tryz.runUnderlying96 Tryz.sizeOf105 rfl rfl (by omega) (by omega)) <| J.p rfl (Q.fa (n := 0) Tryz.runUnderlying105 rfl rfl Tryz.sizeOf40 rfl) <| J.p rfl (Q.ld Tryz.isAgg40 rfl (rfO 0 RKp.len hq (show _ = some (Value.int .u64 q.1) from rfl) (by omega))) <| J.m rfl <| J.p rfl (Q.eql rfl rfl) <| J.nil <| J.then_n ?_
   refine J.cases 25 rfl (fun hc25 => ?_) (fun hc25 => ?_)
   ·
    replace hc25 := X.nm hc25
    refine J.cond_t rfl <| J.seq <| J.region <| J.m rfl <| J.p rfl (Q.nil_ rfl) <| J.p rfl (Q.fa (n := 2) Tryz.runUnderlying98 rfl rfl Tryz.sizeOf96 rfl) ?_
    refine J.p rfl (Q.ld Tryz.isAgg96 rfl (rdI (by exact rfl))) ?_
    refine J.m rfl <| J.p rfl (Q.ia Tryz.runUnderlying96 Tryz.sizeOf105 rfl rfl (by omega) (by omega)) <| J.p rfl (Q.fa (n := 1) Tryz.runUnderlying105 rfl rfl Tryz.sizeOf44 rfl) <| J.p rfl (Q.ldN (vs := [_, _, _, _, _]) Tryz.isAgg44 Tryz.sizeOf44 rfl (rnOd (vs := [.int .i64 q.2.status, .int .u64 q.2.upload, .slice none 0 0, .bool false, .slice none 0 0]) 1 RKp.len hq (fun _ _ h => h) (by omega))) ?_
    refine J.stAI (vs := [_, _, _, _, _]) rfl Tryz.sizeOf44 rfl rfl (by exact rfl) (by exact rfl) (by exact rfl) ?_
    refine J.p rfl (Q.asg rfl) <| J.nil <| J.then_n <| J.cret <| J.blk_r <| J.then_r <| J.lp_r <| J.blk_r <| J.then_r ?_
    have hg : sget n M.done = some q.2 := by
     have h1 := X.G.sget_of_mem (hM.ds.nodup ord3_nat) (show (q.1, q.2) ∈ M.done from List.mem_of_getElem? hq)
     have : q.1 = n := by omega
     rwa [this] at h1
    refine J.shutI (refL m M p1 c1 bs p2 c2 us (some ⟨bb, off, none⟩) c3) (RefAt m M) (RefAt.of hyb hyu hyk) ?_
    refine J.retC2I (vs := [_, _, _, _, _]) [RefAt m M] rfl rfl rfl Tryz.isAgg44 Tryz.sizeOf44 rnI ⟨by rw [hg]; rfl, rfl⟩
   replace hc25 := X.nm hc25
   refine J.cond_f rfl <| J.cskip <| J.blk_n <| J.then_n <| J.region <| J.m rfl <| J.p rfl (Q.add64 rfl rfl (by omega)) <| J.p rfl (Q.asg rfl) <| J.nil ?_
   refine J.againI (j + 1) ⟨by show j + 1 ≤ _; omega, by
    obtain ⟨h1, h2⟩ := List.getElem?_eq_some_iff.1 hq
    intro p hp
    rw [List.take_succ_eq_append_getElem h1, h2, List.mem_append] at hp
    rcases hp with hp | hp
    · exact hno p hp
    · rw [List.mem_singleton.1 hp]; omega⟩ (by show M.done.length - (j + 1) < M.done.length - j; omega) ⟨rfl, rfl, rfl, rfl, trivial⟩
  replace hc13 := X.nm hc13
  refine J.cond_f rfl <| J.exit <| J.then_x <| J.lp_x <| J.blk_x <| J.then_n <| J.seq <| J.region <| J.p rfl (Q.bld (l := [_, _, _, _, _]) Tryz.runUnderlying44 Tryz.zeroValue44 Tryz.places44 rfl rfl) ?_
  refine J.stAI (vs := [_, _, _, _, _]) rfl Tryz.sizeOf44 rfl rfl (by exact rfl) (by exact rfl) (by exact rfl) ?_
  refine J.p rfl (Q.asg rfl) <| J.nil <| J.then_n <| J.cret ?_
  have hg : sget n M.done = none := by
   rw [List.take_of_length_le (by omega)] at hno
   exact X.G.sget_none.2 hno
  refine J.shutI (refL m M p1 c1 bs p2 c2 us p3 c3) (RefAt m M) (RefAt.of hyb hyu hyk) ?_
  refine J.retC2I (vs := [_, _, _, _, _]) [RefAt m M] rfl rfl rfl Tryz.isAgg44 Tryz.sizeOf44 rnI ⟨by rw [hg]; rfl, rfl⟩

theorem rlist_spec (b0 o0 c0 : Nat) (bs : List RBk) {i : Nat} {y : RBk} (hy : bs[i]? = some y) (x : OW) (hn : 1 ≤ x.o.n ∧ x.o.n ≤ 1000) (hl : y.l.length ≤ 32768) :
    FSpec Tryz.prog 61 [.pointer (some ⟨b0, o0 + i * 2, none⟩), .agg x.cells.toArray] [bksO (some ⟨b0, o0, none⟩) c0 bs, y.own]
    (fun v B => ∃ r : RW, v = .agg r.cells.toArray ∧ r.r = ⟨200, 0, (listed x.o (y.l.map ROb.kv)).take x.o.n.toNat, decide (x.o.n.toNat < (listed x.o (y.l.map ROb.kv)).length), []⟩ ∧ B = [bksO (some ⟨b0, o0, none⟩) c0 bs, y.own, r.asn]) := by
  obtain ⟨yk, yp, yc, yl⟩ := y
  dsimp only [RBk.own, RBk.kv, RBk.cells] at *
  have hj := (List.getElem?_eq_some_iff.1 hy).1
  refine FSpec.of Tryz.func61 rfl Tryz.ntmps61 rfl fun W0 F => ?_
  refine J.slrI (E0 := 150) (sz := 2) (p := yp) (n := yl.length) (c := yc) (xs := yl.flatMap ROb.cells) fun hsl => ?_
  obtain ⟨ks, hks⟩ : ∃ ks, ks = yl.map ROb.k := ⟨_, rfl⟩
  have hkl : ks.length = yl.length := by rw [hks, List.length_map]
  have hlst : listed x.o (yl.map ROb.kv) = ks.filter (lsel x.o) := by rw [hks]; unfold listed; rw [List.map_map]; rfl
  refine J.seq <| J.region ?_
  refine J.c rfl rfl (C.box (l := [_, _, _, _, _, _, _, _, _]) rfl rfl) ?_
  rintro _ _ ⟨b3, rfl, rfl⟩
  refine J.norm rfl ?_
  refine J.c rfl rfl (C.alloc (l := [_, _, _, _, _]) Tryz.zeroValue44 rfl) ?_
  rintro _ _ ⟨b4, rfl, rfl⟩
  refine J.norm rfl <| J.nil <| J.then_n <| J.seq <| J.region ?_
  refine J.callI Tryz.call30 (ris_spec 200) rfl rfl rfl ?_
  rintro _ _ ⟨rfl, rfl⟩
  refine J.norm rfl ?_
  refine J.c rfl rfl (C.alloc (l := [_, _, _, _, _]) Tryz.zeroValue44 rfl) ?_
  rintro _ _ ⟨b5, rfl, rfl⟩
  refine J.norm rfl ?_
  refine J.stAI (vs := [_, _, _, _, _]) rfl Tryz.sizeOf44 rfl rfl (by exact rfl) (by exact rfl) (by exact rfl) ?_
  refine J.nil <| J.then_n <| J.seq <| J.seq <| J.region <| J.p rfl (Q.asg rfl) <| J.nil <| J.then_n <| J.block ?_
  refine J.give (X := own 9 1 (.slice none 0 0) []) (own.nil _ _ _) ?_
  refine J.keepI [own 9 1 (.slice none 0 0) [], bksO (some ⟨b0, o0, none⟩) c0 bs, own 150 2 (.slice yp yl.length yc) (yl.flatMap ROb.cells), pt b5 (.cells [Value.int .i64 (st 200).status, .int .u64 (st 200).upload, .slice none 0 0, .bool false, .slice none 0 0].toArray 44 (0, 0)), pt b4 (.cells [Value.int .i64 0, .int .u64 0, .slice none 0 0, .bool false, .slice none 0 0].toArray 44 (0, 0)), pt b3 (.cells x.cells.toArray 52 (0, 0)), F] ?_
  refine J.loop3 (fun (j : Nat) (_ : Option Addr) (_ : Nat) => j ≤ yl.length ∧ ((ks.take j).filter (lsel x.o)).length ≤ x.o.n.toNat) (fun j _ _ => yl.length - j) (fun j _ _ => [(0, .pointer (some ⟨b0, o0 + i * 2, none⟩)), (3, .pointer (some ⟨b3, 0, none⟩)), (4, .pointer (some ⟨b4, 0, none⟩)), (5, .pointer (some ⟨b5, 0, none⟩)), (6, .int .i64 j)])
   (fun j pa ca => [own 9 1 (.slice pa ((ks.take j).filter (lsel x.o)).length ca) (((ks.take j).filter (lsel x.o)).map Value.string), bksO (some ⟨b0, o0, none⟩) c0 bs, own 150 2 (.slice yp yl.length yc) (yl.flatMap ROb.cells), pt b5 (.cells [Value.int .i64 200, .int .u64 0, .slice pa ((ks.take j).filter (lsel x.o)).length ca, .bool false, .slice none 0 0].toArray 44 (0, 0)), pt b4 (.cells [Value.int .i64 0, .int .u64 0, .slice none 0 0, .bool false, .slice none 0 0].toArray 44 (0, 0)), pt b3 (.cells x.cells.toArray 52 (0, 0)), F])
   0 none 0 ⟨Nat.zero_le _, by simp⟩ ⟨rfl, rfl, rfl, rfl, rfl, trivial⟩ rfl fun j pa ca hw => ?_
  obtain ⟨hj2, ha⟩ := hw
  refine J.seq <| J.seq <| J.region <| J.m rfl <| J.m rfl <| J.p rfl (Q.nil_ rfl) <| J.p rfl (Q.fa (n := 1) Tryz.runUnderlying136 rfl rfl Tryz.sizeOf134 rfl) <| J.p rfl (Q.ld Tryz.isAgg134 rfl (rfO 1 RBk.len hy (show _ = some (Value.slice yp yl.length yc) from rfl) (by omega))) <| J.p rfl (Q.lenSl Tryz.runUnderlying134 rfl) <| J.p rfl (Q.lss rfl rfl) <| J.nil ?_
  refine J.then_n ?_
  refine J.cases 15 rfl (fun hc15 => ?_) (fun hc15 => ?_)
  ·
   replace hc15 := X.nm hc15
   refine J.cond_t rfl <| J.cskip <| J.then_n <| J.seq <| J.block <| J.seq ?_
   obtain ⟨bb, off, rfl, hrd⟩ := hsl.some_ (by omega)
   obtain ⟨a, hya⟩ : ∃ a, yl[j]? = some a := ⟨_, List.getElem?_eq_getElem (by omega)⟩
   have hka : ks[j]? = some a.k := by rw [hks, List.getElem?_map, hya]; rfl
   have hft := filter_take (p := lsel x.o) hka
   refine J.region <| J.m rfl <| J.p rfl (Q.nil_ rfl) <| J.p rfl (Q.fa (n := 1) Tryz.runUnderlying136 rfl rfl Tryz.sizeOf134 rfl) <| J.p rfl (Q.ld Tryz.isAgg134 rfl (rfO 1 RBk.len hy (show _ = some (Value.slice (some ⟨bb, off, none⟩) yl.length yc) from rfl) (by omega))) <| J.m rfl <| J.p rfl (Q.ia Tryz.runUnderlying134 Tryz.sizeOf150 rfl rfl (by omega) (by omega)) ?_
   refine J.p rfl (Q.fa (n := 0) Tryz.runUnderlying150 rfl rfl Tryz.sizeOf9 rfl) <| J.p rfl (Q.ld Tryz.isAgg9 rfl (rfO 0 ROb.len hya (show _ = some (Value.string a.k) from rfl) (by omega))) <| J.p rfl (Q.asg rfl) <| J.nil <| J.then_n <| J.seq <| J.seq <| J.region <| J.m rfl <| J.p rfl (Q.fa (n := 3) Tryz.runUnderlying52 rfl rfl Tryz.sizeOf9 rfl) ?_
   refine J.p rfl (Q.ld Tryz.isAgg9 rfl (rdI (by exact rfl))) ?_
   refine J.callI Tryz.call79 (rbegins_spec a.k x.o.key) rfl rfl rfl ?_
   rintro _ _ ⟨rfl, rfl⟩
   refine J.norm rfl <| J.p rfl (Q.not rfl) <| J.m rfl ?_
   refine J.cases 31 rfl (fun hb31 => ?_) (fun hb31 => ?_)
   ·
    replace hb31 := X.nm hb31
    refine J.skip rfl rfl <| J.skip rfl rfl <| J.skip rfl rfl <| J.skip rfl rfl <| J.p rfl (Q.pick_t rfl rfl) <| J.nil <| J.then_n <| J.cond_t rfl <| J.exit <| J.then_x <| J.blk_x <| J.then_n <| J.region <| J.m rfl <| J.p rfl (Q.add64 rfl rfl (by omega)) <| J.p rfl (Q.asg rfl) <| J.nil ?_
    have hsel : lsel x.o a.k = false := by unfold lsel; first | (have h1 := hb31; have h2 : ltB x.o.after a.k = false := (by simpa using hc36); revert h1 h2; cases beg a.k x.o.key <;> cases ltB x.o.after a.k <;> decide) | (have h1 := hb31; revert h1; cases beg a.k x.o.key <;> cases ltB x.o.after a.k <;> decide)
    rw [hsel] at hft
    simp only [Bool.false_eq_true, if_false, List.append_nil] at hft
    rw [← hft] at ha ⊢
    refine J.againI (j + 1, pa, ca) ⟨by show j + 1 ≤ _; omega, ha⟩ (by show yl.length - (j + 1) < yl.length - j; omega) ⟨rfl, rfl, rfl, rfl, rfl, trivial⟩
   replace hb31 := X.nm hb31
   refine J.m rfl <| J.p rfl (Q.fa (n := 4) Tryz.runUnderlying52 rfl rfl Tryz.sizeOf9 rfl) ?_
   refine J.p rfl (Q.ld Tryz.isAgg9 rfl (rdI (by exact rfl))) ?_
   refine J.p rfl (leqs rfl rfl) ?_
   refine J.p rfl (Q.pick_f rfl rfl) <| J.nil <| J.then_n ?_
   refine J.cases 36 rfl (fun hc36 => ?_) (fun hc36 => ?_)
   ·
    replace hc36 := X.nm hc36
    refine J.cond_t rfl <| J.exit <| J.then_x <| J.blk_x <| J.then_n <| J.region <| J.m rfl <| J.p rfl (Q.add64 rfl rfl (by omega)) <| J.p rfl (Q.asg rfl) <| J.nil ?_
    have hsel : lsel x.o a.k = false := by unfold lsel; first | (have h1 := hb31; have h2 : ltB x.o.after a.k = false := (by simpa using hc36); revert h1 h2; cases beg a.k x.o.key <;> cases ltB x.o.after a.k <;> decide) | (have h1 := hb31; revert h1; cases beg a.k x.o.key <;> cases ltB x.o.after a.k <;> decide)
    rw [hsel] at hft
    simp only [Bool.false_eq_true, if_false, List.append_nil] at hft
    rw [← hft] at ha ⊢
    refine J.againI (j + 1, pa, ca) ⟨by show j + 1 ≤ _; omega, ha⟩ (by show yl.length - (j + 1) < yl.length - j; omega) ⟨rfl, rfl, rfl, rfl, rfl, trivial⟩
   replace hc36 := X.nm hc36
   refine J.cond_f rfl <| J.cskip <| J.then_n <| J.seq <| J.seq <| J.region <| J.p rfl (Q.fa (n := 2) Tryz.runUnderlying44 rfl rfl Tryz.sizeOf41 rfl) ?_
   refine J.p rfl (Q.ld Tryz.isAgg41 rfl (rdI (by exact rfl))) ?_
   refine J.p rfl (Q.lenSl Tryz.runUnderlying41 rfl) <| J.p rfl (Q.fa (n := 5) Tryz.runUnderlying52 rfl rfl Tryz.sizeOf3 rfl) ?_
   refine J.p rfl (Q.ld Tryz.isAgg3 rfl (rdI (by exact rfl))) ?_
   refine J.p rfl (Q.eql rfl rfl) <| J.nil <| J.then_n ?_
   refine J.cases 42 rfl (fun hc42 => ?_) (fun hc42 => ?_)
   ·
    replace hc42 := X.nm hc42
    refine J.cond_t rfl <| J.seq <| J.region <| J.p rfl (Q.fa (n := 3) Tryz.runUnderlying44 rfl rfl Tryz.sizeOf4 rfl) ?_
    refine J.stI rfl Tryz.sizeOf4 rfl rfl rfl (by exact rfl) (by exact rfl) (by exact rfl) ?_
    refine J.nil <| J.then_n <| J.seq <| J.region ?_
    refine J.p rfl (Q.ldN (vs := [_, _, _, _, _]) Tryz.isAgg44 Tryz.sizeOf44 rfl rnI) ?_
    refine J.stAI (vs := [_, _, _, _, _]) rfl Tryz.sizeOf44 rfl rfl (by exact rfl) (by exact rfl) (by exact rfl) ?_
    refine J.nil <| J.then_n <| J.cret <| J.then_r <| J.blk_r <| J.then_r <| J.lp_r <| J.blk_r <| J.then_r ?_
    have hsel : lsel x.o a.k = true := by unfold lsel; first | (have h1 := hb31; have h2 : ltB x.o.after a.k = true := (by simpa using hc36); revert h1 h2; cases beg a.k x.o.key <;> cases ltB x.o.after a.k <;> decide) | (have h1 := hb31; revert h1; cases beg a.k x.o.key <;> cases ltB x.o.after a.k <;> decide)
    obtain ⟨r, hr⟩ := filter_more hka hsel
    have hal : ((ks.take j).filter (lsel x.o)).length = x.o.n.toNat := by omega
    refine J.give (X := own 5 1 (.slice none 0 0) []) (own.nil _ _ _) ?_
    refine J.shutI [own 9 1 (.slice pa ((ks.take j).filter (lsel x.o)).length ca) (((ks.take j).filter (lsel x.o)).map Value.string), own 5 1 (.slice none 0 0) []] (RW.asn ⟨⟨200, 0, (ks.take j).filter (lsel x.o), true, []⟩, pa, ca, none, 0⟩) (fun _ h => h) ?_
    refine J.retCI (vs := [_, _, _, _, _]) [bksO (some ⟨b0, o0, none⟩) c0 bs, own 150 2 (.slice (some ⟨bb, off, none⟩) yl.length yc) (yl.flatMap ROb.cells), RW.asn ⟨⟨200, 0, (ks.take j).filter (lsel x.o), true, []⟩, pa, ca, none, 0⟩] rfl rfl Tryz.isAgg44 Tryz.sizeOf44 rnI
     ⟨⟨⟨200, 0, (ks.take j).filter (lsel x.o), true, []⟩, pa, ca, none, 0⟩, rfl, by
      show RM.mk _ _ _ _ _ = _
      rw [hlst, hr, ← hal, List.take_left, List.length_append, List.length_cons, decide_eq_true (by omega)], rfl⟩
   replace hc42 := X.nm hc42
   refine J.cond_f rfl <| J.cskip <| J.then_n <| J.region <| J.p rfl (Q.fa (n := 2) Tryz.runUnderlying44 rfl rfl Tryz.sizeOf41 rfl) ?_
   refine J.p rfl (Q.ld Tryz.isAgg41 rfl (rdI (by exact rfl))) ?_
   refine J.m rfl ?_
   refine J.c rfl rfl (C.bslG (l := [_]) Tryz.runUnderlying41 Tryz.sizeOf9 Tryz.zeroValue9 (by decide) rfl rfl rfl rfl rfl) ?_
   rintro _ _ ⟨b48, rfl, rfl⟩
   refine J.norm rfl ?_
   refine J.c rfl rfl (C.appI Tryz.runUnderlying41 Tryz.runUnderlying41 Tryz.typeInfo9 Tryz.sizeOf9 Tryz.zeroValue9 rfl rfl (SlR.ptI rfl) (by simp [oneC]) (by simp [Tryz.t9] <;> omega) (by decide)) ?_
   rintro _ _ ⟨p49, c49, rfl, rfl⟩
   refine J.norm rfl <| J.p rfl (Q.fa (n := 2) Tryz.runUnderlying44 rfl rfl Tryz.sizeOf41 rfl) ?_
   refine J.stI rfl Tryz.sizeOf41 rfl rfl rfl (by exact rfl) (by exact rfl) (by exact rfl) ?_
   refine J.nil <| J.blk_n <| J.then_n <| J.region <| J.m rfl <| J.p rfl (Q.add64 rfl rfl (by omega)) <| J.p rfl (Q.asg rfl) <| J.nil ?_
   have hsel : lsel x.o a.k = true := by unfold lsel; first | (have h1 := hb31; have h2 : ltB x.o.after a.k = true := (by simpa using hc36); revert h1 h2; cases beg a.k x.o.key <;> cases ltB x.o.after a.k <;> decide) | (have h1 := hb31; revert h1; cases beg a.k x.o.key <;> cases ltB x.o.after a.k <;> decide)
   have e1 : (ks.take (j + 1)).filter (lsel x.o) = (ks.take j).filter (lsel x.o) ++ [a.k] := by rw [hft, hsel]; rfl
   have e2 : ((ks.take j).filter (lsel x.o)).length + 1 = ((ks.take (j + 1)).filter (lsel x.o)).length := by rw [e1]; simp
   have e3 : ((ks.take j).filter (lsel x.o)).map Value.string ++ [Value.string a.k] = ((ks.take (j + 1)).filter (lsel x.o)).map Value.string := by rw [e1]; simp
   have hdf := decide_eq_false hc42
   rw [e2, e3]
   refine J.againI (j + 1, p49, c49) ⟨by show j + 1 ≤ _; omega, by rw [← e2]; omega⟩ (by show yl.length - (j + 1) < yl.length - j; omega) ⟨rfl, rfl, rfl, rfl, rfl, trivial⟩
  replace hc15 := X.nm hc15
  refine J.cond_f rfl <| J.exit <| J.then_x <| J.lp_x <| J.blk_x <| J.then_n <| J.seq <| J.region ?_
  refine J.p rfl (Q.ldN (vs := [_, _, _, _, _]) Tryz.isAgg44 Tryz.sizeOf44 rfl rnI) ?_
  refine J.stAI (vs := [_, _, _, _, _]) rfl Tryz.sizeOf44 rfl rfl (by exact rfl) (by exact rfl) (by exact rfl) ?_
  refine J.nil <| J.then_n <| J.cret ?_
  have hjn : ks.take j = ks := List.take_of_length_le (by omega)
  rw [hjn] at ha ⊢
  refine J.give (X := own 5 1 (.slice none 0 0) []) (own.nil _ _ _) ?_
  refine J.shutI [own 9 1 (.slice pa (ks.filter (lsel x.o)).length ca) ((ks.filter (lsel x.o)).map Value.string), own 5 1 (.slice none 0 0) []] (RW.asn ⟨⟨200, 0, ks.filter (lsel x.o), false, []⟩, pa, ca, none, 0⟩) (fun _ h => h) ?_
  refine J.retCI (vs := [_, _, _, _, _]) [bksO (some ⟨b0, o0, none⟩) c0 bs, own 150 2 (.slice yp yl.length yc) (yl.flatMap ROb.cells), RW.asn ⟨⟨200, 0, ks.filter (lsel x.o), false, []⟩, pa, ca, none, 0⟩] rfl rfl Tryz.isAgg44 Tryz.sizeOf44 rnI
   ⟨⟨⟨200, 0, ks.filter (lsel x.o), false, []⟩, pa, ca, none, 0⟩, rfl, by
    show RM.mk _ _ _ _ _ = _
    rw [hlst, List.take_of_length_le ha, decide_eq_false (by omega)], rfl⟩
end Go.Proofs.YtidbcaimgahllaaGreat
namespace Go.Proofs.YtidbcaimgahllaaGreat
set_option linter.unusedSectionVars false
set_option linter.unusedSimpArgs false
set_option linter.unusedVariables false
open Go.X
open Go.X.G (Ord3 ord3_nat ord3_int ord3_str ltB sget sput sdel Srtd)

theorem chk_key {o : OM} (h : o.chkB = true) (hk : o.kind ≤ 7) : o.key.size ≤ 1024 := by
  rw [chk_eq] at h
  unfold OM.chkR at h
  repeat' split at h
  all_goals first
    | (simp only [Bool.and_eq_true, decide_eq_true_eq, longB, emp] at h; have e : o.key.data.toList.length = o.key.size := by simp
       first | omega | (have e2 : o.key.data.toList = [] := by simp_all
                        rw [e2] at e; simp at e; omega))
    | (cases h; done)
    | omega

theorem kok_new : BM.kok ⟨[], [], []⟩ := ⟨(fun _ _ h => by cases h), (fun _ _ h => by cases h)⟩
theorem kok_put {k : Nat} {M : BM} (h : M.kok) (b : ByteArray) {o : Objs} (ho : ∀ p, p ∈ o → p.1.size ≤ 1024) (us : List (Nat × UM)) (hu : ∀ n u, sget n us = some u → u.key.size ≤ 1024) (d) : BM.kok ⟨sput ltB b o M.buckets, us, d⟩ := by
  refine ⟨fun n q hq => ?_, hu⟩
  rw [X.G.sget_put ord3_str] at hq
  split at hq
  · cases hq; exact ho
  · exact h.ob n q hq
theorem keys_put {k : Nat} {o : Objs} (hs : Srtd ltB o) (h : ∀ p, p ∈ o → p.1.size ≤ 1024) {a : ByteArray} (ha : a.size ≤ 1024) (d : List UInt8) : ∀ p, p ∈ sput ltB a d o → p.1.size ≤ 1024 := by
  intro p hp
  have := (X.G.sput_perm ord3_str (hs.nodup ord3_str) a d).mem_iff.1 hp
  rcases List.mem_cons.1 this with rfl | h'
  · exact ha
  · exact h p ((List.mem_filter.1 h').1)

theorem act_kok {k : Nat} {M : BM} (hM : M.ok k) (h : M.kok) {o : OM} (hc : o.chkB = true) : (M.act o).2.kok := by
  have hkey := chk_key hc
  unfold BM.act
  split
  · unfold BM.make
    split
    · exact h
    · exact kok_put (k := 0) h _ (by simp) _ h.up _
  split
  · unfold BM.unmake
    split
    · exact h
    · split
      · exact h
      · refine ⟨fun n q hq => ?_, h.up⟩
        rw [X.G.sget_del] at hq
        split at hq
        · cases hq
        · exact h.ob n q hq
  split
  · unfold BM.put
    split
    · exact h
    · rename_i objs hb
      exact kok_put (k := 0) h _ (keys_put (k := 0) (hM.os _ _ hb).1 (h.ob _ _ hb) (hkey (by omega)) _) _ h.up _
  split
  · have : (M.get o).2 = M := by unfold BM.get; repeat' split
                                 all_goals rfl
    rw [this]; exact h
  split
  · unfold BM.delete
    split
    · exact h
    · rename_i objs hb
      split
      · exact h
      · exact kok_put (k := 0) h _ (fun p hp => h.ob _ _ hb p ((List.mem_filter.1 hp).1)) _ h.up _
  split
  · have : (M.list o).2 = M := by unfold BM.list; split <;> rfl
    rw [this]; exact h
  split
  · unfold BM.begin
    split
    · exact h
    · refine ⟨h.ob, fun n u hu => ?_⟩
      rw [X.G.sget_put ord3_nat] at hu
      split at hu
      · cases hu; exact hkey (by omega)
      · exact h.up n u hu
  split
  · unfold BM.part
    split
    · exact h
    · rename_i u0 hu0
      refine ⟨h.ob, fun n u hu => ?_⟩
      rw [X.G.sget_put ord3_nat] at hu
      split at hu
      · cases hu
        show u0.key.size ≤ 1024
        exact h.up _ _ hu0
      · exact h.up n u hu
  split
  · unfold BM.complete
    split
    · exact h
    · rename_i u0 hu0
      split
      · exact h
      · refine kok_put (k := 0) h _ ?_ _ (fun n u hu => ?_) _
        · obtain ⟨objs, hB⟩ := Option.isSome_iff_exists.1 (hM.ps _ _ hu0).2.1
          rw [hB]
          exact keys_put (k := 0) (hM.os _ _ hB).1 (h.ob _ _ hB) (h.up _ _ hu0) _
        · rw [X.G.sget_del] at hu
          split at hu
          · cases hu
          · exact h.up n u hu
  · unfold BM.abort
    split
    · exact h
    · refine ⟨h.ob, fun n u hu => ?_⟩
      rw [X.G.sget_del] at hu
      split at hu
      · cases hu
      · exact h.up n u hu

theorem run_kok {k : Nat} {M : BM} (hM : M.ok k) (h : M.kok) (o : OM) : (M.run o).2.kok := by
  unfold BM.run
  split
  · rename_i hc
    have ha := act_kok hM h hc
    split
    · exact ha
    · split
      · exact h
      · exact ⟨ha.ob, ha.up⟩
  · exact h

variable {k j : Nat} {name : ByteArray} {mine : Nat → Bool} {M N : BM} {o : OM}
end Go.Proofs.YtidbcaimgahllaaGreat
namespace Go.Proofs.YtidbcaimgahllaaGreat
set_option linter.unusedSectionVars false
set_option linter.unusedSimpArgs false
set_option linter.unusedVariables false
open Go.X
open Go.X.G (Ord3 ord3_nat ord3_int ord3_str ltB sget sput sdel Srtd sget_put sget_del)

def U64 : Nat := 18446744073709551615
structure BM.fit (k B : Nat) (M : BM) : Prop where
  ob : ∀ n q, sget n M.buckets = some q → n.size ≤ 64 ∧ ∀ p, p ∈ q → p.2.length ≤ k * B
  up : ∀ n u, sget n M.uploads = some u → n ≤ U64 ∧ u.parts.length ≤ k ∧ ∀ p, p ∈ u.parts → p.2.length ≤ B
  dn : ∀ n r, sget n M.done = some r → n ≤ U64 ∧ r.upload ≤ U64
theorem fit_new (B : Nat) : BM.fit 0 B ⟨[], [], []⟩ := ⟨(fun _ _ h => by cases h), (fun _ _ h => by cases h), (fun _ _ h => by cases h)⟩
theorem BM.fit.mono {k j B : Nat} {M : BM} (h : M.fit k B) (hk : k ≤ j) : M.fit j B :=
  ⟨fun n q hq => ⟨(h.ob n q hq).1, fun p hp => Nat.le_trans ((h.ob n q hq).2 p hp) (Nat.mul_le_mul_right B hk)⟩, fun n u hu => ⟨(h.up n u hu).1, Nat.le_trans (h.up n u hu).2.1 hk, (h.up n u hu).2.2⟩, h.dn⟩

theorem flat_bound {α : Type} {f : α → List UInt8} {C : Nat} : ∀ (l : List α), (∀ x, x ∈ l → (f x).length ≤ C) → (l.flatMap f).length ≤ l.length * C
  | [], _ => by simp
  | x :: l, h => by
    have h1 := h x List.mem_cons_self
    have h2 := flat_bound l fun y hy => h y (List.mem_cons_of_mem _ hy)
    simp only [List.flatMap_cons, List.length_append, List.length_cons, Nat.add_mul]; omega

theorem nodup_le {α : Type} [DecidableEq α] : ∀ (l m : List α), l.Nodup → (∀ x, x ∈ l → x ∈ m) → l.length ≤ m.length
  | [], m, _, _ => Nat.zero_le _
  | x :: l, m, hn, hs => by
    rw [List.nodup_cons] at hn
    have hx := hs x List.mem_cons_self
    have ih := nodup_le l (m.erase x) hn.2 fun y hy => by
      have hne : y ≠ x := by rintro rfl; exact hn.1 hy
      exact (List.mem_erase_of_ne hne).2 (hs y (List.mem_cons_of_mem _ hy))
    rw [List.length_erase_of_mem hx] at ih
    have := List.length_pos_of_mem hx
    simp only [List.length_cons]; omega

theorem chk_name {o : OM} (h : o.chkB = true) (hk : o.kind ≤ 7) : o.bucket.size ≤ 64 := by
  have e : o.bucket.data.toList.length = o.bucket.size := by simp
  rw [chk_eq] at h
  unfold OM.chkR at h
  repeat' split at h
  all_goals first
    | (simp only [Bool.and_eq_true, decide_eq_true_eq, nameOK] at h; omega)
    | (cases h; done)
    | omega
theorem chk_parts {o : OM} (h : o.chkB = true) (hk : o.kind = 9) : partsOK o.parts = true := by
  rw [chk_eq] at h
  unfold OM.chkR at h
  repeat' split at h
  all_goals first
    | (simp only [Bool.and_eq_true, decide_eq_true_eq] at h; simp [h]; done)
    | (exfalso; omega)
    | (cases h; done)
theorem rising_nodup {l : List Int} (h : partsOK l = true) : l.Nodup := by
  simp only [partsOK, Bool.and_eq_true] at h
  have hr := h.2
  unfold rises at hr
  rw [List.all_eq_true] at hr
  have step : ∀ i, i + 1 < l.length → l.getD i 0 < l.getD (i + 1) 0 := fun i hi => by
    have := hr (i + 1) (List.mem_range.2 hi)
    simp only [rise1, Bool.and_eq_true, Bool.or_eq_true, decide_eq_true_eq, Nat.add_sub_cancel] at this
    rcases this.2 with h | h
    · omega
    · exact h
  have lt : ∀ j i, i < j → j < l.length → l.getD i 0 < l.getD j 0 := by
    intro j
    induction j with
    | zero => intro i h; omega
    | succ j ih =>
      intro i hi hj
      have h1 := step j hj
      rcases Nat.lt_or_ge i j with q | q
      · have := ih i q (by omega); omega
      · have : i = j := by omega
        subst this; exact h1
  refine List.pairwise_iff_getElem.2 fun i j hi hj hij => ?_
  have := lt j i hij hj
  rw [List.getD_eq_getElem?_getD, List.getD_eq_getElem?_getD, List.getElem?_eq_getElem hi, List.getElem?_eq_getElem hj] at this
  simp only [Option.getD_some] at this
  omega
theorem collect_le {P : Parts} {l : List Int} {d : List UInt8} {B : Nat} (h : collect P l = some d) (hn : l.Nodup) (hP : ∀ p, p ∈ P → p.2.length ≤ B) : d.length ≤ P.length * B := by
  unfold collect at h
  split at h
  · rename_i ha
    cases h
    rw [List.all_eq_true] at ha
    have h1 : ∀ m : List Int, (m.flatMap (partOf P)).length ≤ m.length * B := by
      intro m
      induction m with
      | nil => simp
      | cons x m ih =>
        have : (partOf P x).length ≤ B := by
          unfold partOf
          cases hx : sget x P with
          | none => simp
          | some e => exact hP _ (X.G.sget_mem hx)
        simp only [List.flatMap_cons, List.length_append, List.length_cons, Nat.add_mul]; omega
    have h2 : l.length ≤ (P.map (·.1)).length := nodup_le l _ hn fun x hx => by
      obtain ⟨e, he⟩ := Option.isSome_iff_exists.1 (ha x hx)
      exact List.mem_map.2 ⟨_, X.G.sget_mem he, rfl⟩
    rw [List.length_map] at h2
    exact Nat.le_trans (h1 l) (Nat.mul_le_mul_right B h2)
  · cases h

theorem mem_put {κ ν : Type} [DecidableEq κ] {lt : κ → κ → Bool} (o : Ord3 lt) {l : List (κ × ν)} (h : Srtd lt l) {k : κ} {v : ν} {p : κ × ν} (hp : p ∈ sput lt k v l) : p = (k, v) ∨ p ∈ l := by
  have := (X.G.sput_perm o (h.nodup o) k v).mem_iff.1 hp
  rcases List.mem_cons.1 this with h | h
  · exact .inl h
  · exact .inr (List.mem_filter.1 h).1

theorem act_fit {k B : Nat} {M : BM} (hM : M.ok k) (h : M.fit k B) {o : OM} (hc : o.chkB = true) (hd : o.data.length ≤ B) (hi : o.id ≤ U64) : (M.act o).2.fit (k + 1) B ∧ (M.act o).1.upload ≤ U64 := by
  have h' := h.mono (Nat.le_succ k)
  have hst : ∀ n : Int, (st n).upload ≤ U64 := fun n => by show 0 ≤ _; exact Nat.zero_le _
  unfold BM.act
  split
  · unfold BM.make
    split
    · exact ⟨h', hst _⟩
    · refine ⟨⟨fun n q hq => ?_, h'.up, h'.dn⟩, hst _⟩
      rw [sget_put ord3_str] at hq
      split at hq
      · rename_i e; cases hq; subst e; exact ⟨chk_name hc (by omega), by simp⟩
      · exact h'.ob n q hq
  split
  · unfold BM.unmake
    split
    · exact ⟨h', hst _⟩
    · split
      · exact ⟨h', hst _⟩
      · refine ⟨⟨fun n q hq => ?_, h'.up, h'.dn⟩, hst _⟩
        rw [sget_del] at hq
        split at hq
        · cases hq
        · exact h'.ob n q hq
  split
  · unfold BM.put
    split
    · exact ⟨h', hst _⟩
    · rename_i objs hb
      refine ⟨⟨fun n q hq => ?_, h'.up, h'.dn⟩, hst _⟩
      rw [sget_put ord3_str] at hq
      split at hq
      · rename_i e; cases hq; subst e
        refine ⟨(h.ob _ _ hb).1, fun p hp => ?_⟩
        rcases mem_put ord3_str (hM.os _ _ hb).1 hp with rfl | hp
        · show o.data.length ≤ _; rw [Nat.add_mul]; omega
        · exact (h'.ob _ _ hb).2 p hp
      · exact h'.ob n q hq
  split
  · unfold BM.get
    split
    · exact ⟨h', hst _⟩
    · split
      · exact ⟨h', hst _⟩
      · exact ⟨h', Nat.zero_le _⟩
  split
  · unfold BM.delete
    split
    · exact ⟨h', hst _⟩
    · rename_i objs hb
      split
      · exact ⟨h', hst _⟩
      · refine ⟨⟨fun n q hq => ?_, h'.up, h'.dn⟩, hst _⟩
        rw [sget_put ord3_str] at hq
        split at hq
        · rename_i e; cases hq; subst e
          exact ⟨(h.ob _ _ hb).1, fun p hp => (h'.ob _ _ hb).2 p (List.mem_filter.1 hp).1⟩
        · exact h'.ob n q hq
  split
  · unfold BM.list
    split
    · exact ⟨h', hst _⟩
    · exact ⟨h', Nat.zero_le _⟩
  split
  · unfold BM.begin
    split
    · exact ⟨h', hst _⟩
    · refine ⟨⟨h'.ob, fun n u hu => ?_, h'.dn⟩, hi⟩
      rw [sget_put ord3_nat] at hu
      split at hu
      · rename_i e; cases hu; subst e; exact ⟨hi, Nat.zero_le _, by simp⟩
      · exact h'.up n u hu
  split
  · unfold BM.part
    split
    · exact ⟨h', hst _⟩
    · rename_i u0 hu0
      refine ⟨⟨h'.ob, fun n u hu => ?_, h'.dn⟩, hst _⟩
      rw [sget_put ord3_nat] at hu
      split at hu
      · rename_i e; cases hu; subst e
        have h0 := h.up _ _ hu0
        refine ⟨h0.1, ?_, fun p hp => ?_⟩
        · have := sput_len (lt := ltI) ord3_int (hM.ps _ _ hu0).1 o.n o.data
          show (sput ltI o.n o.data u0.parts).length ≤ _; omega
        · rcases mem_put ord3_int (hM.ps _ _ hu0).1 hp with rfl | hp
          · exact hd
          · exact h0.2.2 p hp
      · exact h'.up n u hu
  split
  · unfold BM.complete
    split
    · exact ⟨h', hst _⟩
    · rename_i u0 hu0
      split
      · exact ⟨h', hst _⟩
      · rename_i dd hdd
        have h0 := h.up _ _ hu0
        have hcl := collect_le hdd (rising_nodup (chk_parts hc (by omega))) h0.2.2
        obtain ⟨objs, hB⟩ := Option.isSome_iff_exists.1 (hM.ps _ _ hu0).2.1
        refine ⟨⟨fun n q hq => ?_, fun n u hu => ?_, h'.dn⟩, hst _⟩
        · rw [sget_put ord3_str] at hq
          split at hq
          · rename_i e; cases hq; subst e
            rw [hB]
            refine ⟨(h.ob _ _ hB).1, fun p hp => ?_⟩
            rcases mem_put ord3_str (hM.os _ _ hB).1 hp with rfl | hp
            · exact Nat.le_trans hcl (Nat.mul_le_mul_right B (by omega))
            · exact (h'.ob _ _ hB).2 p hp
          · exact h'.ob n q hq
        · rw [sget_del] at hu
          split at hu
          · cases hu
          · exact h'.up n u hu
  · unfold BM.abort
    split
    · exact ⟨h', hst _⟩
    · refine ⟨⟨h'.ob, fun n u hu => ?_, h'.dn⟩, hst _⟩
      rw [sget_del] at hu
      split at hu
      · cases hu
      · exact h'.up n u hu

theorem run_fit {k B : Nat} {M : BM} (hM : M.ok k) (h : M.fit k B) {o : OM} (hd : o.data.length ≤ B) (hi : o.id ≤ U64) : (M.run o).2.fit (k + 1) B := by
  unfold BM.run
  split
  · rename_i hc
    have ha := act_fit hM h hc hd hi
    split
    · exact ha.1
    · split
      · exact h.mono (Nat.le_succ k)
      · refine ⟨ha.1.ob, ha.1.up, fun n r hr => ?_⟩
        rw [sget_put ord3_nat] at hr
        split at hr
        · rename_i e; cases hr; subst e; exact ⟨hi, ha.2⟩
        · exact (h.mono (Nat.le_succ k)).dn n r hr
  · exact h.mono (Nat.le_succ k)
end Go.Proofs.YtidbcaimgahllaaGreat
namespace Go.Proofs.YtidbcaimgahllaaGreat
set_option linter.unusedSectionVars false
set_option linter.unusedSimpArgs false
set_option linter.unusedVariables false
open Go.X
open Go.X.G (Ord3 ord3_nat ord3_int ord3_str ltB sget sput sdel Srtd)

section
variable {k : Nat} (m : Nat) (M : BM) (hM : M.lite) (hok : M.ok k) (hk : k ≤ 32768) (x : OW) (G : Assn) (hx : x.ok G)
include hM hok hk hx
theorem rcomplete_spec (hp : partsOK x.o.parts = true) {u : UM} (hu : sget x.o.upload M.uploads = some u) {i : Nat} (hi : AtK ltN x.o.upload M.uploads i) : FSpec Tryz.prog 56 [.pointer (some ⟨m, 0, none⟩), .agg x.cells.toArray, .int .i64 i] [RefAt m M, G]
    (fun v B => v = bareV (M.complete x.o).1 ∧ B = [RefAt m (M.complete x.o).2, G]) := by
  refine FSpec.of Tryz.func56 rfl Tryz.ntmps56 rfl fun W0 F => ?_
  refine J.seq <| J.region ?_
  refine J.c rfl rfl (C.box (l := [_, _, _, _, _, _, _, _, _]) rfl rfl) ?_
  rintro _ _ ⟨b4, rfl, rfl⟩
  refine J.norm rfl ?_
  refine J.c rfl rfl (C.alloc (l := [_, _, _, _, _]) Tryz.zeroValue44 rfl) ?_
  rintro _ _ ⟨b6, rfl, rfl⟩
  refine J.norm rfl <| J.nil <| J.then_n <| J.seq ?_
  refine J.openRef (m := m) (M := M) fun p1 c1 bs p2 c2 us p3 c3 hyb hyu hyk => ?_
  refine J.norm rfl ?_
  have hbs : Srtd ltB (bs.map RBk.kv) := by rw [hyb]; exact hM.bs
  have hus : Srtd ltN (us.map RUp.kv) := by rw [hyu]; exact hM.us
  have hbl : bs.length = M.buckets.length := by rw [← hyb, List.length_map]
  have hul : us.length = M.uploads.length := by rw [← hyu, List.length_map]
  have hlen := hM.len
  refine J.slrI (E0 := 136) (sz := 2) (p := p1) (n := bs.length) (c := c1) (xs := bs.flatMap RBk.cells) fun hsb => ?_
  refine J.slrI (E0 := 143) (sz := 4) (p := p2) (n := us.length) (c := c2) (xs := us.flatMap RUp.cells) fun hsu => ?_
  obtain ⟨y, hyi, hyq⟩ := at_map (by rw [hyu]; exact hi.here ord3_nat hM.us hu)
  obtain ⟨yk, yb, yo, yp, yc, yl⟩ := y
  simp only [RUp.kv, Prod.mk.injEq] at hyq
  obtain ⟨hyk1, rfl⟩ := hyq
  have hil := (List.getElem?_eq_some_iff.1 hyi).1
  obtain ⟨bb, off, rfl, hrd⟩ := hsu.some_ (by omega)
  obtain ⟨hps, hex, hdl⟩ := hok.ps _ _ hu
  have hyl : yl.length ≤ 32768 := by have := hM.pl _ _ hu; rwa [List.length_map] at this
  dsimp only at hps hex hdl
  have hpl : x.o.parts.length ≤ 10000 := by
   simp only [partsOK, Bool.and_eq_true, decide_eq_true_eq] at hp; omega
  have hpo : ∀ n, (partOf (yl.map RPt.kv) n).length ≤ 16777216 := by
   intro n; unfold partOf
   cases h : sget n (yl.map RPt.kv) with
   | none => simp
   | some d => exact hdl _ _ h
  have hal : ∀ j, ((x.o.parts.take j).flatMap (partOf (yl.map RPt.kv))).length ≤ 10000 * 16777216 := fun j => Nat.le_trans (flat_bound (C := 16777216) _ fun n _ => hpo n) (Nat.mul_le_mul_right _ (by rw [List.length_take]; omega))
  refine J.focusI (f := RUp.asn) i hyi ?_
  refine J.openI (RUp.asn ⟨yk, yb, yo, yp, yc, yl⟩) (Bs := fun _ : Unit => [own 146 2 (.slice yp yl.length yc) (yl.flatMap RPt.cells), star (yl.map RPt.asn)]) (p := fun _ => True) (fun _ h => ⟨(), trivial, h⟩) fun _ _ => ?_
  refine J.norm rfl ?_
  refine J.slrI (E0 := 146) (sz := 2) (p := yp) (n := yl.length) (c := yc) (xs := yl.flatMap RPt.cells) fun hsp => ?_
  refine J.tells 0 rfl own.len fun hlp => ?_
  refine J.region <| J.m rfl <| J.p rfl (Q.nil_ rfl) <| J.p rfl (Q.fa (n := 1) Tryz.runUnderlying98 rfl rfl Tryz.sizeOf95 rfl) ?_
  refine J.p rfl (Q.ld Tryz.isAgg95 rfl (rdI (by exact rfl))) ?_
  refine J.m rfl <| J.p rfl (Q.ia Tryz.runUnderlying95 Tryz.sizeOf143 rfl rfl (by omega) (by omega)) <| J.p rfl (Q.asg rfl) <| J.nil <| J.then_n <| J.seq <| J.region <| J.p rfl (Q.asg rfl) <| J.nil <| J.then_n <| J.seq <| J.seq <| J.region <| J.p rfl (Q.asg rfl) <| J.nil <| J.then_n <| J.block ?_
  refine J.give (X := own 5 1 (.slice none 0 0) (bytesV [])) (own.nil _ _ _) ?_
  refine J.keepI [own 5 1 (.slice none 0 0) (bytesV []), refP m (.slice p1 bs.length c1) (.slice (some ⟨bb, off, none⟩) us.length c2) (.slice p3 M.done.length c3), bksO p1 c1 bs, upsO (some ⟨bb, off, none⟩) c2 us, kpsO p3 c3 M.done, star (bs.map RBk.asn), own 146 2 (.slice yp yl.length yc) (yl.flatMap RPt.cells), star (yl.map RPt.asn), star ((us.eraseIdx i).map RUp.asn),
   pt b6 (.cells [Value.int .i64 0, .int .u64 0, .slice none 0 0, .bool false, .slice none 0 0].toArray 44 (0, 0)), pt b4 (.cells x.cells.toArray 52 (0, 0)), G, F] ?_
  refine J.loop3 (fun (j : Nat) (_ : Option Addr) (_ : Nat) => j ≤ x.o.parts.length ∧ ∀ q, q ∈ x.o.parts.take j → (sget q (yl.map RPt.kv)).isSome = true) (fun j _ _ => x.o.parts.length - j)
   (fun j p c => [(0, .pointer (some ⟨m, 0, none⟩)), (2, .int .i64 i), (4, .pointer (some ⟨b4, 0, none⟩)), (6, .pointer (some ⟨b6, 0, none⟩)), (7, .pointer (some ⟨bb, off + i * 4, none⟩)), (8, .slice p ((x.o.parts.take j).flatMap (partOf (yl.map RPt.kv))).length c), (9, .int .i64 j)])
   (fun j p c => [own 5 1 (.slice p ((x.o.parts.take j).flatMap (partOf (yl.map RPt.kv))).length c) (bytesV ((x.o.parts.take j).flatMap (partOf (yl.map RPt.kv)))), refP m (.slice p1 bs.length c1) (.slice (some ⟨bb, off, none⟩) us.length c2) (.slice p3 M.done.length c3), bksO p1 c1 bs, upsO (some ⟨bb, off, none⟩) c2 us, kpsO p3 c3 M.done, star (bs.map RBk.asn), own 146 2 (.slice yp yl.length yc) (yl.flatMap RPt.cells), star (yl.map RPt.asn), star ((us.eraseIdx i).map RUp.asn),
   pt b6 (.cells [Value.int .i64 0, .int .u64 0, .slice none 0 0, .bool false, .slice none 0 0].toArray 44 (0, 0)), pt b4 (.cells x.cells.toArray 52 (0, 0)), G, F])
   0 none 0 ⟨Nat.zero_le _, (fun _ h => by cases h)⟩ ⟨rfl, rfl, rfl, rfl, rfl, rfl, rfl, trivial⟩ rfl fun j p c hw => ?_
  obtain ⟨hj, hall⟩ := hw
  have hacc := hal j
  refine J.seq <| J.seq <| J.region <| J.m rfl <| J.p rfl (Q.fa (n := 7) Tryz.runUnderlying52 rfl rfl Tryz.sizeOf50 rfl) ?_
  refine J.p rfl (Q.ld Tryz.isAgg50 rfl (rdI (by exact rfl))) ?_
  refine J.p rfl (Q.lenSl Tryz.runUnderlying50 rfl) <| J.p rfl (Q.lss rfl rfl) <| J.nil <| J.then_n ?_
  refine J.cases 24 rfl (fun hc24 => ?_) (fun hc24 => ?_)
  ·
   replace hc24 := X.nm hc24
   try (first | (cases hc24; done) | (exfalso; simp at hc24; done))
   all_goals
    refine J.cond_t rfl <| J.cskip <| J.then_n <| J.seq <| J.block <| J.seq ?_
    obtain ⟨bp, op, hpp, hrp⟩ := hx.parts.some_ (by omega)
    obtain ⟨n, hn⟩ : ∃ n, x.o.parts[j]? = some n := ⟨_, List.getElem?_eq_getElem (by omega)⟩
    refine J.region <| J.m rfl <| J.p rfl (Q.fa (n := 7) Tryz.runUnderlying52 rfl rfl Tryz.sizeOf50 rfl) ?_
    refine J.p rfl (Q.ld Tryz.isAgg50 rfl (rdI (by exact rfl))) ?_
    refine J.slot 30 (.slice (some ⟨bp, op, none⟩) x.o.parts.length x.pc) rfl (by rw [hpp]) ?_
    refine J.m rfl <| J.p rfl (Q.ia Tryz.runUnderlying50 Tryz.sizeOf3 rfl rfl (by omega) (by omega)) <| J.p rfl (Q.ld Tryz.isAgg3 rfl ((hrp j (.int .i64 n) (by simp [hn])).cast (by omega)).inI) ?_
    refine J.callI Tryz.call58 (rpart_spec bb off c2 us hyi n hps (by show yl.length ≤ _; omega)) rfl rfl rfl ?_
    rintro _ _ ⟨a, rfl, ha, rfl⟩
    refine J.norm rfl ?_
    replace ha : AtK ltI n (yl.map RPt.kv) a := ha
    refine J.m rfl <| J.p rfl (Q.ext rfl rfl) <| J.p rfl (Q.ext rfl rfl) <| J.p rfl (Q.asg rfl) <| J.p rfl (Q.asg rfl) <| J.nil <| J.then_n <| J.seq <| J.seq <| J.region <| J.m rfl <| J.p rfl (Q.not rfl) <| J.nil <| J.then_n ?_
    refine J.cases 38 rfl (fun hc38 => ?_) (fun hc38 => ?_)
    ·
     replace hc38 := X.nm hc38
     try (first | (cases hc38; done) | (exfalso; simp at hc38; done))
     all_goals
      refine J.cond_t rfl <| J.seq <| J.region ?_
      refine J.callI Tryz.call30 (ris_spec 400) rfl rfl rfl ?_
      rintro _ _ ⟨rfl, rfl⟩
      refine J.norm rfl ?_
      refine J.stAI (vs := [_, _, _, _, _]) rfl Tryz.sizeOf44 rfl rfl (by exact rfl) (by exact rfl) (by exact rfl) ?_
      refine J.nil <| J.then_n <| J.cret <| J.then_r <| J.blk_r <| J.then_r <| J.lp_r <| J.blk_r <| J.then_r ?_
      replace hc38 : (sget n (yl.map RPt.kv)).isSome = false := by simpa using hc38
      have e : M.complete x.o = (st 400, M) := by
       unfold BM.complete; rw [hu]; unfold collect; dsimp only
       rw [if_neg (by intro h; rw [List.all_eq_true] at h; have := h n (List.mem_of_getElem? hn); rw [hc38] at this; cases this)]
      refine J.shutI [own 146 2 (.slice yp yl.length yc) (yl.flatMap RPt.cells), star (yl.map RPt.asn)] (RUp.asn ⟨yk, yb, yo, yp, yc, yl⟩) (fun _ h => h) ?_
      refine J.unfocusI (f := RUp.asn) i ⟨yk, yb, yo, yp, yc, yl⟩ hil ?_
      rw [set_self hyi]
      refine J.shutI (refL m M p1 c1 bs (some ⟨bb, off, none⟩) c2 us p3 c3) (RefAt m M) (RefAt.of hyb hyu hyk) ?_
      rw [e]
      refine J.retCI (vs := [_, _, _, _, _]) [RefAt m M, G] rfl rfl Tryz.isAgg44 Tryz.sizeOf44 rnI ⟨rfl, rfl⟩
    replace hc38 := X.nm hc38
    try (first | (cases hc38; done) | (exfalso; simp at hc38; done))
    all_goals
     refine J.cond_f rfl <| J.cskip <| J.then_n ?_
     replace hc38 : (sget n (yl.map RPt.kv)).isSome = true := by simpa using hc38
     obtain ⟨d, hd⟩ := Option.isSome_iff_exists.1 hc38
     obtain ⟨q, hq, hqv⟩ := at_map (ha.here ord3_int hps hd)
     have hqa := (List.getElem?_eq_some_iff.1 hq).1
     have hqd : q.d = d := congrArg Prod.snd hqv
     have hqd2 := hdl _ _ hd
     obtain ⟨b2, o2, rfl, hrd2⟩ := hsp.some_ (by omega)
     refine J.slrStarI (f := RPt.asn) (E := 5) (sz := 1) (p := q.p) (n := q.d.length) (c := q.c) (xs := bytesV q.d) a hq rfl fun hsd => ?_
     have hql : q.d.length ≤ 16777216 := by rw [hqd]; exact hqd2
     obtain ⟨acc, hac⟩ : ∃ acc, acc = (x.o.parts.take j).flatMap (partOf (yl.map RPt.kv)) := ⟨_, rfl⟩
     rw [← hac] at hacc ⊢
     refine J.region <| J.m rfl <| J.m rfl <| J.p rfl (Q.nil_ rfl) <| J.p rfl (Q.fa (n := 3) Tryz.runUnderlying143 rfl rfl Tryz.sizeOf141 rfl) <| J.p rfl (Q.ld Tryz.isAgg141 rfl (rfO 3 RUp.len hyi (show _ = some (Value.slice (some ⟨b2, o2, none⟩) yl.length yc) from rfl) (by omega))) <| J.m rfl <| J.p rfl (Q.ia Tryz.runUnderlying141 Tryz.sizeOf146 rfl rfl (by omega) (by omega)) ?_
     refine J.p rfl (Q.fa (n := 1) Tryz.runUnderlying146 rfl rfl Tryz.sizeOf42 rfl) <| J.p rfl (Q.ld Tryz.isAgg42 rfl (rfO 1 RPt.len hq (show _ = some (Value.slice q.p q.d.length q.c) from rfl) (by omega))) ?_
     refine J.c rfl rfl (C.appI Tryz.runUnderlying42 Tryz.runUnderlying42 Tryz.typeInfo5 Tryz.sizeOf5 Tryz.zeroValue5 rfl rfl (hsd.inI) (bytesV_one _) (by simp [Tryz.t5] <;> omega) (by decide)) ?_
     rintro _ _ ⟨p49, c49, rfl, rfl⟩
     refine J.norm rfl <| J.p rfl (Q.asg rfl) <| J.nil <| J.blk_n <| J.then_n <| J.region <| J.m rfl <| J.p rfl (Q.add64 rfl rfl (by omega)) <| J.p rfl (Q.asg rfl) <| J.nil ?_
     have e1 : (x.o.parts.take (j + 1)).flatMap (partOf (yl.map RPt.kv)) = (x.o.parts.take j).flatMap (partOf (yl.map RPt.kv)) ++ q.d := by
      obtain ⟨h1, h2⟩ := List.getElem?_eq_some_iff.1 hn
      rw [List.take_succ_eq_append_getElem h1, h2, List.flatMap_append, List.flatMap_cons, List.flatMap_nil, List.append_nil]
      rw [show partOf (yl.map RPt.kv) n = q.d from by unfold partOf; rw [hd, hqd]; rfl]
     rw [← hac] at e1
     have e2 : acc.length + q.d.length = ((x.o.parts.take (j + 1)).flatMap (partOf (yl.map RPt.kv))).length := by rw [e1, List.length_append]
     have e3 : bytesV acc ++ bytesV q.d = bytesV ((x.o.parts.take (j + 1)).flatMap (partOf (yl.map RPt.kv))) := by rw [e1]; simp [bytesV]
     rw [e2, e3]
     refine J.againI (j + 1, p49, c49) ⟨by show j + 1 ≤ _; omega, by
      obtain ⟨h1, h2⟩ := List.getElem?_eq_some_iff.1 hn
      intro r hr
      rw [show (j + 1, p49, c49).1 = j + 1 from rfl, List.take_succ_eq_append_getElem h1, h2, List.mem_append] at hr
      rcases hr with hr | hr
      · exact hall r hr
      · rw [List.mem_singleton.1 hr]; exact hc38⟩ (by show x.o.parts.length - (j + 1) < x.o.parts.length - j; omega) ⟨rfl, rfl, rfl, rfl, rfl, rfl, rfl, trivial⟩
  replace hc24 := X.nm hc24
  try (first | (cases hc24; done) | (exfalso; simp at hc24; done))
  all_goals
   refine J.cond_f rfl <| J.exit <| J.then_x <| J.lp_x <| J.blk_x <| J.then_n <| J.seq ?_
   obtain ⟨acc, hac⟩ : ∃ acc, acc = (x.o.parts.take j).flatMap (partOf (yl.map RPt.kv)) := ⟨_, rfl⟩
   rw [← hac] at hacc ⊢
   have hcol : collect (yl.map RPt.kv) x.o.parts = some acc := by
    rw [List.take_of_length_le (by omega)] at hac hall
    unfold collect
    rw [if_pos (List.all_eq_true.2 hall), hac]
   obtain ⟨objs, hob⟩ := Option.isSome_iff_exists.1 hex
   obtain ⟨hso, hol, _⟩ := hok.os _ _ hob
   refine J.region <| J.m rfl <| J.m rfl <| J.p rfl (Q.nil_ rfl) <| J.p rfl (Q.fa (n := 1) Tryz.runUnderlying143 rfl rfl Tryz.sizeOf9 rfl) <| J.p rfl (Q.ld Tryz.isAgg9 rfl (rfO 1 RUp.len hyi (show _ = some (Value.string yb) from rfl) (by omega))) ?_
   refine J.callI Tryz.call54 (rbucket_spec m p1 c1 bs (.slice (some ⟨bb, off, none⟩) us.length c2) (.slice p3 M.done.length c3) yb hbs (by omega)) rfl rfl rfl ?_
   rintro _ _ ⟨a, rfl, ha, rfl⟩
   refine J.norm rfl ?_
   rw [hyb] at ha ⊢
   refine J.m rfl <| J.p rfl (Q.ext rfl rfl) <| J.p rfl (Q.ext rfl rfl) <| J.p rfl (Q.asg rfl) <| J.p rfl (Q.asg rfl) <| J.nil <| J.then_n <| J.seq ?_
   obtain ⟨z, hz, hzv⟩ := at_map (by rw [hyb]; exact ha.here ord3_str hM.bs hob)
   have hza := (List.getElem?_eq_some_iff.1 hz).1
   have hzk : z.k = yb := congrArg Prod.fst hzv
   have hzl : z.l.map ROb.kv = objs := congrArg Prod.snd hzv
   have hzn : z.l.length ≤ 32768 := by have := congrArg List.length hzl; rw [List.length_map] at this; omega
   obtain ⟨b1, o1, rfl, hrd1⟩ := hsb.some_ (by omega)
   refine J.slrI (E0 := 5) (sz := 1) (p := p) (n := acc.length) (c := c) (xs := bytesV acc) fun hsa => ?_
   refine J.focusI (f := RBk.asn) a hz ?_
   refine J.openI z.asn (Bs := fun _ : Unit => [z.own, star (z.l.map ROb.asn)]) (p := fun _ => True) (fun _ h => ⟨(), trivial, h⟩) fun _ _ => ?_
   refine J.norm rfl ?_
   refine J.draw [11] Tryz.mixed (by kernel_rfl) fun hR => ?_
   refine RG.p 0 hR rfl (Q.mv rfl) <| RG.p 1 hR rfl (Q.nil_ rfl) <| RG.p 2 hR rfl (Q.fa (n := 0) Tryz.runUnderlying98 rfl rfl Tryz.sizeOf94 rfl) ?_
   refine RG.p 3 hR rfl (Q.ld Tryz.isAgg94 rfl (rdI (by exact rfl))) ?_
   refine RG.p 4 hR rfl (Q.mv rfl) <| RG.p 5 hR rfl (Q.ia Tryz.runUnderlying94 Tryz.sizeOf136 rfl rfl (by omega) (by omega)) <| RG.p 6 hR rfl (Q.mv rfl) <| RG.p 7 hR rfl (Q.nil_ rfl) <| RG.p 8 hR rfl (Q.fa (n := 2) Tryz.runUnderlying143 rfl rfl Tryz.sizeOf9 rfl) <| RG.p 9 hR rfl (Q.ld Tryz.isAgg9 rfl (rfO 2 RUp.len hyi (show _ = some (Value.string yo) from rfl) (by omega))) ?_
   refine RG.p 10 hR rfl (Q.mv rfl) ?_
   refine RG.callI 11 hR rfl rfl rfl rfl rfl rfl Tryz.call60 (rput_spec (own 5 1 (.slice p acc.length c) (bytesV acc)) b1 o1 c1 bs hz yo p c acc hsa (by omega) (by rw [hzl]; exact hso) (by omega)) rfl ?_
   rintro _ _ ⟨z2, hz1, hz2, rfl, rfl⟩
   refine RG.norm rfl ?_
   refine RG.fin hR rfl ?_
   refine J.norm rfl <| J.then_n <| J.seq ?_
   refine J.shutI [z2.own, star (z2.l.map ROb.asn)] z2.asn (fun _ h => h) ?_
   refine J.unfocusI (f := RBk.asn) a z2 hza ?_
   refine J.shutI [own 146 2 (.slice yp yl.length yc) (yl.flatMap RPt.cells), star (yl.map RPt.asn)] (RUp.asn ⟨yk, yb, yo, yp, yc, yl⟩) (fun _ h => h) ?_
   refine J.unfocusI (f := RUp.asn) i ⟨yk, yb, yo, yp, yc, yl⟩ hil ?_
   rw [set_self hyi]
   obtain ⟨M1, hM1⟩ : ∃ M1 : BM, M1 = { M with buckets := sput ltB yb (sput ltB yo acc objs) M.buckets } := ⟨_, rfl⟩
   have hset : (bs.set a z2).map RBk.kv = M1.buckets := by
    rw [hM1, List.map_set, hyb, ha.put_yes ord3_str hM.bs hob]
    rw [show z2.kv = (yb, sput ltB yo acc objs) from by rw [← hzl, ← hz2, ← hzk, ← hz1]]
   have lM1 : M1.lite := ⟨by rw [hM1]; exact X.G.srtd_put ord3_str hM.bs _ _, by rw [hM1]; exact hM.us, by rw [hM1]; exact hM.ds, by rw [← hset, List.length_map, List.length_set, hM1]; exact ⟨by omega, hM.len.2⟩, by rw [hM1]; exact hM.pl⟩
   refine J.convI (refP m (.slice (some ⟨b1, o1, none⟩) bs.length c1) (.slice (some ⟨bb, off, none⟩) us.length c2) (.slice p3 M.done.length c3)) (refP m (.slice (some ⟨b1, o1, none⟩) (bs.set a z2).length c1) (.slice (some ⟨bb, off, none⟩) us.length c2) (.slice p3 M1.done.length c3)) (fun _ h => by rw [List.length_set, hM1]; exact h) ?_
   refine J.convI (kpsO p3 c3 M.done) (kpsO p3 c3 M1.done) (fun _ h => by rw [hM1]; exact h) ?_
   refine J.shutI (refL m M1 (some ⟨b1, o1, none⟩) c1 (bs.set a z2) (some ⟨bb, off, none⟩) c2 us p3 c3) (RefAt m M1) (RefAt.of (M := M1) hset (by rw [hM1]; exact hyu) (by rw [hM1]; exact hyk)) ?_
   refine J.region <| J.m rfl <| J.m rfl ?_
   refine J.callI Tryz.call57 (rgone_spec m M1 lM1 (n := x.o.upload) (u := ⟨yb, yo, yl.map RPt.kv⟩) (i := i) (by rw [hM1]; exact hi) (by rw [hM1]; exact hu)) rfl rfl rfl ?_
   rintro _ _ ⟨rfl, rfl⟩
   refine J.norm rfl <| J.nil <| J.then_n <| J.seq <| J.region ?_
   refine J.callI Tryz.call30 (ris_spec 200) rfl rfl rfl ?_
   rintro _ _ ⟨rfl, rfl⟩
   refine J.norm rfl ?_
   refine J.stAI (vs := [_, _, _, _, _]) rfl Tryz.sizeOf44 rfl rfl (by exact rfl) (by exact rfl) (by exact rfl) ?_
   refine J.nil <| J.then_n <| J.cret ?_
   have e : M.complete x.o = (st 200, { M1 with uploads := sdel x.o.upload M1.uploads }) := by
    unfold BM.complete; rw [hu]; dsimp only; rw [hcol, hob, hM1]; rfl
   rw [e]
   refine J.retCI (vs := [_, _, _, _, _]) [RefAt m { M1 with uploads := sdel x.o.upload M1.uploads }, G] rfl rfl Tryz.isAgg44 Tryz.sizeOf44 rnI ⟨rfl, rfl⟩
end
end Go.Proofs.YtidbcaimgahllaaGreat
namespace Go.Proofs.YtidbcaimgahllaaGreat
set_option linter.unusedSectionVars false
set_option linter.unusedSimpArgs false
set_option linter.unusedVariables false
open Go.X
open Go.X.G (Ord3 ord3_nat ord3_int ord3_str ltB sget sput sdel Srtd)

section
variable {k : Nat} (m : Nat) (M : BM) (hM : M.lite) (hok : M.ok k) (hk : k ≤ 32768) (x : OW) (G : Assn) (hx : x.ok G)
include hM hok hk hx
theorem rinUpload_spec (hkk : x.o.kind = 8 ∨ x.o.kind = 9 ∨ x.o.kind = 10) (hp : x.o.kind = 9 → partsOK x.o.parts = true) (hdl : x.o.data.length ≤ 16777216) : FSpec Tryz.prog 34 [.pointer (some ⟨m, 0, none⟩), .agg x.cells.toArray] [RefAt m M, G]
    (fun v B => v = bareV (M.act x.o).1 ∧ B = [RefAt m (M.act x.o).2, G]) := by
  refine FSpec.of Tryz.func34 rfl Tryz.ntmps34 rfl fun W0 F => ?_
  refine J.seq <| J.region ?_
  refine J.c rfl rfl (C.box (l := [_, _, _, _, _, _, _, _, _]) rfl rfl) ?_
  rintro _ _ ⟨b3, rfl, rfl⟩
  refine J.norm rfl ?_
  refine J.c rfl rfl (C.alloc (l := [_, _, _, _, _]) Tryz.zeroValue44 rfl) ?_
  rintro _ _ ⟨b4, rfl, rfl⟩
  refine J.norm rfl <| J.nil <| J.then_n <| J.seq ?_
  refine J.openRef (m := m) (M := M) fun p1 c1 bs p2 c2 us p3 c3 hyb hyu hyk => ?_
  refine J.norm rfl ?_
  have hbs : Srtd ltB (bs.map RBk.kv) := by rw [hyb]; exact hM.bs
  have hus : Srtd ltN (us.map RUp.kv) := by rw [hyu]; exact hM.us
  have hbl : bs.length = M.buckets.length := by rw [← hyb, List.length_map]
  have hul : us.length = M.uploads.length := by rw [← hyu, List.length_map]
  have hlen := hM.len
  refine J.slrI (E0 := 136) (sz := 2) (p := p1) (n := bs.length) (c := c1) (xs := bs.flatMap RBk.cells) fun hsb => ?_
  refine J.slrI (E0 := 143) (sz := 4) (p := p2) (n := us.length) (c := c2) (xs := us.flatMap RUp.cells) fun hsu => ?_
  refine J.region <| J.m rfl <| J.p rfl (Q.fa (n := 6) Tryz.runUnderlying52 rfl rfl Tryz.sizeOf40 rfl) ?_
  refine J.p rfl (Q.ld Tryz.isAgg40 rfl (rdI (by exact rfl))) ?_
  refine J.callI Tryz.call55 (rupload_spec m p2 c2 us (.slice p1 bs.length c1) (.slice p3 M.done.length c3) x.o.upload hus (by omega)) rfl rfl rfl ?_
  rintro _ _ ⟨i, rfl, hi, rfl⟩
  refine J.norm rfl ?_
  rw [hyu] at hi ⊢
  refine J.m rfl <| J.p rfl (Q.ext rfl rfl) <| J.p rfl (Q.ext rfl rfl) <| J.p rfl (Q.asg rfl) <| J.p rfl (Q.asg rfl) <| J.nil <| J.then_n <| J.seq <| J.seq <| J.region <| J.m rfl <| J.p rfl (Q.not rfl) <| J.nil <| J.then_n ?_
  refine J.cases 19 rfl (fun hc19 => ?_) (fun hc19 => ?_)
  ·
   replace hc19 := X.nm hc19
   try (first | (cases hc19; done) | (exfalso; simp at hc19; done))
   all_goals
    refine J.cond_t rfl <| J.seq <| J.region ?_
    refine J.callI Tryz.call30 (ris_spec 404) rfl rfl rfl ?_
    rintro _ _ ⟨rfl, rfl⟩
    refine J.norm rfl ?_
    refine J.stAI (vs := [_, _, _, _, _]) rfl Tryz.sizeOf44 rfl rfl (by exact rfl) (by exact rfl) (by exact rfl) ?_
    refine J.nil <| J.then_n <| J.cret <| J.then_r ?_
    replace hc19 : sget x.o.upload M.uploads = none := by simpa using hc19
    have e : M.act x.o = (st 404, M) := by
     unfold BM.act BM.part BM.complete BM.abort
     simp only [hc19]
     rcases hkk with h | h | h <;> simp [h]
    refine J.shutI (refL m M p1 c1 bs p2 c2 us p3 c3) (RefAt m M) (RefAt.of hyb hyu hyk) ?_
    rw [e]
    refine J.retCI (vs := [_, _, _, _, _]) [RefAt m M, G] rfl rfl Tryz.isAgg44 Tryz.sizeOf44 rnI ⟨rfl, rfl⟩
  replace hc19 := X.nm hc19
  try (first | (cases hc19; done) | (exfalso; simp at hc19; done))
  all_goals
   refine J.cond_f rfl <| J.cskip <| J.then_n <| J.seq <| J.seq ?_
   obtain ⟨u, hu⟩ : ∃ u, sget x.o.upload M.uploads = some u := Option.isSome_iff_exists.1 (by simpa using hc19)
   refine J.region <| J.p rfl (Q.fa (n := 1) Tryz.runUnderlying52 rfl rfl Tryz.sizeOf3 rfl) ?_
   refine J.p rfl (Q.ld Tryz.isAgg3 rfl (rdI (by exact rfl))) ?_
   refine J.nil <| J.then_n <| J.block <| J.seq <| J.region <| J.p rfl (Q.eql rfl rfl) <| J.p rfl (Q.asg rfl) <| J.nil <| J.then_n ?_
   refine J.cases 23 rfl (fun hc23 => ?_) (fun hc23 => ?_)
   ·
    replace hc23 := X.nm hc23
    try (first | (cases hc23; done) | (exfalso; simp at hc23; done))
    all_goals
     refine J.cond_t rfl <| J.seq ?_
     refine J.shutI (refL m M p1 c1 bs p2 c2 us p3 c3) (RefAt m M) (RefAt.of hyb hyu hyk) ?_
     refine J.region <| J.m rfl ?_
     refine J.p rfl (Q.ldN (vs := [_, _, _, _, _, _, _, _, _]) Tryz.isAgg52 Tryz.sizeOf52 rfl rnI) ?_
     refine J.m rfl ?_
     refine J.callI Tryz.call56 (rcomplete_spec m M hM hok hk x G hx (hp (by omega)) hu hi) rfl rfl rfl ?_
     rintro _ _ ⟨rfl, rfl⟩
     refine J.norm rfl ?_
     refine J.stAI (vs := [_, _, _, _, _]) rfl Tryz.sizeOf44 rfl rfl (by exact rfl) (by exact rfl) (by exact rfl) ?_
     refine J.nil <| J.then_n <| J.cret <| J.blk_r <| J.then_r ?_
     have e : M.act x.o = M.complete x.o := by unfold BM.act; simp [show x.o.kind = 9 by omega]
     rw [e]
     refine J.retCI (vs := [_, _, _, _, _]) [RefAt m (M.complete x.o).2, G] rfl rfl Tryz.isAgg44 Tryz.sizeOf44 rnI ⟨rfl, rfl⟩
   replace hc23 := X.nm hc23
   try (first | (cases hc23; done) | (exfalso; simp at hc23; done))
   all_goals
    refine J.cond_f rfl <| J.seq <| J.region <| J.p rfl (Q.eql rfl rfl) <| J.p rfl (Q.asg rfl) <| J.nil <| J.then_n ?_
    refine J.cases 29 rfl (fun hc29 => ?_) (fun hc29 => ?_)
    ·
     replace hc29 := X.nm hc29
     try (first | (cases hc29; done) | (exfalso; simp at hc29; done))
     all_goals
      refine J.cond_t rfl <| J.seq ?_
      refine J.shutI (refL m M p1 c1 bs p2 c2 us p3 c3) (RefAt m M) (RefAt.of hyb hyu hyk) ?_
      refine J.region <| J.m rfl <| J.m rfl ?_
      refine J.callI Tryz.call57 (rgone_spec m M hM hi hu) rfl rfl rfl ?_
      rintro _ _ ⟨rfl, rfl⟩
      refine J.norm rfl <| J.nil <| J.then_n <| J.seq <| J.region ?_
      refine J.callI Tryz.call30 (ris_spec 200) rfl rfl rfl ?_
      rintro _ _ ⟨rfl, rfl⟩
      refine J.norm rfl ?_
      refine J.stAI (vs := [_, _, _, _, _]) rfl Tryz.sizeOf44 rfl rfl (by exact rfl) (by exact rfl) (by exact rfl) ?_
      refine J.nil <| J.then_n <| J.cret <| J.blk_r <| J.then_r ?_
      have e : M.act x.o = (st 200, { M with uploads := sdel x.o.upload M.uploads }) := by unfold BM.act BM.abort; simp [show x.o.kind = 10 by omega, hu]
      rw [e]
      refine J.retCI (vs := [_, _, _, _, _]) [RefAt m { M with uploads := sdel x.o.upload M.uploads }, G] rfl rfl Tryz.isAgg44 Tryz.sizeOf44 rnI ⟨rfl, rfl⟩
    replace hc29 := X.nm hc29
    try (first | (cases hc29; done) | (exfalso; simp at hc29; done))
    all_goals
     refine J.cond_f rfl <| J.cskip <| J.blk_n <| J.then_n <| J.seq ?_
     have e : M.act x.o = (st 200, { M with uploads := sput ltN x.o.upload ⟨u.bucket, u.key, sput ltI x.o.n x.o.data u.parts⟩ M.uploads }) := by unfold BM.act BM.part; simp [show x.o.kind = 8 by omega, hu]
     rw [e]
     obtain ⟨y, hyi, hyq⟩ := at_map (by rw [hyu]; exact hi.here ord3_nat hM.us hu)
     obtain ⟨yk, yb, yo, yp, yc, yl⟩ := y
     simp only [RUp.kv, Prod.mk.injEq] at hyq
     obtain ⟨hyk1, rfl⟩ := hyq
     have hil := (List.getElem?_eq_some_iff.1 hyi).1
     obtain ⟨bb, off, rfl, hrd⟩ := hsu.some_ (by omega)
     obtain ⟨hps, hex, _⟩ := hok.ps _ _ hu
     dsimp only at hps hex
     have hyl : yl.length ≤ 32768 := by have := hM.pl _ _ hu; rwa [List.length_map] at this
     refine J.focusI (f := RUp.asn) i hyi ?_
     refine J.openI (RUp.asn ⟨yk, yb, yo, yp, yc, yl⟩) (Bs := fun _ : Unit => [own 146 2 (.slice yp yl.length yc) (yl.flatMap RPt.cells), star (yl.map RPt.asn)]) (p := fun _ => True) (fun _ h => ⟨(), trivial, h⟩) fun _ _ => ?_
     refine J.norm rfl ?_
     refine J.slrI (E0 := 146) (sz := 2) (p := yp) (n := yl.length) (c := yc) (xs := yl.flatMap RPt.cells) fun hsp => ?_
     refine J.tells 0 rfl own.len fun hlp => ?_
     have hlp' : yl.length ≤ yc := hlp.2
     refine J.region <| J.m rfl <| J.p rfl (Q.nil_ rfl) <| J.p rfl (Q.fa (n := 1) Tryz.runUnderlying98 rfl rfl Tryz.sizeOf95 rfl) ?_
     refine J.p rfl (Q.ld Tryz.isAgg95 rfl (rdI (by exact rfl))) ?_
     refine J.m rfl <| J.p rfl (Q.ia Tryz.runUnderlying95 Tryz.sizeOf143 rfl rfl (by omega) (by omega)) <| J.p rfl (Q.asg rfl) <| J.nil <| J.then_n <| J.seq <| J.region <| J.m rfl <| J.p rfl (Q.fa (n := 5) Tryz.runUnderlying52 rfl rfl Tryz.sizeOf3 rfl) ?_
     refine J.p rfl (Q.ld Tryz.isAgg3 rfl (rdI (by exact rfl))) ?_
     refine J.callI Tryz.call58 (rpart_spec bb off c2 us hyi x.o.n hps (by show yl.length ≤ _; omega)) rfl rfl rfl ?_
     rintro _ _ ⟨a, rfl, ha, rfl⟩
     refine J.norm rfl ?_
     replace ha : AtK ltI x.o.n (yl.map RPt.kv) a := ha
     have hal : a ≤ yl.length := by have := ha.le; rwa [List.length_map] at this
     refine J.m rfl <| J.p rfl (Q.ext rfl rfl) <| J.p rfl (Q.ext rfl rfl) <| J.p rfl (Q.asg rfl) <| J.p rfl (Q.asg rfl) <| J.nil <| J.then_n ?_
     refine J.cut (fun w : RPt × Nat => w.1.k = x.o.n ∧ w.1.d = x.o.data) (fun w => [(4, .pointer (some ⟨b4, 0, none⟩)), (6, .bool (sget x.o.n (yl.map RPt.kv)).isSome), (7, .pointer (some ⟨bb, off + i * 4, none⟩)), (8, .int .i64 a), (9, .pointer (some ⟨w.2, 0, none⟩))])
      (fun w => [refP m (.slice p1 bs.length c1) (.slice (some ⟨bb, off, none⟩) us.length c2) (.slice p3 M.done.length c3), bksO p1 c1 bs, upsO (some ⟨bb, off, none⟩) c2 us, kpsO p3 c3 M.done, star (bs.map RBk.asn), own 146 2 (.slice yp yl.length yc) (yl.flatMap RPt.cells), star (yl.map RPt.asn), star ((us.eraseIdx i).map RUp.asn),
      pt b4 (.cells [Value.int .i64 0, .int .u64 0, .slice none 0 0, .bool false, .slice none 0 0].toArray 44 (0, 0)), w.1.asn, pt w.2 (.cells w.1.cells.toArray 146 (0, 0)), G, F]) ?_ fun w hw => ?_
     ·
      refine J.draw [2, 5, 7, 8] Tryz.mixed (by kernel_rfl) fun hR => ?_
      refine RG.p 0 hR rfl (Q.fa (n := 5) Tryz.runUnderlying52 rfl rfl Tryz.sizeOf3 rfl) ?_
      refine RG.p 1 hR rfl (Q.ld Tryz.isAgg3 rfl (rdI (by exact rfl))) ?_
      refine RG.p 3 hR rfl (Q.fa (n := 8) Tryz.runUnderlying52 rfl rfl Tryz.sizeOf42 rfl) ?_
      refine RG.p 4 hR rfl (Q.ld Tryz.isAgg42 rfl (rdI (by exact rfl))) ?_
      refine RG.many hR 2 [7] rfl ⟨?_, ⟨?_, trivial⟩⟩
      ·
       refine RGi.made rfl rfl rfl rfl (C.bslG (l := []) Tryz.runUnderlying42 Tryz.sizeOf5 Tryz.zeroValue5 (by decide) rfl rfl rfl rfl rfl) ?_
       rintro b50
       refine RG.many hR 5 [7] rfl ⟨?_, ⟨?_, trivial⟩⟩
       ·
        refine RGi.appI rfl rfl rfl rfl Tryz.runUnderlying42 Tryz.runUnderlying42 Tryz.typeInfo5 Tryz.sizeOf5 Tryz.zeroValue5 rfl rfl (hx.data.inI) (bytesV_one _) (by simp [Tryz.t5] <;> omega) (by decide) ?_
        rintro p53 c53
        refine RG.normE rfl ?_
        refine RG.slot 53 (.slice p53 x.o.data.length c53) rfl (by rw [Nat.zero_add]) ?_
        obtain ⟨z, hz⟩ : ∃ z : RPt, z = ⟨x.o.n, p53, c53, x.o.data⟩ := ⟨_, rfl⟩
        refine RG.p 6 hR rfl (Q.bld (l := [_, _]) Tryz.runUnderlying146 Tryz.zeroValue146 Tryz.places146 rfl rfl) ?_
        refine RG.slot 54 (.agg z.cells.toArray) rfl (by rw [hz]; rfl) ?_
        refine RG.made 7 hR rfl rfl rfl rfl rfl (C.alloc (l := [_, _]) Tryz.zeroValue146 rfl) ?_
        rintro b9
        refine RG.stAI (vs := [_, _]) 8 hR rfl rfl rfl rfl rfl Tryz.sizeOf146 rfl rfl (by exact rfl) (by exact rfl) (by exact rfl) ?_
        refine RG.fin hR rfl ?_
        refine J.norm rfl ?_
        refine J.convI (own 5 1 (.slice p53 (0 + x.o.data.length) c53) ([] ++ bytesV x.o.data)) z.asn (fun _ h => by rw [Nat.zero_add] at h; rw [hz]; exact h) ?_
        exact J.meetI (z, b9) ⟨by rw [hz], by rw [hz]⟩ ⟨rfl, rfl, rfl, rfl, rfl, trivial⟩
       ·
        refine RGi.made rfl rfl rfl rfl (C.alloc (l := [_, _]) Tryz.zeroValue146 rfl) ?_
        rintro b9
        refine RG.many hR 5 [] rfl ⟨?_, trivial⟩
        ·
         refine RGi.appI rfl rfl rfl rfl Tryz.runUnderlying42 Tryz.runUnderlying42 Tryz.typeInfo5 Tryz.sizeOf5 Tryz.zeroValue5 rfl rfl (hx.data.inI) (bytesV_one _) (by simp [Tryz.t5] <;> omega) (by decide) ?_
         rintro p53 c53
         refine RG.normE rfl ?_
         refine RG.slot 53 (.slice p53 x.o.data.length c53) rfl (by rw [Nat.zero_add]) ?_
         obtain ⟨z, hz⟩ : ∃ z : RPt, z = ⟨x.o.n, p53, c53, x.o.data⟩ := ⟨_, rfl⟩
         refine RG.p 6 hR rfl (Q.bld (l := [_, _]) Tryz.runUnderlying146 Tryz.zeroValue146 Tryz.places146 rfl rfl) ?_
         refine RG.slot 54 (.agg z.cells.toArray) rfl (by rw [hz]; rfl) ?_
         refine RG.stAI (vs := [_, _]) 8 hR rfl rfl rfl rfl rfl Tryz.sizeOf146 rfl rfl (by exact rfl) (by exact rfl) (by exact rfl) ?_
         refine RG.fin hR rfl ?_
         refine J.norm rfl ?_
         refine J.convI (own 5 1 (.slice p53 (0 + x.o.data.length) c53) ([] ++ bytesV x.o.data)) z.asn (fun _ h => by rw [Nat.zero_add] at h; rw [hz]; exact h) ?_
         exact J.meetI (z, b9) ⟨by rw [hz], by rw [hz]⟩ ⟨rfl, rfl, rfl, rfl, rfl, trivial⟩
      ·
       refine RGi.made rfl rfl rfl rfl (C.alloc (l := [_, _]) Tryz.zeroValue146 rfl) ?_
       rintro b9
       refine RG.made 2 hR rfl rfl rfl rfl rfl (C.bslG (l := []) Tryz.runUnderlying42 Tryz.sizeOf5 Tryz.zeroValue5 (by decide) rfl rfl rfl rfl rfl) ?_
       rintro b50
       refine RG.many hR 5 [] rfl ⟨?_, trivial⟩
       ·
        refine RGi.appI rfl rfl rfl rfl Tryz.runUnderlying42 Tryz.runUnderlying42 Tryz.typeInfo5 Tryz.sizeOf5 Tryz.zeroValue5 rfl rfl (hx.data.inI) (bytesV_one _) (by simp [Tryz.t5] <;> omega) (by decide) ?_
        rintro p53 c53
        refine RG.normE rfl ?_
        refine RG.slot 53 (.slice p53 x.o.data.length c53) rfl (by rw [Nat.zero_add]) ?_
        obtain ⟨z, hz⟩ : ∃ z : RPt, z = ⟨x.o.n, p53, c53, x.o.data⟩ := ⟨_, rfl⟩
        refine RG.p 6 hR rfl (Q.bld (l := [_, _]) Tryz.runUnderlying146 Tryz.zeroValue146 Tryz.places146 rfl rfl) ?_
        refine RG.slot 54 (.agg z.cells.toArray) rfl (by rw [hz]; rfl) ?_
        refine RG.stAI (vs := [_, _]) 8 hR rfl rfl rfl rfl rfl Tryz.sizeOf146 rfl rfl (by exact rfl) (by exact rfl) (by exact rfl) ?_
        refine RG.fin hR rfl ?_
        refine J.norm rfl ?_
        refine J.convI (own 5 1 (.slice p53 (0 + x.o.data.length) c53) ([] ++ bytesV x.o.data)) z.asn (fun _ h => by rw [Nat.zero_add] at h; rw [hz]; exact h) ?_
        exact J.meetI (z, b9) ⟨by rw [hz], by rw [hz]⟩ ⟨rfl, rfl, rfl, rfl, rfl, trivial⟩
     obtain ⟨z, b9⟩ := w
     obtain ⟨hzk, hzd⟩ := hw
     dsimp only at hzk hzd
     refine J.norm rfl ?_
     have hzv : z.kv = (x.o.n, x.o.data) := by rw [← hzk, ← hzd]
     refine J.seq <| J.seq <| J.region <| J.m rfl <| J.nil <| J.then_n ?_
     refine J.cases 55 rfl (fun hc55 => ?_) (fun hc55 => ?_)
     ·
      replace hc55 := X.nm hc55
      try (first | (cases hc55; done) | (exfalso; simp at hc55; done))
      all_goals
       refine J.cond_t rfl ?_
       obtain ⟨v, hv⟩ := Option.isSome_iff_exists.1 hc55
       have hal2 := (List.getElem?_eq_some_iff.1 (ha.here ord3_int hps hv)).1
       rw [List.length_map] at hal2
       obtain ⟨b2, o2, rfl, hrd2⟩ := hsp.some_ (by omega)
       have e1 : (yl.set a z).map RPt.kv = sput ltI x.o.n x.o.data (yl.map RPt.kv) := by rw [ha.put_yes ord3_int hps hv, List.map_set, hzv]
       obtain ⟨y2, hy2⟩ : ∃ y2 : RUp, y2 = ⟨yk, yb, yo, some ⟨b2, o2, none⟩, yc, yl.set a z⟩ := ⟨_, rfl⟩
       refine J.draw [7] Tryz.mixed (by kernel_rfl) fun hR => ?_
       refine RG.p 0 hR rfl (Q.mv rfl) <| RG.p 1 hR rfl (Q.nil_ rfl) <| RG.p 2 hR rfl (Q.fa (n := 3) Tryz.runUnderlying143 rfl rfl Tryz.sizeOf141 rfl) <| RG.p 3 hR rfl (Q.ld Tryz.isAgg141 rfl (rfO 3 RUp.len hyi (show _ = some (Value.slice (some ⟨b2, o2, none⟩) yl.length yc) from rfl) (by omega))) <| RG.p 4 hR rfl (Q.mv rfl) ?_
       refine RG.p 5 hR rfl (Q.ldN (vs := [_, _]) Tryz.isAgg146 Tryz.sizeOf146 rfl rnI) ?_
       refine RG.p 6 hR rfl (Q.ia Tryz.runUnderlying141 Tryz.sizeOf146 rfl rfl (by omega) (by omega)) ?_
       refine RG.bar 7 hR rfl rfl rfl rfl rfl rfl (C.stNO (a * 2) (vs := z.cells) Tryz.sizeOf146 rfl rfl (by omega) (by rw [flat_length RPt.len]; show a * 2 + 2 ≤ _; omega) rfl) ?_
       rintro _ _ ⟨rfl, rfl⟩
       refine RG.norm rfl ?_
       refine RG.fin hR rfl ?_
       refine J.norm rfl <| J.then_n <| J.seq <| J.region ?_
       refine J.callI Tryz.call30 (ris_spec 200) rfl rfl rfl ?_
       rintro _ _ ⟨rfl, rfl⟩
       refine J.norm rfl ?_
       refine J.stAI (vs := [_, _, _, _, _]) rfl Tryz.sizeOf44 rfl rfl (by exact rfl) (by exact rfl) (by exact rfl) ?_
       refine J.nil <| J.then_n <| J.cret ?_
       rw [flat_set RPt.len yl a z hal2]
       refine J.shutI [z.asn, star (yl.map RPt.asn)] (star (y2.l.map RPt.asn)) (by rw [hy2]; exact star_set1 a z) ?_
       refine J.convI (own 146 2 (.slice (some ⟨b2, o2, none⟩) yl.length yc) ((yl.set a z).flatMap RPt.cells)) y2.own (fun _ h => by rw [hy2]; show own _ _ (.slice _ (yl.set a z).length _) _ _; rw [List.length_set]; exact h) ?_
       refine J.convI (upsO (some ⟨bb, off, none⟩) c2 us) (upsO (some ⟨bb, off, none⟩) c2 (us.set i y2)) (fun _ h => by show own _ _ (.slice _ (us.set i y2).length _) _ _; rw [List.length_set, flat_same hyi (by rw [hy2]; show [_, _, _, Value.slice _ _ _] = _; rw [List.length_set])]; exact h) ?_
       refine J.shutI [y2.own, star (y2.l.map RPt.asn)] y2.asn (fun _ h => h) ?_
       refine J.unfocusI (f := RUp.asn) i y2 hil ?_
       refine J.convI (refP m (.slice p1 bs.length c1) (.slice (some ⟨bb, off, none⟩) us.length c2) (.slice p3 M.done.length c3)) (refP m (.slice p1 bs.length c1) (.slice (some ⟨bb, off, none⟩) (us.set i y2).length c2) (.slice p3 M.done.length c3)) (fun _ h => by rw [List.length_set]; exact h) ?_
       refine J.shutI (refL m { M with uploads := sput ltN x.o.upload ⟨yb, yo, sput ltI x.o.n x.o.data (yl.map RPt.kv)⟩ M.uploads } p1 c1 bs (some ⟨bb, off, none⟩) c2 (us.set i y2) p3 c3) (RefAt m { M with uploads := sput ltN x.o.upload ⟨yb, yo, sput ltI x.o.n x.o.data (yl.map RPt.kv)⟩ M.uploads }) (RefAt.of (M := { M with uploads := sput ltN x.o.upload ⟨yb, yo, sput ltI x.o.n x.o.data (yl.map RPt.kv)⟩ M.uploads }) hyb (by
        rw [List.map_set, hyu, hi.put_yes ord3_nat hM.us hu, hy2, show RUp.kv _ = (yk, UM.mk yb yo _) from rfl, e1, hyk1]) hyk) ?_
       refine J.retCI (vs := [_, _, _, _, _]) [RefAt m { M with uploads := sput ltN x.o.upload ⟨yb, yo, sput ltI x.o.n x.o.data (yl.map RPt.kv)⟩ M.uploads }, G] rfl rfl Tryz.isAgg44 Tryz.sizeOf44 rnI ⟨rfl, rfl⟩
     replace hc55 := X.nm hc55
     try (first | (cases hc55; done) | (exfalso; simp at hc55; done))
     all_goals
      refine J.cond_f rfl ?_
      refine J.cut (fun _ : Option Addr × Nat => True) (fun w => [(4, .pointer (some ⟨b4, 0, none⟩)), (7, .pointer (some ⟨bb, off + i * 4, none⟩)), (8, .int .i64 a), (10, .slice w.1 (0 + a + 1) w.2)])
       (fun w => [refP m (.slice p1 bs.length c1) (.slice (some ⟨bb, off, none⟩) us.length c2) (.slice p3 M.done.length c3), bksO p1 c1 bs, upsO (some ⟨bb, off, none⟩) c2 us, kpsO p3 c3 M.done, star (bs.map RBk.asn), own 146 2 (.slice yp yl.length yc) (yl.flatMap RPt.cells), star (yl.map RPt.asn), star ((us.eraseIdx i).map RUp.asn),
       pt b4 (.cells [Value.int .i64 0, .int .u64 0, .slice none 0 0, .bool false, .slice none 0 0].toArray 44 (0, 0)), z.asn, G, own 146 2 (.slice w.1 (0 + a + 1) w.2) ([] ++ (yl.flatMap RPt.cells).take (a * 2) ++ z.cells), F]) ?_ fun w _ => ?_
      obtain ⟨hq69, hr69⟩ := slH_ (P := Tryz.prog) (T := 141) Tryz.runUnderlying141 Tryz.sizeOf146 hsp (hi := a) hal hlp'
      ·
       have hsn : sget x.o.n (yl.map RPt.kv) = none := Option.not_isSome_iff_eq_none.1 (by rw [hc55]; exact Bool.false_ne_true)
       have e1 : (yl.take a ++ z :: yl.drop a).map RPt.kv = sput ltI x.o.n x.o.data (yl.map RPt.kv) := by rw [ha.put_no ord3_int hps hsn, map_ins, hzv]
       refine J.draw [0, 7, 9, 10, 11] Tryz.mixed (by kernel_rfl) fun hR => ?_
       refine RG.p 1 hR rfl (Q.mv rfl) <| RG.p 2 hR rfl (Q.nil_ rfl) <| RG.p 3 hR rfl (Q.fa (n := 3) Tryz.runUnderlying143 rfl rfl Tryz.sizeOf141 rfl) <| RG.p 4 hR rfl (Q.ld Tryz.isAgg141 rfl (rfO 3 RUp.len hyi (show _ = some (Value.slice yp yl.length yc) from rfl) (by omega))) <| RG.p 5 hR rfl (Q.mv rfl) ?_
       refine RG.p 6 hR rfl (hq69 _ _ _ _ _ _ rfl rfl) ?_
       refine RG.p 8 hR rfl (Q.ldN (vs := [_, _]) Tryz.isAgg146 Tryz.sizeOf146 rfl rnI) ?_
       refine RG.many hR 0 [9] rfl ⟨?_, ⟨?_, trivial⟩⟩
       ·
        refine RGi.made rfl rfl rfl rfl (C.bslG (l := []) Tryz.runUnderlying141 Tryz.sizeOf146 Tryz.zeroValue146 (by decide) rfl rfl rfl rfl rfl) ?_
        rintro b63
        refine RG.many hR 7 [9] rfl ⟨?_, ⟨?_, trivial⟩⟩
        ·
         refine RGi.appI rfl rfl rfl rfl Tryz.runUnderlying141 Tryz.runUnderlying141 Tryz.typeInfo146 Tryz.sizeOf146 Tryz.zeroValue146 rfl rfl (hr69.inI) (take_one (flat_one RPt.one)) (by simp [Tryz.t146] <;> omega) (by decide) ?_
         rintro p70 c70
         refine RG.normE rfl ?_
         refine RG.made 9 hR rfl rfl rfl rfl rfl (C.bslG (l := [_, _]) Tryz.runUnderlying141 Tryz.sizeOf146 Tryz.zeroValue146 (by decide) rfl rfl rfl rfl rfl) ?_
         rintro b72
         refine RG.many hR 10 [] rfl ⟨?_, trivial⟩
         ·
          refine RGi.appI rfl rfl rfl rfl Tryz.runUnderlying141 Tryz.runUnderlying141 Tryz.typeInfo146 Tryz.sizeOf146 Tryz.zeroValue146 rfl rfl (SlR.ptI rfl) (RPt.one z) (by simp [Tryz.t146] <;> omega) (by decide) ?_
          rintro p73 c73
          refine RG.normE rfl ?_
          refine RG.bar 11 hR rfl rfl rfl rfl rfl rfl (Q.asg rfl).toC ?_
          rintro _ _ ⟨rfl, rfl⟩
          refine RG.norm rfl ?_
          refine RG.fin hR rfl ?_
          refine J.norm rfl ?_
          exact J.meetI (p73, c73) trivial ⟨rfl, rfl, rfl, rfl, trivial⟩
        ·
         refine RGi.made rfl rfl rfl rfl (C.bslG (l := [_, _]) Tryz.runUnderlying141 Tryz.sizeOf146 Tryz.zeroValue146 (by decide) rfl rfl rfl rfl rfl) ?_
         rintro b72
         refine RG.many hR 7 [] rfl ⟨?_, trivial⟩
         ·
          refine RGi.appI rfl rfl rfl rfl Tryz.runUnderlying141 Tryz.runUnderlying141 Tryz.typeInfo146 Tryz.sizeOf146 Tryz.zeroValue146 rfl rfl (hr69.inI) (take_one (flat_one RPt.one)) (by simp [Tryz.t146] <;> omega) (by decide) ?_
          rintro p70 c70
          refine RG.normE rfl ?_
          refine RG.many hR 10 [] rfl ⟨?_, trivial⟩
          ·
           refine RGi.appI rfl rfl rfl rfl Tryz.runUnderlying141 Tryz.runUnderlying141 Tryz.typeInfo146 Tryz.sizeOf146 Tryz.zeroValue146 rfl rfl (SlR.ptI rfl) (RPt.one z) (by simp [Tryz.t146] <;> omega) (by decide) ?_
           rintro p73 c73
           refine RG.normE rfl ?_
           refine RG.bar 11 hR rfl rfl rfl rfl rfl rfl (Q.asg rfl).toC ?_
           rintro _ _ ⟨rfl, rfl⟩
           refine RG.norm rfl ?_
           refine RG.fin hR rfl ?_
           refine J.norm rfl ?_
           exact J.meetI (p73, c73) trivial ⟨rfl, rfl, rfl, rfl, trivial⟩
       ·
        refine RGi.made rfl rfl rfl rfl (C.bslG (l := [_, _]) Tryz.runUnderlying141 Tryz.sizeOf146 Tryz.zeroValue146 (by decide) rfl rfl rfl rfl rfl) ?_
        rintro b72
        refine RG.made 0 hR rfl rfl rfl rfl rfl (C.bslG (l := []) Tryz.runUnderlying141 Tryz.sizeOf146 Tryz.zeroValue146 (by decide) rfl rfl rfl rfl rfl) ?_
        rintro b63
        refine RG.many hR 7 [] rfl ⟨?_, trivial⟩
        ·
         refine RGi.appI rfl rfl rfl rfl Tryz.runUnderlying141 Tryz.runUnderlying141 Tryz.typeInfo146 Tryz.sizeOf146 Tryz.zeroValue146 rfl rfl (hr69.inI) (take_one (flat_one RPt.one)) (by simp [Tryz.t146] <;> omega) (by decide) ?_
         rintro p70 c70
         refine RG.normE rfl ?_
         refine RG.many hR 10 [] rfl ⟨?_, trivial⟩
         ·
          refine RGi.appI rfl rfl rfl rfl Tryz.runUnderlying141 Tryz.runUnderlying141 Tryz.typeInfo146 Tryz.sizeOf146 Tryz.zeroValue146 rfl rfl (SlR.ptI rfl) (RPt.one z) (by simp [Tryz.t146] <;> omega) (by decide) ?_
          rintro p73 c73
          refine RG.normE rfl ?_
          refine RG.bar 11 hR rfl rfl rfl rfl rfl rfl (Q.asg rfl).toC ?_
          rintro _ _ ⟨rfl, rfl⟩
          refine RG.norm rfl ?_
          refine RG.fin hR rfl ?_
          refine J.norm rfl ?_
          exact J.meetI (p73, c73) trivial ⟨rfl, rfl, rfl, rfl, trivial⟩
      obtain ⟨p81, c81, hq81, hr81⟩ := slL_ (P := Tryz.prog) (T := 141) Tryz.runUnderlying141 Tryz.sizeOf146 hsp (lo := a) hal hlp'
      refine J.region <| J.m rfl <| J.m rfl <| J.m rfl <| J.p rfl (Q.nil_ rfl) <| J.p rfl (Q.fa (n := 3) Tryz.runUnderlying143 rfl rfl Tryz.sizeOf141 rfl) <| J.p rfl (Q.ld Tryz.isAgg141 rfl (rfO 3 RUp.len hyi (show _ = some (Value.slice yp yl.length yc) from rfl) (by omega))) <| J.m rfl ?_
      refine J.p rfl (hq81 _ _ _ _ _ _ rfl rfl) ?_
      refine J.c rfl rfl (C.appI Tryz.runUnderlying141 Tryz.runUnderlying141 Tryz.typeInfo146 Tryz.sizeOf146 Tryz.zeroValue146 rfl rfl (hr81.inI) (drop_one (flat_one RPt.one)) (by simp [Tryz.t146] <;> omega) (by decide)) ?_
      rintro _ _ ⟨p82, c82, rfl, rfl⟩
      refine J.norm rfl <| J.p rfl (Q.nil_ rfl) <| J.p rfl (Q.fa (n := 3) Tryz.runUnderlying143 rfl rfl Tryz.sizeOf141 rfl) ?_
      refine J.c0 rfl (C.st1O (i * 4 + 3) Tryz.sizeOf141 rfl rfl rfl (by omega) (by rw [flat_length RUp.len]; omega)) ?_
      rintro _ _ ⟨rfl, rfl⟩
      refine J.norm rfl ?_
      have hsn : sget x.o.n (yl.map RPt.kv) = none := Option.not_isSome_iff_eq_none.1 (by rw [hc55]; exact Bool.false_ne_true)
      have e1 : (yl.take a ++ z :: yl.drop a).map RPt.kv = sput ltI x.o.n x.o.data (yl.map RPt.kv) := by rw [ha.put_no ord3_int hps hsn, map_ins, hzv]
      obtain ⟨y2, hy2⟩ : ∃ y2 : RUp, y2 = ⟨yk, yb, yo, p82, c82, yl.take a ++ z :: yl.drop a⟩ := ⟨_, rfl⟩
      refine J.nil <| J.then_n <| J.seq <| J.region ?_
      refine J.callI Tryz.call30 (ris_spec 200) rfl rfl rfl ?_
      rintro _ _ ⟨rfl, rfl⟩
      refine J.norm rfl ?_
      refine J.stAI (vs := [_, _, _, _, _]) rfl Tryz.sizeOf44 rfl rfl (by exact rfl) (by exact rfl) (by exact rfl) ?_
      refine J.nil <| J.then_n <| J.cret ?_
      rw [ins_len (x := z) hal, ins_cells RPt.len]
      rw [flat_set1 (c := RUp.cells) RUp.len hyi (k := 3) (x' := y2) (by decide) (by rw [hy2]; rfl)]
      refine J.shutI [z.asn, star (yl.map RPt.asn)] (star (y2.l.map RPt.asn)) (by rw [hy2]; exact star_ins1 a z) ?_
      refine J.convI (own 146 2 (.slice p82 (yl.take a ++ z :: yl.drop a).length c82) ((yl.take a ++ z :: yl.drop a).flatMap RPt.cells)) y2.own (fun _ h => by rw [hy2]; exact h) ?_
      refine J.convI (own 143 4 (.slice (some ⟨bb, off, none⟩) us.length c2) ((us.set i y2).flatMap RUp.cells)) (upsO (some ⟨bb, off, none⟩) c2 (us.set i y2)) (fun _ h => by show own _ _ (.slice _ (us.set i y2).length _) _ _; rw [List.length_set]; exact h) ?_
      refine J.shutI [y2.own, star (y2.l.map RPt.asn)] y2.asn (fun _ h => h) ?_
      refine J.unfocusI (f := RUp.asn) i y2 hil ?_
      refine J.convI (refP m (.slice p1 bs.length c1) (.slice (some ⟨bb, off, none⟩) us.length c2) (.slice p3 M.done.length c3)) (refP m (.slice p1 bs.length c1) (.slice (some ⟨bb, off, none⟩) (us.set i y2).length c2) (.slice p3 M.done.length c3)) (fun _ h => by rw [List.length_set]; exact h) ?_
      refine J.shutI (refL m { M with uploads := sput ltN x.o.upload ⟨yb, yo, sput ltI x.o.n x.o.data (yl.map RPt.kv)⟩ M.uploads } p1 c1 bs (some ⟨bb, off, none⟩) c2 (us.set i y2) p3 c3) (RefAt m { M with uploads := sput ltN x.o.upload ⟨yb, yo, sput ltI x.o.n x.o.data (yl.map RPt.kv)⟩ M.uploads }) (RefAt.of (M := { M with uploads := sput ltN x.o.upload ⟨yb, yo, sput ltI x.o.n x.o.data (yl.map RPt.kv)⟩ M.uploads }) hyb (by
       rw [List.map_set, hyu, hi.put_yes ord3_nat hM.us hu, hy2, show RUp.kv _ = (yk, UM.mk yb yo _) from rfl, e1, hyk1]) hyk) ?_
      refine J.retCI (vs := [_, _, _, _, _]) [RefAt m { M with uploads := sput ltN x.o.upload ⟨yb, yo, sput ltI x.o.n x.o.data (yl.map RPt.kv)⟩ M.uploads }, G] rfl rfl Tryz.isAgg44 Tryz.sizeOf44 rnI ⟨rfl, rfl⟩
end
end Go.Proofs.YtidbcaimgahllaaGreat
namespace Go.Proofs.YtidbcaimgahllaaGreat
set_option linter.unusedSectionVars false
set_option linter.unusedSimpArgs false
set_option linter.unusedVariables false
open Go.X
open Go.X.G (Ord3 ord3_nat ord3_int ord3_str ltB sget sput sdel Srtd)

theorem unmake_st (M : BM) (o : OM) : ∃ n, (M.unmake o).1 = st n := by
  unfold BM.unmake
  split
  · exact ⟨_, rfl⟩
  · split <;> exact ⟨_, rfl⟩

section
variable {k : Nat} (m : Nat) (M : BM) (hM : M.lite) (hok : M.ok k) (hk : k ≤ 32768) (x : OW) (G : Assn) (hx : x.ok G)
include hM hok hk hx
theorem rinBucket_spec (hkk : 2 ≤ x.o.kind ∧ x.o.kind ≤ 7) (hn : x.o.kind = 6 → 1 ≤ x.o.n ∧ x.o.n ≤ 1000) (hid : x.o.kind = 7 → sget x.o.id M.uploads = none) (hdl : x.o.data.length ≤ 16777216) : FSpec Tryz.prog 35 [.pointer (some ⟨m, 0, none⟩), .agg x.cells.toArray] [RefAt m M, G]
    (fun v B => ∃ y : RW, v = .agg y.cells.toArray ∧ y.r = (M.act x.o).1 ∧ (readsK x.o.kind = false → y = ⟨y.r, none, 0, none, 0⟩) ∧ B = [RefAt m (M.act x.o).2, y.asn, G]) := by
  refine FSpec.of Tryz.func35 rfl Tryz.ntmps35 rfl fun W0 F => ?_
  refine J.seq <| J.region ?_
  refine J.c rfl rfl (C.box (l := [_, _, _, _, _, _, _, _, _]) rfl rfl) ?_
  rintro _ _ ⟨b3, rfl, rfl⟩
  refine J.norm rfl ?_
  refine J.c rfl rfl (C.alloc (l := [_, _, _, _, _]) Tryz.zeroValue44 rfl) ?_
  rintro _ _ ⟨b4, rfl, rfl⟩
  refine J.norm rfl <| J.nil <| J.then_n <| J.seq ?_
  refine J.openRef (m := m) (M := M) fun p1 c1 bs p2 c2 us p3 c3 hyb hyu hyk => ?_
  refine J.norm rfl ?_
  have hbs : Srtd ltB (bs.map RBk.kv) := by rw [hyb]; exact hM.bs
  have hus : Srtd ltN (us.map RUp.kv) := by rw [hyu]; exact hM.us
  have hbl : bs.length = M.buckets.length := by rw [← hyb, List.length_map]
  have hul : us.length = M.uploads.length := by rw [← hyu, List.length_map]
  have hlen := hM.len
  refine J.slrI (E0 := 136) (sz := 2) (p := p1) (n := bs.length) (c := c1) (xs := bs.flatMap RBk.cells) fun hsb => ?_
  refine J.slrI (E0 := 143) (sz := 4) (p := p2) (n := us.length) (c := c2) (xs := us.flatMap RUp.cells) fun hsu => ?_
  refine J.region <| J.m rfl <| J.p rfl (Q.fa (n := 2) Tryz.runUnderlying52 rfl rfl Tryz.sizeOf9 rfl) ?_
  refine J.p rfl (Q.ld Tryz.isAgg9 rfl (rdI (by exact rfl))) ?_
  refine J.callI Tryz.call54 (rbucket_spec m p1 c1 bs (.slice p2 us.length c2) (.slice p3 M.done.length c3) x.o.bucket hbs (by omega)) rfl rfl rfl ?_
  rintro _ _ ⟨i, rfl, hi, rfl⟩
  refine J.norm rfl ?_
  rw [hyb] at hi ⊢
  refine J.m rfl <| J.p rfl (Q.ext rfl rfl) <| J.p rfl (Q.ext rfl rfl) <| J.p rfl (Q.asg rfl) <| J.p rfl (Q.asg rfl) <| J.nil <| J.then_n <| J.seq <| J.seq <| J.region <| J.m rfl <| J.p rfl (Q.not rfl) <| J.nil <| J.then_n ?_
  refine J.cases 18 rfl (fun hc18 => ?_) (fun hc18 => ?_)
  ·
   replace hc18 := X.nm hc18
   try (first | (cases hc18; done) | (exfalso; simp at hc18; done))
   all_goals
    refine J.cond_t rfl <| J.seq <| J.region ?_
    refine J.callI Tryz.call30 (ris_spec 404) rfl rfl rfl ?_
    rintro _ _ ⟨rfl, rfl⟩
    refine J.norm rfl ?_
    refine J.stAI (vs := [_, _, _, _, _]) rfl Tryz.sizeOf44 rfl rfl (by exact rfl) (by exact rfl) (by exact rfl) ?_
    refine J.nil <| J.then_n <| J.cret <| J.then_r ?_
    replace hc18 : sget x.o.bucket M.buckets = none := by simpa using hc18
    have e : M.act x.o = (st 404, M) := by
     unfold BM.act BM.unmake BM.put BM.get BM.delete BM.list BM.begin
     simp only [hc18]
     rcases (show x.o.kind = 2 ∨ x.o.kind = 3 ∨ x.o.kind = 4 ∨ x.o.kind = 5 ∨ x.o.kind = 6 ∨ x.o.kind = 7 by omega) with h | h | h | h | h | h <;> simp [h]
    refine J.shutI (refL m M p1 c1 bs p2 c2 us p3 c3) (RefAt m M) (RefAt.of hyb hyu hyk) ?_
    rw [e]
    refine J.give (X := RW.asn ⟨st 404, none, 0, none, 0⟩) empty_asn ?_
    refine J.retCI (vs := [_, _, _, _, _]) [RefAt m M, RW.asn ⟨st 404, none, 0, none, 0⟩, G] rfl rfl Tryz.isAgg44 Tryz.sizeOf44 rnI ⟨⟨st 404, none, 0, none, 0⟩, rfl, rfl, fun _ => rfl, rfl⟩
  replace hc18 := X.nm hc18
  try (first | (cases hc18; done) | (exfalso; simp at hc18; done))
  all_goals
   refine J.cond_f rfl <| J.cskip <| J.then_n <| J.seq ?_
   obtain ⟨objs, hB⟩ : ∃ u, sget x.o.bucket M.buckets = some u := Option.isSome_iff_exists.1 (by simpa using hc18)
   obtain ⟨z, hz, hzv⟩ := at_map (by rw [hyb]; exact hi.here ord3_str hM.bs hB)
   have hzi := (List.getElem?_eq_some_iff.1 hz).1
   have hzk : z.k = x.o.bucket := congrArg Prod.fst hzv
   have hzl : z.l.map ROb.kv = objs := congrArg Prod.snd hzv
   obtain ⟨hso, hol, _⟩ := hok.os _ _ hB
   have hzn : z.l.length ≤ 32768 := by have := congrArg List.length hzl; rw [List.length_map] at this; omega
   have hzs : Srtd ltB (z.l.map ROb.kv) := by rw [hzl]; exact hso
   obtain ⟨b1, o1, rfl, hrd1⟩ := hsb.some_ (by omega)
   refine J.region <| J.m rfl <| J.p rfl (Q.nil_ rfl) <| J.p rfl (Q.fa (n := 0) Tryz.runUnderlying98 rfl rfl Tryz.sizeOf94 rfl) ?_
   refine J.p rfl (Q.ld Tryz.isAgg94 rfl (rdI (by exact rfl))) ?_
   refine J.m rfl <| J.p rfl (Q.ia Tryz.runUnderlying94 Tryz.sizeOf136 rfl rfl (by omega) (by omega)) <| J.p rfl (Q.asg rfl) <| J.nil <| J.then_n <| J.seq <| J.seq <| J.region <| J.p rfl (Q.fa (n := 1) Tryz.runUnderlying52 rfl rfl Tryz.sizeOf3 rfl) ?_
   refine J.p rfl (Q.ld Tryz.isAgg3 rfl (rdI (by exact rfl))) ?_
   refine J.nil <| J.then_n <| J.block <| J.seq <| J.region <| J.p rfl (Q.eql rfl rfl) <| J.p rfl (Q.asg rfl) <| J.nil <| J.then_n ?_
   refine J.cases 28 rfl (fun hc28 => ?_) (fun hc28 => ?_)
   ·
    replace hc28 := X.nm hc28
    try (first | (cases hc28; done) | (exfalso; simp at hc28; done))
    all_goals
     refine J.cond_t rfl <| J.seq ?_
     refine J.shutI (refL m M (some ⟨b1, o1, none⟩) c1 bs p2 c2 us p3 c3) (RefAt m M) (RefAt.of hyb hyu hyk) ?_
     refine J.region <| J.m rfl <| J.m rfl ?_
     refine J.callI Tryz.call59 (runmake_spec m M hM x hB hi) rfl rfl rfl ?_
     rintro _ _ ⟨rfl, rfl⟩
     refine J.norm rfl ?_
     obtain ⟨sn, hsn⟩ := unmake_st M x.o
     rw [hsn]
     refine J.stAI (vs := [_, _, _, _, _]) rfl Tryz.sizeOf44 rfl rfl (by exact rfl) (by exact rfl) (by exact rfl) ?_
     refine J.nil <| J.then_n <| J.cret <| J.blk_r <| J.then_r ?_
     have e : M.act x.o = M.unmake x.o := by unfold BM.act; simp [show x.o.kind = 2 by omega]
     rw [e]
     refine J.give (X := RW.asn ⟨st sn, none, 0, none, 0⟩) empty_asn ?_
     refine J.retCI (vs := [_, _, _, _, _]) [RefAt m (M.unmake x.o).2, RW.asn ⟨st sn, none, 0, none, 0⟩, G] rfl rfl Tryz.isAgg44 Tryz.sizeOf44 rnI ⟨⟨st sn, none, 0, none, 0⟩, rfl, hsn.symm, fun _ => rfl, rfl⟩
   replace hc28 := X.nm hc28
   try (first | (cases hc28; done) | (exfalso; simp at hc28; done))
   all_goals
    refine J.cond_f rfl <| J.seq <| J.region <| J.p rfl (Q.eql rfl rfl) <| J.p rfl (Q.asg rfl) <| J.nil <| J.then_n ?_
    refine J.cases 33 rfl (fun hc33 => ?_) (fun hc33 => ?_)
    ·
     replace hc33 := X.nm hc33
     try (first | (cases hc33; done) | (exfalso; simp at hc33; done))
     all_goals
      refine J.cond_t rfl <| J.seq ?_
      refine J.focusI (f := RBk.asn) i hz ?_
      refine J.openI z.asn (Bs := fun _ : Unit => [z.own, star (z.l.map ROb.asn)]) (p := fun _ => True) (fun _ h => ⟨(), trivial, h⟩) fun _ _ => ?_
      refine J.norm rfl <| J.region <| J.m rfl <| J.p rfl (Q.fa (n := 3) Tryz.runUnderlying52 rfl rfl Tryz.sizeOf9 rfl) ?_
      refine J.p rfl (Q.ld Tryz.isAgg9 rfl (rdI (by exact rfl))) ?_
      refine J.p rfl (Q.fa (n := 8) Tryz.runUnderlying52 rfl rfl Tryz.sizeOf42 rfl) ?_
      refine J.p rfl (Q.ld Tryz.isAgg42 rfl (rdI (by exact rfl))) ?_
      refine J.callI Tryz.call60 (rput_spec G b1 o1 c1 bs hz x.o.key x.dp x.dc x.o.data hx.data (by omega) hzs (by omega)) rfl rfl rfl ?_
      rintro _ _ ⟨z2, hz1, hz2, rfl, rfl⟩
      refine J.norm rfl <| J.nil <| J.then_n <| J.seq <| J.region ?_
      refine J.callI Tryz.call30 (ris_spec 200) rfl rfl rfl ?_
      rintro _ _ ⟨rfl, rfl⟩
      refine J.norm rfl ?_
      refine J.stAI (vs := [_, _, _, _, _]) rfl Tryz.sizeOf44 rfl rfl (by exact rfl) (by exact rfl) (by exact rfl) ?_
      refine J.nil <| J.then_n <| J.cret <| J.blk_r <| J.then_r ?_
      have e : M.act x.o = (st 200, { M with buckets := sput ltB x.o.bucket (sput ltB x.o.key x.o.data objs) M.buckets }) := by unfold BM.act BM.put; simp [show x.o.kind = 3 by omega, hB]
      rw [e]
      refine J.shutI [z2.own, star (z2.l.map ROb.asn)] z2.asn (fun _ h => h) ?_
      refine J.unfocusI (f := RBk.asn) i z2 hzi ?_
      refine J.convI (refP m (.slice (some ⟨b1, o1, none⟩) bs.length c1) (.slice p2 us.length c2) (.slice p3 M.done.length c3)) (refP m (.slice (some ⟨b1, o1, none⟩) (bs.set i z2).length c1) (.slice p2 us.length c2) (.slice p3 M.done.length c3)) (fun _ h => by rw [List.length_set]; exact h) ?_
      refine J.shutI (refL m { M with buckets := sput ltB x.o.bucket (sput ltB x.o.key x.o.data objs) M.buckets } (some ⟨b1, o1, none⟩) c1 (bs.set i z2) p2 c2 us p3 c3) (RefAt m { M with buckets := sput ltB x.o.bucket (sput ltB x.o.key x.o.data objs) M.buckets }) (RefAt.of (M := { M with buckets := sput ltB x.o.bucket (sput ltB x.o.key x.o.data objs) M.buckets }) (by
       rw [List.map_set, hyb, hi.put_yes ord3_str hM.bs hB, show z2.kv = (x.o.bucket, sput ltB x.o.key x.o.data objs) from by rw [← hzl, ← hz2, ← hzk, ← hz1]]) hyu hyk) ?_
      refine J.give (X := RW.asn ⟨st 200, none, 0, none, 0⟩) empty_asn ?_
      refine J.retCI (vs := [_, _, _, _, _]) [RefAt m { M with buckets := sput ltB x.o.bucket (sput ltB x.o.key x.o.data objs) M.buckets }, RW.asn ⟨st 200, none, 0, none, 0⟩, G] rfl rfl Tryz.isAgg44 Tryz.sizeOf44 rnI ⟨⟨st 200, none, 0, none, 0⟩, rfl, rfl, fun _ => rfl, rfl⟩
    replace hc33 := X.nm hc33
    try (first | (cases hc33; done) | (exfalso; simp at hc33; done))
    all_goals
     refine J.cond_f rfl <| J.seq <| J.region <| J.p rfl (Q.eql rfl rfl) <| J.p rfl (Q.asg rfl) <| J.nil <| J.then_n ?_
     refine J.cases 42 rfl (fun hc42 => ?_) (fun hc42 => ?_)
     ·
      replace hc42 := X.nm hc42
      try (first | (cases hc42; done) | (exfalso; simp at hc42; done))
      all_goals
       refine J.cond_t rfl <| J.seq ?_
       refine J.focusI (f := RBk.asn) i hz ?_
       refine J.openI z.asn (Bs := fun _ : Unit => [z.own, star (z.l.map ROb.asn)]) (p := fun _ => True) (fun _ h => ⟨(), trivial, h⟩) fun _ _ => ?_
       refine J.norm rfl <| J.region <| J.m rfl ?_
       refine J.p rfl (Q.ldN (vs := [_, _, _, _, _, _, _, _, _]) Tryz.isAgg52 Tryz.sizeOf52 rfl rnI) ?_
       refine J.callI Tryz.call61 (rlist_spec b1 o1 c1 bs hz x (hn (by omega)) hzn) rfl rfl rfl ?_
       rintro _ _ ⟨r, rfl, hr, rfl⟩
       refine J.norm rfl ?_
       refine J.stAI (vs := [_, _, _, _, _]) rfl Tryz.sizeOf44 rfl rfl (by exact rfl) (by exact rfl) (by exact rfl) ?_
       refine J.nil <| J.then_n <| J.cret <| J.blk_r <| J.then_r ?_
       have e : M.act x.o = (⟨200, 0, (listed x.o objs).take x.o.n.toNat, decide (x.o.n.toNat < (listed x.o objs).length), []⟩, M) := by unfold BM.act BM.list; simp [show x.o.kind = 6 by omega, hB]
       rw [e]
       refine J.shutI [z.own, star (z.l.map ROb.asn)] z.asn (fun _ h => h) ?_
       refine J.unfocusI (f := RBk.asn) i z hzi ?_
       rw [set_self hz]
       refine J.shutI (refL m M (some ⟨b1, o1, none⟩) c1 bs p2 c2 us p3 c3) (RefAt m M) (RefAt.of hyb hyu hyk) ?_
       refine J.retCI (vs := [_, _, _, _, _]) [RefAt m M, r.asn, G] rfl rfl Tryz.isAgg44 Tryz.sizeOf44 rnI ⟨r, rfl, by rw [hr, hzl], fun h => absurd h (by rw [show x.o.kind = 6 by omega]; decide), rfl⟩
     replace hc42 := X.nm hc42
     try (first | (cases hc42; done) | (exfalso; simp at hc42; done))
     all_goals
      refine J.cond_f rfl <| J.seq <| J.region <| J.p rfl (Q.eql rfl rfl) <| J.p rfl (Q.asg rfl) <| J.nil <| J.then_n ?_
      refine J.cases 47 rfl (fun hc47 => ?_) (fun hc47 => ?_)
      ·
       replace hc47 := X.nm hc47
       try (first | (cases hc47; done) | (exfalso; simp at hc47; done))
       all_goals
        refine J.cond_t rfl <| J.seq ?_
        refine J.shutI (refL m M (some ⟨b1, o1, none⟩) c1 bs p2 c2 us p3 c3) (RefAt m M) (RefAt.of hyb hyu hyk) ?_
        refine J.region <| J.m rfl ?_
        refine J.p rfl (Q.ldN (vs := [_, _, _, _, _, _, _, _, _]) Tryz.isAgg52 Tryz.sizeOf52 rfl rnI) ?_
        refine J.callI Tryz.call62 (rbegin_spec m M hM x (hid (by omega))) rfl rfl rfl ?_
        rintro _ _ ⟨rfl, rfl⟩
        refine J.norm rfl ?_
        refine J.stAI (vs := [_, _, _, _, _]) rfl Tryz.sizeOf44 rfl rfl (by exact rfl) (by exact rfl) (by exact rfl) ?_
        refine J.nil <| J.then_n <| J.cret <| J.blk_r <| J.then_r ?_
        have e : M.act x.o = (⟨200, x.o.id, [], false, []⟩, { M with uploads := sput ltN x.o.id ⟨x.o.bucket, x.o.key, []⟩ M.uploads }) := by unfold BM.act BM.begin; simp [show x.o.kind = 7 by omega, hB]
        rw [e]
        refine J.give (X := RW.asn ⟨⟨200, x.o.id, [], false, []⟩, none, 0, none, 0⟩) empty_asn ?_
        refine J.retCI (vs := [_, _, _, _, _]) [RefAt m { M with uploads := sput ltN x.o.id ⟨x.o.bucket, x.o.key, []⟩ M.uploads }, RW.asn ⟨⟨200, x.o.id, [], false, []⟩, none, 0, none, 0⟩, G] rfl rfl Tryz.isAgg44 Tryz.sizeOf44 rnI ⟨⟨⟨200, x.o.id, [], false, []⟩, none, 0, none, 0⟩, rfl, rfl, fun _ => rfl, rfl⟩
      replace hc47 := X.nm hc47
      try (first | (cases hc47; done) | (exfalso; simp at hc47; done))
      all_goals
       refine J.cond_f rfl <| J.cskip <| J.blk_n <| J.then_n <| J.seq ?_
       have h45 : x.o.kind = 4 ∨ x.o.kind = 5 := by omega
       refine J.focusI (f := RBk.asn) i hz ?_
       refine J.openI z.asn (Bs := fun _ : Unit => [z.own, star (z.l.map ROb.asn)]) (p := fun _ => True) (fun _ h => ⟨(), trivial, h⟩) fun _ _ => ?_
       refine J.norm rfl <| J.region <| J.m rfl <| J.p rfl (Q.fa (n := 3) Tryz.runUnderlying52 rfl rfl Tryz.sizeOf9 rfl) ?_
       refine J.p rfl (Q.ld Tryz.isAgg9 rfl (rdI (by exact rfl))) ?_
       refine J.callI Tryz.call63 (robject_spec b1 o1 c1 bs hz x.o.key hzs (by omega)) rfl rfl rfl ?_
       rintro _ _ ⟨a, rfl, ha, rfl⟩
       refine J.norm rfl ?_
       rw [hzl] at ha ⊢
       refine J.m rfl <| J.p rfl (Q.ext rfl rfl) <| J.p rfl (Q.ext rfl rfl) <| J.p rfl (Q.asg rfl) <| J.p rfl (Q.asg rfl) <| J.nil <| J.then_n <| J.seq <| J.seq <| J.region <| J.m rfl <| J.p rfl (Q.not rfl) <| J.nil <| J.then_n ?_
       refine J.cases 60 rfl (fun hc60 => ?_) (fun hc60 => ?_)
       ·
        replace hc60 := X.nm hc60
        try (first | (cases hc60; done) | (exfalso; simp at hc60; done))
        all_goals
         refine J.cond_t rfl <| J.seq <| J.region ?_
         refine J.callI Tryz.call30 (ris_spec 404) rfl rfl rfl ?_
         rintro _ _ ⟨rfl, rfl⟩
         refine J.norm rfl ?_
         refine J.stAI (vs := [_, _, _, _, _]) rfl Tryz.sizeOf44 rfl rfl (by exact rfl) (by exact rfl) (by exact rfl) ?_
         refine J.nil <| J.then_n <| J.cret <| J.then_r ?_
         replace hc60 : sget x.o.key objs = none := by simpa using hc60
         have e : M.act x.o = (st 404, M) := by
          unfold BM.act BM.get BM.delete
          simp only [hB, hc60]
          rcases h45 with h | h <;> simp [h]
         rw [e]
         refine J.shutI [z.own, star (z.l.map ROb.asn)] z.asn (fun _ h => h) ?_
         refine J.unfocusI (f := RBk.asn) i z hzi ?_
         rw [set_self hz]
         refine J.shutI (refL m M (some ⟨b1, o1, none⟩) c1 bs p2 c2 us p3 c3) (RefAt m M) (RefAt.of hyb hyu hyk) ?_
         refine J.give (X := RW.asn ⟨st 404, none, 0, none, 0⟩) empty_asn ?_
         refine J.retCI (vs := [_, _, _, _, _]) [RefAt m M, RW.asn ⟨st 404, none, 0, none, 0⟩, G] rfl rfl Tryz.isAgg44 Tryz.sizeOf44 rnI ⟨⟨st 404, none, 0, none, 0⟩, rfl, rfl, fun _ => rfl, rfl⟩
       replace hc60 := X.nm hc60
       try (first | (cases hc60; done) | (exfalso; simp at hc60; done))
       all_goals
        refine J.cond_f rfl <| J.cskip <| J.then_n <| J.seq ?_
        obtain ⟨d, hd⟩ : ∃ d, sget x.o.key objs = some d := Option.isSome_iff_exists.1 (by simpa using hc60)
        refine J.region ?_
        refine J.callI Tryz.call30 (ris_spec 200) rfl rfl rfl ?_
        rintro _ _ ⟨rfl, rfl⟩
        refine J.norm rfl ?_
        refine J.c rfl rfl (C.alloc (l := [_, _, _, _, _]) Tryz.zeroValue44 rfl) ?_
        rintro _ _ ⟨b9, rfl, rfl⟩
        refine J.norm rfl ?_
        refine J.stAI (vs := [_, _, _, _, _]) rfl Tryz.sizeOf44 rfl rfl (by exact rfl) (by exact rfl) (by exact rfl) ?_
        refine J.nil <| J.then_n <| J.seq <| J.seq <| J.region <| J.p rfl (Q.fa (n := 1) Tryz.runUnderlying52 rfl rfl Tryz.sizeOf3 rfl) ?_
        refine J.p rfl (Q.ld Tryz.isAgg3 rfl (rdI (by exact rfl))) ?_
        refine J.p rfl (Q.eql rfl rfl) <| J.nil <| J.then_n ?_
        refine J.cases 65 rfl (fun hc65 => ?_) (fun hc65 => ?_)
        ·
         replace hc65 := X.nm hc65
         try (first | (cases hc65; done) | (exfalso; simp at hc65; done))
         all_goals
          refine J.cond_t rfl ?_
          obtain ⟨q, hq, hqv⟩ := at_map (by rw [hzl]; exact ha.here ord3_str hso hd)
          have hqa := (List.getElem?_eq_some_iff.1 hq).1
          have hqd : q.d = d := congrArg Prod.snd hqv
          have hql : q.d.length ≤ 274877906944 := by rw [hqd]; exact (hok.os _ _ hB).2.2 _ _ hd
          obtain ⟨zk, zp, zc, zl⟩ := z
          replace hqa : a < zl.length := hqa
          refine J.slrI (E0 := 150) (sz := 2) (p := zp) (n := zl.length) (c := zc) (xs := zl.flatMap ROb.cells) fun hso2 => ?_
          obtain ⟨b2, o2, rfl, hrd2⟩ := hso2.some_ (by omega)
          refine J.slrStarI (f := ROb.asn) (E := 5) (sz := 1) (p := q.p) (n := q.d.length) (c := q.c) (xs := bytesV q.d) a hq rfl fun hsd => ?_
          refine J.region ?_
          refine J.c rfl rfl (C.bslG (l := []) Tryz.runUnderlying42 Tryz.sizeOf5 Tryz.zeroValue5 (by decide) rfl rfl rfl rfl rfl) ?_
          rintro _ _ ⟨b66, rfl, rfl⟩
          refine J.norm rfl <| J.m rfl <| J.p rfl (Q.nil_ rfl) <| J.p rfl (Q.fa (n := 1) Tryz.runUnderlying136 rfl rfl Tryz.sizeOf134 rfl) <| J.p rfl (Q.ld Tryz.isAgg134 rfl (rfO 1 RBk.len hz (show _ = some (Value.slice (some ⟨b2, o2, none⟩) zl.length zc) from rfl) (by omega))) <| J.m rfl <| J.p rfl (Q.ia Tryz.runUnderlying134 Tryz.sizeOf150 rfl rfl (by omega) (by omega)) ?_
          refine J.p rfl (Q.fa (n := 1) Tryz.runUnderlying150 rfl rfl Tryz.sizeOf42 rfl) <| J.p rfl (Q.ld Tryz.isAgg42 rfl (rfO 1 ROb.len hq (show _ = some (Value.slice q.p q.d.length q.c) from rfl) (by omega))) ?_
          refine J.c rfl rfl (C.appI Tryz.runUnderlying42 Tryz.runUnderlying42 Tryz.typeInfo5 Tryz.sizeOf5 Tryz.zeroValue5 rfl rfl (hsd.inI) (bytesV_one _) (by simp [Tryz.t5] <;> omega) (by decide)) ?_
          rintro _ _ ⟨p75, c75, rfl, rfl⟩
          refine J.norm rfl ?_
          rw [show 0 + q.d.length = q.d.length from by omega, List.nil_append]
          refine J.p rfl (Q.fa (n := 4) Tryz.runUnderlying44 rfl rfl Tryz.sizeOf42 rfl) ?_
          refine J.stI rfl Tryz.sizeOf42 rfl rfl rfl (by exact rfl) (by exact rfl) (by exact rfl) ?_
          refine J.nil <| J.then_n <| J.seq <| J.region ?_
          refine J.p rfl (Q.ldN (vs := [_, _, _, _, _]) Tryz.isAgg44 Tryz.sizeOf44 rfl rnI) ?_
          refine J.stAI (vs := [_, _, _, _, _]) rfl Tryz.sizeOf44 rfl rfl (by exact rfl) (by exact rfl) (by exact rfl) ?_
          refine J.nil <| J.then_n <| J.cret ?_
          have e : M.act x.o = (⟨200, 0, [], false, q.d⟩, M) := by unfold BM.act BM.get; simp [hc65, hB, hd, hqd]
          rw [e]
          refine J.shutI [own 150 2 (.slice (some ⟨b2, o2, none⟩) zl.length zc) (zl.flatMap ROb.cells), star (zl.map ROb.asn)] (RBk.asn ⟨zk, some ⟨b2, o2, none⟩, zc, zl⟩) (fun _ h => h) ?_
          refine J.unfocusI (f := RBk.asn) i ⟨zk, some ⟨b2, o2, none⟩, zc, zl⟩ hzi ?_
          rw [set_self hz]
          refine J.shutI (refL m M (some ⟨b1, o1, none⟩) c1 bs p2 c2 us p3 c3) (RefAt m M) (RefAt.of hyb hyu hyk) ?_
          refine J.give (X := own 9 1 (.slice none 0 0) []) (own.nil _ _ _) ?_
          refine J.shutI [own 9 1 (.slice none 0 0) [], own 5 1 (.slice p75 q.d.length c75) (bytesV q.d)] (RW.asn ⟨⟨200, 0, [], false, q.d⟩, none, 0, p75, c75⟩) (fun _ h => h) ?_
          refine J.retCI (vs := [_, _, _, _, _]) [RefAt m M, RW.asn ⟨⟨200, 0, [], false, q.d⟩, none, 0, p75, c75⟩, G] rfl rfl Tryz.isAgg44 Tryz.sizeOf44 rnI ⟨⟨⟨200, 0, [], false, q.d⟩, none, 0, p75, c75⟩, rfl, rfl, fun h => absurd h (by rw [hc65]; decide), rfl⟩
        replace hc65 := X.nm hc65
        try (first | (cases hc65; done) | (exfalso; simp at hc65; done))
        all_goals
         refine J.cond_f rfl <| J.region <| J.m rfl <| J.m rfl ?_
         refine J.callI Tryz.call64 (rdrop_spec b1 o1 c1 bs hz x.o.key (i := a) (v := d) (by rw [hzl]; exact ha) (by rw [hzl]; exact hd) hzs (by omega)) rfl rfl rfl ?_
         rintro _ _ ⟨z2, hz1, hz2, rfl, rfl⟩
         refine J.norm rfl <| J.nil <| J.then_n <| J.seq <| J.region ?_
         refine J.p rfl (Q.ldN (vs := [_, _, _, _, _]) Tryz.isAgg44 Tryz.sizeOf44 rfl rnI) ?_
         refine J.stAI (vs := [_, _, _, _, _]) rfl Tryz.sizeOf44 rfl rfl (by exact rfl) (by exact rfl) (by exact rfl) ?_
         refine J.nil <| J.then_n <| J.cret ?_
         have e : M.act x.o = (st 200, { M with buckets := sput ltB x.o.bucket (sdel x.o.key objs) M.buckets }) := by unfold BM.act BM.delete; simp [show x.o.kind = 5 by omega, hB, hd]
         rw [e]
         refine J.shutI [z2.own, star (z2.l.map ROb.asn)] z2.asn (fun _ h => h) ?_
         refine J.unfocusI (f := RBk.asn) i z2 hzi ?_
         refine J.convI (refP m (.slice (some ⟨b1, o1, none⟩) bs.length c1) (.slice p2 us.length c2) (.slice p3 M.done.length c3)) (refP m (.slice (some ⟨b1, o1, none⟩) (bs.set i z2).length c1) (.slice p2 us.length c2) (.slice p3 M.done.length c3)) (fun _ h => by rw [List.length_set]; exact h) ?_
         refine J.shutI (refL m { M with buckets := sput ltB x.o.bucket (sdel x.o.key objs) M.buckets } (some ⟨b1, o1, none⟩) c1 (bs.set i z2) p2 c2 us p3 c3) (RefAt m { M with buckets := sput ltB x.o.bucket (sdel x.o.key objs) M.buckets }) (RefAt.of (M := { M with buckets := sput ltB x.o.bucket (sdel x.o.key objs) M.buckets }) (by
          rw [List.map_set, hyb, hi.put_yes ord3_str hM.bs hB, show z2.kv = (x.o.bucket, sdel x.o.key objs) from by rw [← hzl, ← hz2, ← hzk, ← hz1]]) hyu hyk) ?_
         refine J.give (X := RW.asn ⟨st 200, none, 0, none, 0⟩) empty_asn ?_
         refine J.retCI (vs := [_, _, _, _, _]) [RefAt m { M with buckets := sput ltB x.o.bucket (sdel x.o.key objs) M.buckets }, RW.asn ⟨st 200, none, 0, none, 0⟩, G] rfl rfl Tryz.isAgg44 Tryz.sizeOf44 rnI ⟨⟨st 200, none, 0, none, 0⟩, rfl, rfl, fun _ => rfl, rfl⟩
end
end Go.Proofs.YtidbcaimgahllaaGreat
namespace Go.Proofs.YtidbcaimgahllaaGreat
set_option linter.unusedSectionVars false
set_option linter.unusedSimpArgs false
set_option linter.unusedVariables false
open Go.X
open Go.X.G (Ord3 ord3_nat ord3_int ord3_str ltB sget sput sdel Srtd)

def BM.kin (M : BM) : Prop := ∀ n u, sget n M.uploads = some u → (sget n M.done).isSome = true
theorem act_bare (M : BM) {o : OM} (h : readsK o.kind = false) : (M.act o).1.keys = [] ∧ (M.act o).1.more = false ∧ (M.act o).1.data = [] := by
  have h4 : o.kind ≠ 4 := by rintro e; rw [e] at h; cases h
  have h6 : o.kind ≠ 6 := by rintro e; rw [e] at h; cases h
  unfold BM.act
  rw [if_neg h4, if_neg h6]
  unfold BM.make BM.unmake BM.put BM.delete BM.begin BM.part BM.complete BM.abort
  repeat' split
  all_goals exact ⟨rfl, rfl, rfl⟩

section
variable {k : Nat} (m : Nat) (M : BM) (hM : M.lite) (hok : M.ok k) (hk : k ≤ 32768) (hkn : M.kin) (x : OW) (G : Assn) (hx : x.ok G)
include hM hok hk hx hkn
set_option maxHeartbeats 4000000 in
theorem rdo_spec : FSpec Tryz.prog 13 [.pointer (some ⟨m, 0, none⟩), .agg x.cells.toArray] [RefAt m M, G]
    (fun v B => ∃ y : RW, v = .agg y.cells.toArray ∧ y.r = (M.run x.o).1 ∧ B = [RefAt m (M.run x.o).2, y.asn, G]) := by
  refine FSpec.of Tryz.func13 rfl Tryz.ntmps13 rfl fun W0 F => ?_
  refine J.seq <| J.region ?_
  refine J.c rfl rfl (C.box (l := [_, _, _, _, _, _, _, _, _]) rfl rfl) ?_
  rintro _ _ ⟨b3, rfl, rfl⟩
  refine J.norm rfl ?_
  refine J.c rfl rfl (C.alloc (l := [_, _, _, _, _]) Tryz.zeroValue44 rfl) ?_
  rintro _ _ ⟨b4, rfl, rfl⟩
  refine J.norm rfl <| J.nil <| J.then_n <| J.seq <| J.seq <| J.region ?_
  refine J.p rfl (Q.ldN (vs := [_, _, _, _, _, _, _, _, _]) Tryz.isAgg52 Tryz.sizeOf52 rfl rnI) ?_
  refine J.callI Tryz.call12 (rcheck_spec G x hx) rfl rfl rfl ?_
  rintro _ _ ⟨rfl, rfl⟩
  refine J.norm rfl ?_
  rw [← chk_eq]
  refine J.p rfl (Q.neq rfl rfl) <| J.nil <| J.then_n ?_
  refine J.cases 12 rfl (fun hc12 => ?_) (fun hc12 => ?_)
  ·
   replace hc12 := X.nm hc12
   try (first | (cases hc12; done) | (exfalso; simp at hc12; done))
   all_goals
    refine J.cond_t rfl <| J.seq <| J.region ?_
    refine J.callI Tryz.call30 (ris_spec 400) rfl rfl rfl ?_
    rintro _ _ ⟨rfl, rfl⟩
    refine J.norm rfl ?_
    refine J.stAI (vs := [_, _, _, _, _]) rfl Tryz.sizeOf44 rfl rfl (by exact rfl) (by exact rfl) (by exact rfl) ?_
    refine J.nil <| J.then_n <| J.cret <| J.then_r ?_
    have hcf : x.o.chkB = false := by
     cases h : x.o.chkB with
     | false => rfl
     | true => rw [h] at hc12; exact absurd rfl hc12
    have e : M.run x.o = (st 400, M) := by unfold BM.run; rw [hcf]; rfl
    rw [e]
    refine J.give (X := RW.asn ⟨st 400, none, 0, none, 0⟩) empty_asn ?_
    refine J.retCI (vs := [_, _, _, _, _]) [RefAt m M, RW.asn ⟨st 400, none, 0, none, 0⟩, G] rfl rfl Tryz.isAgg44 Tryz.sizeOf44 rnI ⟨⟨st 400, none, 0, none, 0⟩, rfl, rfl, rfl⟩
  replace hc12 := X.nm hc12
  try (first | (cases hc12; done) | (exfalso; simp at hc12; done))
  all_goals
   refine J.cond_f rfl <| J.cskip <| J.then_n <| J.seq ?_
   have hc : x.o.chkB = true := by
    cases h : x.o.chkB with
    | true => rfl
    | false => rw [h] at hc12; exact absurd hc12 (by decide)
   have hck := chk_kind hc
   have hcl := chk_len hc
   refine J.openI (RefAt m M) (Bs := fun _ : Unit => [RefAt m M]) (p := fun _ => M.bare) (fun h hh => by
    obtain ⟨y, hy, s⟩ := hh
    exact ⟨(), hy.k, X.G.HSat.one ⟨y, hy, s⟩⟩) fun _ hbare => ?_
   refine J.norm rfl <| J.region <| J.m rfl <| J.p rfl (Q.fa (n := 0) Tryz.runUnderlying52 rfl rfl Tryz.sizeOf40 rfl) ?_
   refine J.p rfl (Q.ld Tryz.isAgg40 rfl (rdI (by exact rfl))) ?_
   refine J.callI Tryz.call31 (rdone_spec m M hM x.o.id) rfl rfl rfl ?_
   rintro _ _ ⟨rfl, rfl⟩
   refine J.norm rfl <| J.m rfl <| J.p rfl (Q.ext rfl rfl) <| J.p rfl (Q.ext rfl rfl) ?_
   refine J.c rfl rfl (C.alloc (l := [_, _, _, _, _]) Tryz.zeroValue44 rfl) ?_
   rintro _ _ ⟨b5, rfl, rfl⟩
   refine J.norm rfl ?_
   refine J.stAI (vs := [_, _, _, _, _]) rfl Tryz.sizeOf44 rfl rfl (by exact rfl) (by exact rfl) (by exact rfl) ?_
   refine J.p rfl (Q.asg rfl) <| J.nil <| J.then_n ?_
   refine J.cut (fun _ : Unit => readsK x.o.kind = false → sget x.o.id M.done = none) (fun _ => [(0, .pointer (some ⟨m, 0, none⟩)), (3, .pointer (some ⟨b3, 0, none⟩)), (4, .pointer (some ⟨b4, 0, none⟩))])
    (fun _ => [RefAt m M, G, pt b3 (.cells x.cells.toArray 52 (0, 0)), pt b4 (.cells [Value.int .i64 0, .int .u64 0, .slice none 0 0, .bool false, .slice none 0 0].toArray 44 (0, 0)), F]) ?_ fun _ hnd => ?_
   ·
    refine J.seq <| J.region <| J.m rfl <| J.m rfl ?_
    refine J.cases 22 rfl (fun hb22 => ?_) (fun hb22 => ?_)
    ·
     replace hb22 := X.nm hb22
     try (first | (cases hb22; done) | (exfalso; simp at hb22; done))
     all_goals
      refine J.p rfl (Q.fa (n := 1) Tryz.runUnderlying52 rfl rfl Tryz.sizeOf3 rfl) ?_
      refine J.p rfl (Q.ld Tryz.isAgg3 rfl (rdI (by exact rfl))) ?_
      refine J.callI Tryz.call32 (rreads_spec x.o.kind) rfl rfl rfl ?_
      rintro _ _ ⟨rfl, rfl⟩
      refine J.norm rfl <| J.p rfl (Q.not rfl) <| J.p rfl (Q.pick_t rfl rfl) <| J.nil <| J.then_n ?_
      refine J.cases 27 rfl (fun hc27 => ?_) (fun hc27 => ?_)
      ·
       replace hc27 := X.nm hc27
       try (first | (cases hc27; done) | (exfalso; simp at hc27; done))
       all_goals
        refine J.cond_t rfl <| J.seq <| J.region ?_
        refine J.p rfl (Q.ldN (vs := [_, _, _, _, _]) Tryz.isAgg44 Tryz.sizeOf44 rfl rnI) ?_
        refine J.stAI (vs := [_, _, _, _, _]) rfl Tryz.sizeOf44 rfl rfl (by exact rfl) (by exact rfl) (by exact rfl) ?_
        refine J.nil <| J.then_n <| J.cret <| J.cut_r ?_
        obtain ⟨r, hr⟩ := Option.isSome_iff_exists.1 hb22
        have hrd : readsK x.o.kind = false := by unfold readsK; simpa using hc27
        have e : M.run x.o = (r, M) := by unfold BM.run; rw [hc, hrd, hr]; rfl
        have hbr := hbare _ (X.G.sget_mem hr)
        rw [e, hr]
        obtain ⟨rs, ru, rk, rm, rd⟩ := r
        dsimp only at hbr
        obtain ⟨rfl, rfl, rfl⟩ := hbr
        refine J.give (X := RW.asn ⟨⟨rs, ru, [], false, []⟩, none, 0, none, 0⟩) empty_asn ?_
        refine J.retCI (vs := [_, _, _, _, _]) [RefAt m M, RW.asn ⟨⟨rs, ru, [], false, []⟩, none, 0, none, 0⟩, G] rfl rfl Tryz.isAgg44 Tryz.sizeOf44 rnI ⟨⟨⟨rs, ru, [], false, []⟩, none, 0, none, 0⟩, rfl, rfl, rfl⟩
      replace hc27 := X.nm hc27
      try (first | (cases hc27; done) | (exfalso; simp at hc27; done))
      all_goals
       refine J.cond_f rfl <| J.cskip ?_
       refine J.meetI () (by
        intro h
        have h' : (decide (x.o.kind = 4) || decide (x.o.kind = 6)) = false := h
        first
         | exact Option.not_isSome_iff_eq_none.1 (by rw [hb22]; exact Bool.false_ne_true)
         | (exfalso; rw [h'] at hc27; cases hc27)) ⟨rfl, rfl, rfl, trivial⟩
    replace hb22 := X.nm hb22
    try (first | (cases hb22; done) | (exfalso; simp at hb22; done))
    all_goals
     refine J.skip rfl rfl <| J.skip rfl rfl <| J.skip rfl rfl <| J.skip rfl rfl <| J.p rfl (Q.pick_f rfl rfl) <| J.nil <| J.then_n <| J.cond_f rfl <| J.cskip ?_
     refine J.meetI () (by
      intro h
      have h' : (decide (x.o.kind = 4) || decide (x.o.kind = 6)) = false := h
      first
       | exact Option.not_isSome_iff_eq_none.1 (by rw [hb22]; exact Bool.false_ne_true)
       | (exfalso; rw [h'] at hc27; cases hc27)) ⟨rfl, rfl, rfl, trivial⟩
   refine J.seq ?_
   have hid : x.o.kind = 7 → sget x.o.id M.uploads = none := by
    intro h
    have hn := hnd (by rw [h]; rfl)
    cases hq : sget x.o.id M.uploads with
    | none => rfl
    | some u => have := hkn _ _ hq; rw [hn] at this; cases this
   refine J.region <| J.p rfl (Q.bld (l := [_, _, _, _, _]) Tryz.runUnderlying44 Tryz.zeroValue44 Tryz.places44 rfl rfl) ?_
   refine J.c rfl rfl (C.alloc (l := [_, _, _, _, _]) Tryz.zeroValue44 rfl) ?_
   rintro _ _ ⟨b7, rfl, rfl⟩
   refine J.norm rfl ?_
   refine J.stAI (vs := [_, _, _, _, _]) rfl Tryz.sizeOf44 rfl rfl (by exact rfl) (by exact rfl) (by exact rfl) ?_
   refine J.nil <| J.then_n ?_
   refine J.cut (fun w : RW => w.r = (M.act x.o).1 ∧ (readsK x.o.kind = false → w = ⟨w.r, none, 0, none, 0⟩)) (fun w => [(0, .pointer (some ⟨m, 0, none⟩)), (3, .pointer (some ⟨b3, 0, none⟩)), (4, .pointer (some ⟨b4, 0, none⟩)), (7, .pointer (some ⟨b7, 0, none⟩))])
    (fun w => [RefAt m (M.act x.o).2, w.asn, G, pt b3 (.cells x.cells.toArray 52 (0, 0)), pt b4 (.cells [Value.int .i64 0, .int .u64 0, .slice none 0 0, .bool false, .slice none 0 0].toArray 44 (0, 0)), pt b7 (.cells w.cells.toArray 44 (0, 0)), F]) ?_ fun w hw => ?_
   ·
    refine J.seq <| J.region <| J.p rfl (Q.fa (n := 1) Tryz.runUnderlying52 rfl rfl Tryz.sizeOf3 rfl) ?_
    refine J.p rfl (Q.ld Tryz.isAgg3 rfl (rdI (by exact rfl))) ?_
    refine J.nil <| J.then_n <| J.block <| J.seq <| J.region <| J.p rfl (Q.eql rfl rfl) <| J.p rfl (Q.asg rfl) <| J.nil <| J.then_n ?_
    refine J.cases 35 rfl (fun hc35 => ?_) (fun hc35 => ?_)
    ·
     replace hc35 := X.nm hc35
     try (first | (cases hc35; done) | (exfalso; simp at hc35; done))
     all_goals
      refine J.cond_t rfl <| J.region <| J.m rfl ?_
      refine J.p rfl (Q.ldN (vs := [_, _, _, _, _, _, _, _, _]) Tryz.isAgg52 Tryz.sizeOf52 rfl rnI) ?_
      refine J.callI Tryz.call33 (rmake_spec m M hM x) rfl rfl rfl ?_
      rintro _ _ ⟨rfl, rfl⟩
      refine J.norm rfl ?_
      refine J.stAI (vs := [_, _, _, _, _]) rfl Tryz.sizeOf44 rfl rfl (by exact rfl) (by exact rfl) (by exact rfl) ?_
      refine J.nil <| J.blk_n ?_
      have e : M.act x.o = M.make x.o := by unfold BM.act; rw [if_pos (by omega)]
      have hb := act_bare M (o := x.o) (by unfold readsK; simp [show x.o.kind = 1 by omega])
      rw [e] at hb ⊢
      obtain ⟨r, hr⟩ : ∃ r, r = (M.make x.o).1 := ⟨_, rfl⟩
      rw [← hr] at hb ⊢
      obtain ⟨rs, ru, rk, rm, rd⟩ := r
      dsimp only at hb
      obtain ⟨rfl, rfl, rfl⟩ := hb
      refine J.give (X := RW.asn ⟨⟨rs, ru, [], false, []⟩, none, 0, none, 0⟩) empty_asn ?_
      refine J.meetI (RW.mk ⟨rs, ru, [], false, []⟩ none 0 none 0) ⟨rfl, fun _ => rfl⟩ ⟨rfl, rfl, rfl, rfl, trivial⟩
    replace hc35 := X.nm hc35
    try (first | (cases hc35; done) | (exfalso; simp at hc35; done))
    all_goals
     refine J.cond_f rfl <| J.seq <| J.seq <| J.region <| J.p rfl (Q.eql rfl rfl) <| J.p rfl (Q.asg rfl) <| J.nil <| J.then_n ?_
     refine J.cases 40 rfl (fun hc40 => ?_) (fun hc40 => ?_)
     ·
      replace hc40 := X.nm hc40
      try (first | (cases hc40; done) | (exfalso; simp at hc40; done))
      all_goals
       refine J.cond_t rfl <| J.cskip <| J.then_n <| J.cond_t rfl <| J.region <| J.m rfl ?_
       refine J.p rfl (Q.ldN (vs := [_, _, _, _, _, _, _, _, _]) Tryz.isAgg52 Tryz.sizeOf52 rfl rnI) ?_
       refine J.callI Tryz.call34 (rinUpload_spec m M hM hok hk x G hx (by omega) (fun h => chk_parts hc h) hcl) rfl rfl rfl ?_
       rintro _ _ ⟨rfl, rfl⟩
       refine J.norm rfl ?_
       refine J.stAI (vs := [_, _, _, _, _]) rfl Tryz.sizeOf44 rfl rfl (by exact rfl) (by exact rfl) (by exact rfl) ?_
       refine J.nil <| J.blk_n ?_
       first
        | exact J.meetI y ⟨hy, hyb⟩ ⟨rfl, rfl, rfl, rfl, trivial⟩
        | (have hb := act_bare M (o := x.o) (by unfold readsK; simp; omega)
           obtain ⟨r, hr⟩ : ∃ r, r = (M.act x.o).1 := ⟨_, rfl⟩
           rw [← hr] at hb ⊢
           obtain ⟨rs, ru, rk, rm, rd⟩ := r
           dsimp only at hb
           obtain ⟨rfl, rfl, rfl⟩ := hb
           refine J.give (X := RW.asn ⟨⟨rs, ru, [], false, []⟩, none, 0, none, 0⟩) empty_asn ?_
           exact J.meetI (RW.mk ⟨rs, ru, [], false, []⟩ none 0 none 0) ⟨rfl, fun _ => rfl⟩ ⟨rfl, rfl, rfl, rfl, trivial⟩)
     replace hc40 := X.nm hc40
     try (first | (cases hc40; done) | (exfalso; simp at hc40; done))
     all_goals
      refine J.cond_f rfl <| J.seq <| J.region <| J.p rfl (Q.eql rfl rfl) <| J.p rfl (Q.asg rfl) <| J.nil <| J.then_n ?_
      refine J.cases 40 rfl (fun hc40 => ?_) (fun hc40 => ?_)
      ·
       replace hc40 := X.nm hc40
       try (first | (cases hc40; done) | (exfalso; simp at hc40; done))
       all_goals
        refine J.cond_t rfl <| J.cskip <| J.then_n <| J.cond_t rfl <| J.region <| J.m rfl ?_
        refine J.p rfl (Q.ldN (vs := [_, _, _, _, _, _, _, _, _]) Tryz.isAgg52 Tryz.sizeOf52 rfl rnI) ?_
        refine J.callI Tryz.call34 (rinUpload_spec m M hM hok hk x G hx (by omega) (fun h => chk_parts hc h) hcl) rfl rfl rfl ?_
        rintro _ _ ⟨rfl, rfl⟩
        refine J.norm rfl ?_
        refine J.stAI (vs := [_, _, _, _, _]) rfl Tryz.sizeOf44 rfl rfl (by exact rfl) (by exact rfl) (by exact rfl) ?_
        refine J.nil <| J.blk_n ?_
        first
         | exact J.meetI y ⟨hy, hyb⟩ ⟨rfl, rfl, rfl, rfl, trivial⟩
         | (have hb := act_bare M (o := x.o) (by unfold readsK; simp; omega)
            obtain ⟨r, hr⟩ : ∃ r, r = (M.act x.o).1 := ⟨_, rfl⟩
            rw [← hr] at hb ⊢
            obtain ⟨rs, ru, rk, rm, rd⟩ := r
            dsimp only at hb
            obtain ⟨rfl, rfl, rfl⟩ := hb
            refine J.give (X := RW.asn ⟨⟨rs, ru, [], false, []⟩, none, 0, none, 0⟩) empty_asn ?_
            exact J.meetI (RW.mk ⟨rs, ru, [], false, []⟩ none 0 none 0) ⟨rfl, fun _ => rfl⟩ ⟨rfl, rfl, rfl, rfl, trivial⟩)
      replace hc40 := X.nm hc40
      try (first | (cases hc40; done) | (exfalso; simp at hc40; done))
      all_goals
       refine J.cond_f rfl <| J.region <| J.p rfl (Q.eql rfl rfl) <| J.p rfl (Q.asg rfl) <| J.nil <| J.then_n ?_
       refine J.cases 40 rfl (fun hc40 => ?_) (fun hc40 => ?_)
       ·
        replace hc40 := X.nm hc40
        try (first | (cases hc40; done) | (exfalso; simp at hc40; done))
        all_goals
         refine J.cond_t rfl <| J.region <| J.m rfl ?_
         refine J.p rfl (Q.ldN (vs := [_, _, _, _, _, _, _, _, _]) Tryz.isAgg52 Tryz.sizeOf52 rfl rnI) ?_
         refine J.callI Tryz.call34 (rinUpload_spec m M hM hok hk x G hx (by omega) (fun h => chk_parts hc h) hcl) rfl rfl rfl ?_
         rintro _ _ ⟨rfl, rfl⟩
         refine J.norm rfl ?_
         refine J.stAI (vs := [_, _, _, _, _]) rfl Tryz.sizeOf44 rfl rfl (by exact rfl) (by exact rfl) (by exact rfl) ?_
         refine J.nil <| J.blk_n ?_
         first
          | exact J.meetI y ⟨hy, hyb⟩ ⟨rfl, rfl, rfl, rfl, trivial⟩
          | (have hb := act_bare M (o := x.o) (by unfold readsK; simp; omega)
             obtain ⟨r, hr⟩ : ∃ r, r = (M.act x.o).1 := ⟨_, rfl⟩
             rw [← hr] at hb ⊢
             obtain ⟨rs, ru, rk, rm, rd⟩ := r
             dsimp only at hb
             obtain ⟨rfl, rfl, rfl⟩ := hb
             refine J.give (X := RW.asn ⟨⟨rs, ru, [], false, []⟩, none, 0, none, 0⟩) empty_asn ?_
             exact J.meetI (RW.mk ⟨rs, ru, [], false, []⟩ none 0 none 0) ⟨rfl, fun _ => rfl⟩ ⟨rfl, rfl, rfl, rfl, trivial⟩)
       replace hc40 := X.nm hc40
       try (first | (cases hc40; done) | (exfalso; simp at hc40; done))
       all_goals
        refine J.cond_f rfl <| J.region <| J.m rfl ?_
        refine J.p rfl (Q.ldN (vs := [_, _, _, _, _, _, _, _, _]) Tryz.isAgg52 Tryz.sizeOf52 rfl rnI) ?_
        refine J.callI Tryz.call35 (rinBucket_spec m M hM hok hk x G hx (by omega) (fun h => chk_6 hc h) hid hcl) rfl rfl rfl ?_
        rintro _ _ ⟨y, rfl, hy, hyb, rfl⟩
        refine J.norm rfl ?_
        refine J.stAI (vs := [_, _, _, _, _]) rfl Tryz.sizeOf44 rfl rfl (by exact rfl) (by exact rfl) (by exact rfl) ?_
        refine J.nil <| J.blk_n ?_
        first
         | exact J.meetI y ⟨hy, hyb⟩ ⟨rfl, rfl, rfl, rfl, trivial⟩
         | (have hb := act_bare M (o := x.o) (by unfold readsK; simp; omega)
            obtain ⟨r, hr⟩ : ∃ r, r = (M.act x.o).1 := ⟨_, rfl⟩
            rw [← hr] at hb ⊢
            obtain ⟨rs, ru, rk, rm, rd⟩ := r
            dsimp only at hb
            obtain ⟨rfl, rfl, rfl⟩ := hb
            refine J.give (X := RW.asn ⟨⟨rs, ru, [], false, []⟩, none, 0, none, 0⟩) empty_asn ?_
            exact J.meetI (RW.mk ⟨rs, ru, [], false, []⟩ none 0 none 0) ⟨rfl, fun _ => rfl⟩ ⟨rfl, rfl, rfl, rfl, trivial⟩)
   obtain ⟨hwr, hwb⟩ := hw
   refine J.seq <| J.seq <| J.region <| J.p rfl (Q.fa (n := 1) Tryz.runUnderlying52 rfl rfl Tryz.sizeOf3 rfl) ?_
   refine J.p rfl (Q.ld Tryz.isAgg3 rfl (rdI (by exact rfl))) ?_
   refine J.callI Tryz.call32 (rreads_spec x.o.kind) rfl rfl rfl ?_
   rintro _ _ ⟨rfl, rfl⟩
   refine J.norm rfl <| J.p rfl (Q.not rfl) <| J.nil <| J.then_n ?_
   refine J.cases 50 rfl (fun hc50 => ?_) (fun hc50 => ?_)
   ·
    replace hc50 := X.nm hc50
    try (first | (cases hc50; done) | (exfalso; simp at hc50; done))
    all_goals
     refine J.cond_t rfl <| J.seq ?_
     have hrd : readsK x.o.kind = false := by unfold readsK; simpa using hc50
     have hno := hnd hrd
     have hb := act_bare M hrd
     have hwb' := hwb hrd
     have hds := hM.ds
     rw [← act_done M x.o] at hno hds
     have hrun : M.run x.o = ((M.act x.o).1, { (M.act x.o).2 with done := sput ltN x.o.id (M.act x.o).1 (M.act x.o).2.done }) := by
      unfold BM.run; rw [if_pos hc, if_neg (by rw [hrd]; exact Bool.false_ne_true), ← act_done M x.o, hno]
     have hlk : (M.act x.o).2.done.length ≤ 32768 := by rw [act_done]; exact hM.len.2.2
     rw [hrun]
     rw [← hwr] at hb ⊢
     obtain ⟨M2, hM2⟩ : ∃ M2, M2 = (M.act x.o).2 := ⟨_, rfl⟩
     rw [← hM2] at hno hds hlk ⊢
     clear hrun
     obtain ⟨⟨rs, ru, rk, rm, rd⟩, kp, kc, dp, dc⟩ := w
     simp only [RW.mk.injEq, true_and] at hwb'
     obtain ⟨rfl, rfl, rfl, rfl⟩ := hwb'
     dsimp only at hb
     obtain ⟨rfl, rfl, rfl⟩ := hb
     refine J.openRef (m := m) (M := M2) fun p1 c1 bs p2 c2 us p3 c3 hyb hyu hyk => ?_
     refine J.norm rfl ?_
     refine J.tells 3 rfl own.len fun hck => ?_
     have hck' : M2.done.length ≤ c3 := hck.2
     refine J.slrI (E0 := 105) (sz := 6) (p := p3) (n := M2.done.length) (c := c3) (xs := M2.done.flatMap RKp.cells) fun hsk => ?_
     refine J.region <| J.p rfl (Q.asg rfl) <| J.nil <| J.then_n ?_
     refine J.cut (fun i : Nat => AtK ltN x.o.id M2.done i) (fun i => [(0, .pointer (some ⟨m, 0, none⟩)), (3, .pointer (some ⟨b3, 0, none⟩)), (4, .pointer (some ⟨b4, 0, none⟩)), (7, .pointer (some ⟨b7, 0, none⟩)), (8, .int .i64 i)])
      (fun _ => refL m M2 p1 c1 bs p2 c2 us p3 c3 ++ [RW.asn ⟨⟨rs, ru, [], false, []⟩, none, 0, none, 0⟩, G, pt b3 (.cells x.cells.toArray 52 (0, 0)), pt b4 (.cells [Value.int .i64 0, .int .u64 0, .slice none 0 0, .bool false, .slice none 0 0].toArray 44 (0, 0)), pt b7 (.cells [Value.int .i64 rs, .int .u64 ru, .slice none 0 0, .bool false, .slice none 0 0].toArray 44 (0, 0)), F]) ?_ fun i hi => ?_
     ·
      refine J.block ?_
      refine J.loop (fun j : Nat => j ≤ M2.done.length ∧ ∀ q, q ∈ M2.done.take j → ltN q.1 x.o.id = true) (fun j => M2.done.length - j) (fun j => [(0, .pointer (some ⟨m, 0, none⟩)), (3, .pointer (some ⟨b3, 0, none⟩)), (4, .pointer (some ⟨b4, 0, none⟩)), (7, .pointer (some ⟨b7, 0, none⟩)), (8, .int .i64 j)])
       (fun _ => refL m M2 p1 c1 bs p2 c2 us p3 c3 ++ [RW.asn ⟨⟨rs, ru, [], false, []⟩, none, 0, none, 0⟩, G, pt b3 (.cells x.cells.toArray 52 (0, 0)), pt b4 (.cells [Value.int .i64 0, .int .u64 0, .slice none 0 0, .bool false, .slice none 0 0].toArray 44 (0, 0)), pt b7 (.cells [Value.int .i64 rs, .int .u64 ru, .slice none 0 0, .bool false, .slice none 0 0].toArray 44 (0, 0)), F]) 0 ⟨Nat.zero_le _, (fun _ h => by cases h)⟩ ⟨rfl, rfl, rfl, rfl, rfl, trivial⟩ rfl fun j hj => ?_
      obtain ⟨hj, hlo⟩ := hj
      refine J.norm rfl <| J.seq <| J.seq ?_
      refine J.draw [] Tryz.mixed (by kernel_rfl) fun hR => ?_
      refine RG.p 0 hR rfl (Q.mv rfl) <| RG.p 1 hR rfl (Q.mv rfl) <| RG.p 2 hR rfl (Q.nil_ rfl) <| RG.p 3 hR rfl (Q.fa (n := 2) Tryz.runUnderlying98 rfl rfl Tryz.sizeOf96 rfl) ?_
      refine RG.p 4 hR rfl (Q.ld Tryz.isAgg96 rfl (rdI (by exact rfl))) ?_
      refine RG.p 5 hR rfl (Q.lenSl Tryz.runUnderlying96 rfl) <| RG.p 6 hR rfl (Q.lss rfl rfl) <| RG.p 7 hR rfl (Q.mv rfl) ?_
      refine RG.cases 58 rfl (fun hb58 => ?_) (fun hb58 => ?_)
      ·
       replace hb58 := X.nm hb58
       try (first | (cases hb58; done) | (exfalso; simp at hb58; done))
       all_goals
        refine RG.p 8 hR rfl (Q.mv rfl) <| RG.p 9 hR rfl (Q.nil_ rfl) <| RG.p 10 hR rfl (Q.fa (n := 2) Tryz.runUnderlying98 rfl rfl Tryz.sizeOf96 rfl) ?_
        refine RG.p 11 hR rfl (Q.ld Tryz.isAgg96 rfl (rdI (by exact rfl))) ?_
        obtain ⟨bb, off, hpp, hrd⟩ := hsk.some_ (by omega)
        obtain ⟨q, hq⟩ : ∃ q, M2.done[j]? = some q := ⟨_, List.getElem?_eq_getElem (by omega)⟩
        subst hpp
        refine RG.p 12 hR rfl (Q.mv rfl) <| RG.p 13 hR rfl (Q.ia Tryz.runUnderlying96 Tryz.sizeOf105 rfl rfl (by omega) (by omega)) <| RG.p 14 hR rfl (Q.fa (n := 0) Tryz.runUnderlying105 rfl rfl Tryz.sizeOf40 rfl) <| RG.p 15 hR rfl (Q.ld Tryz.isAgg40 rfl (rfO 0 RKp.len hq (show _ = some (Value.int .u64 q.1) from rfl) (by omega))) <| RG.p 16 hR rfl (Q.fa (n := 0) Tryz.runUnderlying52 rfl rfl Tryz.sizeOf40 rfl) ?_
        refine RG.p 17 hR rfl (Q.ld Tryz.isAgg40 rfl (rdI (by exact rfl))) ?_
        refine RG.p 18 hR rfl (Q.lss rfl rfl) <| RG.p 19 hR rfl (Q.pick_t rfl rfl) ?_
        refine RG.fin hR rfl ?_
        refine J.norm rfl <| J.then_n ?_
        refine J.cases 70 rfl (fun hc70 => ?_) (fun hc70 => ?_)
        ·
         replace hc70 := X.nm hc70
         try (first | (cases hc70; done) | (exfalso; simp at hc70; done))
         all_goals
          refine J.cond_t rfl <| J.cskip <| J.then_n <| J.block <| J.region <| J.m rfl <| J.p rfl (Q.add64 rfl rfl (by omega)) <| J.p rfl (Q.asg rfl) <| J.nil <| J.blk_n ?_
          refine J.againI (j + 1) ⟨by show j + 1 ≤ _; omega, AtK.next hlo hq (by simp only [decide_eq_true_eq]; omega)⟩ (by show M2.done.length - (j + 1) < M2.done.length - j; omega) ⟨rfl, rfl, rfl, rfl, rfl, trivial⟩
        replace hc70 := X.nm hc70
        try (first | (cases hc70; done) | (exfalso; simp at hc70; done))
        all_goals
         refine J.cond_f rfl <| J.exit <| J.then_x <| J.lp_x <| J.blk_x ?_
         exact J.meetI j ⟨by omega, hlo, fun p hp => by rw [hq] at hp; cases hp; simp only [decide_eq_false_iff_not]; omega⟩ ⟨rfl, rfl, rfl, rfl, rfl, trivial⟩
      replace hb58 := X.nm hb58
      try (first | (cases hb58; done) | (exfalso; simp at hb58; done))
      all_goals
       refine RG.skip 8 hR rfl rfl rfl rfl rfl rfl <| RG.skip 9 hR rfl rfl rfl rfl rfl rfl <| RG.skip 10 hR rfl rfl rfl rfl rfl rfl <| RG.skip 11 hR rfl rfl rfl rfl rfl rfl <| RG.skip 12 hR rfl rfl rfl rfl rfl rfl <| RG.skip 13 hR rfl rfl rfl rfl rfl rfl <| RG.skip 14 hR rfl rfl rfl rfl rfl rfl <| RG.skip 15 hR rfl rfl rfl rfl rfl rfl <| RG.skip 16 hR rfl rfl rfl rfl rfl rfl <| RG.skip 17 hR rfl rfl rfl rfl rfl rfl ?_
       refine RG.skip 18 hR rfl rfl rfl rfl rfl rfl <| RG.p 19 hR rfl (Q.pick_f rfl rfl) ?_
       refine RG.fin hR rfl ?_
       refine J.norm rfl <| J.then_n <| J.cond_f rfl <| J.exit <| J.then_x <| J.lp_x <| J.blk_x ?_
       exact J.meetI j ⟨by omega, hlo, fun p hp => by rw [List.getElem?_eq_none (by omega)] at hp; cases hp⟩ ⟨rfl, rfl, rfl, rfl, rfl, trivial⟩
     refine J.norm rfl ?_
     have hle := hi.le
     obtain ⟨z, hz⟩ : ∃ z : RKp, z = (x.o.id, ⟨rs, ru, [], false, []⟩) := ⟨_, rfl⟩
     refine J.cut (fun _ : Option Addr × Nat => True) (fun u => [(0, .pointer (some ⟨m, 0, none⟩)), (4, .pointer (some ⟨b4, 0, none⟩)), (7, .pointer (some ⟨b7, 0, none⟩)), (8, .int .i64 i), (9, .slice u.1 (0 + i + 1) u.2)])
      (fun u => refL m M2 p1 c1 bs p2 c2 us p3 c3 ++ [RW.asn ⟨⟨rs, ru, [], false, []⟩, none, 0, none, 0⟩, G, pt b4 (.cells [Value.int .i64 0, .int .u64 0, .slice none 0 0, .bool false, .slice none 0 0].toArray 44 (0, 0)), pt b7 (.cells [Value.int .i64 rs, .int .u64 ru, .slice none 0 0, .bool false, .slice none 0 0].toArray 44 (0, 0)), own 105 6 (.slice u.1 (0 + i + 1) u.2) ([] ++ (M2.done.flatMap RKp.cells).take (i * 6) ++ RKp.cells z), F]) ?_ fun u _ => ?_
     obtain ⟨hq79, hr79⟩ := slH_ (P := Tryz.prog) (T := 96) Tryz.runUnderlying96 Tryz.sizeOf105 hsk (hi := i) hle hck'
     ·
      refine J.draw [0, 7, 12, 13, 14] Tryz.mixed (by kernel_rfl) fun hR => ?_
      refine RG.p 1 hR rfl (Q.mv rfl) <| RG.p 2 hR rfl (Q.nil_ rfl) <| RG.p 3 hR rfl (Q.fa (n := 2) Tryz.runUnderlying98 rfl rfl Tryz.sizeOf96 rfl) ?_
      refine RG.p 4 hR rfl (Q.ld Tryz.isAgg96 rfl (rdI (by exact rfl))) ?_
      refine RG.p 5 hR rfl (Q.mv rfl) ?_
      refine RG.p 6 hR rfl (hq79 _ _ _ _ _ _ rfl rfl) ?_
      refine RG.p 8 hR rfl (Q.fa (n := 0) Tryz.runUnderlying52 rfl rfl Tryz.sizeOf40 rfl) ?_
      refine RG.p 9 hR rfl (Q.ld Tryz.isAgg40 rfl (rdI (by exact rfl))) ?_
      refine RG.p 10 hR rfl (Q.ldN (vs := [_, _, _, _, _]) Tryz.isAgg44 Tryz.sizeOf44 rfl rnI) ?_
      refine RG.p 11 hR rfl (Q.bld (l := [_, _, _, _, _, _]) Tryz.runUnderlying105 Tryz.zeroValue105 Tryz.places105 rfl rfl) ?_
      refine RG.slot 84 (.agg (RKp.cells z).toArray) rfl (by rw [hz]; rfl) ?_
      refine RG.many hR 0 [12] rfl ⟨?_, ⟨?_, trivial⟩⟩
      ·
       refine RGi.made rfl rfl rfl rfl (C.bslG (l := []) Tryz.runUnderlying96 Tryz.sizeOf105 Tryz.zeroValue105 (by decide) rfl rfl rfl rfl rfl) ?_
       rintro b73
       refine RG.many hR 7 [12] rfl ⟨?_, ⟨?_, trivial⟩⟩
       ·
        refine RGi.appI rfl rfl rfl rfl Tryz.runUnderlying96 Tryz.runUnderlying96 Tryz.typeInfo105 Tryz.sizeOf105 Tryz.zeroValue105 rfl rfl (hr79.inI) (take_one (flat_one RKp.one)) (by simp [Tryz.t105] <;> omega) (by decide) ?_
        rintro p80 c80
        refine RG.normE rfl ?_
        refine RG.made 12 hR rfl rfl rfl rfl rfl (C.bslG (l := [_, _, _, _, _, _]) Tryz.runUnderlying96 Tryz.sizeOf105 Tryz.zeroValue105 (by decide) rfl rfl rfl rfl rfl) ?_
        rintro b85
        refine RG.many hR 13 [] rfl ⟨?_, trivial⟩
        ·
         refine RGi.appI rfl rfl rfl rfl Tryz.runUnderlying96 Tryz.runUnderlying96 Tryz.typeInfo105 Tryz.sizeOf105 Tryz.zeroValue105 rfl rfl (SlR.ptI rfl) (RKp.one z) (by simp [Tryz.t105] <;> omega) (by decide) ?_
         rintro p86 c86
         refine RG.normE rfl ?_
         refine RG.bar 14 hR rfl rfl rfl rfl rfl rfl (Q.asg rfl).toC ?_
         rintro _ _ ⟨rfl, rfl⟩
         refine RG.norm rfl ?_
         refine RG.fin hR rfl ?_
         refine J.norm rfl ?_
         exact J.meetI (p86, c86) trivial ⟨rfl, rfl, rfl, rfl, rfl, trivial⟩
       ·
        refine RGi.made rfl rfl rfl rfl (C.bslG (l := [_, _, _, _, _, _]) Tryz.runUnderlying96 Tryz.sizeOf105 Tryz.zeroValue105 (by decide) rfl rfl rfl rfl rfl) ?_
        rintro b85
        refine RG.many hR 7 [] rfl ⟨?_, trivial⟩
        ·
         refine RGi.appI rfl rfl rfl rfl Tryz.runUnderlying96 Tryz.runUnderlying96 Tryz.typeInfo105 Tryz.sizeOf105 Tryz.zeroValue105 rfl rfl (hr79.inI) (take_one (flat_one RKp.one)) (by simp [Tryz.t105] <;> omega) (by decide) ?_
         rintro p80 c80
         refine RG.normE rfl ?_
         refine RG.many hR 13 [] rfl ⟨?_, trivial⟩
         ·
          refine RGi.appI rfl rfl rfl rfl Tryz.runUnderlying96 Tryz.runUnderlying96 Tryz.typeInfo105 Tryz.sizeOf105 Tryz.zeroValue105 rfl rfl (SlR.ptI rfl) (RKp.one z) (by simp [Tryz.t105] <;> omega) (by decide) ?_
          rintro p86 c86
          refine RG.normE rfl ?_
          refine RG.bar 14 hR rfl rfl rfl rfl rfl rfl (Q.asg rfl).toC ?_
          rintro _ _ ⟨rfl, rfl⟩
          refine RG.norm rfl ?_
          refine RG.fin hR rfl ?_
          refine J.norm rfl ?_
          exact J.meetI (p86, c86) trivial ⟨rfl, rfl, rfl, rfl, rfl, trivial⟩
      ·
       refine RGi.made rfl rfl rfl rfl (C.bslG (l := [_, _, _, _, _, _]) Tryz.runUnderlying96 Tryz.sizeOf105 Tryz.zeroValue105 (by decide) rfl rfl rfl rfl rfl) ?_
       rintro b85
       refine RG.made 0 hR rfl rfl rfl rfl rfl (C.bslG (l := []) Tryz.runUnderlying96 Tryz.sizeOf105 Tryz.zeroValue105 (by decide) rfl rfl rfl rfl rfl) ?_
       rintro b73
       refine RG.many hR 7 [] rfl ⟨?_, trivial⟩
       ·
        refine RGi.appI rfl rfl rfl rfl Tryz.runUnderlying96 Tryz.runUnderlying96 Tryz.typeInfo105 Tryz.sizeOf105 Tryz.zeroValue105 rfl rfl (hr79.inI) (take_one (flat_one RKp.one)) (by simp [Tryz.t105] <;> omega) (by decide) ?_
        rintro p80 c80
        refine RG.normE rfl ?_
        refine RG.many hR 13 [] rfl ⟨?_, trivial⟩
        ·
         refine RGi.appI rfl rfl rfl rfl Tryz.runUnderlying96 Tryz.runUnderlying96 Tryz.typeInfo105 Tryz.sizeOf105 Tryz.zeroValue105 rfl rfl (SlR.ptI rfl) (RKp.one z) (by simp [Tryz.t105] <;> omega) (by decide) ?_
         rintro p86 c86
         refine RG.normE rfl ?_
         refine RG.bar 14 hR rfl rfl rfl rfl rfl rfl (Q.asg rfl).toC ?_
         rintro _ _ ⟨rfl, rfl⟩
         refine RG.norm rfl ?_
         refine RG.fin hR rfl ?_
         refine J.norm rfl ?_
         exact J.meetI (p86, c86) trivial ⟨rfl, rfl, rfl, rfl, rfl, trivial⟩
     refine J.norm rfl ?_
     obtain ⟨p94, c94, hq94, hr94⟩ := slL_ (P := Tryz.prog) (T := 96) Tryz.runUnderlying96 Tryz.sizeOf105 hsk (lo := i) hle hck'
     refine J.region <| J.m rfl <| J.m rfl <| J.m rfl <| J.p rfl (Q.nil_ rfl) <| J.p rfl (Q.fa (n := 2) Tryz.runUnderlying98 rfl rfl Tryz.sizeOf96 rfl) ?_
     refine J.p rfl (Q.ld Tryz.isAgg96 rfl (rdI (by exact rfl))) ?_
     refine J.m rfl ?_
     refine J.p rfl (hq94 _ _ _ _ _ _ rfl rfl) ?_
     refine J.c rfl rfl (C.appI Tryz.runUnderlying96 Tryz.runUnderlying96 Tryz.typeInfo105 Tryz.sizeOf105 Tryz.zeroValue105 rfl rfl (hr94.inI) (drop_one (flat_one RKp.one)) (by simp [Tryz.t105] <;> omega) (by decide)) ?_
     rintro _ _ ⟨p95, c95, rfl, rfl⟩
     refine J.norm rfl <| J.p rfl (Q.nil_ rfl) <| J.p rfl (Q.fa (n := 2) Tryz.runUnderlying98 rfl rfl Tryz.sizeOf96 rfl) ?_
     refine J.stI rfl Tryz.sizeOf96 rfl rfl rfl (by exact rfl) (by exact rfl) (by exact rfl) ?_
     refine J.nil <| J.then_n <| J.seq <| J.region ?_
     refine J.p rfl (Q.ldN (vs := [_, _, _, _, _]) Tryz.isAgg44 Tryz.sizeOf44 rfl rnI) ?_
     refine J.stAI (vs := [_, _, _, _, _]) rfl Tryz.sizeOf44 rfl rfl (by exact rfl) (by exact rfl) (by exact rfl) ?_
     refine J.nil <| J.then_n <| J.cret ?_
     obtain ⟨ks, hks⟩ : ∃ ks, ks = M2.done.take i ++ z :: M2.done.drop i := ⟨_, rfl⟩
     have hput : sput ltN x.o.id ⟨rs, ru, [], false, []⟩ M2.done = ks := by rw [hks, hi.put_no ord3_nat hds hno, hz]
     rw [ins_len (x := z) hle, ins_cells RKp.len, ← hks]
     rw [hput]
     refine J.shutI (refL m { M2 with done := ks } p1 c1 bs p2 c2 us p95 c95) (RefAt m { M2 with done := ks }) (RefAt.of (M := { M2 with done := ks }) hyb hyu (by
      intro q hq
      have hq : q ∈ ks := hq
      rw [hks, List.mem_append, List.mem_cons] at hq
      rcases hq with hq | hq | hq
      · exact hyk q (List.mem_of_mem_take hq)
      · rw [hq, hz]; exact ⟨rfl, rfl, rfl⟩
      · exact hyk q (List.mem_of_mem_drop hq))) ?_
     refine J.retCI (vs := [_, _, _, _, _]) [RefAt m { M2 with done := ks }, RW.asn ⟨⟨rs, ru, [], false, []⟩, none, 0, none, 0⟩, G] rfl rfl Tryz.isAgg44 Tryz.sizeOf44 rnI ⟨⟨⟨rs, ru, [], false, []⟩, none, 0, none, 0⟩, rfl, rfl, rfl⟩
   replace hc50 := X.nm hc50
   try (first | (cases hc50; done) | (exfalso; simp at hc50; done))
   all_goals
    refine J.cond_f rfl <| J.cskip <| J.then_n <| J.seq <| J.region ?_
    refine J.p rfl (Q.ldN (vs := [_, _, _, _, _]) Tryz.isAgg44 Tryz.sizeOf44 rfl rnI) ?_
    refine J.stAI (vs := [_, _, _, _, _]) rfl Tryz.sizeOf44 rfl rfl (by exact rfl) (by exact rfl) (by exact rfl) ?_
    refine J.nil <| J.then_n <| J.cret ?_
    have hrd : readsK x.o.kind = true := by
     unfold readsK
     cases h1 : (decide (x.o.kind = 4) || decide (x.o.kind = 6)) with
     | true => rfl
     | false => rw [h1] at hc50; cases hc50
    have hrun : M.run x.o = M.act x.o := by unfold BM.run; rw [if_pos hc, if_pos hrd]
    rw [hrun]
    refine J.retCI (vs := [_, _, _, _, _]) [RefAt m (M.act x.o).2, w.asn, G] rfl rfl Tryz.isAgg44 Tryz.sizeOf44 rnI ⟨w, rfl, hwr, rfl⟩
end
end Go.Proofs.YtidbcaimgahllaaGreat
namespace Go.X
set_option linter.unusedSectionVars false
set_option linter.unusedSimpArgs false
set_option linter.unusedVariables false
open Go.RowKit Go.WideShapes Go.ChangeShapes

def old (W : World) : Assn := fun h => ∀ b o, W.heap[b]? = some o → h b = some o

theorem old_start (W : World) : Sat W W ([old W] ++ [fact True]) := by
  refine ⟨rfl, rfl, rfl, ?_⟩
  refine ⟨hp W, fun _ => none, fun b o e => e, ⟨fun _ => none, fun _ => none, ?_, trivial, fun _ => .inl rfl, Sub.refl _, Sub.refl _⟩, fun _ => .inr rfl, Sub.refl _, fun _ _ e => nomatch e⟩
  exact trivial

theorem old_below {W w : World} {F : Assn} (s : Sat W w ([old W] ++ [F])) : Below W.heap.size W w := by
  have hg : ∀ (b : Nat) (o : Obj), W.heap[b]? = some o → w.heap[b]? = some o := by
    obtain ⟨h1, _, a, _, _, u, _⟩ := s.heap
    exact fun b o e => u b o (a b o e)
  have hs : W.heap.size ≤ w.heap.size := by
    rcases Nat.eq_zero_or_pos W.heap.size with h | h
    · omega
    · have h1 := hg (W.heap.size - 1) _ (Array.getElem?_eq_getElem (by omega))
      have := (Array.getElem?_eq_some_iff.1 h1).1
      omega
  refine ⟨s.os, s.tape, s.out, hs, fun k hk => ?_⟩
  rw [hg k _ (Array.getElem?_eq_getElem hk), Array.getElem?_eq_getElem hk]

theorem FSpec.lift {P : Program} {f : FuncId} {args : List Value} {u : Value} {W : World} (h : FSpec P f args [old W] (fun v B => v = u ∧ B = [old W])) :
    Calls P f args.toArray W fun e w' => e = .returned u ∧ Below W.heap.size W w' :=
  (h.call W W (fact True) (old_start W)).mono fun e w' ⟨v, A, he, ⟨hv, hA⟩, s⟩ => by
    subst hv hA; exact ⟨he, old_below s⟩

theorem old_reads {W : World} {b off : Nat} {v : Value} (h : W.cell? ⟨b, off, none⟩ = some v) : Reads [old W] b off v := by
  intro k s
  obtain ⟨h1, _, a, _, _, u, _⟩ := s
  simp only [World.cell?] at h
  split at h
  · rename_i c e z hb
    simp at h
    exact ⟨c, e, z, u _ _ (a _ _ hb), h⟩
  · cases h

theorem wf_has {k : IntKind} {n : Int} (h : (Lit.int k n).wf = true) : k.min ≤ n ∧ n ≤ k.max := by
  simpa [Lit.wf] using h

end Go.X
namespace Go.X
set_option linter.unusedSectionVars false
set_option linter.unusedSimpArgs false
set_option linter.unusedVariables false

theorem ints_bytes : ∀ zs : List Int, (∀ n ∈ zs, IntKind.u8.min ≤ n ∧ n ≤ IntKind.u8.max) → ∃ bs : List UInt8, bs.length = zs.length ∧ zs.map (Value.int .u8) = bytesV bs
  | [], _ => ⟨[], rfl, rfl⟩
  | z :: zs, h => by
    obtain ⟨bs, h1, h2⟩ := ints_bytes zs (fun n hn => h n (List.mem_cons_of_mem _ hn))
    obtain ⟨h3, h4⟩ := h z (by simp)
    have h3' : 0 ≤ z := h3
    have h4' : z ≤ 255 := h4
    refine ⟨UInt8.ofNat z.toNat :: bs, by simp [h1], ?_⟩
    simp only [List.map_cons, h2, bytesV]
    congr 1
    simp only [byteV]
    congr 1
    rw [UInt8.toNat_ofNat']
    omega

end Go.X
namespace Go.X
set_option linter.unusedSectionVars false
set_option linter.unusedSimpArgs false
set_option linter.unusedVariables false
open Go.RowKit Go.WideShapes Go.ChangeShapes

section
variable {P : Program} {H : Type} {enc : TypeId × Value → H} {W : World} {base : Nat} {spare : Nat → Bool} {held : Bool} {fuel : Nat} {t e : TypeId} {v : Value} {x : DataW H × List MemPlace}

theorem cell_plain {a : Addr} {u : Value} (h : W.cell? a = some u) : ∃ b off, a = ⟨b, off, none⟩ := by
  have := World.cell?_spot h
  obtain ⟨b, off, s⟩ := a
  simp only at this; subst this; exact ⟨b, off, rfl⟩

theorem add_add (a : Addr) (m j : Nat) : (a.add m).add j = a.add (m + j) := by
  unfold Addr.add
  by_cases h1 : m = 0
  · subst h1; simp
  · by_cases h2 : j = 0
    · subst h2; simp
    · rw [if_neg h1, if_neg h2, if_neg (by omega)]; simp [Nat.add_assoc]

theorem cells_get {a : Addr} {n : Nat} {cs : List Value} (h : W.cells? base a n = some cs) : cs.length = n ∧ ∀ (i : Nat) u, cs[i]? = some u → W.cell? (a.add i) = some u := by
  unfold World.cells? at h
  split at h
  · have h1 := mapM_some_length h
    simp only [List.length_range] at h1
    refine ⟨h1, fun i u hu => ?_⟩
    have hi : i < n := by have := (List.getElem?_eq_some_iff.1 hu).1; omega
    have := mapM_some_get h i i (by simp [hi])
    rw [this]; exact hu
  · cases h

theorem slr_old {a : Addr} {len cap sz : Nat} {xs : List Value} (hl : xs.length = len * sz) (h : ∀ (i : Nat) u, xs[i]? = some u → W.cell? (a.add i) = some u) (hsz : 0 < sz) : SlR [old W] sz (.slice (some a) len cap) xs := by
  rcases Nat.eq_zero_or_pos len with h0 | h0
  · subst h0
    exact .inl ⟨some a, cap, rfl, by simpa using hl⟩
  · have hpos : 0 < xs.length := by rw [hl]; exact Nat.mul_pos h0 hsz
    obtain ⟨u, hu⟩ : ∃ u, xs[0]? = some u := ⟨_, List.getElem?_eq_getElem hpos⟩
    have h1 := h 0 u hu
    rw [show a.add 0 = a from rfl] at h1
    obtain ⟨b, off, rfl⟩ := cell_plain h1
    refine .inr ⟨b, off, len, cap, rfl, hl, fun i w hw => old_reads ?_⟩
    have := h i w hw
    rwa [addr_add] at this

theorem ints_in {k : IntKind} (ht : P.underlying t = some (.slice e)) (he : P.underlying e = some (.int k)) (hc : P.cellsOf e = 1) (h : DataW.trod enc P W base spare held fuel t [v] = some x) :
    ∃ p len cap, ∃ zs : List Int, v = .slice p len cap ∧ len ≤ cap ∧ zs.length = len ∧ SlR [old W] 1 v (zs.map (Value.int k)) ∧ (∀ n ∈ zs, k.min ≤ n ∧ n ≤ k.max) ∧ (x.1 = .nil ∧ len = 0 ∨ ∃ es rs, x.1 = .slice es rs ∧ es.length = len) := by
  rcases open_ints ht he hc h with ⟨hcs, rfl⟩ | ⟨a, len, cap, zs, hcs, _, hl, hm, hz, rfl, hcell, hwz⟩
  · simp at hcs
    subst hcs
    exact ⟨none, 0, 0, [], rfl, Nat.le_refl _, rfl, .inl ⟨none, 0, rfl, rfl⟩, by simp, .inl ⟨rfl, rfl⟩⟩
  · simp at hcs
    subst hcs
    have hlz : len ≤ zs.length := by rw [hz]; split <;> omega
    refine ⟨some a, len, cap, zs.take len, rfl, hl, by simp; omega, slr_old (by simp; omega) ?_ (by omega), fun n hn => wf_has (hwz n (List.mem_of_mem_take hn)), .inr ⟨_, _, rfl, by simp [lits]; omega⟩⟩
    intro i u hu
    have hi : i < len := by
      have := (List.getElem?_eq_some_iff.1 hu).1
      simp at this; omega
    rw [hcell i (by omega)]
    simp [hi] at hu
    obtain ⟨n, hn, rfl⟩ := hu
    simp [List.getD, hn]

theorem elems_in {sz : Nat} (ht : P.underlying t = some (.slice e)) (hc : P.cellsOf e = sz) (h : DataW.trod enc P W base spare held fuel t [v] = some x) :
    (v = .slice none 0 0 ∧ x.1 = .nil) ∨ ∃ a len cap n, ∃ es : List (DataW H × List MemPlace), ∃ rs : List (DataW H), ∃ css : List (List Value), v = .slice (some a) len cap ∧ len ≤ cap ∧ x.1 = .slice (es.map (·.1)) rs ∧ es.length = len ∧ css.length = len ∧
      (∀ (i : Nat) cs, css[i]? = some cs → cs.length = sz ∧ (∀ (j : Nat) u, cs[j]? = some u → W.cell? (a.add (i * sz + j)) = some u) ∧ DataW.trod enc P W base spare held n e cs = es[i]?) := by
  rcases DataW.trod_slice ht h with ⟨hcs, rfl⟩ | ⟨a, len, cap, es, rs, n, rfl, hcs, rfl, hb, hl, hm, hle, hel, _, _⟩
  · simp at hcs; exact .inl ⟨hcs, rfl⟩
  · simp at hcs
    right
    have hx : ∀ i, i < len → ∃ cs, W.cells? base (a.add (i * sz)) sz = some cs ∧ DataW.trod enc P W base spare held n e cs = es[i]? := by
      intro i hi
      have := hel i hi
      rw [hc] at this
      obtain ⟨y, hy⟩ : ∃ y, es[i]? = some y := ⟨_, List.getElem?_eq_getElem (by omega)⟩
      rw [hy, Option.bind_eq_some_iff] at this
      obtain ⟨cs, h1, h2⟩ := this
      exact ⟨cs, h1, by rw [h2, hy]⟩
    obtain ⟨css, hcl, hcss⟩ : ∃ css : List (List Value), css.length = len ∧ ∀ (i : Nat) cs, css[i]? = some cs → W.cells? base (a.add (i * sz)) sz = some cs ∧ DataW.trod enc P W base spare held n e cs = es[i]? := by
      refine ⟨(List.range len).attach.map fun ⟨i, hi⟩ => Classical.choose (hx i (by simpa using hi)), by simp, fun i cs hi => ?_⟩
      simp only [List.getElem?_map, Option.map_eq_some_iff] at hi
      obtain ⟨⟨j, hj⟩, h1, rfl⟩ := hi
      have hji : j = i := by
        have := congrArg (Option.map Subtype.val) h1
        simp only [← List.getElem?_map, List.attach_map_subtype_val, Option.map_some] at this
        have hr := (List.getElem?_eq_some_iff.1 this).2
        simpa using hr.symm
      subst hji
      exact Classical.choose_spec (hx j (by simpa using hj))
    refine ⟨a, len, cap, n, es, rs.map (·.1), css, hcs, hl, rfl, hle, hcl, fun i cs hi => ?_⟩
    obtain ⟨h1, h2⟩ := hcss i cs hi
    obtain ⟨g1, g2⟩ := cells_get h1
    refine ⟨g1, fun j u hu => ?_, h2⟩
    have := g2 j u hu
    rw [← this, add_add]
end
end Go.X
namespace Go.Proofs.YtidbcaimgahllaaGreat
set_option linter.unusedSectionVars false
set_option linter.unusedSimpArgs false
set_option linter.unusedVariables false
open Go.X

theorem bulk_one {H : Type} (d : DataW H) : 1 ≤ Rows.uptoBulk d := by
  cases d with
  | lit l => cases l <;> simp [Rows.uptoBulk]
  | nil => simp [Rows.uptoBulk]
  | ptr d => simp [Rows.uptoBulk]
  | slice elems spare => simp [Rows.uptoBulk]
  | agg parts => simp [Rows.uptoBulk]
  | iface t d => simp [Rows.uptoBulk]
  | map entries => simp [Rows.uptoBulk]
  | held h => simp [Rows.uptoBulk]
theorem bulk_len {H : Type} (l : List (DataW H)) : l.length ≤ Rows.uptoBulkAll l := by
  induction l with
  | nil => simp [Rows.uptoBulkAll]
  | cons x r ih => have := bulk_one x; simp only [Rows.uptoBulkAll, List.length_cons]; omega

section
variable {H : Type} {enc : TypeId × Value → H} {W : World} {base : Nat} {spare : Nat → Bool} {held : Bool} {fuel : Nat} {v : Value} {x : DataW H × List MemPlace} {cs : List Value}

theorem cellsInt : Tryz.prog.cellsOf 3 = 1 := by kernel_rfl
theorem cellsU64 : Tryz.prog.cellsOf 40 = 1 := by kernel_rfl
theorem cellsU8 : Tryz.prog.cellsOf 5 = 1 := by kernel_rfl
theorem cellsStr : Tryz.prog.cellsOf 9 = 1 := by kernel_rfl
theorem cellsInts : Tryz.prog.cellsOf 50 = 1 := by kernel_rfl
theorem cellsBytes : Tryz.prog.cellsOf 42 = 1 := by kernel_rfl
theorem cellsOp : Tryz.prog.cellsOf 52 = 9 := by kernel_rfl

theorem nine {α : Type} {l : List α} (h : l.length = 9) : ∃ c0 c1 c2 c3 c4 c5 c6 c7 c8, l = [c0, c1, c2, c3, c4, c5, c6, c7, c8] := by
  match l with
  | [a, b, c, d, e, f, g, i, j] => exact ⟨a, b, c, d, e, f, g, i, j, rfl⟩

def OM.bulk (o : OM) : Nat := o.bucket.size + o.key.size + o.after.size + o.parts.length + o.data.length

theorem len_le {es rs : List (DataW H)} : es.length ≤ Rows.uptoBulk (.slice es rs) := by
  have := bulk_len es; simp only [Rows.uptoBulk]; omega

theorem slice_small {t e : TypeId} {p : Option Addr} {len cap : Nat} (ht : Tryz.prog.underlying t = some (.slice e)) (h : DataW.trod enc Tryz.prog W base spare held fuel t [.slice p len cap] = some x) : len ≤ 9223372036854775807 := by
  rcases DataW.trod_slice ht h with ⟨hcs, rfl⟩ | ⟨a, l, c, es, rs, n, rfl, hcs, rfl, hb, hl, hm, _⟩
  · simp at hcs; omega
  · simp at hcs
    have : maxLen = 9223372036854775807 := rfl
    omega

set_option maxRecDepth 100000 in
theorem op_in (h : DataW.trod enc Tryz.prog W base spare held fuel 52 cs = some x) : ∃ y : OW, cs = y.cells ∧ y.ok (old W) ∧ y.o.bulk ≤ Rows.uptoBulk x.1 ∧ (y.o.id ≤ 18446744073709551615 ∧ y.o.upload ≤ 18446744073709551615) := by
  obtain ⟨xs, m, rfl, rfl, hl, hxl, hf⟩ := DataW.trod_struct Tryz.underlying52 h
  rw [cellsOp] at hl
  obtain ⟨c0, c1, c2, c3, c4, c5, c6, c7, c8, rfl⟩ : ∃ c0 c1 c2 c3 c4 c5 c6 c7 c8, cs = [c0, c1, c2, c3, c4, c5, c6, c7, c8] := nine hl
  obtain ⟨x0, x1, x2, x3, x4, x5, x6, x7, x8, rfl⟩ : ∃ x0 x1 x2 x3 x4 x5 x6 x7 x8, xs = [x0, x1, x2, x3, x4, x5, x6, x7, x8] := nine hxl
  have f0 : DataW.trod enc Tryz.prog W base spare held m 40 (([c0, c1, c2, c3, c4, c5, c6, c7, c8].drop 0).take (Tryz.prog.cellsOf 40)) = [x0, x1, x2, x3, x4, x5, x6, x7, x8][0]? := hf 0 _ rfl
  have f1 : DataW.trod enc Tryz.prog W base spare held m 3 (([c0, c1, c2, c3, c4, c5, c6, c7, c8].drop 1).take (Tryz.prog.cellsOf 3)) = [x0, x1, x2, x3, x4, x5, x6, x7, x8][1]? := hf 1 _ rfl
  have f2 : DataW.trod enc Tryz.prog W base spare held m 9 (([c0, c1, c2, c3, c4, c5, c6, c7, c8].drop 2).take (Tryz.prog.cellsOf 9)) = [x0, x1, x2, x3, x4, x5, x6, x7, x8][2]? := hf 2 _ rfl
  have f3 : DataW.trod enc Tryz.prog W base spare held m 9 (([c0, c1, c2, c3, c4, c5, c6, c7, c8].drop 3).take (Tryz.prog.cellsOf 9)) = [x0, x1, x2, x3, x4, x5, x6, x7, x8][3]? := hf 3 _ rfl
  have f4 : DataW.trod enc Tryz.prog W base spare held m 9 (([c0, c1, c2, c3, c4, c5, c6, c7, c8].drop 4).take (Tryz.prog.cellsOf 9)) = [x0, x1, x2, x3, x4, x5, x6, x7, x8][4]? := hf 4 _ rfl
  have f5 : DataW.trod enc Tryz.prog W base spare held m 3 (([c0, c1, c2, c3, c4, c5, c6, c7, c8].drop 5).take (Tryz.prog.cellsOf 3)) = [x0, x1, x2, x3, x4, x5, x6, x7, x8][5]? := hf 5 _ rfl
  have f6 : DataW.trod enc Tryz.prog W base spare held m 40 (([c0, c1, c2, c3, c4, c5, c6, c7, c8].drop 6).take (Tryz.prog.cellsOf 40)) = [x0, x1, x2, x3, x4, x5, x6, x7, x8][6]? := hf 6 _ rfl
  have f7 : DataW.trod enc Tryz.prog W base spare held m 50 (([c0, c1, c2, c3, c4, c5, c6, c7, c8].drop 7).take (Tryz.prog.cellsOf 50)) = [x0, x1, x2, x3, x4, x5, x6, x7, x8][7]? := hf 7 _ rfl
  have f8 : DataW.trod enc Tryz.prog W base spare held m 42 (([c0, c1, c2, c3, c4, c5, c6, c7, c8].drop 8).take (Tryz.prog.cellsOf 42)) = [x0, x1, x2, x3, x4, x5, x6, x7, x8][8]? := hf 8 _ rfl
  simp only [cellsInt, cellsStr, cellsU64, cellsInts, cellsBytes, List.drop_zero, List.drop_succ_cons, List.take_succ_cons, List.take_zero, List.getElem?_cons_zero, List.getElem?_cons_succ] at f0 f1 f2 f3 f4 f5 f6 f7 f8
  obtain ⟨n0, e0, rfl, w0⟩ := DataW.trod_int Tryz.underlying40 f0
  obtain ⟨n1, e1, rfl, w1⟩ := DataW.trod_int Tryz.underlying3 f1
  obtain ⟨s2, e2, rfl, z2⟩ := DataW.trod_string Tryz.underlying9 f2
  obtain ⟨s3, e3, rfl, z3⟩ := DataW.trod_string Tryz.underlying9 f3
  obtain ⟨s4, e4, rfl, z4⟩ := DataW.trod_string Tryz.underlying9 f4
  obtain ⟨n5, e5, rfl, w5⟩ := DataW.trod_int Tryz.underlying3 f5
  obtain ⟨n6, e6, rfl, w6⟩ := DataW.trod_int Tryz.underlying40 f6
  simp at e0 e1 e2 e3 e4 e5 e6
  subst e0 e1 e2 e3 e4 e5 e6
  have u0 := (wf_has w0).1
  have u6 := (wf_has w6).1
  obtain ⟨m0, rfl⟩ : ∃ k : Nat, n0 = k := ⟨n0.toNat, by have : (0 : Int) ≤ n0 := u0; omega⟩
  obtain ⟨m6, rfl⟩ : ∃ k : Nat, n6 = k := ⟨n6.toNat, by have : (0 : Int) ≤ n6 := u6; omega⟩
  obtain ⟨p7, len7, cap7, zs7, rfl, hc7, hz7, hr7, hw7, hx7⟩ := ints_in Tryz.underlying50 Tryz.underlying3 cellsInt f7
  obtain ⟨p8, len8, cap8, zs8, rfl, hc8, hz8, hr8, hw8, hx8⟩ := ints_in Tryz.underlying42 Tryz.underlying5 cellsU8 f8
  obtain ⟨bs, hb1, hb2⟩ := ints_bytes zs8 hw8
  have l7 := slice_small Tryz.underlying50 f7
  have l8 := slice_small Tryz.underlying42 f8
  have h8 : len8 = bs.length := by omega
  subst h8
  have h7 : len7 = zs7.length := by omega
  subst h7
  refine ⟨⟨⟨m0, n1, s2, s3, s4, n5, m6, zs7, bs⟩, p7, cap7, p8, cap8⟩, rfl, ⟨hr7, by rw [← hb2]; exact hr8, ?_⟩, ?_, ⟨by have h : (m0 : Int) ≤ 18446744073709551615 := (wf_has w0).2; show m0 ≤ _; omega, by have h : (m6 : Int) ≤ 18446744073709551615 := (wf_has w6).2; show m6 ≤ _; omega⟩⟩
  · exact ⟨z2, z3, z4, l7, l8⟩
  · have hs2 : s2.data.toList.length = s2.size := by simp
    have hs3 : s3.data.toList.length = s3.size := by simp
    have hs4 : s4.data.toList.length = s4.size := by simp
    have b7 : zs7.length ≤ Rows.uptoBulk x7.1 := by
      rcases hx7 with ⟨_, h0⟩ | ⟨es, rs, hx, hl⟩
      · omega
      · rw [hx]; have := len_le (es := es) (rs := rs); omega
    have b8 : bs.length ≤ Rows.uptoBulk x8.1 := by
      rcases hx8 with ⟨_, h0⟩ | ⟨es, rs, hx, hl⟩
      · omega
      · rw [hx]; have := len_le (es := es) (rs := rs); omega
    simp only [Rows.uptoBulk, List.map_cons, List.map_nil, Rows.uptoBulkAll, OM.bulk]
    omega
end
end Go.Proofs.YtidbcaimgahllaaGreat
namespace Go.Proofs.YtidbcaimgahllaaGreat
set_option linter.unusedSectionVars false
set_option linter.unusedSimpArgs false
set_option linter.unusedVariables false
open Go.X
open Go.X.G (Ord3 ord3_nat ord3_int ord3_str ltB sget sput sdel Srtd MapAt MapHole)

def bulks (l : List OW) : Nat := (l.map fun x => x.o.bulk).sum
end Go.Proofs.YtidbcaimgahllaaGreat
namespace Go.Proofs.YtidbcaimgahllaaGreat
set_option linter.unusedSectionVars false
set_option linter.unusedSimpArgs false
set_option linter.unusedVariables false
open Go.X

theorem clip_spec (p : Option Addr) (c : Nat) (bs : List UInt8) (hn : bs.length ≤ 9223372036854775807) : FSpec Tryz.prog 80 [.slice p bs.length c] [own 5 1 (.slice p bs.length c) (bytesV bs)] (fun v B => v = .slice p bs.length bs.length ∧ B = [own 5 1 (.slice p bs.length bs.length) (bytesV bs)]) := by
  refine FSpec.of Tryz.func80 rfl Tryz.ntmps80 rfl fun W0 F => ?_
  refine J.seq <| J.region <| J.p rfl (Q.asg rfl) <| J.nil <| J.then_n <| J.seq ?_
  refine J.tells 0 rfl own.len fun hln => ?_
  obtain ⟨_, hcap⟩ := hln
  refine J.region <| J.m rfl <| J.m rfl <| J.p rfl (Q.lenSl Tryz.runUnderlying42 rfl) <| J.m rfl <| J.p rfl (Q.lenSl Tryz.runUnderlying42 rfl) <| J.p rfl (Q.slHM Tryz.runUnderlying42 Tryz.sizeOf5 rfl rfl rfl (by omega) (by omega) (by omega)) <| J.p rfl (Q.asg rfl) <| J.nil <| J.then_n <| J.cret ?_
  refine J.conv (Y := own 5 1 (.slice p bs.length bs.length) (bytesV bs)) 0 rfl own.clip ?_
  refine J.ret1 (B := [own 5 1 (.slice p bs.length bs.length) (bytesV bs)]) rfl rfl ⟨rfl, rfl⟩ rfl

theorem number_spec (p : Option Addr) (c : Nat) (bs : List UInt8) (v : Nat) (hn : bs.length ≤ 70368744100000) (hv : v ≤ 18446744073709551615) : FSpec Tryz.prog 65 [.slice p bs.length c, .int .u64 v] [own 5 1 (.slice p bs.length c) (bytesV bs)]
    (fun u B => ∃ p' c', u = .slice p' (bs ++ numB v).length c' ∧ B = [own 5 1 (.slice p' (bs ++ numB v).length c') (bytesV (bs ++ numB v))]) := by
  refine FSpec.of Tryz.func65 rfl Tryz.ntmps65 rfl fun W0 F => ?_
  refine J.seq <| J.region <| J.p rfl (Q.asg rfl) <| J.nil <| J.then_n <| J.seq <| J.region <| J.m rfl ?_
  refine J.call Tryz.call80 (clip_spec p c bs (by omega)) [0] rfl rfl rfl rfl ?_
  rintro _ _ ⟨rfl, rfl⟩
  refine J.norm rfl <| J.p rfl (Q.asg rfl) <| J.nil <| J.then_n <| J.seq <| J.block ?_
  refine J.loop (fun z : List UInt8 × Nat × Option Addr × Nat => z.1 ++ numB z.2.1 = bs ++ numB v ∧ z.2.1 ≤ 18446744073709551615 ∧ z.1.length ≤ bs.length + (numB v).length) (fun z => z.2.1) (fun z => [(0, .slice z.2.2.1 z.1.length z.2.2.2), (1, .int .u64 z.2.1)]) (fun z => [own 5 1 (.slice z.2.2.1 z.1.length z.2.2.2) (bytesV z.1), F]) (bs, v, p, bs.length) ⟨rfl, hv, by show bs.length ≤ _; omega⟩ ⟨rfl, rfl, trivial⟩ rfl fun z hz => ?_
  obtain ⟨acc, w, q, d⟩ := z
  obtain ⟨hz1, hz2, hz3⟩ := hz
  dsimp only at hz1 hz2 hz3
  refine J.seq <| J.seq <| J.region <| J.m rfl <| J.p rfl (Q.geq rfl rfl) <| J.nil <| J.then_n ?_
  refine J.cases 8 rfl (fun hc8 => ?_) (fun hc8 => ?_)
  ·
   replace hc8 := X.nm hc8
   try (first | (cases hc8; done) | (exfalso; simp at hc8; done))
   all_goals
    refine J.cond_t rfl <| J.cskip <| J.then_n <| J.block <| J.seq ?_
    have hw : ¬ w < 128 := by have h := hc8; dsimp only at h; omega
    have hst := numB_step (v := w) hw
    refine J.region <| J.m rfl <| J.m rfl <| J.p rfl (Q.conv Tryz.runUnderlying40 Tryz.runUnderlying5 rfl) <| J.p rfl (Q.or rfl rfl) ?_
    refine J.slot 12 (byteV (UInt8.ofNat (w % 128 + 128))) rfl (by show Value.int .u8 _ = _; rw [or128 w]; rfl) ?_
    refine J.c rfl rfl (C.bslG (l := [_]) Tryz.runUnderlying42 Tryz.sizeOf5 Tryz.zeroValue5 (by decide) rfl rfl rfl rfl rfl) ?_
    rintro _ _ ⟨b13, rfl, rfl⟩
    refine J.norm rfl ?_
    refine J.conv (Y := own 5 1 (.slice (some ⟨b13, 0, none⟩) 1 1) (bytesV [UInt8.ofNat (w % 128 + 128)])) 0 rfl (own_of_block rfl) ?_
    refine J.slr1 0 rfl fun hs13 => ?_
    refine J.c rfl rfl (C.app (i := 1) Tryz.runUnderlying42 Tryz.runUnderlying42 Tryz.typeInfo5 Tryz.sizeOf5 Tryz.zeroValue5 rfl rfl rfl (hs13.within (i := 0) rfl) (bytesV_one _) (by rw [show Tryz.t5.bytes = 1 from rfl]; show (acc.length + 1) * 1 ≤ _; have := numB_len v hv; omega) (by decide)) ?_
    rintro _ _ ⟨p14, c14, rfl, rfl⟩
    refine J.norm rfl <| J.p rfl (Q.asg rfl) <| J.nil <| J.then_n <| J.region <| J.m rfl <| J.p rfl (Q.shr rfl rfl (by omega)) ?_
    refine J.slot 16 (.int .u64 ((w / 128 : Nat) : Int)) rfl (by show Value.int .u64 _ = _; congr 1; show (w : Int).fdiv (2 ^ 7) = _; rw [Int.fdiv_eq_ediv_of_nonneg _ (by decide)]; omega) ?_
    refine J.p rfl (Q.asg rfl) <| J.nil <| J.blk_n ?_
    refine J.keep [1, 2] rfl ?_
    have hbl : (acc ++ [UInt8.ofNat (w % 128 + 128)]).length = acc.length + 1 := by simp
    refine J.again (acc ++ [UInt8.ofNat (w % 128 + 128)], w / 128, p14, c14) ⟨?_, by show w / 128 ≤ _; omega, ?_⟩ (by show w / 128 < w; omega) ⟨(by show _ = some (Value.slice p14 _ c14); rw [hbl]; rfl), rfl, trivial⟩ ?_
    · show (acc ++ [UInt8.ofNat (w % 128 + 128)]) ++ numB (w / 128) = bs ++ numB v
      rw [← hz1, hst, List.append_assoc]; rfl
    · have h1 := congrArg List.length hz1
      rw [hst] at h1
      simp only [List.length_append, List.length_cons] at h1
      show (acc ++ [UInt8.ofNat (w % 128 + 128)]).length ≤ _
      rw [hbl]; omega
    · show _ = [own 5 1 (.slice p14 (acc ++ [UInt8.ofNat (w % 128 + 128)]).length c14) (bytesV (acc ++ [UInt8.ofNat (w % 128 + 128)])), _]
      rw [hbl, ← bytesV_append]
  replace hc8 := X.nm hc8
  try (first | (cases hc8; done) | (exfalso; simp at hc8; done))
  all_goals
   refine J.cond_f rfl <| J.exit <| J.then_x <| J.lp_x <| J.blk_x <| J.then_n <| J.seq ?_
   have hlt : w < 128 := by have h := hc8; dsimp only at h; omega
   rw [numB_small hlt] at hz1
   refine J.region <| J.m rfl <| J.m rfl <| J.p rfl (Q.conv Tryz.runUnderlying40 Tryz.runUnderlying5 rfl) ?_
   refine J.slot 19 (byteV (UInt8.ofNat w)) rfl (by show Value.int .u8 _ = _; rw [low8 hlt]; rfl) ?_
   refine J.c rfl rfl (C.bslG (l := [_]) Tryz.runUnderlying42 Tryz.sizeOf5 Tryz.zeroValue5 (by decide) rfl rfl rfl rfl rfl) ?_
   rintro _ _ ⟨b20, rfl, rfl⟩
   refine J.norm rfl ?_
   refine J.conv (Y := own 5 1 (.slice (some ⟨b20, 0, none⟩) 1 1) (bytesV [UInt8.ofNat w])) 0 rfl (own_of_block rfl) ?_
   refine J.slr1 0 rfl fun hs20 => ?_
   refine J.c rfl rfl (C.app (i := 1) Tryz.runUnderlying42 Tryz.runUnderlying42 Tryz.typeInfo5 Tryz.sizeOf5 Tryz.zeroValue5 rfl rfl rfl (hs20.within (i := 0) rfl) (bytesV_one _) (by rw [show Tryz.t5.bytes = 1 from rfl]; show (acc.length + 1) * 1 ≤ _; have := numB_len v hv; omega) (by decide)) ?_
   rintro _ _ ⟨p21, c21, rfl, rfl⟩
   refine J.norm rfl <| J.p rfl (Q.asg rfl) <| J.nil <| J.then_n <| J.cret ?_
   rw [← hz1]
   have hbl : (acc ++ [UInt8.ofNat w]).length = acc.length + 1 := by simp
   refine J.keep [1, 2] rfl ?_
   refine J.ret1 (B := [own 5 1 (.slice p21 (acc ++ [UInt8.ofNat w]).length c21) (bytesV (acc ++ [UInt8.ofNat w]))]) rfl rfl ⟨p21, c21, by rw [hbl], rfl⟩ ?_
   show _ = [own 5 1 (.slice p21 (acc ++ [UInt8.ofNat w]).length c21) (bytesV (acc ++ [UInt8.ofNat w])), F]
   rw [hbl, ← bytesV_append]

def encB (bs : List UInt8) : List UInt8 := numB bs.length ++ bs

section
variable (G : Assn) (q : Option Addr) (e : Nat) (bs : List UInt8) (hs : SlR [G] 1 (.slice q bs.length e) (bytesV bs)) (hn : bs.length ≤ 70368744100000) (b : Nat)
include hs hn
theorem size_spec : FSpec Tryz.prog 81 [.slice (some ⟨b, 0, none⟩) 1 1] [pt b (.cells [.slice q bs.length e].toArray 42 (0, 0)), G] (fun v B => v = .int .i64 bs.length ∧ B = [pt b (.cells [.slice q bs.length e].toArray 42 (0, 0)), G]) := by
  refine FSpec.of Tryz.func81 rfl Tryz.ntmps81 rfl fun W0 F => ?_
  refine J.seq <| J.region <| J.p rfl (Q.asg rfl) <| J.nil <| J.then_n <| J.seq <| J.region <| J.p rfl (Q.asg rfl) <| J.nil <| J.then_n <| J.seq <| J.seq <| J.region <| J.m rfl <| J.p rfl (Q.lenSl Tryz.runUnderlying175 rfl) <| J.m rfl <| J.nil <| J.then_n <| J.block ?_
  refine J.loop2 (fun (i : Nat) (z : Int) => i ≤ 1 ∧ z = (if i = 0 then 0 else bs.length : Nat)) (fun i _ => 1 - i) (fun i z => [(3, .int .i64 z), (6, .slice (some ⟨b, 0, none⟩) 1 1), (7, .int .i64 1), (8, .int .i64 i)]) (fun _ _ => [pt b (.cells [.slice q bs.length e].toArray 42 (0, 0)), G, F]) 0 0 ⟨Nat.zero_le _, rfl⟩ ⟨rfl, rfl, rfl, rfl, trivial⟩ rfl fun i z hz => ?_
  obtain ⟨hi, hz⟩ := hz
  refine J.seq <| J.region <| J.p rfl (Q.lss rfl rfl) <| J.nil <| J.then_n <| J.seq ?_
  refine J.cases 9 rfl (fun hc9 => ?_) (fun hc9 => ?_)
  ·
   replace hc9 := X.nm hc9
   try (first | (cases hc9; done) | (exfalso; simp at hc9; done))
   all_goals
    refine J.cond_t rfl <| J.cskip <| J.then_n <| J.seq <| J.block <| J.seq ?_
    obtain rfl : i = 0 := by omega
    rw [if_pos rfl] at hz
    refine J.region <| J.p rfl (Q.ia Tryz.runUnderlying175 Tryz.sizeOf42 rfl rfl (by omega) (by omega)) ?_
    refine J.p rfl (Q.ld Tryz.isAgg42 rfl (rdI (by exact rfl))) ?_
    refine J.p rfl (Q.asg rfl) <| J.nil <| J.then_n <| J.region <| J.m rfl <| J.m rfl <| J.p rfl (Q.lenSl Tryz.runUnderlying42 rfl) <| J.p rfl (Q.add64 rfl rfl (by omega)) <| J.p rfl (Q.asg rfl) <| J.nil <| J.blk_n <| J.then_n <| J.region <| J.p rfl (Q.add64 rfl rfl (by omega)) <| J.m rfl <| J.nil ?_
    refine J.again (1, _) ⟨Nat.le_refl _, by show _ = ((if (1 : Nat) = 0 then 0 else bs.length : Nat) : Int); rw [if_neg (by decide), hz]; simp⟩ (by show 1 - 1 < 1 - 0; omega) ⟨rfl, rfl, rfl, rfl, trivial⟩ rfl
  replace hc9 := X.nm hc9
  try (first | (cases hc9; done) | (exfalso; simp at hc9; done))
  all_goals
   refine J.cond_f rfl <| J.exit <| J.then_x <| J.lp_x <| J.blk_x <| J.then_n <| J.seq <| J.region <| J.m rfl <| J.p rfl (Q.asg rfl) <| J.nil <| J.then_n <| J.cret ?_
   obtain rfl : i = 1 := by omega
   rw [if_neg (by decide)] at hz
   subst hz
   refine J.ret1 (B := [_, _]) rfl rfl ⟨rfl, rfl⟩ rfl

theorem bytes_spec (p : Option Addr) (c : Nat) (acc : List UInt8) (ha : acc.length ≤ 70368744100000) : FSpec Tryz.prog 66 [.slice p acc.length c, .slice (some ⟨b, 0, none⟩) 1 1] [own 5 1 (.slice p acc.length c) (bytesV acc), pt b (.cells [.slice q bs.length e].toArray 42 (0, 0)), G]
    (fun u B => ∃ p' c', u = .slice p' (acc ++ encB bs).length c' ∧ B = [own 5 1 (.slice p' (acc ++ encB bs).length c') (bytesV (acc ++ encB bs)), G]) := by
  refine FSpec.of Tryz.func66 rfl Tryz.ntmps66 rfl fun W0 F => ?_
  refine J.seq <| J.region <| J.p rfl (Q.asg rfl) <| J.nil <| J.then_n <| J.seq <| J.region <| J.m rfl <| J.m rfl ?_
  refine J.call Tryz.call81 (size_spec G q e bs hs hn b) [1, 2] rfl rfl rfl rfl ?_
  rintro _ _ ⟨rfl, rfl⟩
  refine J.norm rfl <| J.p rfl (Q.conv Tryz.runUnderlying3 Tryz.runUnderlying40 rfl) ?_
  refine J.slot 10 (.int .u64 (bs.length : Int)) rfl (by congr 1; exact wrap64 (by omega)) ?_
  refine J.call Tryz.call65 (number_spec p c acc bs.length (by omega) (by omega)) [2] rfl rfl rfl rfl ?_
  rintro _ _ ⟨p1, c1, rfl, rfl⟩
  refine J.norm rfl ?_
  have hnl := numB_len bs.length (by omega)
  refine J.p rfl (Q.asg rfl) <| J.nil <| J.then_n <| J.seq <| J.seq <| J.region <| J.m rfl <| J.p rfl (Q.lenSl Tryz.runUnderlying175 rfl) <| J.m rfl <| J.nil <| J.then_n <| J.block ?_
  refine J.loop3 (fun (i : Nat) (p' : Option Addr) (c' : Nat) => i ≤ 1) (fun i _ _ => 1 - i) (fun i p' c' => [(0, .slice p' (acc ++ numB bs.length ++ (if i = 0 then [] else bs)).length c'), (12, .slice (some ⟨b, 0, none⟩) 1 1), (13, .int .i64 1), (14, .int .i64 i)]) (fun i p' c' => [own 5 1 (.slice p' (acc ++ numB bs.length ++ (if i = 0 then [] else bs)).length c') (bytesV (acc ++ numB bs.length ++ (if i = 0 then [] else bs))), pt b (.cells [.slice q bs.length e].toArray 42 (0, 0)), G, F]) 0 p1 c1 (Nat.zero_le _) ⟨by rw [if_pos rfl, List.append_nil]; rfl, rfl, rfl, rfl, trivial⟩ (by rw [if_pos rfl, List.append_nil]) fun i p' c' hi => ?_
  refine J.seq <| J.region <| J.p rfl (Q.lss rfl rfl) <| J.nil <| J.then_n <| J.seq ?_
  refine J.cases 15 rfl (fun hc15 => ?_) (fun hc15 => ?_)
  ·
   replace hc15 := X.nm hc15
   try (first | (cases hc15; done) | (exfalso; simp at hc15; done))
   all_goals
    refine J.cond_t rfl <| J.cskip <| J.then_n <| J.seq <| J.block <| J.seq ?_
    obtain rfl : i = 0 := by omega
    rw [if_pos rfl, List.append_nil]
    refine J.region <| J.p rfl (Q.ia Tryz.runUnderlying175 Tryz.sizeOf42 rfl rfl (by omega) (by omega)) ?_
    refine J.p rfl (Q.ld Tryz.isAgg42 rfl (rdI (by exact rfl))) ?_
    refine J.p rfl (Q.asg rfl) <| J.nil <| J.then_n <| J.region <| J.m rfl <| J.m rfl ?_
    refine J.c rfl rfl (C.app (i := 0) Tryz.runUnderlying42 Tryz.runUnderlying42 Tryz.typeInfo5 Tryz.sizeOf5 Tryz.zeroValue5 rfl rfl rfl (hs.within (i := 2) rfl) (bytesV_one _) (by rw [show Tryz.t5.bytes = 1 from rfl, List.length_append]; omega) (by decide)) ?_
    rintro _ _ ⟨p2, c2, rfl, rfl⟩
    refine J.norm rfl <| J.p rfl (Q.asg rfl) <| J.nil <| J.blk_n <| J.then_n <| J.region <| J.p rfl (Q.add64 rfl rfl (by omega)) <| J.m rfl <| J.nil ?_
    refine J.again (1, p2, c2) (Nat.le_refl _) (by show 1 - 1 < 1 - 0; omega) ⟨(by show _ = some (Value.slice p2 (acc ++ numB bs.length ++ (if (1 : Nat) = 0 then [] else bs)).length c2); rw [if_neg (by decide), X.len_app (acc ++ numB bs.length)]; rfl), rfl, rfl, rfl, trivial⟩ ?_
    show _ = [own 5 1 (.slice p2 (acc ++ numB bs.length ++ (if (1 : Nat) = 0 then [] else bs)).length c2) (bytesV (acc ++ numB bs.length ++ (if (1 : Nat) = 0 then [] else bs))), _, _, _]
    rw [if_neg (by decide), X.len_app (acc ++ numB bs.length), ← bytesV_append (acc ++ numB bs.length) bs]
  replace hc15 := X.nm hc15
  try (first | (cases hc15; done) | (exfalso; simp at hc15; done))
  all_goals
   refine J.cond_f rfl <| J.exit <| J.then_x <| J.lp_x <| J.blk_x <| J.then_n <| J.seq ?_
   obtain rfl : i = 1 := by omega
   rw [if_neg (by decide), List.append_assoc]
   refine J.region <| J.m rfl <| J.p rfl (Q.asg rfl) <| J.nil <| J.then_n <| J.cret ?_
   refine J.keep [0, 2, 3] rfl ?_
   refine J.ret1 (B := [own 5 1 (.slice p' (acc ++ encB bs).length c') (bytesV (acc ++ encB bs)), G]) rfl rfl ⟨p', c', rfl, rfl⟩ rfl
end
end Go.Proofs.YtidbcaimgahllaaGreat
namespace Go.Proofs.YtidbcaimgahllaaGreat
set_option linter.unusedSectionVars false
set_option linter.unusedSimpArgs false
set_option linter.unusedVariables false
open Go.X

def rdGo : Nat → Nat → List UInt8 → Nat × Nat × Nat
  | _, _, [] => (0, 0, 11)
  | i, v, c :: cs =>
    if i = 9 ∧ 1 < c.toNat then (0, 0, 12)
    else if c.toNat < 128 then (if c.toNat = 0 ∧ 0 < i then (0, 0, 12) else (v + 2 ^ (7 * i) * c.toNat, i + 1, 0))
    else rdGo (i + 1) (v + 2 ^ (7 * i) * (c.toNat % 128)) cs
def rdN (bs : List UInt8) : Nat × Nat × Nat := rdGo 0 0 bs

theorem rdGo_numB : ∀ (n w i acc : Nat) (rest : List UInt8), w ≤ n → (0 < i → 1 ≤ w) → (i = 9 → w ≤ 1) → acc + 2 ^ (7 * i) * w < 18446744073709551616 → rdGo i acc (numB w ++ rest) = (acc + 2 ^ (7 * i) * w, i + (numB w).length, 0) := by
  intro n
  induction n with
  | zero =>
    intro w i acc rest hn h1 _ _
    obtain rfl : w = 0 := by omega
    obtain rfl : i = 0 := by omega
    rw [numB_small (by decide)]
    simp [rdGo]
  | succ n ih =>
    intro w i acc rest hn h1 h9 hb
    by_cases hw : w < 128
    · rw [numB_small hw]
      have e : (UInt8.ofNat w).toNat = w := by simp; omega
      simp only [List.cons_append, List.nil_append, rdGo, e, List.length_cons, List.length_nil]
      rw [if_neg (by omega), if_pos hw, if_neg (by omega)]
    · rw [numB_step hw]
      have e : (UInt8.ofNat (w % 128 + 128)).toNat = w % 128 + 128 := by simp; omega
      have hi9 : i ≠ 9 := fun h => by have := h9 h; omega
      simp only [List.cons_append, rdGo, e, List.length_cons]
      rw [if_neg (by omega), if_neg (by omega), show (w % 128 + 128) % 128 = w % 128 by omega]
      have hp7 : (2 : Nat) ^ (7 * (i + 1)) = 2 ^ (7 * i) * 128 := by rw [show 7 * (i + 1) = 7 * i + 7 by omega, Nat.pow_add]
      have hmd : 2 ^ (7 * i) * w = 2 ^ (7 * i) * (w % 128) + 2 ^ (7 * i) * 128 * (w / 128) := by rw [Nat.mul_assoc, ← Nat.mul_add]; congr 1; omega
      have h90 : i + 1 = 9 → w / 128 ≤ 1 := fun h => by
        rw [← hp7, h, show (2 : Nat) ^ (7 * 9) = 9223372036854775808 by decide] at hmd
        omega
      rw [ih (w / 128) (i + 1) _ rest (by omega) (fun _ => by omega) h90 (by rw [hp7]; omega), hp7]
      congr 1
      · omega
      · congr 1; omega
theorem rdN_numB {v : Nat} (h : v ≤ 18446744073709551615) (rest : List UInt8) : rdN (numB v ++ rest) = (v, (numB v).length, 0) := by
  unfold rdN
  rw [rdGo_numB v v 0 0 rest (Nat.le_refl _) (fun h => absurd h (Nat.lt_irrefl 0)) (by omega) (by simp; omega)]
  simp

theorem rdGo_bd : ∀ (bs : List UInt8) (i v : Nat), i ≤ 9 → v < 2 ^ (7 * i) → (rdGo i v bs).1 ≤ 18446744073709551615 ∧ (rdGo i v bs).2.1 ≤ i + bs.length ∧ ((rdGo i v bs).2.2 = 0 → 1 ≤ (rdGo i v bs).2.1)
  | [], i, v, _, _ => by simp [rdGo]
  | c :: cs, i, v, hi, hv => by
    have hc : c.toNat < 256 := c.toNat_lt
    have h63 : (2 : Nat) ^ (7 * i) ≤ 9223372036854775808 := by
      have := Nat.pow_le_pow_right (n := 2) (by decide) (show 7 * i ≤ 63 by omega)
      rwa [show (2 : Nat) ^ 63 = 9223372036854775808 by decide] at this
    simp only [rdGo, List.length_cons]
    split
    · simp
    · split
      · split
        · simp
        · refine ⟨?_, by show i + 1 ≤ _; omega, fun _ => by show 1 ≤ i + 1; omega⟩
          show v + 2 ^ (7 * i) * c.toNat ≤ _
          by_cases h9 : i = 9
          · subst h9
            have : c.toNat ≤ 1 := by omega
            have := Nat.mul_le_mul_left (2 ^ (7 * 9)) this
            omega
          · have h56 : (2 : Nat) ^ (7 * i) ≤ 72057594037927936 := by
              have := Nat.pow_le_pow_right (n := 2) (by decide) (show 7 * i ≤ 56 by omega)
              rwa [show (2 : Nat) ^ 56 = 72057594037927936 by decide] at this
            have h1 := Nat.mul_le_mul h56 (show c.toNat ≤ 127 by omega)
            omega
      · have hi' : i ≠ 9 := by omega
        have hp7 : (2 : Nat) ^ (7 * (i + 1)) = 2 ^ (7 * i) * 128 := by rw [show 7 * (i + 1) = 7 * i + 7 by omega, Nat.pow_add]
        have h1 : 2 ^ (7 * i) * (c.toNat % 128) ≤ 2 ^ (7 * i) * 127 := Nat.mul_le_mul_left _ (by omega)
        obtain ⟨a, b, d⟩ := rdGo_bd cs (i + 1) (v + 2 ^ (7 * i) * (c.toNat % 128)) (by omega) (by rw [hp7]; omega)
        exact ⟨a, by omega, d⟩
theorem rdN_bd (bs : List UInt8) : (rdN bs).1 ≤ 18446744073709551615 ∧ (rdN bs).2.1 ≤ bs.length ∧ ((rdN bs).2.2 = 0 → 1 ≤ (rdN bs).2.1) := by
  have := rdGo_bd bs 0 0 (by omega) (by simp)
  rwa [Nat.zero_add] at this

def rdB (bs : List UInt8) (most : Nat) : List UInt8 × Nat × Nat :=
  if (rdN bs).2.2 ≠ 0 then ([], 0, (rdN bs).2.2)
  else if most < (rdN bs).1 then ([], 0, 3)
  else if bs.length - (rdN bs).2.1 < (rdN bs).1 then ([], 0, 11)
  else ((bs.drop (rdN bs).2.1).take (rdN bs).1, (rdN bs).2.1 + (rdN bs).1, 0)
theorem rdB_bd (bs : List UInt8) (most : Nat) : (rdB bs most).1.length ≤ bs.length ∧ (rdB bs most).2.1 ≤ bs.length := by
  have := rdN_bd bs
  unfold rdB
  split
  · simp
  · split
    · simp
    · split
      · simp
      · simp only [List.length_take, List.length_drop]; omega
theorem rdB_encB {d : List UInt8} (h : d.length ≤ 18446744073709551615) (rest : List UInt8) {most : Nat} (hm : d.length ≤ most) : rdB (encB d ++ rest) most = (d, (encB d).length, 0) := by
  unfold rdB encB
  rw [List.append_assoc, rdN_numB h, if_neg (by simp), if_neg (by show ¬ most < d.length; omega), if_neg (by simp only [List.length_append]; omega)]
  dsimp only
  rw [List.drop_left, List.take_left, List.length_append]

structure RS where
  b : List UInt8
  bad : Bool
def RS.num (s : RS) : Nat × RS := ((rdN s.b).1, ⟨s.b.drop (rdN s.b).2.1, s.bad || decide ((rdN s.b).2.2 ≠ 0)⟩)
def RS.int (s : RS) : Nat × RS := if 1099511627776 < s.num.1 then (0, ⟨s.num.2.b, true⟩) else s.num
def RS.bytes (s : RS) : List UInt8 × RS := ((rdB s.b s.b.length).1, ⟨s.b.drop (rdB s.b s.b.length).2.1, s.bad || decide ((rdB s.b s.b.length).2.2 ≠ 0)⟩)
def RS.text (s : RS) : ByteArray × RS := (bt s.bytes.1, s.bytes.2)
def RS.intsGo : Nat → RS → List Nat × RS
  | 0, s => ([], s)
  | n + 1, s => if s.bad then ([], s) else (s.int.1 :: (RS.intsGo n s.int.2).1, (RS.intsGo n s.int.2).2)
def RS.ints (s : RS) : List Nat × RS := RS.intsGo s.int.1 s.int.2

theorem RS.num_len (s : RS) : s.num.2.b.length ≤ s.b.length := by simp [RS.num]
theorem RS.num_bd (s : RS) : s.num.1 ≤ 18446744073709551615 := (rdN_bd s.b).1
theorem RS.num_less (s : RS) (h : s.num.2.bad = false) : s.num.2.b.length + 1 ≤ s.b.length := by
  simp only [RS.num, Bool.or_eq_false_iff, decide_eq_false_iff_not, Decidable.not_not] at h
  have := rdN_bd s.b
  have h1 := this.2.2 (by omega)
  simp only [RS.num, List.length_drop]; omega
theorem RS.int_len (s : RS) : s.int.2.b.length ≤ s.b.length := by
  have := s.num_len
  unfold RS.int; split <;> exact this
theorem RS.int_bd (s : RS) : s.int.1 ≤ 1099511627776 := by
  unfold RS.int; split
  · simp
  · omega
theorem RS.int_less (s : RS) (h : s.int.2.bad = false) : s.int.2.b.length + 1 ≤ s.b.length := by
  unfold RS.int at h ⊢; split at h
  · cases h
  · rename_i hc; rw [if_neg hc]; exact s.num_less h
theorem num_at {v : Nat} (h : v ≤ 18446744073709551615) (rest : List UInt8) (bad : Bool) : RS.num ⟨numB v ++ rest, bad⟩ = (v, ⟨rest, bad⟩) := by
  simp [RS.num, rdN_numB h]
theorem int_at {v : Nat} (h : v ≤ 1099511627776) (rest : List UInt8) (bad : Bool) : RS.int ⟨numB v ++ rest, bad⟩ = (v, ⟨rest, bad⟩) := by
  unfold RS.int
  rw [num_at (by omega), if_neg (by show ¬ 1099511627776 < v; omega)]
theorem bytes_at {d : List UInt8} (h : d.length ≤ 18446744073709551615) (rest : List UInt8) (bad : Bool) : RS.bytes ⟨encB d ++ rest, bad⟩ = (d, ⟨rest, bad⟩) := by
  unfold RS.bytes
  rw [rdB_encB h rest (most := (encB d ++ rest).length) (by simp [encB]; omega)]
  simp
theorem intsGo_at : ∀ (l : List Nat) (rest : List UInt8), (∀ v, v ∈ l → v ≤ 1099511627776) → RS.intsGo l.length ⟨l.flatMap numB ++ rest, false⟩ = (l, ⟨rest, false⟩)
  | [], rest, _ => rfl
  | v :: l, rest, h => by
    simp only [List.length_cons, RS.intsGo, Bool.false_eq_true, if_false, List.flatMap_cons, List.append_assoc]
    rw [int_at (h v (by simp)), intsGo_at l rest fun u hu => h u (by simp [hu])]
theorem ints_at {l : List Nat} (h : ∀ v, v ∈ l → v ≤ 1099511627776) (hl : l.length ≤ 1099511627776) (rest : List UInt8) : RS.ints ⟨numB l.length ++ (l.flatMap numB ++ rest), false⟩ = (l, ⟨rest, false⟩) := by
  unfold RS.ints
  rw [int_at hl]
  exact intsGo_at l rest h

def opB (o : OM) : List UInt8 :=
  [1, o.id, o.kind.toNat].flatMap numB ++ [o.bucket, o.key, o.after].flatMap (fun s => encB s.data.toList) ++ [o.n.toNat, o.upload, o.parts.length].flatMap numB ++ (o.parts.map Int.toNat).flatMap numB ++ encB o.data
def RS.op (s : RS) : OM × RS :=
  let a := s.num
  let b := a.2.int
  let c := b.2.text
  let d := c.2.text
  let e := d.2.text
  let f := e.2.int
  let g := f.2.num
  let h := g.2.ints
  let i := h.2.bytes
  (⟨a.1, b.1, c.1, d.1, e.1, f.1, g.1, h.1.map Int.ofNat, i.1⟩, i.2)
structure OM.fine (o : OM) : Prop where
  id : o.id ≤ 18446744073709551615
  kind : 0 ≤ o.kind ∧ o.kind ≤ 10
  n : 0 ≤ o.n ∧ o.n ≤ 10000
  up : o.upload ≤ 18446744073709551615
  parts : o.parts.length ≤ 10000 ∧ ∀ p, p ∈ o.parts → 0 ≤ p ∧ p ≤ 10000
  texts : o.bucket.size ≤ 1024 ∧ o.key.size ≤ 1024 ∧ o.after.size ≤ 1024
  data : o.data.length ≤ 16777216
theorem bt_self (s : ByteArray) : bt s.data.toList = s := by cases s; simp [bt]
theorem text_at {d : ByteArray} (h : d.size ≤ 1024) (rest : List UInt8) (bad : Bool) : RS.text ⟨encB d.data.toList ++ rest, bad⟩ = (d, ⟨rest, bad⟩) := by
  unfold RS.text
  rw [bytes_at (by have : d.data.toList.length = d.size := by simp
                   omega)]
  simp only [bt_self]
theorem op_at {o : OM} (h : o.fine) : (RS.num ⟨opB o, false⟩).1 = 1 ∧ RS.op (RS.num ⟨opB o, false⟩).2 = (o, ⟨[], false⟩) := by
  have e : opB o = numB 1 ++ (numB o.id ++ (numB o.kind.toNat ++ (encB o.bucket.data.toList ++ (encB o.key.data.toList ++ (encB o.after.data.toList ++ (numB o.n.toNat ++ (numB o.upload ++ (numB (o.parts.map Int.toNat).length ++ ((o.parts.map Int.toNat).flatMap numB ++ (encB o.data ++ [])))))))))) := by
    simp [opB]
  have h1 := h.kind
  have h2 := h.n
  have h3 := h.parts
  rw [e, num_at (by omega)]
  refine ⟨rfl, ?_⟩
  unfold RS.op
  dsimp only
  rw [num_at h.id, int_at (by omega), text_at h.texts.1, text_at h.texts.2.1, text_at h.texts.2.2, int_at (by omega), num_at h.up, ints_at (by
    intro v hv
    obtain ⟨p, hp, rfl⟩ := List.mem_map.1 hv
    have := h3.2 p hp
    omega) (by rw [List.length_map]; omega), bytes_at (by have := h.data; omega)]
  dsimp only
  have e1 : (o.parts.map Int.toNat).map Int.ofNat = o.parts := by
    rw [List.map_map]
    conv => rhs; rw [← List.map_id o.parts]
    refine List.map_congr_left fun p hp => ?_
    have := h3.2 p hp
    show ((p.toNat : Nat) : Int) = p
    omega
  rw [e1, show ((o.kind.toNat : Nat) : Int) = o.kind by omega, show ((o.n.toNat : Nat) : Int) = o.n by omega]

theorem emp_size {s : ByteArray} (h : emp s = true) : s.size = 0 := by
  have e : s.data.toList.length = s.size := by simp
  have h1 : s.data.toList = [] := by simpa [emp] using h
  rw [h1] at e; exact e.symm
theorem name_size {s : ByteArray} (h : nameOK s.data.toList = true) : s.size ≤ 64 := by
  have e : s.data.toList.length = s.size := by simp
  simp only [nameOK, Bool.and_eq_true, decide_eq_true_eq] at h; omega
theorem parts_in {l : List Int} (h : partsOK l = true) : l.length ≤ 10000 ∧ ∀ p, p ∈ l → 0 ≤ p ∧ p ≤ 10000 := by
  simp only [partsOK, Bool.and_eq_true, decide_eq_true_eq] at h
  refine ⟨h.1.2, fun p hp => ?_⟩
  have hr := h.2
  unfold rises at hr
  rw [List.all_eq_true] at hr
  obtain ⟨i, hi, rfl⟩ := List.mem_iff_getElem.1 hp
  have := hr i (List.mem_range.2 hi)
  have hg : l.getD i 0 = l[i] := by rw [List.getD_eq_getElem?_getD, List.getElem?_eq_getElem hi]; rfl
  simp only [rise1, Bool.and_eq_true, decide_eq_true_eq, hg] at this
  omega
theorem no_parts {l : List Int} (h : l.length = 0) : l.length ≤ 10000 ∧ ∀ p, p ∈ l → 0 ≤ p ∧ p ≤ 10000 := by
  obtain rfl := List.eq_nil_of_length_eq_zero h
  exact ⟨by simp, by simp⟩
theorem chk_fine {o : OM} (hc : o.chkB = true) (hid : o.id ≤ 18446744073709551615) (hu : o.upload ≤ 18446744073709551615) : o.fine := by
  have hk := chk_kind hc
  have hl := chk_len hc
  have key : (0 ≤ o.n ∧ o.n ≤ 10000) ∧ (o.parts.length ≤ 10000 ∧ ∀ p, p ∈ o.parts → 0 ≤ p ∧ p ≤ 10000) ∧ (o.bucket.size ≤ 1024 ∧ o.key.size ≤ 1024 ∧ o.after.size ≤ 1024) := by
    rw [chk_eq] at hc
    unfold OM.chkR at hc
    split at hc
    · simp only [Bool.and_eq_true, decide_eq_true_eq] at hc
      obtain ⟨⟨⟨⟨⟨⟨a, b⟩, c⟩, d⟩, e⟩, f⟩, g⟩ := hc
      have := name_size a; have := emp_size b; have := emp_size c
      exact ⟨by omega, no_parts f, by omega⟩
    split at hc
    · simp only [Bool.and_eq_true, decide_eq_true_eq, longB] at hc
      obtain ⟨⟨⟨⟨⟨⟨a, b⟩, c⟩, d⟩, e⟩, f⟩, g⟩ := hc
      have := name_size a; have := emp_size c
      exact ⟨by omega, no_parts f, by omega⟩
    split at hc
    · simp only [Bool.and_eq_true, decide_eq_true_eq, longB] at hc
      obtain ⟨⟨⟨⟨⟨⟨a, b⟩, c⟩, d⟩, e⟩, f⟩, g⟩ := hc
      have := name_size a; have := emp_size c
      exact ⟨by omega, no_parts f, by omega⟩
    split at hc
    · simp only [Bool.and_eq_true, decide_eq_true_eq] at hc
      obtain ⟨⟨⟨⟨⟨⟨⟨a, b⟩, c⟩, d⟩, d2⟩, e⟩, f⟩, g⟩ := hc
      have := name_size a
      exact ⟨by omega, no_parts f, by omega⟩
    split at hc
    · simp only [Bool.and_eq_true, decide_eq_true_eq] at hc
      obtain ⟨⟨⟨⟨⟨⟨a, b⟩, c⟩, d⟩, d2⟩, f⟩, g⟩ := hc
      have := emp_size a; have := emp_size b; have := emp_size c
      exact ⟨by omega, no_parts f, by omega⟩
    split at hc
    · simp only [Bool.and_eq_true, decide_eq_true_eq] at hc
      obtain ⟨⟨⟨⟨⟨a, b⟩, c⟩, d⟩, f⟩, g⟩ := hc
      have := emp_size a; have := emp_size b; have := emp_size c
      exact ⟨by omega, parts_in f, by omega⟩
    split at hc
    · simp only [Bool.and_eq_true, decide_eq_true_eq] at hc
      obtain ⟨⟨⟨⟨⟨a, b⟩, c⟩, d⟩, f⟩, g⟩ := hc
      have := emp_size a; have := emp_size b; have := emp_size c
      exact ⟨by omega, no_parts f, by omega⟩
    · cases hc
  exact ⟨hid, ⟨by omega, hk.2⟩, key.1, hu, key.2.1, key.2.2, hl⟩
end Go.Proofs.YtidbcaimgahllaaGreat
namespace Go.X.G
set_option linter.unusedSectionVars false
set_option linter.unusedSimpArgs false
set_option linter.unusedVariables false
variable {κ ν : Type} [DecidableEq κ]
section ops
variable {P : Program} {L : Slots} {A D F : List Assn} {ty T K E : TypeId} {x y z : Operand} {enc : κ → Value} {rep : κ → ν → Value → Assn} {S : List (κ × ν)} {es : List (Ent κ ν)} {c : Nat} {K1 K2 : Obj → List Assn}
theorem C.mapPutI {lt : κ → κ → Bool} {r : Nat} {k : κ} {val : Value} (rep : κ → ν → Value → Assn) (S : List (κ × ν)) (v : ν) (o : Ord3 lt) (hS : Srtd lt S) (hT : ∀ w, (underlying T).run P w = .ok (.map K E) w) (hk : Keyed P K enc) (ex : ev L x = some (.map (some r))) (ey : ev L y = some (enc k)) (ez : ev L z = some val)
    [h : PickO A (MapAt enc rep r S) D] : OpC P (.mapUpdate T x y z) ty L A (fun u B => u = undef ∧ B = MapHole enc rep r (sput lt k v S) k val :: D) :=
  (C.mapPut (A := MapAt enc rep r S :: D) (rep := rep) 0 v o hS hT hk ex ey ez rfl).imp fun _ s => s.perm h.perm
end ops
section
variable {W0 : World} {N : Nat} {L : Slots} {A D : List Assn} {Gl : Act → World → Prop} {enc : κ → Value} {rep : κ → ν → Value → Assn} {r : Nat} {S : List (κ × ν)} {k : κ} {val : Value} {lt : κ → κ → Bool}
end
variable {lt : κ → κ → Bool} {S T : List (κ × ν)} {es : List (Ent κ ν)} {c : Nat} {seen : List Nat} {e : Ent κ ν}
end Go.X.G
namespace Go.X
theorem J.tellsI {W0 : World} {N : Nat} {L : Slots} {A D : List Assn} {G : Act → World → Prop} (X : Assn) {p : Prop} [k : PickO A X D] (f : ∀ h, X h → p) (h : p → J W0 N L A G) : J W0 N L A G := by
  obtain ⟨i, hi⟩ := List.getElem?_of_mem (k.perm.mem_iff.2 List.mem_cons_self)
  exact J.tells i hi f h
end Go.X
namespace Go.X
set_option linter.unusedSectionVars false
set_option linter.unusedSimpArgs false
set_option linter.unusedVariables false
section
variable {P : Program} {L : Slots} {D A F Ain : List Assn} {ty : TypeId} {x y : Operand} {k : IntKind} {a : Int} {R : Value → List Assn → Prop} {f : FuncId} {argTypes : Array TypeId}
theorem Q.maxI {m : Int} {ts : Array TypeId} (e : evs L [x, y] = some [.int k a, .int k m]) : OpQ P (.call { callee := .builtin .max, args := #[x, y], argTypes := ts }) ty L D (.int k (if m > a then m else a)) :=
  OpQ.built (xs := [x, y]) e fun w cs => by simp [builtin, Builtin.max_, Builtin.max2]
theorem Q.slL0 {T E len cap sz : Nat} {p : Option Addr} {l : Operand} (hu : ∀ w, (underlying T).run P w = .ok (.slice E) w) (hs : ∀ w, (sizeOf E).run P w = .ok sz w) (ex : ev L x = some (.slice p len cap)) (el : ev L l = some (.int k 0)) :
    OpQ P (.slice T x (some l) none none) ty L D (.slice p len cap) :=
  .pure_ fun _ _ _ _ a w ag => by
    have e1 := ag.at_ ex (by simp [Op.operands])
    have e2 := ag.at_ el (by simp [Op.operands])
    simp [execOp, e1, e2, Instr.sliceAt, Instr.slice, hu, Instr.sliceBounds, Instr.sliceBound, asIntOf, hs]
    by_cases hc : cap = 0 <;> cases p <;> simp [hc, Addr.add]
theorem slr_tail {T E : TypeId} (hu : ∀ w, (underlying T).run P w = .ok (.slice E) w) (hs : ∀ w, (sizeOf E).run P w = .ok 1 w) {D0 : List Assn} {p : Option Addr} {n c j : Nat} {xs : List Value} (h : SlR D0 1 (.slice p n c) xs) (hk : j ≤ n) (hc : n ≤ c) :
    ∃ p' c', SlR D0 1 (.slice p' (n - j) c') (xs.drop j) ∧ n - j ≤ c' ∧ ∀ {L : Slots} {D : List Assn} {ty : TypeId} {x l : Operand} {ik : IntKind}, ev L x = some (.slice p n c) → ev L l = some (.int ik (j : Int)) → OpQ P (.slice T x (some l) none none) ty L D (.slice p' (n - j) c') := by
  by_cases e : n = 0
  · subst e
    obtain rfl : j = 0 := by omega
    exact ⟨p, c, h, hc, fun ex el => Q.slL0 hu hs ex el⟩
  · have hl := h.len
    obtain ⟨b, off, rfl, hrd⟩ := h.some_ (by omega)
    refine ⟨some ⟨b, off + (if c = j then 0 else j) * 1, none⟩, c - j, ?_, by omega, fun ex el => by
      rename_i L D ty x l ik
      have := Q.slL (P := P) (D := D) (ty := ty) hu hs ex el (by omega) (by omega)
      simpa using this⟩
    by_cases e2 : n = j
    · refine .inl ⟨_, c - j, by rw [show n - j = 0 by omega], ?_⟩
      exact List.drop_eq_nil_of_le (by omega)
    · rw [if_neg (by omega), Nat.mul_one]
      refine .inr ⟨b, off + j, n - j, c - j, rfl, by rw [List.length_drop]; omega, fun i u hu => ?_⟩
      rw [List.getElem?_drop] at hu
      have := hrd (j + i) u hu
      rwa [← Nat.add_assoc] at this
theorem OpC.callvP {t : Tmp} {xs : List Operand} {args first cap : List Value} (hc : ∀ (args : Array Value) (w : World), (callFunc f args).run P w = .ok (.enter f args) w)
    (hv : find t L = some (.func (.func f) first.toArray cap.toArray)) (he : evs L xs = some args) (hs : FSpec P f (first ++ args ++ cap) Ain R) [hp : PickL A Ain F] :
    OpC P (.call { callee := .value (.tmp t), args := xs.toArray, argTypes }) ty L A (fun v B => ∃ B1, R v B1 ∧ B = B1 ++ F) := by
  refine ⟨fun dst pos aft g a W0 w ag s K Q k => ?_⟩
  have hx : xs.map a.eval = args := evs_map (fun x hx => ag x (by simp [Op.operands, Call.operands, hx])) he
  have ha : (xs.toArray).map a.eval = args.toArray := by simp [hx]
  have hf : a.eval (.tmp t) = .func (.func f) first.toArray cap.toArray := ag _ (by simp [Op.operands, Call.operands]) _ hv
  unfold Oper.wp
  have hrun : (execOp a.eval ⟨dst, .call { callee := .value (.tmp t), args := xs.toArray, argTypes }, ty, pos, aft, g⟩).run P w = .ok (.enter f (first ++ args ++ cap).toArray) w := by
    simp only [execOp, resolve, hf, Deferred.ofValue, invoke, Sem.run_bind, Sem.run_pure, Result.andThen_ok, ha]
    simpa using hc (first ++ args ++ cap).toArray w
  rw [hrun, Oper.upon_enter]
  have s' : Sat W0 w (Ain ++ [star F]) := by
    refine (s.perm hp.perm).imp fun k t => ?_
    obtain ⟨h1, h2, p, q, d, u, v⟩ := t.append
    exact HSat.of_append p (Bs := [star F]) ⟨h2, fun _ => none, q, trivial, fun _ => Or.inr rfl, Sub.refl _, fun _ _ e => nomatch e⟩ d u v
  refine (hs.call W0 w (star F) s').mono ?_
  rintro e w' ⟨v, B, rfl, r, t⟩
  refine k v (B ++ F) w' ⟨B, r, rfl⟩ (t.imp fun k t => ?_)
  obtain ⟨h1, h2, p, ⟨k1, k2, q, _, _, s1, _⟩, d, u, v⟩ := t.append
  exact HSat.of_append p (HSat.mono q s1) d u v
end

theorem Q.eql2 {P : Program} {L : Slots} {D : List Assn} {ty T T' : TypeId} {x y : Operand} {f g : Field} {k1 k2 : IntKind} {a b c d : Int} (hT : P.underlying T = some (.struct #[f, g])) (hs : P.stoodInHeld T = false) (hg : P.eqGuardType P.depth T = false)
    (h1 : P.underlying f.type = some (.int k1)) (h2 : P.underlying g.type = some (.int k2)) (a1 : ∀ w, (isAgg f.type).run P w = .ok false w) (a2 : ∀ w, (isAgg g.type).run P w = .ok false w) (n1 : (f.name == "_") = false) (n2 : (g.name == "_") = false) (o1 : f.offset = 0) (o2 : g.offset = 1)
    (ex : ev L x = some (.agg #[.int k1 a, .int k2 b])) (ey : ev L y = some (.agg #[.int k1 c, .int k2 d])) : OpQ P (.binOp .eql T x y T') ty L D (.bool (decide (a = c) && decide (b = d))) :=
  Q.bin ex ey fun w => by
    have hf : P.fieldsOf T = #[f, g] := by unfold Program.fieldsOf; rw [hT]
    have m1 : f.name ≠ "_" := by simpa using n1
    have m2 : g.name ≠ "_" := by simpa using n2
    rw [Sem.run_bind, run_eqGuard_agg w .eql T x y _ _ hg, Result.andThen_ok, run_eql_struct, run_equalIn_struct w 9999 T _ _ (by rw [hf]; exact hT) hs, hf]
    have e1 : (Op.equalIn 9999 f.type (.int k1 a) (.int k1 c)).run P w = .ok (a == c) w := run_equalIn_int (P := P) w 9998 f.type k1 k1 a c h1
    have e2 : (Op.equalIn 9999 g.type (.int k2 b) (.int k2 d)).run P w = .ok (b == d) w := run_equalIn_int (P := P) w 9998 g.type k2 k2 b d h2
    simp [Op.eqFields, m1, m2, part, a1, a2, o1, o2, e1, e2]
    by_cases hac : a = c <;> by_cases hbd : b = d <;> simp [hac, hbd]

section
variable {P : Program} {fn : Func} {N : Nat} {W0 : World} {L : Slots} {A B D : List Assn} {F : Assn} {R : Value → List Assn → Prop} {s s2 t t2 : Nat} {T T2 : TypeId} {b b2 : Nat} {vs vs2 : List Value} {u u2 : Value}
theorem J.retC4I (B : List Assn) (hr : fn.results = #[.cell s T, .cell s2 T2, .tmp t, .tmp t2]) (hv : find s L = some (.pointer (some ⟨b, 0, none⟩))) (hv2 : find s2 L = some (.pointer (some ⟨b2, 0, none⟩))) (ht : find t L = some u) (ht2 : find t2 L = some u2)
    (ha : ∀ w, (isAgg T).run P w = .ok true w) (hs : ∀ w, (sizeOf T).run P w = .ok vs.length w) (hrd : ReadsN A b 0 vs) (ha2 : ∀ w, (isAgg T2).run P w = .ok true w) (hs2 : ∀ w, (sizeOf T2).run P w = .ok vs2.length w) (hrd2 : ReadsN A b2 0 vs2)
    (hR : R (.tuple #[.agg vs.toArray, .agg vs2.toArray, u, u2]) B) [h : PickL A (B ++ [F]) D] : J W0 N L A (bodyPost P fn (RetQ W0 R F) .ret) := by
  refine ⟨fun a w f q => ?_⟩
  have hg : (a.tmps[s]?).getD undef = .pointer (some ⟨b, 0, none⟩) := by rw [f.get s _ hv]; rfl
  have hg2 : (a.tmps[s2]?).getD undef = .pointer (some ⟨b2, 0, none⟩) := by rw [f.get s2 _ hv2]; rfl
  have hg3 : (a.tmps[t]?).getD undef = u := by rw [f.get t _ ht]; rfl
  have hg4 : (a.tmps[t2]?).getD undef = u2 := by rw [f.get t2 _ ht2]; rfl
  have hres : (results fn a.tmps).run P w = .ok (.tuple #[.agg vs.toArray, .agg vs2.toArray, u, u2]) w := by
    simp [results, hr, hg, hg2, hg3, hg4, asAddr, run_loadAgg ha hs hrd q, run_loadAgg ha2 hs2 hrd2 q]
  exact bodyPost_ret hres f.defers ⟨_, B, rfl, hR, q.imp fun k q => HSat.keepI (A := A) (F := D) q⟩
end

section
variable {D F : List Assn} {b o : Nat} {X : Assn} {vs l : List Value} {e : TypeId} {z : Nat × Nat} {KK : Obj → List Assn}
theorem ReadsN.inI (h : ReadsN [X] b o vs) [k : PickO D X F] : ReadsN D b o vs := by
  obtain ⟨i, hi⟩ := List.getElem?_of_mem (k.perm.mem_iff.2 List.mem_cons_self)
  exact h.within hi
theorem rnSub (k : Nat) [h : AtPt D b (.cells l.toArray e z) KK] (hv : (l.drop k).take vs.length = vs) : ReadsN D b k vs := by
  intro j u hu
  have hj := (List.getElem?_eq_some_iff.1 hu).1
  have : l[k + j]? = some u := by
    rw [← List.getElem?_drop, ← List.getElem?_take_of_lt hj, hv]; exact hu
  exact rdI this
theorem star_snoc {α : Type} {f : α → Assn} {l : List α} (x : α) : ∀ h, HSat h [f x, star (l.map f)] → star ((l ++ [x]).map f) h := by
  intro h s
  have := star_ins1 (f := f) (l := l) l.length x h s
  simpa using this
end

namespace G
variable {κ ν : Type} [DecidableEq κ]
def valRep (f : ν → Value) (_ : κ) (v : ν) (val : Value) : Assn := fun _ => val = f v
section
variable {P : Program} {L : Slots} {A D F : List Assn} {ty : TypeId} {T K E : TypeId} {x y z : Operand} {enc : κ → Value} {lt : κ → κ → Bool} {r : Nat} {k : κ} {f : ν → Value}
theorem val_shut {S : List (κ × ν)} {v : ν} (o : Ord3 lt) (hS : Srtd lt S) : ∀ h, MapHole enc (valRep f) r S k (f v) h → MapAt enc (valRep f) r (sput lt k v S) h := fun h hh =>
  MapHole.back (rep := valRep f) (v' := v) o hS h (HSat.two (h1 := fun _ => none) (show valRep f k v (f v) (fun _ => none) from rfl) hh (fun _ => Or.inl rfl) (fun _ _ e => nomatch e) (Sub.refl _))
theorem val_focus {S : List (κ × ν)} {v : ν} (hv : sget k S = some v) : ∀ h, MapAt enc (valRep f) r S h → ∃ x : Unit, True ∧ HSat h [MapHole enc (valRep f) r S k (f v)] := by
  intro h hh
  obtain ⟨val, h1, h2, e, ⟨k1, k2, q, _, _, s1, _⟩, d, s, t⟩ := MapAt.focus hv h hh
  have e' : val = f v := e
  subst e'
  exact ⟨(), trivial, HSat.mono (HSat.one q) (s1.trans t)⟩
theorem val_back {S : List (κ × ν)} {v : ν} (o : Ord3 lt) (hS : Srtd lt S) (hv : sget k S = some v) : ∀ (x : Unit), True → ∀ h, HSat h [MapHole enc (valRep f) r S k (f v)] → MapAt enc (valRep f) r S h := by
  rintro _ _ h ⟨k1, k2, q, _, _, s1, _⟩
  have h1 : HSat h [MapHole enc (valRep f) r S k (f v)] := HSat.mono (HSat.one q) s1
  obtain ⟨j1, j2, a, b, c, e, g⟩ := h1
  have := val_shut o hS j1 a
  rw [sput_same o hS hv] at this
  obtain ⟨x, p1, p2⟩ := this
  exact ⟨x, p1, p2.mono e⟩
theorem Q.lkV (S : List (κ × ν)) {zv : Value} (o : Ord3 lt) (hS : Srtd lt S) (hT : ∀ w, (underlying T).run P w = .ok (.map K E) w) (hk : Keyed P K enc) (hz : ∀ w, (zeroValue E).run P w = .ok zv w) (ex : ev L x = some (.map (some r))) (ey : ev L y = some (enc k))
    [h : PickO D (MapAt enc (valRep f) r S) F] : OpQ P (.lookup T x y false) ty L D (((sget k S).map f).getD zv) := by
  obtain ⟨i, hi⟩ := List.getElem?_of_mem (h.perm.mem_iff.2 List.mem_cons_self)
  cases hv : sget k S with
  | none => exact Q.lkNo hT hk hz ex ey hi hv
  | some v => exact OpQ.opened (α := Unit) (Bs := fun _ => [MapHole enc (valRep f) r S k (f v)]) (p := fun _ => True) hi (val_focus hv) (val_back o hS hv) (fun _ _ => Q.lkYes (i := 0) hT hk hz ex ey rfl)
theorem Q.lk2V (S : List (κ × ν)) {zv : Value} (o : Ord3 lt) (hS : Srtd lt S) (hT : ∀ w, (underlying T).run P w = .ok (.map K E) w) (hk : Keyed P K enc) (hz : ∀ w, (zeroValue E).run P w = .ok zv w) (ex : ev L x = some (.map (some r))) (ey : ev L y = some (enc k))
    [h : PickO D (MapAt enc (valRep f) r S) F] : OpQ P (.lookup T x y true) ty L D (.tuple #[((sget k S).map f).getD zv, .bool (sget k S).isSome]) := by
  obtain ⟨i, hi⟩ := List.getElem?_of_mem (h.perm.mem_iff.2 List.mem_cons_self)
  cases hv : sget k S with
  | none => exact Q.lk2No hT hk hz ex ey hi hv
  | some v => exact OpQ.opened (α := Unit) (Bs := fun _ => [MapHole enc (valRep f) r S k (f v)]) (p := fun _ => True) hi (val_focus hv) (val_back o hS hv) (fun _ _ => Q.lk2Yes (i := 0) hT hk hz ex ey rfl)
theorem C.putV (f : ν → Value) (S : List (κ × ν)) (v : ν) (o : Ord3 lt) (hS : Srtd lt S) (hT : ∀ w, (underlying T).run P w = .ok (.map K E) w) (hk : Keyed P K enc) (ex : ev L x = some (.map (some r))) (ey : ev L y = some (enc k)) (ez : ev L z = some (f v))
    [h : PickO A (MapAt enc (valRep f) r S) D] : OpC P (.mapUpdate T x y z) ty L A (fun u B => u = undef ∧ B = MapAt enc (valRep f) r (sput lt k v S) :: D) := by
  refine (C.mapPutI (rep := valRep f) S v o hS hT hk ex ey ez).shutTo ?_
  rintro u B ⟨rfl, rfl⟩
  refine ⟨_, ⟨rfl, rfl⟩, fun h s => HSat.imp s fun h hh => ?_⟩
  have := val_shut (v := v) o (srtd_put o hS k v) h hh
  rwa [sput_put o hS] at this
end
end G
end Go.X

