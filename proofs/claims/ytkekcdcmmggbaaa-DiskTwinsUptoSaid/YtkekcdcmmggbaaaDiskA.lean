/-
  The disk as it lies in memory, and what its functions come to: the small ones.
-/
import Derived.Test.YtkekcdcmmggbaaaName
import Derived.Test.YtkekcdcmmggbaaaXj
namespace Go.Proofs.Ytkekcdcmmggbaaa
open Go.X

/-! ### Files and disks, as plain data -/
structure FM where
  name : ByteArray
  bs : List UInt8
  sy : Nat

structure DM where
  size : Nat
  born : Nat
  files : List FM

def lenSum : List FM → Nat
  | [] => 0
  | f :: l => f.bs.length + lenSum l

def DM.used (d : DM) : Nat := lenSum d.files

def fget (n : ByteArray) : List FM → Option FM
  | [] => none
  | f :: l => if n = f.name then some f else fget n l
def fset (g : FM) : List FM → List FM
  | [] => []
  | f :: l => if g.name = f.name then g :: l else f :: fset g l
def fdel (n : ByteArray) : List FM → List FM
  | [] => []
  | f :: l => if n = f.name then l else f :: fdel n l

structure DM.wf (d : DM) : Prop where
  names : (d.files.map (·.name)).Nodup
  sy : ∀ f, f ∈ d.files → f.sy ≤ f.bs.length
  used : d.used ≤ d.size
  size : d.size ≤ 1073741824
  born : d.born ≤ 1000000

/-! ### In memory -/
structure FW where
  f : FM
  p : Nat
  sp : Option Addr
  sc : Nat
  born : Nat

def FW.ptr (x : FW) : Value := .pointer (some ⟨x.p, 0, none⟩)
def FW.sl (x : FW) : Value := .slice x.sp x.f.bs.length x.sc
def FW.ent (x : FW) : MEnt := ⟨x.f.name, x.ptr, x.born⟩
def FW.asns (x : FW) : List Assn := [pt x.p (.cells [x.sl, .int .i64 x.f.sy].toArray 71 (0, 0)), own 5 1 x.sl (bytesV x.f.bs)]
def FW.asn (x : FW) : Assn := star x.asns

structure DW where
  r : Nat
  c : Nat
  fs : List FW

def DW.asns (x : DW) (p : Nat) (d : DM) : List Assn :=
  [pt p (.cells [.int .i64 d.size, .int .i64 d.used, .int .i64 d.born, .map (some x.r)].toArray 67 (0, 0)), pt x.r (mobj (x.fs.map FW.ent) x.c), star (x.fs.map FW.asn)]

structure DW.ok (x : DW) (d : DM) : Prop where
  files : x.fs.map (·.f) = d.files
  nodup : (x.fs.map (·.born)).Nodup
  born : ∀ f, f ∈ x.fs → f.born < x.c

def DiskAt (p : Nat) (d : DM) : Assn := fun h => ∃ x : DW, x.ok d ∧ HSat h (x.asns p d)

theorem DiskAt.open_ {p : Nat} {d : DM} : ∀ h, DiskAt p d h → ∃ x : DW, x.ok d ∧ HSat h (x.asns p d) := fun _ h => h

/-- The first place of a name. -/
def kidx (k : ByteArray) : List ByteArray → Option Nat
  | [] => none
  | n :: l => if k = n then some 0 else (kidx k l).map (· + 1)

/-- Where a name is, on all levels at once. -/
theorem look (k : ByteArray) : ∀ xs : List FW, (mget k (xs.map FW.ent) = none ∧ fget k (xs.map (·.f)) = none ∧ mdel k (xs.map FW.ent) = xs.map FW.ent ∧ fdel k (xs.map (·.f)) = xs.map (·.f) ∧ kidx k (xs.map (·.f.name)) = none) ∨
    ∃ i x, xs[i]? = some x ∧ x.f.name = k ∧ mget k (xs.map FW.ent) = some x.ptr ∧ fget k (xs.map (·.f)) = some x.f ∧
      (∀ g : FM, g.name = k → fset g (xs.map (·.f)) = (xs.map (·.f)).set i g) ∧ fdel k (xs.map (·.f)) = (xs.map (·.f)).eraseIdx i ∧
      mdel k (xs.map FW.ent) = (xs.map FW.ent).eraseIdx i ∧ (∀ v, mset k v (xs.map FW.ent) = (xs.map FW.ent).set i ⟨k, v, x.born⟩) ∧ kidx k (xs.map (·.f.name)) = some i
  | [] => .inl ⟨rfl, rfl, rfl, rfl, rfl⟩
  | y :: xs => by
    by_cases h : k = y.f.name
    · refine .inr ⟨0, y, rfl, h.symm, ?_, ?_, fun g hg => by simp [fset, hg, h], ?_, ?_, ?_, ?_⟩ <;> simp [mget, fget, fdel, mdel, mset, kidx, FW.ent, h]
    · have e : ¬ k = (FW.ent y).key := h
      rcases look k xs with ⟨h1, h2, h3, h4, h9⟩ | ⟨i, x, h1, h2, h3, h4, h5, h6, h7, h8, h9⟩
      · left; refine ⟨?_, ?_, ?_, ?_, ?_⟩
        · simp only [List.map_cons, mget, e, if_false, h1]
        · simp only [List.map_cons, fget, h, if_false, h2]
        · simp only [List.map_cons, mdel, e, if_false, h3]
        · simp only [List.map_cons, fdel, h, if_false, h4]
        · simp only [List.map_cons, kidx, h, if_false, h9, Option.map_none]
      · right
        refine ⟨i + 1, x, by simpa using h1, h2, ?_, ?_, ?_, ?_, ?_, ?_, by simp only [List.map_cons, kidx, h, if_false, h9, Option.map_some]⟩
        · simp only [List.map_cons, mget, e, if_false, h3]
        · simp only [List.map_cons, fget, h, if_false, h4]
        · intro g hg
          have : ¬ g.name = y.f.name := by rw [hg]; exact h
          simp only [List.map_cons, fset, this, if_false, h5 g hg, List.set_cons_succ]
        · simp only [List.map_cons, fdel, h, if_false, h6, List.eraseIdx_cons_succ]
        · simp only [List.map_cons, mdel, e, if_false, h7, List.eraseIdx_cons_succ]
        · intro v; simp only [List.map_cons, mset, e, if_false, h8 v, List.set_cons_succ]

/-- What a look-up gives, and what it tells. -/
structure Found (k : ByteArray) (xs : List FW) (i : Nat) (x : FW) : Prop where
  at_ : xs[i]? = some x
  name : x.f.name = k
  mget : mget k (xs.map FW.ent) = some x.ptr
  fget : fget k (xs.map (·.f)) = some x.f
  fset : ∀ g : FM, g.name = k → fset g (xs.map (·.f)) = (xs.map (·.f)).set i g
  fdel : fdel k (xs.map (·.f)) = (xs.map (·.f)).eraseIdx i
  mdel : mdel k (xs.map FW.ent) = (xs.map FW.ent).eraseIdx i
  mset : ∀ v, mset k v (xs.map FW.ent) = (xs.map FW.ent).set i ⟨k, v, x.born⟩
  idx : kidx k (xs.map (·.f.name)) = some i
structure Lost (k : ByteArray) (xs : List FW) : Prop where
  mget : mget k (xs.map FW.ent) = none
  fget : fget k (xs.map (·.f)) = none
  mdel : mdel k (xs.map FW.ent) = xs.map FW.ent
  fdel : fdel k (xs.map (·.f)) = xs.map (·.f)
  idx : kidx k (xs.map (·.f.name)) = none

theorem look' (k : ByteArray) (xs : List FW) : ∃ o : Option Addr, (mget k (xs.map FW.ent)).getD (.pointer none) = .pointer o ∧ ((o = none ∧ Lost k xs) ∨ ∃ i x, o = some ⟨x.p, 0, none⟩ ∧ Found k xs i x) := by
  rcases look k xs with ⟨h1, h2, h3, h4, h9⟩ | ⟨i, x, h1, h2, h3, h4, h5, h6, h7, h8, h9⟩
  · exact ⟨none, by rw [h1]; rfl, .inl ⟨rfl, ⟨h1, h2, h3, h4, h9⟩⟩⟩
  · exact ⟨some ⟨x.p, 0, none⟩, by rw [h3]; rfl, .inr ⟨i, x, rfl, ⟨h1, h2, h3, h4, h5, h6, h7, h8, h9⟩⟩⟩

theorem Found.of_idx {k : ByteArray} {xs : List FW} {i : Nat} (h : kidx k (xs.map (·.f.name)) = some i) : ∃ x, Found k xs i x := by
  rcases look k xs with ⟨_, _, _, _, h9⟩ | ⟨j, x, h1, h2, h3, h4, h5, h6, h7, h8, h9⟩
  · rw [h9] at h; cases h
  · rw [h9] at h; cases h
    exact ⟨x, ⟨h1, h2, h3, h4, h5, h6, h7, h8, h9⟩⟩

theorem look_none {k : ByteArray} {xs : List FW} {o : Option Addr} (h : (o = none ∧ Lost k xs) ∨ ∃ i x, o = some ⟨x.p, 0, none⟩ ∧ Found k xs i x) (e : o.isNone = true) : o = none ∧ Lost k xs := by
  rcases h with h | ⟨i, x, rfl, _⟩
  · exact h
  · cases e
theorem look_some {k : ByteArray} {xs : List FW} {o : Option Addr} (h : (o = none ∧ Lost k xs) ∨ ∃ i x, o = some ⟨x.p, 0, none⟩ ∧ Found k xs i x) (e : o.isNone = false) : ∃ i x, o = some ⟨x.p, 0, none⟩ ∧ Found k xs i x := by
  rcases h with ⟨rfl, _⟩ | h
  · cases e
  · exact h

theorem look_isNone (k : ByteArray) (xs : List FW) : ∃ o : Option Addr, (mget k (xs.map FW.ent)).getD (.pointer none) = .pointer o ∧ o.isNone = (fget k (xs.map (·.f))).isNone := by
  obtain ⟨o, h1, ⟨rfl, h2⟩ | ⟨i, x, rfl, h2⟩⟩ := look' k xs
  · exact ⟨none, h1, by rw [h2.fget]; rfl⟩
  · exact ⟨_, h1, by rw [h2.fget]; rfl⟩

theorem lenSum_set {f : FM} : ∀ {l : List FM} {i : Nat} {g : FM}, l[i]? = some f → lenSum (l.set i g) + f.bs.length = lenSum l + g.bs.length
  | [], _, _, h => by simp at h
  | x :: l, 0, g, h => by simp at h; subst h; simp [lenSum]; omega
  | x :: l, i + 1, g, h => by
    have := lenSum_set (l := l) (i := i) (g := g) (by simpa using h)
    simp [lenSum]; omega
theorem lenSum_erase {f : FM} : ∀ {l : List FM} {i : Nat}, l[i]? = some f → lenSum (l.eraseIdx i) + f.bs.length = lenSum l
  | [], _, h => by simp at h
  | x :: l, 0, h => by simp at h; subst h; simp [lenSum]; omega
  | x :: l, i + 1, h => by
    have := lenSum_erase (l := l) (i := i) (by simpa using h)
    simp [lenSum]; omega
theorem lenSum_append : ∀ l m : List FM, lenSum (l ++ m) = lenSum l + lenSum m
  | [], m => by simp [lenSum]
  | x :: l, m => by simp [lenSum, lenSum_append l m]; omega
theorem lenSum_mem {f : FM} : ∀ {l : List FM}, f ∈ l → f.bs.length ≤ lenSum l
  | [], h => by cases h
  | x :: l, h => by
    rcases List.mem_cons.1 h with rfl | h
    · simp [lenSum]
    · have := lenSum_mem h; simp [lenSum]; omega

theorem map_set_same {β : Type} {g : FW → β} : ∀ {l : List FW} {i : Nat} {y y' : FW}, l[i]? = some y → g y' = g y → (l.set i y').map g = l.map g
  | [], _, _, _, h, _ => by simp at h
  | x :: l, 0, y, y', h, e => by simp at h; subst h; simp [e]
  | x :: l, i + 1, y, y', h, e => by
    simp only [List.set_cons_succ, List.map_cons]
    rw [map_set_same (by simpa using h) e]

/-- A file turned in its place. -/
theorem DW.put {x : DW} {d : DM} (ok : x.ok d) {i : Nat} {y : FW} (hat : x.fs[i]? = some y) (y' : FW) (hn : y'.f.name = y.f.name) (hp : y'.p = y.p) (hb : y'.born = y.born) :
    DW.ok ⟨x.r, x.c, x.fs.set i y'⟩ { d with files := d.files.set i y'.f } ∧ (x.fs.set i y').map FW.ent = x.fs.map FW.ent := by
  refine ⟨⟨?_, ?_, ?_⟩, map_set_same hat (by unfold FW.ent FW.ptr; rw [hn, hp, hb])⟩
  · show (x.fs.set i y').map (·.f) = d.files.set i y'.f
    rw [← ok.files, List.map_set]
  · show ((x.fs.set i y').map (·.born)).Nodup
    rw [map_set_same hat hb]; exact ok.nodup
  · intro f hf
    rcases List.mem_or_eq_of_mem_set hf with h | rfl
    · exact ok.born f h
    · rw [hb]; exact ok.born y (List.mem_of_getElem? hat)

def dv (p : Nat) : Value := .pointer (some ⟨p, 0, none⟩)

/-! ### The small ones -/
theorem used_spec (p : Nat) (d : DM) : FSpec Try.prog 11 [.pointer (some ⟨p, 0, none⟩)] [DiskAt p d] (fun v B => v = .int .i64 d.used ∧ B = [DiskAt p d]) := by
  refine FSpec.of Try.func11 rfl Try.ntmps11 rfl fun W0 F => ?_
  refine J.seq ?_
  refine J.region ?_
  refine J.q rfl rfl (Q.asg rfl) ?_
  refine J.nil ?_
  refine J.then_n ?_
  refine J.seq ?_
  refine J.open_ 0 rfl rfl DiskAt.open_ fun x hx => ?_
  refine J.norm rfl ?_
  refine J.region ?_
  refine J.q rfl rfl (Q.mv rfl) ?_
  refine J.q rfl rfl (Q.nil_ rfl) ?_
  refine J.q rfl rfl (Q.fa (n := 1) Try.runUnderlying67 rfl rfl Try.sizeOf3 rfl) ?_
  refine J.q rfl rfl (Q.ld Try.isAgg3 rfl (by first | exact Reads.pt 0 rfl rfl | exact Reads.pt 1 rfl rfl | exact Reads.pt 2 rfl rfl | exact Reads.pt 3 rfl rfl | exact Reads.pt 4 rfl rfl | exact Reads.pt 5 rfl rfl | exact Reads.pt 6 rfl rfl | exact Reads.pt 7 rfl rfl)) ?_
  refine J.q rfl rfl (Q.asg rfl) ?_
  refine J.nil ?_
  refine J.then_n ?_
  refine J.cret ?_
  refine J.shut [0, 1, 2] (DiskAt p d) rfl (fun h s => ⟨x, hx, s⟩) ?_
  refine J.ret1 (B := [DiskAt p d]) rfl rfl ⟨rfl, rfl⟩ rfl

theorem born_spec (p : Nat) (d : DM) : FSpec Try.prog 46 [.pointer (some ⟨p, 0, none⟩)] [DiskAt p d] (fun v B => v = .int .i64 d.born ∧ B = [DiskAt p d]) := by
  refine FSpec.of Try.func46 rfl Try.ntmps46 rfl fun W0 F => ?_
  refine J.seq ?_
  refine J.region ?_
  refine J.q rfl rfl (Q.asg rfl) ?_
  refine J.nil ?_
  refine J.then_n ?_
  refine J.seq ?_
  refine J.open_ 0 rfl rfl DiskAt.open_ fun x hx => ?_
  refine J.norm rfl ?_
  refine J.region ?_
  refine J.q rfl rfl (Q.mv rfl) ?_
  refine J.q rfl rfl (Q.nil_ rfl) ?_
  refine J.q rfl rfl (Q.fa (n := 2) Try.runUnderlying67 rfl rfl Try.sizeOf3 rfl) ?_
  refine J.q rfl rfl (Q.ld Try.isAgg3 rfl (by first | exact Reads.pt 0 rfl rfl | exact Reads.pt 1 rfl rfl | exact Reads.pt 2 rfl rfl | exact Reads.pt 3 rfl rfl | exact Reads.pt 4 rfl rfl | exact Reads.pt 5 rfl rfl | exact Reads.pt 6 rfl rfl | exact Reads.pt 7 rfl rfl)) ?_
  refine J.q rfl rfl (Q.asg rfl) ?_
  refine J.nil ?_
  refine J.then_n ?_
  refine J.cret ?_
  refine J.shut [0, 1, 2] (DiskAt p d) rfl (fun h s => ⟨x, hx, s⟩) ?_
  refine J.ret1 (B := [DiskAt p d]) rfl rfl ⟨rfl, rfl⟩ rfl

/-- What the closure of 'all' holds: a variable with the disk in it. -/
def Held (b p : Nat) (d : DM) : Assn := star [pt b (.cells [Value.pointer (some ⟨p, 0, none⟩)].toArray 24 (0, 0)), DiskAt p d]

/-- Is there no file of a name? As the closure of 'all' asks. -/
theorem all1_spec (p b : Nat) (d : DM) (s : ByteArray) : FSpec Try.prog 50 [.string s, .pointer (some ⟨b, 0, none⟩)] [Held b p d] (fun v B => v = .bool (fget s d.files).isNone ∧ B = [Held b p d]) := by
  refine FSpec.of Try.func50 rfl Try.ntmps50 rfl fun W0 F => ?_
  refine J.seq ?_
  refine J.region ?_
  refine J.q rfl rfl (Q.asg rfl) ?_
  refine J.nil ?_
  refine J.then_n ?_
  refine J.seq ?_
  refine J.conv (Y := star [pt b (.cells [Value.pointer (some ⟨p, 0, none⟩)].toArray 24 (0, 0)), DiskAt p d]) 0 rfl (fun _ h => h) ?_
  refine J.unpack 0 rfl rfl ?_
  refine J.open_ 1 rfl rfl DiskAt.open_ fun x hx => ?_
  refine J.norm rfl ?_
  obtain ⟨o, ho, hn⟩ := look_isNone s x.fs
  rw [hx.files] at hn
  refine J.region ?_
  refine J.q rfl rfl (Q.ld Try.isAgg24 rfl (by first | exact Reads.pt 0 rfl rfl | exact Reads.pt 1 rfl rfl | exact Reads.pt 2 rfl rfl | exact Reads.pt 3 rfl rfl | exact Reads.pt 4 rfl rfl | exact Reads.pt 5 rfl rfl | exact Reads.pt 6 rfl rfl | exact Reads.pt 7 rfl rfl)) ?_
  refine J.q rfl rfl (Q.nil_ rfl) ?_
  refine J.q rfl rfl (Q.fa (n := 3) Try.runUnderlying67 rfl rfl Try.sizeOf65 rfl) ?_
  refine J.q rfl rfl (Q.ld Try.isAgg65 rfl (by first | exact Reads.pt 0 rfl rfl | exact Reads.pt 1 rfl rfl | exact Reads.pt 2 rfl rfl | exact Reads.pt 3 rfl rfl | exact Reads.pt 4 rfl rfl | exact Reads.pt 5 rfl rfl | exact Reads.pt 6 rfl rfl | exact Reads.pt 7 rfl rfl)) ?_
  refine J.q rfl rfl (Q.mv rfl) ?_
  refine J.q rfl rfl (Q.lk (i := 1) Try.runUnderlying65 Try.runUnderlying9 Try.zeroValue69 rfl rfl rfl ho) ?_
  refine J.q rfl rfl (Q.eqlp Try.runUnderlying69 rfl rfl) ?_
  refine J.q rfl rfl (Q.asg rfl) ?_
  refine J.nil ?_
  refine J.then_n ?_
  refine J.cret ?_
  refine J.shut [0, 1, 2] (DiskAt p d) rfl (fun h s => ⟨x, hx, s⟩) ?_
  refine J.pack [1, 0] rfl ?_
  refine J.ret1 (B := [Held b p d]) rfl rfl ⟨by rw [hn], rfl⟩ rfl

theorem take_any {q : ByteArray → Bool} {l : List ByteArray} {k : Nat} {s : ByteArray} (hs : l[k]? = some s) (h : (l.take k).any q = false) (hq : q s = false) : (l.take (k + 1)).any q = false := by
  obtain ⟨h1, h2⟩ := List.getElem?_eq_some_iff.1 hs
  rw [List.take_succ_eq_append_getElem h1, List.any_append, h, h2]; simp [hq]
theorem any_at {q : ByteArray → Bool} {l : List ByteArray} {k : Nat} {s : ByteArray} (hs : l[k]? = some s) (hq : q s = true) : l.any q = true :=
  List.any_eq_true.2 ⟨s, List.mem_of_getElem? hs, hq⟩

/-- The first of which a closure says yes. -/
theorem indexFunc_spec (G : Assn) (sp : Option Addr) (sn sc : Nat) (names : List ByteArray) (fid : FuncId) (cap : List Value) (q : ByteArray → Bool)
    (hcall : ∀ (args : Array Value) (w : World), (callFunc fid args).run Try.prog w = .ok (.enter fid args) w)
    (hs : SlR [G] 1 (.slice sp sn sc) (names.map Value.string)) (hn : sn ≤ 140737488355328)
    (hf : ∀ s, s ∈ names → FSpec Try.prog fid ([] ++ [.string s] ++ cap) [G] (fun v B => v = .bool (q s) ∧ B = [G])) :
    FSpec Try.prog 54 [.slice sp sn sc, .func (.func fid) ([] : List Value).toArray cap.toArray] [G] (fun v B => ∃ r : Int, v = .int .i64 r ∧ decide (0 ≤ r) = names.any q ∧ B = [G]) := by
  refine FSpec.of Try.func54 rfl Try.ntmps54 rfl fun W0 F => ?_
  refine J.seq ?_
  refine J.region ?_
  refine J.q rfl rfl (Q.asg rfl) ?_
  refine J.nil ?_
  refine J.then_n ?_
  refine J.seq ?_
  refine J.seq ?_
  refine J.region ?_
  refine J.q rfl rfl (Q.mv rfl) ?_
  refine J.q rfl rfl (Q.lenSl Try.runUnderlying28 rfl) ?_
  refine J.q rfl rfl (Q.mv rfl) ?_
  refine J.nil ?_
  refine J.then_n ?_
  refine J.block ?_
  have hlen : names.length = sn := by have := hs.len; simpa using this
  refine J.loop (fun k : Nat => k ≤ sn ∧ (names.take k).any q = false) (fun k => sn - k) (fun k => [(0, .slice sp sn sc), (1, .func (.func fid) ([] : List Value).toArray cap.toArray), (7, .int .i64 sn), (8, .int .i64 k)]) (fun _ => [G, F]) 0 ⟨by omega, rfl⟩ ⟨rfl, rfl, rfl, rfl, trivial⟩ rfl fun k hk => ?_
  obtain ⟨hk, hno⟩ := hk
  refine J.seq ?_
  refine J.region ?_
  refine J.q rfl rfl (Q.lss rfl rfl) ?_
  refine J.nil ?_
  refine J.then_n ?_
  refine J.seq ?_
  refine J.cond rfl (fun hc9 => ?_) (fun hc9 => ?_)
  ·
    first | replace hc9 := X.tt_dec hc9 | replace hc9 := X.tt_not hc9 | replace hc9 := X.ff_dec hc9 | replace hc9 := X.ff_not hc9 | skip
    refine J.cskip ?_
    refine J.then_n ?_
    refine J.seq ?_
    refine J.block ?_
    refine J.seq ?_
    refine J.region ?_
    obtain ⟨b, off, rfl, hrd⟩ := hs.some_ (by omega)
    obtain ⟨nm, hnm⟩ : ∃ nm, names[k]? = some nm := ⟨_, List.getElem?_eq_getElem (by omega)⟩
    refine J.q rfl rfl (Q.mv rfl) ?_
    refine J.q rfl rfl (Q.asg rfl) ?_
    refine J.nil ?_
    refine J.then_n ?_
    refine J.seq ?_
    refine J.region ?_
    refine J.q rfl rfl (Q.mv rfl) ?_
    refine J.q rfl rfl (Q.mv rfl) ?_
    refine J.q rfl rfl (Q.mv rfl) ?_
    refine J.q rfl rfl (Q.ia Try.runUnderlying28 Try.sizeOf9 rfl rfl (by omega) (by omega)) ?_
    refine J.q rfl rfl (Q.ld Try.isAgg9 rfl (((hrd k (.string nm) (by simp [hnm])).within (i := 0) rfl).cast (by simp))) ?_
    refine J.callv hcall (hf nm (List.mem_of_getElem? hnm)) [0] rfl rfl rfl rfl rfl ?_
    rintro _ _ ⟨rfl, rfl⟩
    refine J.norm rfl ?_
    refine J.nil ?_
    refine J.then_n ?_
    refine J.cond rfl (fun hc16 => ?_) (fun hc16 => ?_)
    ·
      first | replace hc16 := X.tt_dec hc16 | replace hc16 := X.tt_not hc16 | replace hc16 := X.ff_dec hc16 | replace hc16 := X.ff_not hc16 | skip
      refine J.seq ?_
      refine J.region ?_
      refine J.q rfl rfl (Q.mv rfl) ?_
      refine J.q rfl rfl (Q.asg rfl) ?_
      refine J.nil ?_
      refine J.then_n ?_
      refine J.cret ?_
      refine J.blk_r ?_
      refine J.then_r ?_
      refine J.lp_r ?_
      refine J.blk_r ?_
      refine J.then_r ?_
      refine J.ret1 (B := [G]) rfl rfl ⟨_, rfl, ?_, rfl⟩ rfl
      rw [any_at hnm hc16]; simp
    ·
      first | replace hc16 := X.tt_dec hc16 | replace hc16 := X.tt_not hc16 | replace hc16 := X.ff_dec hc16 | replace hc16 := X.ff_not hc16 | skip
      refine J.cskip ?_
      refine J.blk_n ?_
      refine J.then_n ?_
      refine J.region ?_
      refine J.q rfl rfl (Q.add64 rfl rfl (by omega)) ?_
      refine J.q rfl rfl (Q.mv rfl) ?_
      refine J.nil ?_
      refine J.again (k + 1) ⟨by omega, take_any hnm hno hc16⟩ (by omega) ⟨rfl, rfl, rfl, rfl, trivial⟩ rfl
  ·
    first | replace hc9 := X.tt_dec hc9 | replace hc9 := X.tt_not hc9 | replace hc9 := X.ff_dec hc9 | replace hc9 := X.ff_not hc9 | skip
    refine J.exit ?_
    refine J.then_x ?_
    refine J.lp_x ?_
    refine J.blk_x ?_
    refine J.then_n ?_
    refine J.seq ?_
    refine J.region ?_
    refine J.q rfl rfl (Q.asg rfl) ?_
    refine J.nil ?_
    refine J.then_n ?_
    refine J.cret ?_
    refine J.ret1 (B := [G]) rfl rfl ⟨_, rfl, ?_, rfl⟩ rfl
    rw [List.take_of_length_le (by omega)] at hno
    rw [hno]; rfl

theorem containsFunc_spec (G : Assn) (sp : Option Addr) (sn sc : Nat) (names : List ByteArray) (fid : FuncId) (cap : List Value) (q : ByteArray → Bool)
    (hcall : ∀ (args : Array Value) (w : World), (callFunc fid args).run Try.prog w = .ok (.enter fid args) w)
    (hs : SlR [G] 1 (.slice sp sn sc) (names.map Value.string)) (hn : sn ≤ 140737488355328)
    (hf : ∀ s, s ∈ names → FSpec Try.prog fid ([] ++ [.string s] ++ cap) [G] (fun v B => v = .bool (q s) ∧ B = [G])) :
    FSpec Try.prog 42 [.slice sp sn sc, .func (.func fid) ([] : List Value).toArray cap.toArray] [G] (fun v B => v = .bool (names.any q) ∧ B = [G]) := by
  refine FSpec.of Try.func42 rfl Try.ntmps42 rfl fun W0 F => ?_
  refine J.seq ?_
  refine J.region ?_
  refine J.q rfl rfl (Q.asg rfl) ?_
  refine J.nil ?_
  refine J.then_n ?_
  refine J.seq ?_
  refine J.region ?_
  refine J.q rfl rfl (Q.mv rfl) ?_
  refine J.q rfl rfl (Q.mv rfl) ?_
  refine J.call Try.call54 (indexFunc_spec G sp sn sc names fid cap q hcall hs hn hf) [0] rfl rfl rfl rfl ?_
  rintro _ _ ⟨r, rfl, hr, rfl⟩
  refine J.norm rfl ?_
  refine J.q rfl rfl (Q.geq rfl rfl) ?_
  refine J.q rfl rfl (Q.asg rfl) ?_
  refine J.nil ?_
  refine J.then_n ?_
  refine J.cret ?_
  refine J.ret1 (B := [G]) rfl rfl ⟨by rw [hr], rfl⟩ rfl

theorem not_any_isNone (l : List FM) : ∀ names : List ByteArray, (!names.any fun s => (fget s l).isNone) = names.all fun s => (fget s l).isSome
  | [] => rfl
  | n :: ns => by
    simp only [List.any_cons, List.all_cons, Bool.not_or, not_any_isNone l ns]
    cases fget n l <;> rfl

/-- Are there files of all names? -/
theorem all_spec (p : Nat) (d : DM) (G : Assn) (sp : Option Addr) (sn sc : Nat) (names : List ByteArray) (hs : SlR [G] 1 (.slice sp sn sc) (names.map Value.string)) (hn : sn ≤ 140737488355328) :
    FSpec Try.prog 34 [.pointer (some ⟨p, 0, none⟩), .slice sp sn sc] [DiskAt p d, G] (fun v B => v = .bool (names.all fun s => (fget s d.files).isSome) ∧ B = [DiskAt p d, G]) := by
  refine FSpec.of Try.func34 rfl Try.ntmps34 rfl fun W0 F => ?_
  refine J.seq ?_
  refine J.region ?_
  refine J.c rfl rfl (C.box (l := [_]) rfl rfl) ?_
  rintro _ _ ⟨b2, rfl, rfl⟩
  refine J.norm rfl ?_
  refine J.q rfl rfl (Q.asg rfl) ?_
  refine J.nil ?_
  refine J.then_n ?_
  refine J.seq ?_
  refine J.region ?_
  refine J.pack [0, 1] rfl ?_
  refine J.conv (Y := Held b2 p d) 0 rfl (fun _ h => h) ?_
  refine J.pack [0, 1] rfl ?_
  have hs' : SlR [star [Held b2 p d, G]] 1 (.slice sp sn sc) (names.map Value.string) := hs.into 1 rfl
  have hcl : ∀ s, FSpec Try.prog 50 ([] ++ [.string s] ++ [.pointer (some ⟨b2, 0, none⟩)]) [star [Held b2 p d, G]] (fun v B => v = .bool (fget s d.files).isNone ∧ B = [star [Held b2 p d, G]]) := fun s =>
    FSpec.packed ((all1_spec p b2 d s).frame [G]) (by rintro v B ⟨B1, ⟨rfl, rfl⟩, rfl⟩; exact ⟨rfl, rfl⟩)
  refine J.q rfl rfl (Q.mv rfl) ?_
  refine J.q rfl rfl (Q.func rfl rfl) ?_
  refine J.call Try.call42 (containsFunc_spec (star [Held b2 p d, G]) sp sn sc names 50 [.pointer (some ⟨b2, 0, none⟩)] (fun s => (fget s d.files).isNone) Try.call50 hs' hn (fun s _ => hcl s)) [0] rfl rfl rfl rfl ?_
  rintro _ _ ⟨rfl, rfl⟩
  refine J.norm rfl ?_
  refine J.unpack 0 rfl rfl ?_
  refine J.conv (Y := star [pt b2 (.cells [Value.pointer (some ⟨p, 0, none⟩)].toArray 24 (0, 0)), DiskAt p d]) 0 rfl (fun _ h => h) ?_
  refine J.unpack 0 rfl rfl ?_
  refine J.q rfl rfl (Q.not rfl) ?_
  refine J.q rfl rfl (Q.asg rfl) ?_
  refine J.nil ?_
  refine J.then_n ?_
  refine J.cret ?_
  refine J.keep [1, 2, 3] rfl ?_
  refine J.ret1 (B := [DiskAt p d, G]) rfl rfl ⟨?_, rfl⟩ rfl
  rw [not_any_isNone]

end Go.Proofs.Ytkekcdcmmggbaaa
