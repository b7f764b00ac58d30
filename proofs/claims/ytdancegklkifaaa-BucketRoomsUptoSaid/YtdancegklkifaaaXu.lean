/-
  Results that lie in a block; whole blocks read. No program in sight.
-/
import Derived.Test.YtdancegklkifaaaXs
namespace Go.X
set_option linter.unusedSectionVars false
set_option linter.unusedSimpArgs false
set_option linter.unusedVariables false

theorem ReadsN.pt {D : List Assn} (i : Nat) {l : List Value} {e : TypeId} {z : Nat × Nat} {b : Nat} (h : D[i]? = some (X.pt b (.cells l.toArray e z))) : ReadsN D b 0 l :=
  fun j u hj => Reads.pt i h (by rw [Nat.zero_add]; exact hj)
/-- Some cells of a block. -/
theorem ReadsN.ptOff {D : List Assn} (i : Nat) {l vs : List Value} {e : TypeId} {z : Nat × Nat} {b off : Nat} (h : D[i]? = some (X.pt b (.cells l.toArray e z))) (hv : ∀ (j : Nat) u, vs[j]? = some u → l[off + j]? = some u) : ReadsN D b off vs :=
  fun j u hj => Reads.pt i h (hv j u hj)

section
variable {P : Program} {fn : Func} {N : Nat} {W0 : World} {L : Slots} {A B D : List Assn} {F : Assn} {R : Value → List Assn → Prop} {s t : Nat} {T : TypeId} {b : Nat} {vs : List Value} {u : Value}

theorem run_loadAgg {w : World} (ha : ∀ w, (isAgg T).run P w = .ok true w) (hs : ∀ w, (sizeOf T).run P w = .ok vs.length w) (hr : ReadsN A b 0 vs) (t : Sat W0 w A) : (loadVar T ⟨b, 0, none⟩).run P w = .ok (.agg vs.toArray) w := by
  have hc := run_loadCells (P := P) t hr
  simp [loadVar, ha, hs, hc]

/-- A result that lies in a block. -/
theorem J.retC (is : List Nat) (hr : fn.results = #[.cell s T]) (hv : find s L = some (.pointer (some ⟨b, 0, none⟩))) (ha : ∀ w, (isAgg T).run P w = .ok true w) (hs : ∀ w, (sizeOf T).run P w = .ok vs.length w) (hrd : ReadsN A b 0 vs)
    (hp : X.pick is A = some (B ++ [F], D)) (hR : R (.agg vs.toArray) B) : J W0 N L A (bodyPost P fn (RetQ W0 R F) .ret) := by
  refine ⟨fun a w f t => ?_⟩
  have hg : (a.tmps[s]?).getD undef = .pointer (some ⟨b, 0, none⟩) := by rw [f.get s _ hv]; rfl
  have hres : (results fn a.tmps).run P w = .ok (.agg vs.toArray) w := by
    simp [results, hr, hg, asAddr, run_loadAgg ha hs hrd t]
  refine bodyPost_ret hres f.defers ⟨_, B, rfl, hR, t.imp fun k q => ?_⟩
  obtain ⟨h1, h2, p1, p2, d, u1, u2⟩ := (q.perm (pick_perm hp)).append
  exact p1.mono u1
theorem J.endC (is : List Nat) (hr : fn.results = #[.cell s T]) (hv : find s L = some (.pointer (some ⟨b, 0, none⟩))) (ha : ∀ w, (isAgg T).run P w = .ok true w) (hs : ∀ w, (sizeOf T).run P w = .ok vs.length w) (hrd : ReadsN A b 0 vs)
    (hp : X.pick is A = some (B ++ [F], D)) (hR : R (.agg vs.toArray) B) : J W0 N L A (bodyPost P fn (RetQ W0 R F) .normal) := by
  refine ⟨fun a w f t => ?_⟩
  have hg : (a.tmps[s]?).getD undef = .pointer (some ⟨b, 0, none⟩) := by rw [f.get s _ hv]; rfl
  have hres : (results fn a.tmps).run P w = .ok (.agg vs.toArray) w := by
    simp [results, hr, hg, asAddr, run_loadAgg ha hs hrd t]
  refine bodyPost_end hres f.defers ⟨_, B, rfl, hR, t.imp fun k q => ?_⟩
  obtain ⟨h1, h2, p1, p2, d, u1, u2⟩ := (q.perm (pick_perm hp)).append
  exact p1.mono u1
/-- One that lies in a block, and one more. -/
theorem J.retC2 (is : List Nat) (hr : fn.results = #[.cell s T, .tmp t]) (hv : find s L = some (.pointer (some ⟨b, 0, none⟩))) (ht : find t L = some u) (ha : ∀ w, (isAgg T).run P w = .ok true w) (hs : ∀ w, (sizeOf T).run P w = .ok vs.length w) (hrd : ReadsN A b 0 vs)
    (hp : X.pick is A = some (B ++ [F], D)) (hR : R (.tuple #[.agg vs.toArray, u]) B) : J W0 N L A (bodyPost P fn (RetQ W0 R F) .ret) := by
  refine ⟨fun a w f q => ?_⟩
  have hg : (a.tmps[s]?).getD undef = .pointer (some ⟨b, 0, none⟩) := by rw [f.get s _ hv]; rfl
  have hg2 : (a.tmps[t]?).getD undef = u := by rw [f.get t _ ht]; rfl
  have hres : (results fn a.tmps).run P w = .ok (.tuple #[.agg vs.toArray, u]) w := by
    simp [results, hr, hg, hg2, asAddr, run_loadAgg ha hs hrd q]
  refine bodyPost_ret hres f.defers ⟨_, B, rfl, hR, q.imp fun k q => ?_⟩
  obtain ⟨h1, h2, p1, p2, d, u1, u2⟩ := (q.perm (pick_perm hp)).append
  exact p1.mono u1
end

section maps
open G
variable {κ ν : Type} [DecidableEq κ] {W0 : World} {N : Nat} {L : Slots} {A D : List Assn} {Gl : Act → World → Prop}
variable {enc : κ → Value} {rep : κ → ν → Value → Assn} {r : Nat} {S : List (κ × ν)} {k : κ} {val : Value} {lt : κ → κ → Bool}

/-- The entry under a key is looked at. -/
theorem J.mapFocus (i : Nat) {v : ν} (hk : sget k S = some v) (e : X.pick [i] A = some ([MapAt enc rep r S], D)) (h : ∀ val, J W0 N L (rep k v val :: MapHole enc rep r S k val :: D) Gl) : J W0 N L A Gl :=
  J.open1 (Bs := fun val => [rep k v val, MapHole enc rep r S k val]) i e (MapAt.focus hk) h
/-- And is put back, standing for whatever it then does. -/
theorem J.mapBack (i j : Nat) (v' : ν) (o : Ord3 lt) (hS : Srtd lt S) (e : X.pick [i, j] A = some ([rep k v' val, MapHole enc rep r S k val], D)) (h : J W0 N L (MapAt enc rep r (sput lt k v' S) :: D) Gl) : J W0 N L A Gl :=
  J.shut [i, j] _ e (MapHole.back o hS v') h
/-- As it was. -/
theorem J.mapSame (i j : Nat) {v : ν} (o : Ord3 lt) (hS : Srtd lt S) (hk : sget k S = some v) (e : X.pick [i, j] A = some ([rep k v val, MapHole enc rep r S k val], D)) (h : J W0 N L (MapAt enc rep r S :: D) Gl) : J W0 N L A Gl := by
  refine J.mapBack (lt := lt) i j v o hS e ?_
  rw [sput_same o hS hk]; exact h
end maps

/-- Some assertions are let go, the others come in the named order; facts of what they say may be turned. -/
theorem J.drop (is : List Nat) {W0 : World} {N : Nat} {L : Slots} {A B C : List Assn} {G : Act → World → Prop} (e : X.pick is A = some (B, C)) (h : J W0 N L B G) : J W0 N L A G := J.keep is e h
end Go.X
