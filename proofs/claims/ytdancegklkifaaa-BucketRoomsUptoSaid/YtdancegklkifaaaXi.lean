/-
  More rules: packing and unpacking, one of many, the entry of a range, slices that are read. No program in sight.
-/
import Derived.Test.YtdancegklkifaaaXh
namespace Go.X
set_option linter.unusedSectionVars false
set_option linter.unusedSimpArgs false
set_option linter.unusedVariables false

section
variable {W0 : World} {N : Nat} {L : Slots} {A B C D : List Assn} {G : Act → World → Prop}

/-- Several as one taken apart. -/
theorem J.unpack (i : Nat) {Bs E : List Assn} (e : X.pick [i] A = some ([star Bs], D)) (en : normA (Bs ++ D) = some E) (h : J W0 N L E G) : J W0 N L A G := by
  rw [← normA_eq en] at h
  exact h.imp fun _ s => (s.perm (pick_perm e)).unpack

/-- Some as one. -/
theorem J.pack (is : List Nat) (e : X.pick is A = some (C, D)) (h : J W0 N L (star C :: D) G) : J W0 N L A G :=
  h.imp fun _ s => (s.perm (pick_perm e)).pack

/-- A list of assertions with other facts: by what it entails. -/
theorem J.conv (i : Nat) {U Y : Assn} (e : X.pick [i] A = some ([U], D)) (f : ∀ h, U h → Y h) (h : J W0 N L (Y :: D) G) : J W0 N L A G :=
  h.imp fun _ s => HSat.imp (s.perm (pick_perm e)) f

/-- What an assertion holds within: a witness. -/
theorem J.open1 {α : Type} (i : Nat) {U : Assn} {Bs : α → List Assn} (e : X.pick [i] A = some ([U], D)) (f : ∀ h, U h → ∃ x, HSat h (Bs x)) (h : ∀ x, J W0 N L (Bs x ++ D) G) : J W0 N L A G :=
  J.open_ (α := α) i (p := fun _ => True) e rfl (fun h hx => by obtain ⟨x, s⟩ := f h hx; exact ⟨x, trivial, s⟩) (fun x _ => h x)

/-- A fact that an assertion holds. -/
theorem J.tells (i : Nat) {X : Assn} {p : Prop} (e : A[i]? = some X) (f : ∀ h, X h → p) (h : p → J W0 N L A G) : J W0 N L A G :=
  J.know (fun k s => by obtain ⟨k', a, _⟩ := s.at_ e; exact f k' a) h

theorem perm_focus {α : Type} (f : α → Assn) : ∀ {l : List α} {k : Nat} {x : α}, l[k]? = some x → (l.map f).Perm (f x :: (l.eraseIdx k).map f)
  | [], _, _, e => by simp at e
  | y :: l, 0, x, e => by simp at e; subst e; exact List.Perm.refl _
  | y :: l, k + 1, x, e => by
    simp only [List.map_cons, List.eraseIdx_cons_succ]
    exact ((perm_focus f (l := l) (k := k) (x := x) (by simpa using e)).cons _).trans (List.Perm.swap _ _ _)

theorem perm_unfocus {α : Type} (f : α → Assn) : ∀ {l : List α} {k : Nat} {x : α}, k < l.length → (f x :: (l.eraseIdx k).map f).Perm ((l.set k x).map f)
  | [], _, _, h => by simp at h
  | y :: l, 0, x, _ => by simp
  | y :: l, k + 1, x, h => by
    simp only [List.map_cons, List.eraseIdx_cons_succ, List.set_cons_succ]
    exact (List.Perm.swap _ _ _).trans ((perm_unfocus f (l := l) (k := k) (x := x) (by simpa using h)).cons _)

/-- One of many is looked at. -/
theorem J.focus {α : Type} {f : α → Assn} {l : List α} (i k : Nat) {x : α} (e : X.pick [i] A = some ([star (l.map f)], D)) (hk : l[k]? = some x) (h : J W0 N L (f x :: star ((l.eraseIdx k).map f) :: D) G) : J W0 N L A G :=
  h.imp fun q s => by
    have s1 := HSat.unpack (s.perm (pick_perm e))
    have s2 : HSat q ((f x :: (l.eraseIdx k).map f) ++ D) := s1.perm ((perm_focus f hk).append_right D)
    exact HSat.under (A := f x) s2 (fun _ s => HSat.pack s)

/-- And is put back, turned or not. -/
theorem J.unfocus {α : Type} {f : α → Assn} {l : List α} (i j : Nat) (k : Nat) (x : α) (e : X.pick [i, j] A = some ([f x, star ((l.eraseIdx k).map f)], D)) (hk : k < l.length) (h : J W0 N L (star ((l.set k x).map f) :: D) G) : J W0 N L A G :=
  h.imp fun q s => by
    have s1 := s.perm (pick_perm e)
    have s2 : HSat q (f x :: ((l.eraseIdx k).map f ++ D)) := HSat.under (A := f x) s1 (fun _ s => HSat.unpack s)
    exact HSat.pack (HSat.perm (As := (f x :: (l.eraseIdx k).map f) ++ D) ((perm_unfocus f hk).append_right D) s2)

/-- One more. -/
theorem J.addone {α : Type} {f : α → Assn} {l : List α} (i j : Nat) (x : α) (e : X.pick [i, j] A = some ([f x, star (l.map f)], D)) (h : J W0 N L (star ((l ++ [x]).map f) :: D) G) : J W0 N L A G :=
  h.imp fun q s => by
    have s1 := s.perm (pick_perm e)
    have s2 : HSat q (f x :: (l.map f ++ D)) := HSat.under (A := f x) s1 (fun _ s => HSat.unpack s)
    have hp : (f x :: (l.map f)).Perm ((l ++ [x]).map f) := by
      rw [List.map_append]; exact (List.perm_append_singleton _ _).symm
    exact HSat.pack (HSat.perm (As := (f x :: l.map f) ++ D) (hp.append_right D) s2)
end

section
variable {P : Program} {L : Slots} {A D : List Assn} {ty : TypeId} {W0 w : World} {x : Operand}

/-- The entry that the last step of a range met. -/
theorem Q.entry {i j b r c : Nat} {m : List MEnt} {seen : List Nat} {e : MEnt} (ex : ev L x = some (.pointer (some ⟨b, 0, none⟩))) (hA : D[i]? = some (pt b (miter r c (seen ++ [e.born])))) (hM : D[j]? = some (pt r (mobj m c))) (he : e ∈ m) (hn : (m.map (·.born)).Nodup) :
    OpQ P (.entry x) ty L D (.tuple #[.string e.key, e.val]) := by
  refine ⟨fun dst pos aft g a W0 w F ag s => ⟨w, ?_, s⟩⟩
  have e1 := ag.at_ ex (by simp [Op.operands])
  have hb1 : w.heap[b]? = some (miter r c (seen ++ [e.born])) := s.at_ (i := i) (by rw [List.getElem?_append_left (List.getElem?_eq_some_iff.1 hA).1]; exact hA)
  have hb2 : w.heap[r]? = some (mobj m c) := s.at_ (i := j) (by rw [List.getElem?_append_left (List.getElem?_eq_some_iff.1 hM).1]; exact hM)
  have hgI : (getObj b).run P w = .ok (miter r c (seen ++ [e.born])) w := by simp [getObj, Sem.run, hb1, miter]
  have hgM := run_getObj_map (P := P) hb2
  have hfind : (m.map MEnt.toEntry).toArray.find? (fun q => q.born == e.born) = some e.toEntry := by
    have key : ∀ (m : List MEnt), e ∈ m → (m.map (·.born)).Nodup → (m.map MEnt.toEntry).find? (fun q => q.born == e.born) = some e.toEntry := by
      intro m
      induction m with
      | nil => intro h; cases h
      | cons q m ih =>
        intro h hn
        simp only [List.map_cons, List.nodup_cons] at hn
        simp only [List.map_cons, List.find?_cons]
        rcases List.mem_cons.1 h with rfl | h
        · simp [MEnt.toEntry]
        · have hne : ¬ q.born = e.born := by
            intro eq
            exact hn.1 (eq ▸ List.mem_map_of_mem h)
          have : (q.toEntry.born == e.born) = false := by simpa [MEnt.toEntry] using hne
          rw [this]; exact ih h hn.2
    rw [List.find?_toArray]; exact key m he hn
  have hback : (seen ++ [e.born]).toArray.back? = some e.born := by simp
  have hk : (Instr.entry (.pointer (some ⟨b, 0, none⟩))).run P w = .ok (.tuple #[.string e.key, e.val]) w := by
    have hcc : (c != c) = false := by simp
    simp only [Instr.entry, Sem.run_bind, hgI, miter, Result.andThen_ok, hback, hgM, mobj, hcc, hfind]
    rfl
  simp [execOp, e1, hk]

/-- What a slice reads as, in more memory. -/
theorem SlR.more {sz : Nat} {v : Value} {xs : List Value} {F : List Assn} (h : SlR D sz v xs) : SlR (D ++ F) sz v xs := by
  rcases h with h | ⟨b, off, len, cap, h1, h2, h3⟩
  · exact .inl h
  · exact .inr ⟨b, off, len, cap, h1, h2, fun i u hu => (h3 i u hu).more⟩

theorem Reads.within {i b off : Nat} {v : Value} {X : Assn} (h : Reads [X] b off v) (e : A[i]? = some X) : Reads A b off v := by
  intro k s
  obtain ⟨k', a, u⟩ := s.at_ e
  obtain ⟨c, t, z, h1, h2⟩ := h k' ⟨k', fun _ => none, a, trivial, fun _ => .inr rfl, Sub.refl _, fun _ _ e => nomatch e⟩
  exact ⟨c, t, z, u _ _ h1, h2⟩

theorem ReadsN.within {i b off : Nat} {vs : List Value} {X : Assn} (h : ReadsN [X] b off vs) (e : A[i]? = some X) : ReadsN A b off vs := fun j v hj => (h j v hj).within e

/-- A slice that an assertion holds, read out of memory that holds the assertion. -/
theorem SlR.within {sz i : Nat} {v : Value} {xs : List Value} {X : Assn} (h : SlR [X] sz v xs) (e : A[i]? = some X) : SlR A sz v xs := by
  rcases h with h | ⟨b, off, len, cap, h1, h2, h3⟩
  · exact .inl h
  · exact .inr ⟨b, off, len, cap, h1, h2, h3.within e⟩

theorem SlR.len {sz : Nat} {p : Option Addr} {n c : Nat} {xs : List Value} (h : SlR D sz (.slice p n c) xs) : xs.length = n * sz := by
  rcases h with ⟨_, c', e, rfl⟩ | ⟨b, off, len, cap, e, h2, _⟩
  · cases e; simp
  · cases e; exact h2

/-- An owned slice reads as what it holds. -/
theorem own.slr {E sz i : Nat} {p : Option Addr} {n c : Nat} {xs : List Value} (e : D[i]? = some (own E sz (.slice p n c) xs)) : (∃ h, HSat h D) → SlR D sz (.slice p n c) xs := by
  rintro ⟨h, s⟩
  obtain ⟨k, hk, _⟩ := s.at_ e
  rcases hk with ⟨e1, e2⟩ | ⟨o, ho, _⟩
  · cases e1; exact .inl ⟨_, _, rfl, e2⟩
  · have hv := ho.val
    simp only [Value.slice.injEq] at hv
    obtain ⟨rfl, rfl, rfl⟩ := hv
    refine .inr ⟨o.b, o.off, o.len, o.cap, rfl, ho.len, ?_⟩
    intro j u hj k s
    obtain ⟨k', hk', hs⟩ := s.at_ e
    rcases hk' with ⟨e1, _⟩ | ⟨o', ho', hb⟩
    · cases e1
    · have hv' := ho'.val
      simp only [Value.slice.injEq, Option.some.injEq, Addr.mk.injEq, and_true] at hv'
      obtain ⟨⟨hb1, hb2⟩, hb3, hb4⟩ := hv'
      refine ⟨_, _, _, hs _ _ (by rw [hb1]; exact hb), ?_⟩
      have := ho'.get j u hj
      rw [← hb2] at this
      simpa using this

theorem J.slr {W0 : World} {N : Nat} {G : Act → World → Prop} {E sz : Nat} {p : Option Addr} {n c : Nat} {xs : List Value} (i : Nat) (e : A[i]? = some (own E sz (.slice p n c) xs)) (h : SlR A sz (.slice p n c) xs → J W0 N L A G) : J W0 N L A G :=
  ⟨fun a w f s => (h (own.slr e ⟨_, s.heap⟩)).run a w f s⟩

/-- A slice over a block that is written out. -/
theorem SlR.pt (i : Nat) {b off len cap sz : Nat} {l xs : List Value} {e : TypeId} {z : Nat × Nat} (h : D[i]? = some (pt b (.cells l.toArray e z))) (hl : xs.length = len * sz) (hx : ∀ (j : Nat) u, xs[j]? = some u → l[off + j]? = some u) : SlR D sz (.slice (some ⟨b, off, none⟩) len cap) xs :=
  .inr ⟨b, off, len, cap, rfl, hl, fun j u hu => Reads.pt i h (hx j u hu)⟩

/-- A block of one's own, as a slice that is owned. -/
theorem own.of_pt {b len cap E sz : Nat} {l xs : List Value} {z : Nat × Nat} (hl : xs.length = len * sz) (hc : len ≤ cap) (hf : cap * sz ≤ l.length) (hx : ∀ (j : Nat) u, xs[j]? = some u → l[j]? = some u) (hz : ∀ k, k < l.length → (decide (z.1 ≤ k) && decide (k < z.2)) = false) :
    ∀ h, pt b (.cells l.toArray E z) h → own E sz (.slice (some ⟨b, 0, none⟩) len cap) xs h :=
  fun _ hp => .inr ⟨⟨b, 0, len, cap, l, z⟩, ⟨rfl, hl, hc, by simpa using hf, fun j u hj => by simpa using hx j u hj, hz⟩, hp⟩

theorem own.nil (E sz : Nat) (h : Hp) : own E sz (.slice none 0 0) [] h := .inl ⟨rfl, rfl⟩
theorem own.len {E sz : Nat} {p : Option Addr} {n c : Nat} {xs : List Value} : ∀ h, own E sz (.slice p n c) xs h → xs.length = n * sz ∧ n ≤ c := by
  rintro h (⟨e1, e2⟩ | ⟨o, ho, _⟩)
  · cases e1; subst e2; exact ⟨by simp, Nat.le_refl _⟩
  · have hv := ho.val
    simp only [Value.slice.injEq] at hv
    obtain ⟨_, rfl, rfl⟩ := hv
    exact ⟨ho.len, ho.cap⟩

theorem SlR.some_ {D : List Assn} {sz : Nat} {p : Option Addr} {n c : Nat} {xs : List Value} (h : SlR D sz (.slice p n c) xs) (hn : 0 < n) : ∃ b off, p = some ⟨b, off, none⟩ ∧ ReadsN D b off xs := by
  rcases h with ⟨_, c', e, _⟩ | ⟨b, off, len, cap, e, _, h3⟩
  · cases e; omega
  · cases e; exact ⟨b, off, rfl, h3⟩
theorem Reads.cast {D : List Assn} {b o o' : Nat} {v : Value} (h : Reads D b o v) (e : o = o') : Reads D b o' v := e ▸ h


/-- What one of several reads, read out of the several as one. -/
theorem SlR.into {sz : Nat} {v : Value} {xs : List Value} {X : Assn} {As : List Assn} (i : Nat) (h : SlR [X] sz v xs) (e : As[i]? = some X) : SlR [star As] sz v xs := by
  have key : ∀ {b off : Nat} {u : Value}, Reads [X] b off u → Reads [star As] b off u := by
    intro b off u hr k s
    obtain ⟨k1, k2, hs, _, _, hsub, _⟩ := s
    obtain ⟨c, t, z, h1, h2⟩ := (hr.within (A := As) e) k1 hs
    exact ⟨c, t, z, hsub _ _ h1, h2⟩
  rcases h with h | ⟨b, off, len, cap, h1, h2, h3⟩
  · exact .inl h
  · exact .inr ⟨b, off, len, cap, h1, h2, fun j u hj => key (h3 j u hj)⟩

/-- A contract over several, as one over the several in one. -/
theorem FSpec.packed {f : FuncId} {args : List Value} {As : List Assn} {R R' : Value → List Assn → Prop} (h : FSpec P f args As R) (hr : ∀ v B, R v B → R' v [star B]) : FSpec P f args [star As] R' := by
  refine ⟨fun W0 w F s => (h.call W0 w F ?_).mono ?_⟩
  · exact s.imp fun k t => HSat.unpack (Bs := [F]) t
  · rintro e w' ⟨v, B, rfl, r, t⟩
    exact ⟨v, [star B], rfl, hr _ _ r, t.imp fun k t => HSat.pack (Bs := [F]) t⟩

theorem bytesV_one (bs : List UInt8) : ∀ v, v ∈ bytesV bs → oneC v = true := by
  intro v hv
  simp only [bytesV, List.mem_map] at hv
  obtain ⟨u, _, rfl⟩ := hv
  rfl
theorem bytesV_length (bs : List UInt8) : (bytesV bs).length = bs.length := by simp [bytesV]
theorem bytesV_append (bs cs : List UInt8) : bytesV bs ++ bytesV cs = bytesV (bs ++ cs) := by simp [bytesV]

/-- What holds of no memory may be had. -/
theorem J.give {W0 : World} {N : Nat} {G : Act → World → Prop} {X : Assn} (hx : X (fun _ => none)) (h : J W0 N L (X :: A) G) : J W0 N L A G :=
  J.imp (B := X :: A) (fun k s => ⟨fun _ => none, k, hx, s, fun _ => .inl rfl, (fun _ _ e => nomatch e), Sub.refl _⟩) h
/-- An assertion as another that is the same. -/
theorem J.same {W0 : World} {N : Nat} {G : Act → World → Prop} {B : List Assn} (e : A = B) (h : J W0 N L B G) : J W0 N L A G := e ▸ h

theorem J.slr1 {W0 : World} {N : Nat} {G : Act → World → Prop} {E sz : Nat} {p : Option Addr} {n c : Nat} {xs : List Value} (i : Nat) (e : A[i]? = some (own E sz (.slice p n c) xs)) (h : SlR [own E sz (.slice p n c) xs] sz (.slice p n c) xs → J W0 N L A G) : J W0 N L A G :=
  J.tells (p := SlR [own E sz (.slice p n c) xs] sz (.slice p n c) xs) i e (fun k hk => own.slr (i := 0) rfl ⟨k, k, fun _ => none, hk, trivial, fun _ => .inr rfl, Sub.refl _, fun _ _ e => nomatch e⟩) h

theorem set_self {α : Type} : ∀ {l : List α} {i : Nat} {x : α}, l[i]? = some x → l.set i x = l
  | [], _, _, h => by simp at h
  | y :: l, 0, x, h => by simp at h; subst h; rfl
  | y :: l, i + 1, x, h => by rw [List.set_cons_succ, set_self (by simpa using h)]

/-- One of many is put back as it was. -/
theorem J.refocus {W0 : World} {N : Nat} {G : Act → World → Prop} {α : Type} {f : α → Assn} {l : List α} {D : List Assn} (i j k : Nat) (x : α) (e : X.pick [i, j] A = some ([f x, star ((l.eraseIdx k).map f)], D)) (hk : l[k]? = some x) (h : J W0 N L (star (l.map f) :: D) G) : J W0 N L A G :=
  J.unfocus i j k x e (List.getElem?_eq_some_iff.1 hk).1 (by rw [set_self hk]; exact h)

/-- A step of a range: over, or one that was not met. -/
theorem C.next1 {i j b r c : Nat} {m : List MEnt} {seen : List Nat} (ex : ev L x = some (.pointer (some ⟨b, 0, none⟩))) (hA : A[i]? = some (pt b (miter r c seen))) (hM : A[j]? = some (pt r (mobj m c))) (hborn : ∀ e, e ∈ m → e.born < c) :
    OpC P (.next x false) ty L A (fun u B => ∃ (t : Bool) (rest : List Value) (seen' : List Nat), u = .tuple (.bool t :: rest).toArray ∧ B = A.set i (pt b (miter r c seen')) ∧ ((t = false ∧ mleft m seen = [] ∧ seen' = seen) ∨ (t = true ∧ ∃ e, e ∈ mleft m seen ∧ seen' = seen ++ [e.born]))) := by
  refine ⟨fun dst pos aft g a W0 w ag s K Q k => (C.next (ty := ty) ex hA hM hborn).wp dst pos aft g a W0 w ag s K Q ?_⟩
  rintro v B w' (⟨h1, rfl, rfl⟩ | ⟨e, h1, rfl, rfl⟩) s'
  · exact k _ _ _ ⟨false, [], seen, rfl, (set_self hA).symm, .inl ⟨rfl, h1, rfl⟩⟩ s'
  · exact k _ _ _ ⟨true, [_, _], _, rfl, rfl, .inr ⟨rfl, e, h1, rfl⟩⟩ s'
end
end Go.X
