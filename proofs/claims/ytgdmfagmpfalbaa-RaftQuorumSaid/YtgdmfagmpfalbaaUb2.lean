/-
  What the proof of the last of these texts leans on: part 2 of 5.
-/
import Derived.Laws.StructEq
import Derived.RangeFuncRecord
import Derived.RangeFuncIn
import Derived.RangeFuncLeaves
import Derived.RangeFuncSeq
import Derived.TacticsIn
import Derived.Test.YtgdmfagmpfalbaaUb1
set_option linter.unusedSectionVars false
set_option linter.unusedVariables false
set_option linter.unusedSimpArgs false
namespace Go.X
set_option linter.unusedSectionVars false
set_option linter.unusedSimpArgs false
set_option linter.unusedVariables false

section opened
variable {P : Program} {op : Op} {ty : TypeId} {L : Slots} {A D : List Assn}

theorem OpC.shutTo {R R' : Value → List Assn → Prop} (k : OpC P op ty L A R) (f : ∀ v B, R v B → ∃ B', R' v B' ∧ ∀ h, HSat h B → HSat h B') : OpC P op ty L A R' := by
  refine ⟨fun dst pos aft gd a W0 w ag s K Q kk => k.wp dst pos aft gd a W0 w ag s K Q fun v B w' r s' => ?_⟩
  obtain ⟨B', r', hb⟩ := f v B r
  exact kk v B' w' r' (s'.imp hb)
end opened

namespace G
variable {κ ν : Type} [DecidableEq κ]

structure Ent (κ ν : Type) where
  key : κ
  v : ν
  val : Value
  born : Nat
def Ent.m (e : Ent κ ν) : MEnt κ := ⟨e.key, e.val, e.born⟩
def Ent.kv (e : Ent κ ν) : κ × ν := (e.key, e.v)

structure Ents (S : List (κ × ν)) (es : List (Ent κ ν)) (c : Nat) : Prop where
  perm : (es.map Ent.kv).Perm S
  keys : (es.map (·.key)).Nodup
  born : (es.map (·.born)).Nodup
  old : ∀ e, e ∈ es → e.born < c

def Ent.asn (rep : κ → ν → Value → Assn) (e : Ent κ ν) : Assn := rep e.key e.v e.val

def MapAt (enc : κ → Value) (rep : κ → ν → Value → Assn) (r : Nat) (S : List (κ × ν)) : Assn := fun h => ∃ x : List (Ent κ ν) × Nat, Ents S x.1 x.2 ∧ HSat h [pt r (mobj enc (x.1.map Ent.m) x.2), star (x.1.map (Ent.asn rep))]

section asn
variable {enc : κ → Value} {rep : κ → ν → Value → Assn} {r : Nat} {S : List (κ × ν)} {k : κ} {v : ν} {val : Value}

theorem HSat.one {X : Assn} {h : Hp} (hx : X h) : HSat h [X] := ⟨h, fun _ => none, hx, trivial, fun _ => Or.inr rfl, Sub.refl _, fun _ _ e => nomatch e⟩
theorem HSat.two {X Y : Assn} {h h1 h2 : Hp} (hx : X h1) (hy : Y h2) (d : Dis h1 h2) (s1 : Sub h1 h) (s2 : Sub h2 h) : HSat h [X, Y] := ⟨h1, h2, hx, HSat.one hy, d, s1, s2⟩
theorem MapAt.new : ∀ h, pt r (.map #[] 0) h → MapAt enc rep r ([] : List (κ × ν)) h := fun h hh =>
  ⟨([], 0), ⟨List.Perm.refl _, by simp, by simp, by simp⟩, HSat.two (h2 := fun _ => none) hh trivial (fun _ => Or.inr rfl) (Sub.refl _) (fun _ _ e => nomatch e)⟩

end asn

section ops
variable {P : Program} {L : Slots} {A D : List Assn} {ty : TypeId} {T K E : TypeId} {x y z : Operand}
variable {enc : κ → Value} {rep : κ → ν → Value → Assn} {r : Nat} {S : List (κ × ν)} {k : κ} {val : Value}

end ops
end G
end Go.X
namespace Go.X
set_option linter.unusedSectionVars false
set_option linter.unusedSimpArgs false
set_option linter.unusedVariables false

theorem ReadsN.pt {D : List Assn} (i : Nat) {l : List Value} {e : TypeId} {z : Nat × Nat} {b : Nat} (h : D[i]? = some (X.pt b (.cells l.toArray e z))) : ReadsN D b 0 l :=
  fun j u hj => Reads.pt i h (by rw [Nat.zero_add]; exact hj)
section
variable {P : Program} {fn : Func} {N : Nat} {W0 : World} {L : Slots} {A B D : List Assn} {F : Assn} {R : Value → List Assn → Prop} {s t : Nat} {T : TypeId} {b : Nat} {vs : List Value} {u : Value}

theorem run_loadAgg {w : World} (ha : ∀ w, (isAgg T).run P w = .ok true w) (hs : ∀ w, (sizeOf T).run P w = .ok vs.length w) (hr : ReadsN A b 0 vs) (t : Sat W0 w A) : (loadVar T ⟨b, 0, none⟩).run P w = .ok (.agg vs.toArray) w := by
  have hc := run_loadCells (P := P) t hr
  simp [loadVar, ha, hs, hc]

end

section maps
open G
variable {κ ν : Type} [DecidableEq κ] {W0 : World} {N : Nat} {L : Slots} {A D : List Assn} {Gl : Act → World → Prop}
variable {enc : κ → Value} {rep : κ → ν → Value → Assn} {r : Nat} {S : List (κ × ν)} {k : κ} {val : Value} {lt : κ → κ → Bool}

end maps

end Go.X
namespace Go.X.G
set_option linter.unusedSectionVars false
set_option linter.unusedSimpArgs false
set_option linter.unusedVariables false
variable {κ ν : Type} [DecidableEq κ]

section ops
variable {P : Program} {L : Slots} {A D : List Assn} {ty : TypeId} {x : Operand} {enc : κ → Value} {S : List (κ × ν)} {es : List (Ent κ ν)} {c : Nat}

end ops
end Go.X.G
namespace Go.X
set_option linter.unusedSectionVars false
set_option linter.unusedSimpArgs false
set_option linter.unusedVariables false

section
variable {P : Program} {W0 : World} {N : Nat} {l : List Oper} {NQ : List Nat} {Q : Exit → Act → World → Prop} {S : List Nat} {L : Slots} {D E A Ain F : List Assn}

theorem Pend.frame {o : Oper} {v : Value} (Fs : List Assn) (h : Pend P l o L D v) : Pend P l o L (D ++ Fs) v := by
  rcases h with ⟨h1, h2⟩ | h
  · refine .inl ⟨h1, ⟨fun dst pos aft g a W0 w F ag s => ?_⟩⟩
    rw [List.append_assoc] at s ⊢
    exact h2.run dst pos aft g a W0 w (Fs ++ F) ag s
  · exact .inr h
end

namespace G
variable {κ : Type} [DecidableEq κ]
section
variable {P : Program} {L : Slots} {A D : List Assn} {ty : TypeId} {T K E : TypeId} {x y z : Operand} {enc : κ → Value} {lt : κ → κ → Bool} {r : Nat} {S : List (κ × Value)} {k : κ} {v : Value}

end
end G
end Go.X
namespace Go.X
set_option linter.unusedSectionVars false
set_option linter.unusedSimpArgs false
set_option linter.unusedVariables false

section
variable {P : Program} {L : Slots} {D : List Assn} {ty T T' : TypeId} {x y : Operand} {k : IntKind} {a b : Int}
theorem Q.or (ex : ev L x = some (.int k a)) (ey : ev L y = some (.int k b)) : OpQ P (.binOp .or T x y T') ty L D (.int k (k.wrap (BitVec.ofInt k.bits a ||| BitVec.ofInt k.bits b).toNat)) :=
  Q.bin ex ey fun w => by simp [guard_int, binOp, Op.intBits]
theorem Q.and (ex : ev L x = some (.int k a)) (ey : ev L y = some (.int k b)) : OpQ P (.binOp .and T x y T') ty L D (.int k (k.wrap (BitVec.ofInt k.bits a &&& BitVec.ofInt k.bits b).toNat)) :=
  Q.bin ex ey fun w => by simp [guard_int, binOp, Op.intBits]

theorem Q.mkif {d : TypeDesc} {v : Value} (hT : ∀ w, (underlying T).run P w = .ok d w) (hn : ∀ m, d ≠ .interface m) (e : ev L x = some v) : OpQ P (.makeInterface T x) ty L D (.iface T v) :=
  .pure_ fun _ _ _ _ a w ag => by
    have h1 := ag.at_ e (by simp [Op.operands])
    cases d <;> first
      | exact absurd rfl (hn _)
      | simp [execOp, h1, Instr.makeInterface, hT]
theorem Q.asYes {xT : TypeId} {d : TypeDesc} {v : Value} (hT : ∀ w, (underlying T).run P w = .ok d w) (hn : ∀ m, d ≠ .interface m) (e : ev L x = some (.iface T v)) : OpQ P (.typeAssert x xT T true) ty L D (.tuple #[v, .bool true]) :=
  .pure_ fun _ _ _ _ a w ag => by
    have h1 := ag.at_ e (by simp [Op.operands])
    cases d <;> first
      | exact absurd rfl (hn _)
      | simp [execOp, h1, Instr.typeAssert, hT]
theorem Q.asNo {xT t : TypeId} {d : TypeDesc} {v z : Value} (hT : ∀ w, (underlying T).run P w = .ok d w) (hn : ∀ m, d ≠ .interface m) (hz : ∀ w, (zeroValue T).run P w = .ok z w) (ht : t ≠ T) (e : ev L x = some (.iface t v)) : OpQ P (.typeAssert x xT T true) ty L D (.tuple #[z, .bool false]) :=
  .pure_ fun _ _ _ _ a w ag => by
    have h1 := ag.at_ e (by simp [Op.operands])
    cases d <;> first
      | exact absurd rfl (hn _)
      | simp [execOp, h1, Instr.typeAssert, hT, hz, ht]
end

theorem eq_nil {P : Program} {T t : TypeId} {ms : Array (String × TypeId)} {v : Value} (d : Nat) (hT : ∀ w, (underlying T).run P w = .ok (.interface ms) w) (w : World) : (Op.equalIn (d + 1) T (.iface t v) .nilIface).run P w = .ok false w := by
  simp [Op.equalIn, hT]
theorem Q.neqnil {P : Program} {L : Slots} {D : List Assn} {ty T T' t : TypeId} {ms : Array (String × TypeId)} {x y : Operand} {v : Value} (hT : ∀ w, (underlying T).run P w = .ok (.interface ms) w) (ex : ev L x = some (.iface t v)) (ey : ev L y = some .nilIface) : OpQ P (.binOp .neq T x y T') ty L D (.bool true) :=
  Q.bin ex ey fun w => by
    have he : (Op.equal T (.iface t v) .nilIface).run P w = .ok false w := eq_nil 9999 hT w
    simp [eqGuard, binOp, he]

theorem results_tmp3 {fn : Func} {t u v : Tmp} (h : fn.results = #[.tmp t, .tmp u, .tmp v]) (tmps : Array Value) (P : Program) (w : World) :
    (results fn tmps).run P w = .ok (.tuple #[tmps.getD t undef, tmps.getD u undef, tmps.getD v undef]) w := by
  simp [results, h]
theorem J.ret3 {P : Program} {fn : Func} {N : Nat} {A : List Assn} {R : Value → List Assn → Prop} {W0 : World} {L : Slots} {F : Assn} {v u z : Value} {s t r : Nat} {B : List Assn} (hr : fn.results = #[.tmp s, .tmp t, .tmp r]) (hv : find s L = some v) (hu : find t L = some u) (hz : find r L = some z) (hR : R (.tuple #[v, u, z]) B) (hA : A = B ++ [F]) :
    J W0 N L A (bodyPost P fn (RetQ W0 R F) .ret) := by
  refine ⟨fun a w f x => ?_⟩
  refine bodyPost_ret (results_tmp3 hr _ _ _) f.defers ⟨.tuple #[v, u, z], B, ?_, hR, hA ▸ x⟩
  rw [Array.getD_eq_getD_getElem?, Array.getD_eq_getD_getElem?, Array.getD_eq_getD_getElem?, f.get s v hv, f.get t u hu, f.get r z hz]; rfl

theorem results_tmp5 {fn : Func} {t u v x y : Tmp} (h : fn.results = #[.tmp t, .tmp u, .tmp v, .tmp x, .tmp y]) (tmps : Array Value) (P : Program) (w : World) :
    (results fn tmps).run P w = .ok (.tuple #[tmps.getD t undef, tmps.getD u undef, tmps.getD v undef, tmps.getD x undef, tmps.getD y undef]) w := by
  simp [results, h]
theorem J.ret5 {P : Program} {fn : Func} {N : Nat} {A : List Assn} {R : Value → List Assn → Prop} {W0 : World} {L : Slots} {F : Assn} {v1 v2 v3 v4 v5 : Value} {s1 s2 s3 s4 s5 : Nat} {B : List Assn} (hr : fn.results = #[.tmp s1, .tmp s2, .tmp s3, .tmp s4, .tmp s5])
    (h1 : find s1 L = some v1) (h2 : find s2 L = some v2) (h3 : find s3 L = some v3) (h4 : find s4 L = some v4) (h5 : find s5 L = some v5) (hR : R (.tuple #[v1, v2, v3, v4, v5]) B) (hA : A = B ++ [F]) :
    J W0 N L A (bodyPost P fn (RetQ W0 R F) .ret) := by
  refine ⟨fun a w f x => ?_⟩
  refine bodyPost_ret (results_tmp5 hr _ _ _) f.defers ⟨.tuple #[v1, v2, v3, v4, v5], B, ?_, hR, hA ▸ x⟩
  simp only [Array.getD_eq_getD_getElem?, f.get s1 v1 h1, f.get s2 v2 h2, f.get s3 v3 h3, f.get s4 v4 h4, f.get s5 v5 h5]; rfl

theorem wrap64 {n : Nat} (h : n < 18446744073709551616) : IntKind.u64.wrap (n : Int) = (n : Int) := by
  unfold IntKind.wrap
  simp only [IntKind.bits, IntKind.signed]
  show (n : Int) % 2 ^ 64 = _
  omega
theorem or64 {a b i : Nat} (ha : a < 2 ^ i) (hb : a + 2 ^ i * b < 18446744073709551616) : IntKind.u64.wrap ((BitVec.ofInt IntKind.u64.bits (a : Int) ||| BitVec.ofInt IntKind.u64.bits ((2 ^ i * b : Nat) : Int)).toNat : Int) = ((a + 2 ^ i * b : Nat) : Int) := by
  have e : (BitVec.ofInt IntKind.u64.bits (a : Int) ||| BitVec.ofInt IntKind.u64.bits ((2 ^ i * b : Nat) : Int)).toNat = a + 2 ^ i * b := by
    rw [BitVec.toNat_or]
    have h1 : (BitVec.ofInt IntKind.u64.bits (a : Int)).toNat = a := by
      rw [show BitVec.ofInt IntKind.u64.bits (a : Int) = BitVec.ofNat IntKind.u64.bits a from BitVec.ofInt_natCast .., BitVec.toNat_ofNat]
      exact Nat.mod_eq_of_lt (by show a < 2 ^ 64; omega)
    have h2 : (BitVec.ofInt IntKind.u64.bits ((2 ^ i * b : Nat) : Int)).toNat = 2 ^ i * b := by
      rw [show BitVec.ofInt IntKind.u64.bits ((2 ^ i * b : Nat) : Int) = BitVec.ofNat IntKind.u64.bits (2 ^ i * b) from BitVec.ofInt_natCast .., BitVec.toNat_ofNat]
      exact Nat.mod_eq_of_lt (by show 2 ^ i * b < 2 ^ 64; omega)
    rw [h1, h2, Nat.or_comm, ← Nat.two_pow_add_eq_or_of_lt ha, Nat.add_comm]
  rw [e]; exact wrap64 hb
theorem and127 {n : Nat} (h : n < 256) : IntKind.u8.wrap ((BitVec.ofInt IntKind.u8.bits (n : Int) &&& BitVec.ofInt IntKind.u8.bits 127).toNat : Int) = ((n % 128 : Nat) : Int) := by
  have key : ∀ r : Fin 256, IntKind.u8.wrap ((BitVec.ofInt IntKind.u8.bits ((r.val : Nat) : Int) &&& BitVec.ofInt IntKind.u8.bits 127).toNat : Int) = ((r.val % 128 : Nat) : Int) := by decide +kernel
  exact key ⟨n, h⟩

theorem own.clip {E sz : Nat} {p : Option Addr} {n c : Nat} {xs : List Value} : ∀ h, own E sz (.slice p n c) xs h → own E sz (.slice p n n) xs h := by
  rintro h (⟨e1, e2⟩ | ⟨o, ho, hp⟩)
  · cases e1; exact .inl ⟨rfl, e2⟩
  · have hv := ho.val
    simp only [Value.slice.injEq] at hv
    obtain ⟨rfl, rfl, rfl⟩ := hv
    refine .inr ⟨{ o with cap := o.len }, ⟨rfl, ho.len, Nat.le_refl _, ?_, ho.get, ho.free⟩, hp⟩
    have h1 := ho.fits
    have h2 := Nat.mul_le_mul_right sz ho.cap
    show o.off + o.len * sz ≤ o.l.length
    omega

def numB (v : Nat) : List UInt8 := if v < 128 then [UInt8.ofNat v] else UInt8.ofNat (v % 128 + 128) :: numB (v / 128)
termination_by v
decreasing_by omega
theorem numB_small {v : Nat} (h : v < 128) : numB v = [UInt8.ofNat v] := by rw [numB, if_pos h]
theorem numB_step {v : Nat} (h : ¬ v < 128) : numB v = UInt8.ofNat (v % 128 + 128) :: numB (v / 128) := by rw [numB, if_neg h]

theorem wrap8 (v : Nat) : IntKind.u8.wrap (v : Int) = ((v % 256 : Nat) : Int) := by
  unfold IntKind.wrap
  simp only [IntKind.bits, IntKind.signed]
  show (v : Int) % 2 ^ 8 = _
  omega
theorem or128 (v : Nat) : IntKind.u8.wrap ((BitVec.ofInt IntKind.u8.bits (IntKind.u8.wrap (v : Int)) ||| BitVec.ofInt IntKind.u8.bits 128).toNat : Int) = ((UInt8.ofNat (v % 128 + 128)).toNat : Int) := by
  have e0 : IntKind.u8.wrap (v : Int) = ((v % 256 : Nat) : Int) := wrap8 v
  rw [e0]
  have key : ∀ r : Fin 256, IntKind.u8.wrap ((BitVec.ofInt IntKind.u8.bits ((r.val : Nat) : Int) ||| BitVec.ofInt IntKind.u8.bits 128).toNat : Int) = ((UInt8.ofNat (r.val % 128 + 128)).toNat : Int) := by decide +kernel
  have h := key ⟨v % 256, Nat.mod_lt _ (by decide)⟩
  dsimp only at h
  rw [h, show v % 256 % 128 = v % 128 by omega]
theorem low8 {v : Nat} (h : v < 128) : IntKind.u8.wrap (v : Int) = ((UInt8.ofNat v).toNat : Int) := by
  rw [wrap8]
  simp
theorem numB_le : ∀ (n v : Nat), v < 128 ^ n → 1 ≤ n → (numB v).length ≤ n
  | 0, _, _, h => by omega
  | n + 1, v, hv, _ => by
    by_cases h : v < 128
    · rw [numB_small h]; simp
    · rw [numB_step h, List.length_cons]
      have h1 : v / 128 < 128 ^ n := by
        rw [Nat.div_lt_iff_lt_mul (by decide)]; rwa [Nat.pow_succ] at hv
      have hn : 1 ≤ n := by
        rcases Nat.eq_zero_or_pos n with e | e
        · subst e; simp at h1; omega
        · exact e
      have := numB_le n (v / 128) h1 hn
      omega
theorem numB_len (v : Nat) (h : v ≤ 18446744073709551615) : (numB v).length ≤ 10 := numB_le 10 v (by
  have : (128 : Nat) ^ 10 = 1180591620717411303424 := by decide
  omega) (by decide)
end Go.X
namespace Go.X
set_option linter.unusedSectionVars false
set_option linter.unusedSimpArgs false
set_option linter.unusedVariables false
def Free (P : Program) (l : List Oper) (L : Slots) (j : Nat) : Prop := ∃ (o : Oper) (d : Nat) (v : Value), l[j]? = some o ∧ True ∧ o.dst = some d ∧ True ∧ find d L = some v ∧ Pend P l o L [] v
section
variable {P : Program} {W0 : World} {N : Nat} {l : List Oper} {NQ : List Nat} {Q : Exit → Act → World → Prop} {S : List Nat} {L : Slots} {D E : List Assn} {listed : Array Bool} {a : Act} {w : World}
theorem RG.nextP (hR : RegOK l NQ) (hne : front l S ≠ [])
    (h : ∀ i, i ∈ front l S → ∃ o, l[i]? = some o ∧ i ∈ NQ ∧ (∀ d, o.dst = some d → d < N) ∧
      ((guardL l.toArray o.guard L = some false ∧ RG P W0 N l NQ Q (i :: S) (addL o.dst undef L) D E) ∨
       (guardL l.toArray o.guard L = some true ∧ ∃ R, OpC P o.op o.type L (D ++ E) R ∧
        ((∀ v B, R v B → ∃ E', B.Perm (D ++ E') ∧ RG P W0 N l NQ Q (i :: S) (addL o.dst v L) D E') ∨
         ((∀ j, j ∈ S → (((masks [] l)[i]?).getD 0).testBit j = true ∨ Free P l L j) ∧ ∀ v B, R v B → ∃ D' E', B.Perm (D' ++ E') ∧ RG P W0 N l NQ Q (i :: S) (addL o.dst v L) D' E'))))) :
    RG P W0 N l NQ Q S L D E := by
  have hsome : ∃ i, i < l.length ∧ i ∉ S := by
    obtain ⟨i, hi⟩ := List.exists_mem_of_ne_nil _ hne
    simp only [front, List.mem_filter, List.mem_range, Bool.and_eq_true, Bool.not_eq_true'] at hi
    exact ⟨i, hi.1, fun e => by rw [memN_iff.2 e] at hi; simp at hi⟩
  refine RG.step hR hsome ?_
  intro i o listed a w ho hS hd hn inv m K
  have hil : i < l.length := (List.getElem?_eq_some_iff.1 ho).1
  have hlsz : i < listed.size := by rw [inv.size]; exact hil
  have hf : i ∈ front l S := by
    simp only [front, List.mem_filter, List.mem_range, Bool.and_eq_true, Bool.not_eq_true']
    refine ⟨hil, ?_, ?_⟩
    · cases hb : memN i S with
      | true => exact absurd (memN_iff.1 hb) hS
      | false => rfl
    · rw [ho]; exact allN_iff.2 fun k hk => inv.sub k (hd k hk)
  obtain ⟨o', ho', hNQ, hdN, hcase⟩ := h i hf
  rw [ho] at ho'; cases ho'
  have hkn : ∀ s v, s ∈ o.looksAt l.toArray → find s L = some v → a.tmps[s]? = some v := fun s v hs e => inv.known hR ho hd hs v e (.inr hS)
  -- who waits has nothing to do with the slot
  have hpd : ∀ j, j ∈ S → listed.getD j false = false → ∀ d, o.dst = some d → ∀ p, l[j]? = some p → d ∉ p.looksAt l.toArray ∧ p.dst ≠ some d := by
    intro j hj hjl d hod p hp
    have hji : j ≠ i := by rintro rfl; exact hS hj
    have key : ¬ (d ∈ p.looksAt l.toArray ∨ p.dst = some d) := by
      intro ht
      rcases hR.chain i o d ho hNQ hod j p hp hji ht with hb | hb
      · exact hS (anc_closed (T := fun k => k ∈ S) (fun i o h1 h2 => inv.scl i o h1 h2) hR.back j i p hp (fun q hq' => inv.scl j p hp hj q hq') hb)
      · have := anc_closed (T := fun k => listed.getD k false = true) inv.closed hR.back i j o ho hd hb
        rw [hjl] at this; cases this
    exact ⟨fun x => key (.inl x), fun x => key (.inr x)⟩
  have next : ∀ (v : Value) (D' E' : List Assn) w', Sat W0 w' (D' ++ E') → (D' = D ∨ ∀ j, j ∈ S → listed.getD j false = true ∨ Free P l L j) →
      Inv P W0 N l NQ (i :: S) (addL o.dst v L) D' E' (listed.setIfInBounds i true) (a.put o.dst v) w' := by
    intro v D' E' w' s' hD
    have hlist : ∀ j, (listed.setIfInBounds i true).getD j false = false → j ≠ i ∧ listed.getD j false = false := by
      intro j hj
      by_cases hij : i = j
      · subst hij; rw [getD_set_self hlsz] at hj; cases hj
      · rw [getD_set_ne false hij] at hj; exact ⟨fun e => hij e.symm, hj⟩
    refine ⟨by simp [inv.size], by cases o.dst <;> simp [Act.put, inv.tsz], by cases o.dst <;> exact inv.defs, s', ?_, ?_, ?_, ?_, ?_⟩
    · intro j hj
      by_cases hij : i = j
      · subst hij; simp
      · rw [getD_set_ne false hij] at hj; exact List.mem_cons_of_mem _ (inv.sub j hj)
    · intro j p hp hj q hq'
      by_cases hij : i = j
      · subst hij; rw [ho] at hp; cases hp; exact getD_set_true (hd q hq')
      · rw [getD_set_ne false hij] at hj; exact getD_set_true (inv.closed j p hp hj q hq')
    · intro j p hp hj q hq'
      rcases List.mem_cons.1 hj with rfl | hj
      · rw [ho] at hp; cases hp; exact List.mem_cons_of_mem _ (inv.sub q (hd q hq'))
      · exact List.mem_cons_of_mem _ (inv.scl j p hp hj q hq')
    · intro s u e hp
      have hp' : ∀ j p, j ∈ S → l[j]? = some p → listed.getD j false = false → p.dst ≠ some s := by
        intro j p hj hpj hjl
        have hji : j ≠ i := by rintro rfl; exact hS hj
        exact hp j p (List.mem_cons_of_mem _ hj) hpj (by rw [getD_set_ne false (fun e => hji e.symm)]; exact hjl)
      cases hod : o.dst with
      | none => rw [hod] at e; simp only [addL] at e; exact inv.slots s u e hp'
      | some d =>
        rw [hod] at e
        simp only [addL, find] at e
        simp only [Act.put, Array.getElem?_setIfInBounds]
        cases hb : Nat.beq s d with
        | true =>
          rw [hb] at e; simp at e
          rw [beq_iff] at hb
          subst hb; subst e
          simp [inv.tsz, hdN s hod]
        | false =>
          rw [hb] at e; simp at e
          have : d ≠ s := by rintro rfl; rw [Nat.beq_refl] at hb; cases hb
          rw [if_neg this]; exact inv.slots s u e hp'
    · intro j hj hjl
      obtain ⟨hji, hjl'⟩ := hlist j hjl
      have hj' : j ∈ S := by rcases List.mem_cons.1 hj with e | e; exact absurd e hji; exact e
      rcases hD with rfl | hD
      · obtain ⟨p, d', v', h1, h2, h3, h4, h5, h6⟩ := inv.pend j hj' hjl'
        cases hod : o.dst with
        | none => exact ⟨p, d', v', h1, h2, h3, h4, h5, h6⟩
        | some d =>
          obtain ⟨x1, x2⟩ := hpd j hj' hjl' d hod p h1
          refine ⟨p, d', v', h1, h2, h3, h4, ?_, h6.more x1⟩
          simp only [addL, find]
          cases hb : Nat.beq d' d with
          | true => rw [beq_iff] at hb; subst hb; exact absurd h3 x2
          | false => simpa using h5
      · rcases hD j hj' with hD | ⟨p, d', v', h1, h2, h3, h4, h5, h6⟩
        · rw [hD] at hjl'; cases hjl'
        · have h6' : Pend P l p L D' v' := by have := h6.frame D'; simpa using this
          obtain ⟨q, d2, _, g1, g2, g3, g4, _, _⟩ := inv.pend j hj' hjl'
          rw [h1] at g1; cases g1
          rw [h3] at g3; cases g3
          cases hod : o.dst with
          | none => exact ⟨p, d', v', h1, g2, h3, g4, h5, h6'⟩
          | some d =>
            obtain ⟨x1, x2⟩ := hpd j hj' hjl' d hod p h1
            refine ⟨p, d', v', h1, g2, h3, g4, ?_, h6'.more x1⟩
            simp only [addL, find]
            cases hb : Nat.beq d' d with
            | true => rw [beq_iff] at hb; subst hb; exact absurd h3 x2
            | false => simpa using h5
  unfold wpOp
  rw [get_of_toArray.2 ho]
  simp only
  rcases hcase with ⟨g1, k⟩ | ⟨g1, R, hC, k⟩
  · rw [if_neg (by rw [wanted_of hkn g1]; exact Bool.false_ne_true)]
    exact K _ _ ⟨_, _, _, _, k, next undef D E w inv.sat (.inl rfl)⟩
  · rw [if_pos (wanted_of hkn g1)]
    left
    obtain ⟨dst, op, ty, pos, aft, g⟩ := o
    refine hC.wp dst pos aft g a W0 w (agree_of hkn) inv.sat _ _ ?_
    intro v B w' r s'
    rcases k with k | ⟨hbar, k⟩
    · obtain ⟨E', hp, hG⟩ := k v B r
      exact K _ _ ⟨_, _, _, _, hG, next v D E' w' (s'.perm hp) (.inl rfl)⟩
    · obtain ⟨D', E', hp, hG⟩ := k v B r
      refine K _ _ ⟨_, _, _, _, hG, next v D' E' w' (s'.perm hp) (.inr fun j hj => ?_)⟩
      exact (hbar j hj).imp (fun hb => anc_closed (T := fun k => listed.getD k false = true) inv.closed hR.back i j _ ho hd hb) id
theorem RG.barP (i : Nat) (J : List Nat) {dst : Option Nat} {op : Op} {ty : TypeId} {pos : String} {aft : Array Edge} {g : Option (Nat × Bool)} {R : Value → List Assn → Prop} (hR : RegOK l NQ) (hf : front l S = [i]) (ho : l[i]? = some ⟨dst, op, ty, pos, aft, g⟩)
    (hi : memN i NQ = true) (hN : (match dst with | some d => Nat.blt d N | none => true) = true) (hg : guardL l.toArray g L = some true) (hb : S.all (fun j => memN j J || (((masks [] l)[i]?).getD 0).testBit j) = true) (hJ : allP (Free P l L) J)
    (h : OpC P op ty L (D ++ E) R) (k : ∀ v B, R v B → RG P W0 N l NQ Q (i :: S) (addL dst v L) B []) : RG P W0 N l NQ Q S L D E := by
  refine RG.nextP hR (by rw [hf]; simp) ?_
  intro j hj
  rw [hf] at hj
  obtain rfl : j = i := by simpa using hj
  refine ⟨_, ho, memN_iff.1 hi, ?_, .inr ⟨hg, R, h, .inr ⟨?_, ?_⟩⟩⟩
  · intro d hd; simp only at hd; subst hd; simpa [Nat.blt_eq] using hN
  · intro q hq
    have := (List.all_eq_true.1 hb) q hq
    rw [Bool.or_eq_true] at this
    rcases this with h1 | h1
    · exact .inr (allP_of hJ q (memN_iff.1 h1))
    · exact .inl h1
  · intro v B r
    exact ⟨B, [], by simp, k v B r⟩
theorem Free.q {j d : Nat} {op : Op} {ty : TypeId} {pos : String} {aft : Array Edge} {g : Option (Nat × Bool)} {v : Value} (ho : l[j]? = some ⟨some d, op, ty, pos, aft, g⟩) (hv : find d L = some v) (hg : guardL l.toArray g L = some true) (h : OpQ P op ty L [] v) : Free P l L j :=
  ⟨_, d, v, ho, trivial, rfl, trivial, hv, .inl ⟨hg, h⟩⟩
end

theorem normA_some : ∀ A : List Assn, normA A = some A
  | [] => rfl
  | a :: A => by simp only [normA, normA_some A]
class AtPt (A : List Assn) (b : Nat) (o : outParam Obj) (C : outParam (Obj → List Assn)) : Prop where
  at_ : ∃ i, A[i]? = some (pt b o) ∧ ∀ n, A.set i (pt b n) = C n
instance AtPt.head {b : Nat} {o : Obj} {A : List Assn} : AtPt (pt b o :: A) b o (fun n => pt b n :: A) := ⟨0, rfl, fun _ => rfl⟩
instance AtPt.tail {b : Nat} {o : Obj} {X : Assn} {A : List Assn} {C : Obj → List Assn} [h : AtPt A b o C] : AtPt (X :: A) b o (fun n => X :: C n) := by
  obtain ⟨i, h1, h2⟩ := h.at_
  exact ⟨i + 1, by simpa using h1, fun n => by simp [h2]⟩
instance AtPt.left {b : Nat} {o : Obj} {A E : List Assn} {C : Obj → List Assn} [h : AtPt A b o C] : AtPt (A ++ E) b o (fun n => C n ++ E) := by
  obtain ⟨i, h1, h2⟩ := h.at_
  have hi := (List.getElem?_eq_some_iff.1 h1).1
  exact ⟨i, by rw [List.getElem?_append_left hi]; exact h1, fun n => by rw [List.set_append, if_pos hi, h2]⟩
instance AtPt.right {b : Nat} {o : Obj} {A E : List Assn} {C : Obj → List Assn} [h : AtPt E b o C] : AtPt (A ++ E) b o (fun n => A ++ C n) := by
  obtain ⟨i, h1, h2⟩ := h.at_
  exact ⟨A.length + i, by rw [List.getElem?_append_right (by omega)]; simpa using h1, fun n => by rw [List.set_append, if_neg (by omega)]; simp [h2]⟩
section
variable {P : Program} {W0 : World} {N : Nat} {ops : Array Oper} {Q : Exit → Act → World → Prop} {L : Slots} {A D : List Assn} {rest : List Oper}
variable {ty : TypeId} {pos : String} {aft : Array Edge} {g : Option (Nat × Bool)} {T : TypeId} {x y : Operand} {b off : Nat} {l l' vs m : List Value} {e : TypeId} {z : Nat × Nat} {v : Value} {B : List Assn} {KK : Obj → List Assn}
theorem rdI [h : AtPt D b (.cells l.toArray e z) KK] (hv : l[off]? = some v) : Reads D b off v := by
  obtain ⟨i, h1, _⟩ := h.at_; exact Reads.pt i h1 hv
theorem rnI [h : AtPt D b (.cells l.toArray e z) KK] : ReadsN D b 0 l := by
  obtain ⟨i, h1, _⟩ := h.at_; exact ReadsN.pt i h1
theorem C.stI (hs : ∀ w, (sizeOf T).run P w = .ok 1 w) (ex : ev L x = some (.pointer (some ⟨b, off, none⟩))) (ey : ev L y = some v) (hv : oneC v = true) [h : AtPt A b (.cells l.toArray e z) KK]
    (hl : setV off v l = some l') (hz : (decide (z.1 ≤ off) && decide (off < z.2)) = false) (hB : normA (KK (.cells l'.toArray e z)) = some B) : OpC P (.store T x y) ty L A (fun u D => u = undef ∧ D = B) := by
  obtain ⟨i, h1, h2⟩ := h.at_
  have hl' := setV_eq hl
  refine OpC.shutTo (C.st hs ex ey hv h1 hl'.1 hz) ?_
  rintro u D ⟨rfl, rfl⟩
  refine ⟨_, ⟨rfl, rfl⟩, fun h hh => ?_⟩
  rw [hl'.2, h2, normA_eq hB] at hh; exact hh
theorem C.stAI (hs : ∀ w, (sizeOf T).run P w = .ok vs.length w) (ex : ev L x = some (.pointer (some ⟨b, 0, none⟩))) (ey : ev L y = some (.agg vs.toArray)) [h : AtPt A b (.cells m.toArray e (0, 0)) KK]
    (hl : Nat.beq m.length vs.length = true) (hv : vs.all oneC = true) (hB : normA (KK (.cells vs.toArray e (0, 0))) = some B) : OpC P (.store T x y) ty L A (fun u D => u = undef ∧ D = B) := by
  obtain ⟨i, h1, h2⟩ := h.at_
  refine C.stA hs ex ey h1 hl hv ?_
  have : setA i (pt b (.cells vs.toArray e (0, 0))) A = some B := by
    have key : ∀ (A : List Assn) (i : Nat) (X : Assn), i < A.length → setA i X A = some (A.set i X) := by
      intro A
      induction A with
      | nil => intro i X h; simp at h
      | cons a A ih =>
        intro i X h
        cases i with
        | zero => simp [setA, normA_some]
        | succ i => simp only [setA, ih i X (by simpa using h)]; rfl
    rw [key A i _ (List.getElem?_eq_some_iff.1 h1).1, h2, normA_eq hB]
  exact this
theorem J.stI (hg : guardL ops g L = some true) (hs : ∀ w, (sizeOf T).run P w = .ok 1 w) (ex : ev L x = some (.pointer (some ⟨b, off, none⟩))) (ey : ev L y = some v) (hv : oneC v = true) [h : AtPt A b (.cells l.toArray e z) KK]
    (hl : setV off v l = some l') (hz : (decide (z.1 ≤ off) && decide (off < z.2)) = false) (hB : normA (KK (.cells l'.toArray e z)) = some B)
    (k : J W0 N L B (wpList P ops Q rest)) : J W0 N L A (wpList P ops Q (⟨none, .store T x y, ty, pos, aft, g⟩ :: rest)) :=
  J.c0 hg (C.stI hs ex ey hv hl hz hB) (by rintro _ _ ⟨rfl, rfl⟩; exact k)
theorem J.stAI (hg : guardL ops g L = some true) (hs : ∀ w, (sizeOf T).run P w = .ok vs.length w) (ex : ev L x = some (.pointer (some ⟨b, 0, none⟩))) (ey : ev L y = some (.agg vs.toArray)) [h : AtPt A b (.cells m.toArray e (0, 0)) KK]
    (hl : Nat.beq m.length vs.length = true) (hv : vs.all oneC = true) (hB : normA (KK (.cells vs.toArray e (0, 0))) = some B)
    (k : J W0 N L B (wpList P ops Q rest)) : J W0 N L A (wpList P ops Q (⟨none, .store T x y, ty, pos, aft, g⟩ :: rest)) :=
  J.c0 hg (C.stAI hs ex ey hl hv hB) (by rintro _ _ ⟨rfl, rfl⟩; exact k)
end
section
variable {P : Program} {W0 : World} {N : Nat} {l : List Oper} {NQ : List Nat} {Q : Exit → Act → World → Prop} {S : List Nat} {L : Slots} {D E : List Assn}
variable {ty : TypeId} {pos : String} {aft : Array Edge} {g : Option (Nat × Bool)} {T : TypeId} {x y : Operand} {b off : Nat} {vs m m' : List Value} {e : TypeId} {z : Nat × Nat} {v : Value} {B : List Assn} {KK : Obj → List Assn}
theorem RG.stI (i : Nat) (hR : RegOK l NQ) (hf : front l S = [i]) (ho : l[i]? = some ⟨none, .store T x y, ty, pos, aft, g⟩) (hi : memN i NQ = true) (hg : guardL l.toArray g L = some true) (hb : S.all (fun j => (((masks [] l)[i]?).getD 0).testBit j) = true)
    (hs : ∀ w, (sizeOf T).run P w = .ok 1 w) (ex : ev L x = some (.pointer (some ⟨b, off, none⟩))) (ey : ev L y = some v) (hv : oneC v = true) [h : AtPt (D ++ E) b (.cells m.toArray e z) KK]
    (hl : setV off v m = some m') (hz : (decide (z.1 ≤ off) && decide (off < z.2)) = false) (hB : normA (KK (.cells m'.toArray e z)) = some B) (k : RG P W0 N l NQ Q (i :: S) L B []) : RG P W0 N l NQ Q S L D E :=
  RG.bar i hR hf ho hi rfl hg hb (C.stI hs ex ey hv hl hz hB) (by rintro _ _ ⟨rfl, rfl⟩; exact k)
theorem RG.stAI (i : Nat) (hR : RegOK l NQ) (hf : front l S = [i]) (ho : l[i]? = some ⟨none, .store T x y, ty, pos, aft, g⟩) (hi : memN i NQ = true) (hg : guardL l.toArray g L = some true) (hb : S.all (fun j => (((masks [] l)[i]?).getD 0).testBit j) = true)
    (hs : ∀ w, (sizeOf T).run P w = .ok vs.length w) (ex : ev L x = some (.pointer (some ⟨b, 0, none⟩))) (ey : ev L y = some (.agg vs.toArray)) [h : AtPt (D ++ E) b (.cells m.toArray e (0, 0)) KK]
    (hl : Nat.beq m.length vs.length = true) (hv : vs.all oneC = true) (hB : normA (KK (.cells vs.toArray e (0, 0))) = some B) (k : RG P W0 N l NQ Q (i :: S) L B []) : RG P W0 N l NQ Q S L D E :=
  RG.bar i hR hf ho hi rfl hg hb (C.stAI hs ex ey hl hv hB) (by rintro _ _ ⟨rfl, rfl⟩; exact k)
end

class PickO (A : List Assn) (X : Assn) (F : outParam (List Assn)) : Prop where
  perm : A.Perm (X :: F)
instance PickO.head {X : Assn} {A : List Assn} : PickO (X :: A) X A := ⟨List.Perm.refl _⟩
instance (priority := 900) PickO.tail {X Y : Assn} {A F : List Assn} [h : PickO A X F] : PickO (Y :: A) X (Y :: F) := ⟨(h.perm.cons Y).trans (List.Perm.swap X Y F)⟩
instance PickO.left {X : Assn} {A B F : List Assn} [h : PickO A X F] : PickO (A ++ B) X (F ++ B) := ⟨h.perm.append_right B⟩
instance (priority := 900) PickO.right {X : Assn} {A B F : List Assn} [h : PickO B X F] : PickO (A ++ B) X (A ++ F) := ⟨(h.perm.append_left A).trans List.perm_middle⟩
class PickL (A Xs : List Assn) (F : outParam (List Assn)) : Prop where
  perm : A.Perm (Xs ++ F)
instance PickL.nil {A : List Assn} : PickL A [] A := ⟨List.Perm.refl _⟩
instance PickL.cons {A F G Xs : List Assn} {X : Assn} [h : PickO A X F] [k : PickL F Xs G] : PickL A (X :: Xs) G := ⟨h.perm.trans (k.perm.cons X)⟩
instance PickL.app {A F G Xs Ys : List Assn} [h : PickL A Xs F] [k : PickL F Ys G] : PickL A (Xs ++ Ys) G := ⟨by rw [List.append_assoc]; exact h.perm.trans (k.perm.append_left Xs)⟩

section
variable {P : Program} {L : Slots} {A Ain F : List Assn} {R : Value → List Assn → Prop} {f : FuncId} {ty : TypeId} {argTypes : Array TypeId}
theorem OpC.callP {xs : List Operand} {args : List Value} (hc : ∀ (args : Array Value) (w : World), (callFunc f args).run P w = .ok (.enter f args) w) (he : evs L xs = some args) (hs : FSpec P f args Ain R) (hp : A.Perm (Ain ++ F)) :
    OpC P (.call { callee := .value (.func f), args := xs.toArray, argTypes }) ty L A (fun v B => ∃ B1, R v B1 ∧ B = B1 ++ F) := by
  refine ⟨fun dst pos aft g a W0 w ag s K Q k => ?_⟩
  have hx : xs.map a.eval = args := evs_map (fun x hx => ag x (by simp [Op.operands, Call.operands, hx])) he
  have ha : (xs.toArray).map a.eval = args.toArray := by simp [hx]
  unfold Oper.wp
  have hrun : (execOp a.eval ⟨dst, .call { callee := .value (.func f), args := xs.toArray, argTypes }, ty, pos, aft, g⟩).run P w = .ok (.enter f args.toArray) w := by
    simp only [execOp, resolve, Deferred.ofValue, Act.eval, invoke, Sem.run_bind, Sem.run_pure, Result.andThen_ok, ha]
    simpa using hc args.toArray w
  rw [hrun, Oper.upon_enter]
  have s' : Sat W0 w (Ain ++ [star F]) := by
    refine (s.perm hp).imp fun k t => ?_
    obtain ⟨h1, h2, p, q, d, u, v⟩ := t.append
    exact HSat.of_append p (Bs := [star F]) ⟨h2, fun _ => none, q, trivial, fun _ => Or.inr rfl, Sub.refl _, fun _ _ e => nomatch e⟩ d u v
  refine (hs.call W0 w (star F) s').mono ?_
  rintro e w' ⟨v, B, rfl, r, t⟩
  refine k v (B ++ F) w' ⟨B, r, rfl⟩ (t.imp fun k t => ?_)
  obtain ⟨h1, h2, p, ⟨k1, k2, q, _, _, s1, _⟩, d, u, v⟩ := t.append
  exact HSat.of_append p (HSat.mono q s1) d u v
end
section
variable {P : Program} {W0 : World} {N : Nat} {ops : Array Oper} {Q : Exit → Act → World → Prop} {L : Slots} {A Ain F : List Assn} {rest : List Oper}
variable {ty : TypeId} {pos : String} {aft : Array Edge} {g : Option (Nat × Bool)} {d : Nat} {argTypes : Array TypeId} {f : FuncId} {R : Value → List Assn → Prop}
theorem J.callI {xs : List Operand} {args : List Value} (hc : ∀ (args : Array Value) (w : World), (callFunc f args).run P w = .ok (.enter f args) w) (hs : FSpec P f args Ain R)
    (hg : guardL ops g L = some true) (hd : Nat.blt d N = true) (he : evs L xs = some args) [hp : PickL A Ain F]
    (k : ∀ v B, R v B → J W0 N ((d, v) :: L) (B ++ F) (wpList P ops Q rest)) :
    J W0 N L A (wpList P ops Q (⟨some d, .call { callee := .value (.func f), args := xs.toArray, argTypes }, ty, pos, aft, g⟩ :: rest)) :=
  J.c hg hd (OpC.callP hc he hs hp.perm) (by rintro v _ ⟨B, r, rfl⟩; exact k v B r)
end
section
variable {P : Program} {W0 : World} {N : Nat} {l : List Oper} {NQ : List Nat} {Q : Exit → Act → World → Prop} {S : List Nat} {L : Slots} {D E Ain F : List Assn}
variable {d : Nat} {ty : TypeId} {pos : String} {aft : Array Edge} {g : Option (Nat × Bool)} {f : FuncId} {argTypes : Array TypeId} {R : Value → List Assn → Prop} {xs : List Operand} {args : List Value}
theorem RG.callI (i : Nat) (hR : RegOK l NQ) (hf : front l S = [i])
    (ho : l[i]? = some ⟨some d, .call { callee := .value (.func f), args := xs.toArray, argTypes }, ty, pos, aft, g⟩) (hi : memN i NQ = true) (hN : Nat.blt d N = true) (hg : guardL l.toArray g L = some true) (hb : S.all (fun j => (((masks [] l)[i]?).getD 0).testBit j) = true)
    (hc : ∀ (args : Array Value) (w : World), (callFunc f args).run P w = .ok (.enter f args) w) (hs : FSpec P f args Ain R) (he : evs L xs = some args) [hp : PickL (D ++ E) Ain F]
    (k : ∀ v B, R v B → RG P W0 N l NQ Q (i :: S) ((d, v) :: L) (B ++ F) []) : RG P W0 N l NQ Q S L D E :=
  RG.bar i hR hf ho hi hN hg hb (OpC.callP hc he hs hp.perm) (by rintro v _ ⟨B, r, rfl⟩; exact k v B r)
theorem RG.callkI (i : Nat) (hR : RegOK l NQ) (hf : front l S = [i])
    (ho : l[i]? = some ⟨some d, .call { callee := .value (.func f), args := xs.toArray, argTypes }, ty, pos, aft, g⟩) (hi : memN i NQ = true) (hN : Nat.blt d N = true) (hg : guardL l.toArray g L = some true)
    (hc : ∀ (args : Array Value) (w : World), (callFunc f args).run P w = .ok (.enter f args) w) (hs : FSpec P f args Ain R) (he : evs L xs = some args) [hp : PickL E Ain F]
    (k : ∀ v B, R v B → RG P W0 N l NQ Q (i :: S) ((d, v) :: L) D (B ++ F)) : RG P W0 N l NQ Q S L D E :=
  RG.one i hR hf ho hi hN hg (OpC.callP hc he hs (F := D ++ F) ((hp.perm.append_left D).trans (by rw [← List.append_assoc, ← List.append_assoc]; exact List.perm_append_comm.append_right F)))
    (by rintro v _ ⟨B, r, rfl⟩; exact ⟨B ++ F, (by rw [← List.append_assoc, ← List.append_assoc]; exact List.perm_append_comm.append_right F), k v B r⟩)
theorem RGi.callkI {i : Nat}
    (ho : l[i]? = some ⟨some d, .call { callee := .value (.func f), args := xs.toArray, argTypes }, ty, pos, aft, g⟩) (hi : memN i NQ = true) (hN : Nat.blt d N = true) (hg : guardL l.toArray g L = some true)
    (hc : ∀ (args : Array Value) (w : World), (callFunc f args).run P w = .ok (.enter f args) w) (hs : FSpec P f args Ain R) (he : evs L xs = some args) [hp : PickL E Ain F]
    (k : ∀ v B, R v B → RG P W0 N l NQ Q (i :: S) ((d, v) :: L) D (B ++ F)) : RGi P W0 N l NQ Q S L D E i :=
  RGi.one ho hi hN hg (OpC.callP hc he hs (F := D ++ F) ((hp.perm.append_left D).trans (by rw [← List.append_assoc, ← List.append_assoc]; exact List.perm_append_comm.append_right F)))
    (by rintro v _ ⟨B, r, rfl⟩; exact ⟨B ++ F, (by rw [← List.append_assoc, ← List.append_assoc]; exact List.perm_append_comm.append_right F), k v B r⟩)
end
section
variable {W0 : World} {N : Nat} {L : Slots} {A B C F : List Assn} {G : Act → World → Prop}
theorem HSat.keepI {h : Hp} [k : PickL A B F] (s : HSat h A) : HSat h B := by
  obtain ⟨h1, _, a, _, _, x, _⟩ := (s.perm k.perm).append
  exact a.mono x
theorem J.pickI (B : List Assn) [h : PickL A B F] (k : J W0 N L (B ++ F) G) : J W0 N L A G := k.perm h.perm
theorem J.keepI (B : List Assn) [h : PickL A B F] (k : J W0 N L B G) : J W0 N L A G := k.imp fun _ s => HSat.keepI (A := A) (F := F) s
theorem J.convI (U Y : Assn) [h : PickO A U F] (f : ∀ h, U h → Y h) (k : J W0 N L (Y :: F) G) : J W0 N L A G := (k.imp fun _ s => HSat.imp s f).perm h.perm
theorem J.shutI (C : List Assn) (Y : Assn) [h : PickL A C F] (f : ∀ h, HSat h C → Y h) (k : J W0 N L (Y :: F) G) : J W0 N L A G :=
  (k.imp fun _ s => HSat.imp (HSat.pack s) f).perm h.perm
end
section
variable {ι : Type} {W0 : World} {N : Nat} {I : ι → Prop} {m : ι → Nat} {Ls : ι → Slots} {As : ι → List Assn} {x : ι} {Q : Exit → Act → World → Prop} {L : Slots} {A F : List Assn}
theorem J.againI (y : ι) (hi : I y) (hm : m y < m x) (hL : Knows L (Ls y)) [h : PickL A (As y) F] : J W0 N L A (LoopQ W0 N I m Ls As x Q .normal) := J.keepI (As y) (F := F) (J.again y hi hm hL rfl)
theorem J.meetI (i : ι) (hi : I i) (hL : Knows L (Ls i)) [h : PickL A (As i) F] : J W0 N L A (CutQ W0 N I Ls As Q .normal) := J.keepI (As i) (F := F) (J.meet i hi hL rfl)
end
section
variable {P : Program} {fn : Func} {N : Nat} {A B D : List Assn} {R : Value → List Assn → Prop} {W0 : World} {L : Slots} {F : Assn} {v u : Value} {s t : Nat}
theorem J.ret1I (B : List Assn) (hr : fn.results = #[.tmp s]) (hv : find s L = some v) (hR : R v B) [h : PickL A (B ++ [F]) D] : J W0 N L A (bodyPost P fn (RetQ W0 R F) .ret) := J.keepI (B ++ [F]) (F := D) (J.ret1 hr hv hR rfl)
theorem J.ret2I (B : List Assn) (hr : fn.results = #[.tmp s, .tmp t]) (hv : find s L = some v) (hu : find t L = some u) (hR : R (.tuple #[v, u]) B) [h : PickL A (B ++ [F]) D] : J W0 N L A (bodyPost P fn (RetQ W0 R F) .ret) := J.keepI (B ++ [F]) (F := D) (J.ret2 hr hv hu hR rfl)
theorem J.ret0I (B : List Assn) (hr : fn.results = #[]) (hR : R (.tuple #[]) B) [h : PickL A (B ++ [F]) D] : J W0 N L A (bodyPost P fn (RetQ W0 R F) .ret) := J.keepI (B ++ [F]) (F := D) (J.ret0 hr hR rfl)
theorem J.end0I (B : List Assn) (hr : fn.results = #[]) (hR : R (.tuple #[]) B) [h : PickL A (B ++ [F]) D] : J W0 N L A (bodyPost P fn (RetQ W0 R F) .normal) := J.keepI (B ++ [F]) (F := D) (J.end0 hr hR rfl)
end

section
variable {P : Program} {W0 : World} {N : Nat} {l : List Oper} {NQ : List Nat} {Q : Exit → Act → World → Prop} {S : List Nat} {L : Slots} {D E A : List Assn}
end
section
variable {P : Program} {L : Slots} {D : List Assn} {ty T T' : TypeId} {x : Operand} {k : IntKind}
end
section maps
variable {κ ν : Type} [DecidableEq κ] {W0 : World} {N : Nat} {L : Slots} {A F : List Assn} {Gl : Act → World → Prop}
variable {enc : κ → Value} {rep : κ → ν → Value → Assn} {r : Nat} {S : List (κ × ν)} {k : κ} {val : Value} {lt : κ → κ → Bool}
end maps
section
variable {P : Program} {W0 : World} {N : Nat} {l : List Oper} {NQ : List Nat} {Q : Exit → Act → World → Prop} {S : List Nat} {L : Slots} {D E Ain F A : List Assn}
theorem SlR.inI {sz : Nat} {v : Value} {xs : List Value} {X : Assn} (h : SlR [X] sz v xs) [k : PickO D X F] : SlR D sz v xs := by
  obtain ⟨i, hi⟩ := List.getElem?_of_mem (k.perm.mem_iff.2 List.mem_cons_self)
  exact h.within hi
theorem J.slrI {G : Act → World → Prop} {E0 sz : Nat} {p : Option Addr} {n c : Nat} {xs : List Value} [h : PickO A (own E0 sz (.slice p n c) xs) F] (k : SlR [own E0 sz (.slice p n c) xs] sz (.slice p n c) xs → J W0 N L A G) : J W0 N L A G :=
  ⟨fun a w x y => by
    obtain ⟨h1, _, a1, _, _, _, _⟩ := y.heap.perm h.perm
    exact (k (own.slr (i := 0) rfl ⟨h1, ⟨h1, fun _ => none, a1, trivial, fun _ => Or.inr rfl, Sub.refl _, fun _ _ e => nomatch e⟩⟩)).run a w x y⟩
variable {d : Nat} {ty : TypeId} {pos : String} {aft : Array Edge} {g : Option (Nat × Bool)} {f : FuncId} {argTypes : Array TypeId} {R : Value → List Assn → Prop} {xs : List Operand} {args : List Value}
theorem RG.callkR (i : Nat) (hR : RegOK l NQ) (hf : front l S = [i])
    (ho : l[i]? = some ⟨some d, .call { callee := .value (.func f), args := xs.toArray, argTypes }, ty, pos, aft, g⟩) (hi : memN i NQ = true) (hN : Nat.blt d N = true) (hg : guardL l.toArray g L = some true)
    (hc : ∀ (args : Array Value) (w : World), (callFunc f args).run P w = .ok (.enter f args) w) (hs : FSpec P f args Ain R) (he : evs L xs = some args) [hp : PickL (D ++ E) Ain F]
    (k : ∀ v B, R v B → ∃ E', PickL (B ++ F) D E' ∧ RG P W0 N l NQ Q (i :: S) ((d, v) :: L) D E') : RG P W0 N l NQ Q S L D E :=
  RG.one i hR hf ho hi hN hg (OpC.callP hc he hs hp.perm) (by rintro v _ ⟨B, r, rfl⟩; obtain ⟨E', h1, h2⟩ := k v B r; exact ⟨E', h1.perm, h2⟩)
end
theorem len_app {α : Type} (a b : List α) : (a ++ b).length = a.length + b.length := List.length_append
class Says (b : Bool) (v : Bool) (p : outParam Prop) : Prop where
  says : b = v → p
instance (priority := 10) {b v : Bool} : Says b v (b = v) := ⟨id⟩
instance {p : Prop} [Decidable p] : Says (decide p) true p := ⟨of_decide_eq_true⟩
instance {p : Prop} [Decidable p] : Says (decide p) false (¬ p) := ⟨of_decide_eq_false⟩
instance {p : Prop} [Decidable p] : Says (!decide p) true (¬ p) := ⟨X.tt_not⟩
instance {p : Prop} [Decidable p] : Says (!decide p) false p := ⟨X.ff_not⟩
theorem nm {b v : Bool} {p : Prop} [h : Says b v p] (e : b = v) : p := h.says e
end Go.X
namespace Go.X
theorem J.kases {W0 : World} {N : Nat} {G : Act → World → Prop} {L : Slots} {A : List Assn} (s : Nat) {b : Bool} {p q : Prop} (e : find s L = some (.bool b)) [h1 : Says b true p] [h2 : Says b false q] (ht : p → J W0 N ((s, .bool true) :: L) A G) (hf : q → J W0 N ((s, .bool false) :: L) A G) : J W0 N L A G := J.cases s e (fun h => ht (h1.says h)) fun h => hf (h2.says h)
section
variable {P : Program} {W0 : World} {N : Nat} {Q : Exit → Act → World → Prop} {L : Slots} {D A B : List Assn} {ty T e : TypeId} {pos : String} {aft : Array Edge} {g : Option (Nat × Bool)} {v : Value} {x y : Operand} {ops : Array Oper} {rest : List Oper} {b off : Nat} {z : Nat × Nat} {KK : Obj → List Assn}
theorem Q.ldI {l : List Value} (ha : ∀ w, (isAgg T).run P w = .ok false w) (ex : ev L x = some (.pointer (some ⟨b, off, none⟩))) [h : AtPt D b (.cells l.toArray e z) KK] (hv : l[off]? = some v := by exact rfl) : OpQ P (.load T x) ty L D v := Q.ld ha ex (rdI hv)
theorem J.stJ {l l' : List Value} (hg : guardL ops g L = some true) (hs : ∀ w, (sizeOf T).run P w = .ok 1 w) (ex : ev L x = some (.pointer (some ⟨b, off, none⟩))) (ey : ev L y = some v) (hv : oneC v = true) [h : AtPt A b (.cells l.toArray e z) KK]
    (k : J W0 N L B (wpList P ops Q rest)) (hl : setV off v l = some l' := by exact rfl) (hz : (decide (z.1 ≤ off) && decide (off < z.2)) = false := by exact rfl) (hB : normA (KK (.cells l'.toArray e z)) = some B := by exact rfl) : J W0 N L A (wpList P ops Q (⟨none, .store T x y, ty, pos, aft, g⟩ :: rest)) :=
  J.stI hg hs ex ey hv hl hz hB k
theorem J.stAJ {m vs : List Value} (hg : guardL ops g L = some true) (hs : ∀ w, (sizeOf T).run P w = .ok vs.length w) (ex : ev L x = some (.pointer (some ⟨b, 0, none⟩))) (ey : ev L y = some (.agg vs.toArray)) [h : AtPt A b (.cells m.toArray e (0, 0)) KK]
    (k : J W0 N L B (wpList P ops Q rest)) (hl : Nat.beq m.length vs.length = true := by exact rfl) (hv : vs.all oneC = true := by exact rfl) (hB : normA (KK (.cells vs.toArray e (0, 0))) = some B := by exact rfl) : J W0 N L A (wpList P ops Q (⟨none, .store T x y, ty, pos, aft, g⟩ :: rest)) :=
  J.stAI hg hs ex ey hl hv hB k
end
end Go.X
namespace Go.X
set_option linter.unusedSectionVars false
set_option linter.unusedSimpArgs false
set_option linter.unusedVariables false

def fen (r : Option Nat) : Fence := { Fence.wide with round := r }
theorem callsIn_fen {r : Option Nat} {n : Nat} {P : Program} {f : FuncId} {args : Array Value} {w : World} {R : Ending → World → Prop} (h : Calls P f args w R) : CallsIn (fen r) n P f args w R :=
  ⟨trivial, fun cs _ => let ⟨e, w', fr, q, s, x⟩ := h cs; ⟨e, w', fr, q, comesIn_wide.2 s, x⟩⟩
theorem callsIn_fen_out {r : Option Nat} {n : Nat} {P : Program} {f : FuncId} {args : Array Value} {w : World} {R : Ending → World → Prop} (h : CallsIn (fen r) n P f args w R) : Calls P f args w R :=
  fun cs => let ⟨e, w', fr, q, s, x⟩ := h.2 cs (room_wide _); ⟨e, w', fr, q, comesIn_wide.1 s, x⟩
theorem rowsIn_fen {r : Option Nat} {n : Nat} {P : Program} {row : String} {args : Array Value} {w : World} {R : Value → World → Prop} (h : Rows P row args w R) : RowsIn (fen r) n P row args w R :=
  fun c cs _ => let ⟨v, w', q, s⟩ := h c cs; ⟨v, w', q, stepsIn_wide.2 s⟩
theorem roundIn_fen {r r' : Option Nat} {n m : Nat} {P : Program} {l : Nat} {f : FuncId} {tmps : Array Value} {assign body : Code} {w : World} {R : Ending → World → Prop}
    (h : RoundIn (fen r) n P l f tmps assign body w R) : RoundIn (fen r') m P l f tmps assign body w R :=
  ⟨trivial, fun c cs _ => h.2 c cs (room_wide _)⟩

theorem oper_in {r : Option Nat} {n : Nat} {P : Program} {o : Oper} {a : Act} {w : World} {K : Act → World → Prop} {Q : Exit → Act → World → Prop} (hd : ∀ c, o.op ≠ .defer c) (h : Oper.wp P o a w K Q) : Oper.wpIn (fen r) n P o a w K Q := by
  refine ⟨fun _ _ => trivial, ?_⟩
  rw [Oper.semAt_eq _ _ _ hd]
  unfold Oper.wp at h
  revert h
  cases (execOp a.eval o).run P w with
  | ok x w' =>
    cases x with
    | value v => exact id
    | skip => exact id
    | defer d => exact id
    | enter f args => exact fun h => ⟨fun h => (by cases h), callsIn_fen h⟩
    | row row args => exact fun h => ⟨fun h => (by cases h), rowsIn_fen h⟩
    | _ => exact fun h => h.elim
  | halt x w' =>
    cases x with
    | panic v => exact id
    | _ => exact fun h => h.elim

def LI (r : Option Nat) (P : Program) (ops : Array Oper) (Q : Exit → Act → World → Prop) (ds : List Deferred) (l : List Oper) : Act → World → Prop :=
  fun a w => wpListIn (fen r) 0 P ops Q l { a with defers := ds } w
def CI (r : Option Nat) (P : Program) (c : Code) (Q : Exit → Act → World → Prop) (ds : List Deferred) : Act → World → Prop :=
  fun a w => c.wpIn (fen r) 0 P Q { a with defers := ds } w
def EI (Q : Exit → Act → World → Prop) (ds : List Deferred) (e : Exit) : Act → World → Prop := fun a w => Q e { a with defers := ds } w

def YSpec (P : Program) (l : Nat) (args : List Value) (A : List Assn) (R : Value → List Assn → Prop) : Prop :=
  ∀ (W0 w : World) (F : Assn), Sat W0 w (A ++ [F]) → YieldAt (fen none) 0 P l args.toArray w (RetQ W0 R F)

section lists
variable {P : Program} {W0 : World} {N : Nat} {ops : Array Oper} {Q : Exit → Act → World → Prop} {L : Slots} {A Ain F : List Assn} {rest : List Oper} {r : Option Nat} {ds : List Deferred}
variable {op : Op} {ty : TypeId} {pos : String} {aft : Array Edge} {g : Option (Nat × Bool)} {d : Nat} {v : Value} {argTypes : Array TypeId}

theorem guardL_in {o : Oper} {a : Act} {b : Bool} (f : Fr N a L) (e : guardL ops o.guard L = some b) : Region.wanted o (yielded ops ({ a with defers := ds } : Act).tmps) = b := guardL_wanted (a := a) f e
theorem agree_in {a : Act} (f : Fr N a L) (op : Op) : Agree { a with defers := ds } L op := fun x _ u e => (f.eval (x := x) e : a.eval x = u)

theorem JI.c {R : Value → List Assn → Prop} (hg : guardL ops g L = some true) (hd : Nat.blt d N = true) (hop : ∀ c, op ≠ .defer c) (h : OpC P op ty L A R) (k : ∀ v B, R v B → J W0 N ((d, v) :: L) B (LI r P ops Q ds rest)) :
    J W0 N L A (LI r P ops Q ds (⟨some d, op, ty, pos, aft, g⟩ :: rest)) := by
  refine ⟨fun a w f s => ?_⟩
  unfold LI wpListIn
  rw [if_pos (guardL_in (o := ⟨some d, op, ty, pos, aft, g⟩) f hg)]
  refine oper_in hop (h.wp _ _ _ _ { a with defers := ds } W0 w (agree_in f _) s _ _ ?_)
  intro u B w' q s'
  exact (k u B q).run _ _ (f.put u hd) s'
theorem JI.c0 {R : Value → List Assn → Prop} (hg : guardL ops g L = some true) (hop : ∀ c, op ≠ .defer c) (h : OpC P op ty L A R) (k : ∀ v B, R v B → J W0 N L B (LI r P ops Q ds rest)) :
    J W0 N L A (LI r P ops Q ds (⟨none, op, ty, pos, aft, g⟩ :: rest)) := by
  refine ⟨fun a w f s => ?_⟩
  unfold LI wpListIn
  rw [if_pos (guardL_in (o := ⟨none, op, ty, pos, aft, g⟩) f hg)]
  refine oper_in hop (h.wp _ _ _ _ { a with defers := ds } W0 w (agree_in f _) s _ _ ?_)
  intro u B w' q s'
  exact (k u B q).run _ _ f s'
theorem JI.q (hg : guardL ops g L = some true) (hd : Nat.blt d N = true) (hop : ∀ c, op ≠ .defer c) (h : OpQ P op ty L A v) (k : J W0 N ((d, v) :: L) A (LI r P ops Q ds rest)) :
    J W0 N L A (LI r P ops Q ds (⟨some d, op, ty, pos, aft, g⟩ :: rest)) :=
  JI.c hg hd hop h.toC (by rintro u B ⟨rfl, rfl⟩; exact k)
theorem JI.nil (k : J W0 N L A (EI Q ds .normal)) : J W0 N L A (LI r P ops Q ds []) := ⟨fun a w f s => k.run a w f s⟩

theorem JI.yield {t l : Nat} {R : Value → List Assn → Prop} {xs : List Operand} {args : List Value} (hs : YSpec P l args Ain R) (is : List Nat) (hg : guardL ops g L = some true) (hd : Nat.blt d N = true)
    (hv : find t L = some (.func (.yield l) #[] #[])) (he : evs L xs = some args) (hp : X.pick is A = some (Ain, F)) (k : ∀ v B, R v B → J W0 N ((d, v) :: L) (B ++ F) (LI r P ops Q ds rest)) :
    J W0 N L A (LI r P ops Q ds (⟨some d, .call { callee := .value (.tmp t), args := xs.toArray, argTypes }, ty, pos, aft, g⟩ :: rest)) := by
  refine ⟨fun a w f s => ?_⟩
  unfold LI wpListIn
  rw [if_pos (guardL_in (o := ⟨some d, .call { callee := .value (.tmp t), args := xs.toArray, argTypes }, ty, pos, aft, g⟩) f hg)]
  refine ⟨fun _ _ => trivial, ?_⟩
  rw [Oper.semAt_eq _ _ _ (fun c e => by cases e)]
  have ag := agree_in (ds := ds) f (.call { callee := .value (.tmp t), args := xs.toArray, argTypes })
  have hx : xs.map ({ a with defers := ds } : Act).eval = args := evs_map (fun x hx => ag x (by simp [Op.operands, Call.operands, hx])) he
  have ha : (xs.toArray).map ({ a with defers := ds } : Act).eval = args.toArray := by simp [hx]
  have hf : ({ a with defers := ds } : Act).eval (.tmp t) = .func (.yield l) #[] #[] := ag _ (by simp [Op.operands, Call.operands]) _ hv
  have s' : Sat W0 w (Ain ++ [star F]) := by
    refine (s.perm (pick_perm hp)).imp fun k t => ?_
    obtain ⟨h1, h2, p, q, d, u, v⟩ := t.append
    exact HSat.of_append p (Bs := [star F]) ⟨h2, fun _ => none, q, trivial, fun _ => Or.inr rfl, Sub.refl _, fun _ _ e => nomatch e⟩ d u v
  obtain ⟨fn, tmps, assign, body, hy, hR⟩ := hs W0 w (star F) s'
  have hrun : (execOp ({ a with defers := ds } : Act).eval ⟨some d, .call { callee := .value (.tmp t), args := xs.toArray, argTypes }, ty, pos, aft, g⟩).run P w = .ok (.round l fn tmps assign body) w := by
    simp only [execOp, resolve, hf, Deferred.ofValue, invoke, Sem.run_bind, Sem.run_pure, Result.andThen_ok, ha]
    simpa using hy
  rw [hrun, Oper.uponIn_round]
  refine ⟨fun h => (by cases h), (roundIn_fen hR).mono ?_⟩
  rintro e w' ⟨v, B, rfl, q, t'⟩
  refine (k v B q).run _ _ (f.put v hd) (t'.imp fun k t => ?_)
  obtain ⟨h1, h2, p, ⟨k1, k2, q, _, _, s1, _⟩, d, u, v⟩ := t.append
  exact HSat.of_append p (HSat.mono q s1) d u v
end lists

section control
variable {P : Program} {W0 : World} {N : Nat} {Q : Exit → Act → World → Prop} {L : Slots} {A : List Assn} {x y : Code} {r : Option Nat} {ds : List Deferred}
theorem JI.region {id : Nat} {l : List Oper} (h : J W0 N L A (LI r P l.toArray Q ds l)) : J W0 N L A (CI r P (.region id l.toArray false) Q ds) := ⟨fun a w f s => wpIn_region_lit (h.run a w f s)⟩
theorem JI.block {id : Nat} (h : J W0 N L A (CI r P x (Exit.inBlock id Q) ds)) : J W0 N L A (CI r P (.block id x) Q ds) := ⟨fun a w f s => wpIn_block (h.run a w f s)⟩
theorem JI.blk_n {id : Nat} (h : J W0 N L A (EI Q ds .normal)) : J W0 N L A (EI (Exit.inBlock id Q) ds .normal) := ⟨fun a w f s => h.run a w f s⟩
theorem JI.seq (h : J W0 N L A (CI r P x (Exit.then (y.wpIn (fen r) 0 P Q) Q) ds)) : J W0 N L A (CI r P (.seq x y) Q ds) := ⟨fun a w f s => wpIn_seq (h.run a w f s)⟩
theorem JI.then_n (h : J W0 N L A (CI r P y Q ds)) : J W0 N L A (EI (Exit.then (y.wpIn (fen r) 0 P Q) Q) ds .normal) := ⟨fun a w f s => h.run a w f s⟩
theorem JI.ret (h : J W0 N L A (EI Q ds .ret)) : J W0 N L A (CI r P .ret Q ds) := ⟨fun a w f s => wpIn_ret (h.run a w f s)⟩
theorem J.regionY {id : Nat} {l : List Oper} (h : J W0 N L A (LI none P l.toArray Q [] l)) : J W0 N L A ((Code.region id l.toArray false).wp P Q) :=
  ⟨fun a w f s => (wpIn_wide (n := 0)).1 (wpIn_region_lit (by
    have := h.run a w f s
    have e : ({ a with defers := [] } : Act) = a := by rw [← f.defers]
    unfold LI at this
    rw [e] at this; exact this))⟩
theorem JI.out {e : Exit} (h : J W0 N L A (Q e)) : J W0 N L A (EI Q [] e) :=
  ⟨fun a w f s => by
    have := h.run a w f s
    have e : ({ a with defers := [] } : Act) = a := by rw [← f.defers]
    unfold EI; rw [e]; exact this⟩
end control

def lrec (fn : FuncId) (T : Array Value) (ps : List Tmp) (assign body : Code) (D : Nat) (st : LoopState) (pe : Option Code) : Obj :=
  .loop { state := st, pending := pe, fn, tmps := T, params := ps.toArray, assign, body, defers := D }

structure FrT (N : Nat) (T : Array Value) (L : Slots) : Prop where
  size : T.size = N
  get : ∀ s v, find s L = some v → T[s]? = some v

def zipS : List Tmp → List Value → Slots
  | p :: ps, v :: vs => zipS ps vs ++ [(p, v)]
  | _, _ => []
theorem FrT.puts_ : ∀ {ps : List Tmp} {vs : List Value} {N : Nat} {T : Array Value} {L : Slots}, FrT N T L → (∀ p, p ∈ ps → p < N) → FrT N ((ps.zip vs).foldl (fun t (q : Nat × Value) => t.setIfInBounds q.1 q.2) T) (zipS ps vs ++ L)
  | [], vs, N, T, L, h, _ => by simpa [zipS] using h
  | p :: ps, [], N, T, L, h, _ => by simpa [zipS] using h
  | p :: ps, v :: vs, N, T, L, h, hp => by
    have h1 : FrT N (T.setIfInBounds p v) ((p, v) :: L) := by
      refine ⟨by simp [h.size], fun s u e => ?_⟩
      simp only [find] at e
      rw [Array.getElem?_setIfInBounds]
      cases hb : Nat.beq s p with
      | true =>
        rw [hb] at e; simp at e
        rw [beq_iff] at hb; subst hb; subst e
        have := hp s (by simp)
        simp [h.size, this]
      | false =>
        rw [hb] at e; simp at e
        have hne : p ≠ s := by rintro rfl; rw [Nat.beq_refl] at hb; cases hb
        rw [if_neg hne]; exact h.get s u e
    have := FrT.puts_ (ps := ps) (vs := vs) h1 (fun q hq => hp q (by simp [hq]))
    simpa [zipS, List.append_assoc] using this
theorem FrT.puts {ps : List Tmp} {vs : List Value} {N : Nat} {T : Array Value} {L : Slots} (h : FrT N T L) (hp : ∀ p, p ∈ ps → p < N) : FrT N ((ps.toArray.zip vs.toArray).foldl (fun t (q : Nat × Value) => t.setIfInBounds q.1 q.2) T) (zipS ps vs ++ L) := by
  have := FrT.puts_ (vs := vs) h hp
  rw [← Array.foldl_toList]
  simpa using this

def BodyQ (W0 : World) (A : List Assn) : Exit → Act → World → Prop
  | .normal, _, w => Sat W0 w A
  | _, _, _ => False
def AsgQ (W0 : World) (N : Nat) (L : Slots) (A : List Assn) : Exit → Act → World → Prop
  | .normal, a, w => Fr N a L ∧ Sat W0 w A
  | _, _, _ => False
section ends
variable {W0 : World} {N : Nat} {L M : Slots} {A B : List Assn}
theorem JI.bodyEnd (e : A = B) : J W0 N L A (EI (BodyQ W0 B) [] .normal) := ⟨fun _ _ _ s => e ▸ s⟩
theorem JI.asgEnd (hL : Knows L M) (e : A = B) : J W0 N L A (EI (AsgQ W0 N M B) [] .normal) :=
  ⟨fun a _ f s => ⟨by have := f.weaken hL; exact ⟨this.size, this.get, rfl⟩, e ▸ s⟩⟩
end ends

theorem putObj_sat {W0 w : World} {l : Nat} {o p : Obj} {A : List Assn} (s : Sat W0 w (pt l o :: A)) : Sat W0 (w.putObj l p) (pt l p :: A) := by
  have h0 : hp w l = some o := by obtain ⟨k, hk, hs⟩ := s.heap.at_ (i := 0) rfl; exact hs l o hk
  refine ⟨s.os, s.tape, s.out, ?_⟩
  have e : hp (w.putObj l p) = upd (hp w) l p := hp_set w l p o h0
  rw [e]
  have := HSat.update (i := 0) (b := l) (o := p) (A := pt l o) (B := pt l p) s.heap rfl fun k hk => ⟨⟨o, hk⟩, by simp [pt, upd]⟩
  simpa using this

def ItSpec {α : Type} (P : Program) (gf : FuncId) (lb : List Value) (enc : α → List Value) (Ait : List Assn) (S : List α → Prop) (ok : List α → α → Prop) : Prop :=
  ∀ (l : Nat) (Inv : List α → Assn), (∀ pre x, ok pre x → YSpec P l (enc x) [Inv pre] (fun v B => v = .bool true ∧ B = [Inv (pre ++ [x])])) →
    FSpec P gf (.func (.yield l) #[] #[] :: lb) (Inv [] :: Ait) (fun _ B => ∃ xs, S xs ∧ B = Inv xs :: Ait)

section stmt
variable {P : Program} {W0 : World} {N : Nat} {Q : Exit → Act → World → Prop} {L : Slots} {A Ait C : List Assn}

theorem JI.rangeFunc {α : Type} {gt : Tmp} {ps : List Tmp} {assign body : Code} (gf : FuncId) (lb : List Value) (enc : α → List Value) (S : List α → Prop) (ok : List α → α → Prop) (Ib : List α → List Assn) (L1 : α → Slots)
    (hg : find gt L = some (.func (.func gf) #[] lb.toArray)) (eg : ∀ (args : Array Value) (w : World), (callFunc gf args).run P w = .ok (.enter gf args) w) (hit : ItSpec P gf lb enc Ait S ok)
    (hps : ∀ p, p ∈ ps → p < N) (hen : ∀ x, (enc x).length = ps.length) (is : List Nat) (hp : X.pick is A = some (Ib [] ++ Ait, C))
    (hassign : ∀ (l : Nat) (W0 : World) (F : Assn) pre x, ok pre x → J W0 N (zipS ps (enc x) ++ L) (Ib pre ++ [F]) (CI (some l) P assign (AsgQ W0 N (L1 x) (Ib pre ++ [F])) []))
    (hbody : ∀ (l : Nat) (W0 : World) (F : Assn) pre x, ok pre x → J W0 N (L1 x) (Ib pre ++ [F]) (CI (some l) P body (BodyQ W0 (Ib (pre ++ [x]) ++ [F])) []))
    (k : ∀ D xs, S xs → J W0 N L (pt D (.deferred (some [])) :: (Ib xs ++ Ait ++ C)) (EI Q [{ target := .collected D, args := #[] }] .normal)) :
    J W0 N L A (CI none P (.rangeFunc (.tmp gt) ps.toArray assign body) Q []) := by
  refine ⟨fun a w f s => ?_⟩
  unfold CI
  have ea : ({ a with defers := [] } : Act) = a := by rw [← f.defers]
  rw [ea]
  refine wpIn_rangeFunc ?_
  intro fn _
  obtain ⟨rec, hrec⟩ : ∃ rec : LoopState → Option Code → Obj, rec = lrec fn a.tmps ps assign body w.heap.size := ⟨_, rfl⟩
  have s0 := s.perm (pick_perm hp)
  have s1 : Sat W0 ((w.alloc (.deferred (some []))).alloc (rec .ready none)) (pt (w.heap.size + 1) (rec .ready none) :: pt w.heap.size (.deferred (some [])) :: (Ib [] ++ Ait ++ C)) := by
    have h1 := s0.new (.deferred (some []))
    have h2 := h1.new (rec .ready none)
    rw [show ({ w with heap := w.heap.push (.deferred (some [])) } : World).heap.size = w.heap.size + 1 from by simp] at h2
    exact h2
  obtain ⟨W1, hW1⟩ : ∃ W1, (w.alloc (.deferred (some []))).alloc (rec .ready none) = W1 := ⟨_, rfl⟩
  rw [hW1] at s1
  refine ⟨w.heap.size + 1, [{ target := .collected w.heap.size, args := #[] }], W1, { target := .fn (.func gf) lb.toArray, args := #[.func (.yield (w.heap.size + 1)) #[] #[]] }, W1, gf,
    #[.func (.yield (w.heap.size + 1)) #[] #[]] ++ lb.toArray, W1, ?_, ?_, fun _ _ => trivial, ?_, fun h => (by cases h), ?_⟩
  · rw [← hW1, hrec]; exact run_enterLoop_outer _ _ _ _ _
  · have : a.eval (.tmp gt) = .func (.func gf) #[] lb.toArray := f.eval (x := .tmp gt) hg
    simp only [resolve, this]
    simp [go_sem]
  · simp [invoke, go_sem, eg]
  · have hInv : ∀ pre x, ok pre x → YSpec P (w.heap.size + 1) (enc x) [star (pt (w.heap.size + 1) (rec .ready none) :: pt w.heap.size (.deferred (some [])) :: Ib pre)]
        (fun v B => v = .bool true ∧ B = [star (pt (w.heap.size + 1) (rec .ready none) :: pt w.heap.size (.deferred (some [])) :: Ib (pre ++ [x]))]) := by
      intro pre x hok W0' w' F' s
      have t : Sat W0' w' ((pt (w.heap.size + 1) (rec .ready none) :: pt w.heap.size (.deferred (some [])) :: Ib pre) ++ [F']) :=
        s.imp fun h hh => HSat.unpack (As := pt (w.heap.size + 1) (rec .ready none) :: pt w.heap.size (.deferred (some [])) :: Ib pre) (Bs := [F']) hh
      have hl := t.at_ (i := 0) rfl
      have hl' : w'.heap[w.heap.size + 1]? = some (lrec fn a.tmps ps assign body w.heap.size .ready none) := by rw [← hrec]; exact hl
      refine ⟨fn, _, assign, body, run_yield hl' (by simp [hen]), roundIn_of_wpIn trivial ?_⟩
      have fr0 : Fr N ⟨(ps.toArray.zip (enc x).toArray).foldl (fun t (q : Nat × Value) => t.setIfInBounds q.1 q.2) a.tmps, []⟩ (zipS ps (enc x) ++ L) := by
        have := FrT.puts (vs := enc x) (⟨f.size, f.get⟩ : FrT N a.tmps L) hps
        exact ⟨this.size, this.get, rfl⟩
      have t1 : ∀ (st : Obj) (X : List Assn) {w2 : World}, Sat W0' w2 ((pt (w.heap.size + 1) st :: pt w.heap.size (.deferred (some [])) :: X) ++ [F']) → Sat W0' w2 (X ++ [star [pt (w.heap.size + 1) st, pt w.heap.size (.deferred (some [])), F']]) := by
        intro st X w2 h
        have h2 : Sat W0' w2 ([pt (w.heap.size + 1) st, pt w.heap.size (.deferred (some [])), F'] ++ X) := h.perm (by
          simp only [List.cons_append, List.nil_append]
          exact ((List.perm_append_singleton F' X).cons _).cons _)
        exact (h2.imp fun h hh => HSat.pack hh).perm (List.perm_append_singleton _ X).symm
      have t2 : ∀ (st : Obj) (X : List Assn) {w2 : World}, Sat W0' w2 (X ++ [star [pt (w.heap.size + 1) st, pt w.heap.size (.deferred (some [])), F']]) → Sat W0' w2 ((pt (w.heap.size + 1) st :: pt w.heap.size (.deferred (some [])) :: X) ++ [F']) := by
        intro st X w2 h
        have h1 := (h.perm (List.perm_append_singleton _ X)).imp fun h hh => HSat.unpack hh
        exact h1.perm (by
          simp only [List.cons_append, List.nil_append]
          exact ((List.perm_append_singleton F' X).symm.cons _).cons _)
      refine wpIn_mono ((hassign (w.heap.size + 1) W0' _ pre x hok).run _ w' fr0 (t1 _ _ t)) ?_
      intro e a1 w1 hq
      cases e with
      | normal =>
        obtain ⟨fr1, s1⟩ := hq
        have s1' := t2 _ _ s1
        have hl1 := s1'.at_ (i := 0) rfl
        rw [hrec] at hl1
        refine ⟨_, run_beginRound hl1 rfl, ?_⟩
        have s2 := putObj_sat (p := lrec fn a.tmps ps assign body w.heap.size .busy none) s1'
        have ea1 : ({ a1 with defers := [] } : Act) = a1 := by rw [← fr1.defers]
        have hb := (hbody (w.heap.size + 1) W0' _ pre x hok).run a1 _ fr1 (t1 _ _ s2)
        unfold CI at hb
        rw [ea1] at hb
        refine wpIn_mono hb ?_
        intro e a3 w3 hq3
        cases e with
        | normal =>
          have s3 := t2 _ _ hq3
          have hl3 := s3.at_ (i := 0) rfl
          refine ⟨_, _, run_endRound none hl3, ?_⟩
          have s4 := putObj_sat (p := rec .ready none) s3
          rw [hrec] at s4 ⊢
          exact ⟨_, _, rfl, ⟨rfl, rfl⟩, s4.imp fun h hh => HSat.pack (As := pt (w.heap.size + 1) (lrec fn a.tmps ps assign body w.heap.size .ready none) :: pt w.heap.size (.deferred (some [])) :: Ib (pre ++ [x])) (Bs := [F']) hh⟩
        | _ => exact hq3.elim
      | _ => exact hq.elim
    have s2 : Sat W0 W1 ((star (pt (w.heap.size + 1) (rec .ready none) :: pt w.heap.size (.deferred (some [])) :: Ib []) :: Ait) ++ [star C]) := by
      have e1 : pt (w.heap.size + 1) (rec .ready none) :: pt w.heap.size (.deferred (some [])) :: (Ib [] ++ Ait ++ C) = (pt (w.heap.size + 1) (rec .ready none) :: pt w.heap.size (.deferred (some [])) :: Ib []) ++ (Ait ++ C) := by simp
      rw [e1] at s1
      have h1 := s1.imp fun h hh => HSat.pack hh
      have h2 : Sat W0 W1 (C ++ (star (pt (w.heap.size + 1) (rec .ready none) :: pt w.heap.size (.deferred (some [])) :: Ib []) :: Ait)) := h1.perm (by
        rw [← List.cons_append]; exact List.perm_append_comm)
      exact (h2.imp fun h hh => HSat.pack hh).perm (List.perm_append_singleton _ _).symm
    have hc := (hit (w.heap.size + 1) (fun pre => star (pt (w.heap.size + 1) (rec .ready none) :: pt w.heap.size (.deferred (some [])) :: Ib pre)) hInv).call W0 W1 (star C) s2
    rw [show (Value.func (.yield (w.heap.size + 1)) #[] #[] :: lb).toArray = #[Value.func (.yield (w.heap.size + 1)) #[] #[]] ++ lb.toArray from by simp] at hc
    refine callsIn_fen (hc.mono ?_)
    rintro e w' ⟨v, B, rfl, ⟨xs, hS, rfl⟩, t⟩
    have t1 := (t.perm (List.perm_append_singleton (star C) _)).imp fun h hh => HSat.unpack hh
    have t2 : Sat W0 w' (star (pt (w.heap.size + 1) (rec .ready none) :: pt w.heap.size (.deferred (some [])) :: Ib xs) :: (Ait ++ C)) := t1.perm (by
      rw [← List.cons_append]; exact List.perm_append_comm)
    have t3 := t2.imp fun h hh => HSat.unpack hh
    have hl := t3.at_ (i := 0) rfl
    rw [hrec] at hl
    refine ⟨none, _, run_endLoop hl (by simp), ?_⟩
    have t4 := putObj_sat (p := lrec fn a.tmps ps assign body w.heap.size .exhausted none) t3
    have hk := (k w.heap.size xs hS).run a _ f (t4.imp fun h hh => by
      have := HSat.tail hh
      simpa using this)
    unfold EI at hk
    have ed : ([{ target := .collected w.heap.size, args := #[] }] ++ a.defers : List Deferred) = [{ target := .collected w.heap.size, args := #[] }] := by rw [f.defers]; rfl
    rw [ed]
    exact hk
end stmt

section funcs
variable {P : Program} {f : FuncId} {fn : Func} {c : Code} {N : Nat} {args : List Value} {A B D : List Assn} {R : Value → List Assn → Prop} {W0 : World} {L : Slots} {F : Assn} {v : Value}
theorem FSpec.ofM (hf : P.funcs[f]? = some fn) (hb : fn.body = some c) (hn : fn.ntmps = N) (hl : Nat.ble args.length N = true)
    (h : ∀ (W0 : World) (F : Assn), J W0 N (argSlots 0 args) (A ++ [F]) (CI none P c (bodyPostM (fen none) 0 P fn (RetQ W0 R F)) [])) : FSpec P f args A R := by
  refine ⟨fun W0 w F s => callsIn_fen_out (r := none) (callsIn_of_wp_marks hf hb trivial ((h W0 F).run ⟨args.toArray ++ Array.replicate (fn.ntmps - args.toArray.size) undef, []⟩ w ⟨?_, ?_, rfl⟩ s) rfl)⟩
  · have : args.length ≤ N := Nat.le_of_ble_eq_true hl
    simp [hn]; omega
  · intro t v e
    obtain ⟨_, h2⟩ := find_argSlots _ _ _ _ e
    simp only [Nat.sub_zero] at h2
    rw [Array.getElem?_append_left]
    · simpa using h2
    · rcases Nat.lt_or_ge t args.length with q | q
      · simpa using q
      · rw [List.getElem?_eq_none q] at h2; cases h2

theorem JI.ret1 {s D0 : Nat} (hr : fn.results = #[.tmp s]) (hv : find s L = some v) (hR : R v B) (hA : A = pt D0 (.deferred (some [])) :: (B ++ [F])) :
    J W0 N L A (EI (bodyPostM (fen none) 0 P fn (RetQ W0 R F)) [{ target := .collected D0, args := #[] }] .ret) := by
  subst hA
  refine ⟨fun a w f t => ?_⟩
  have hd := t.at_ (i := 0) rfl
  refine ⟨by simp, .inl ⟨D0, _, rfl, run_takeDeferred hd, v, ?_, v, B, rfl, hR, ?_⟩⟩
  · rw [results_tmp hr]
    rw [Array.getD_eq_getD_getElem?, f.get s v hv]; rfl
  · exact (putObj_sat (p := .deferred none) t).imp fun h hh => HSat.tail hh
end funcs
section loops
variable {α β γ δ : Type} {P : Program} {W0 : World} {N : Nat} {Q : Exit → Act → World → Prop} {L : Slots} {A : List Assn} {c : Code}
theorem J.loop2 (I : α → β → Prop) (m : α → β → Nat) (Ls : α → β → Slots) (As : α → β → List Assn) (x0 : α) (y0 : β) (h0 : I x0 y0) (hL : Knows L (Ls x0 y0)) (hA : A = As x0 y0)
    (round : ∀ x y, I x y → J W0 N (Ls x y) (As x y) (c.wp P (LoopQ W0 N (fun z : α × β => I z.1 z.2) (fun z => m z.1 z.2) (fun z => Ls z.1 z.2) (fun z => As z.1 z.2) (x, y) Q))) : J W0 N L A ((Code.loop c).wp P Q) :=
  J.loop (fun z : α × β => I z.1 z.2) (fun z => m z.1 z.2) (fun z => Ls z.1 z.2) (fun z => As z.1 z.2) (x0, y0) h0 hL hA fun x h => round x.1 x.2 h
theorem J.loop3 (I : α → β → γ → Prop) (m : α → β → γ → Nat) (Ls : α → β → γ → Slots) (As : α → β → γ → List Assn) (x0 : α) (y0 : β) (z0 : γ) (h0 : I x0 y0 z0) (hL : Knows L (Ls x0 y0 z0)) (hA : A = As x0 y0 z0)
    (round : ∀ x y u, I x y u → J W0 N (Ls x y u) (As x y u) (c.wp P (LoopQ W0 N (fun z : α × β × γ => I z.1 z.2.1 z.2.2) (fun z => m z.1 z.2.1 z.2.2) (fun z => Ls z.1 z.2.1 z.2.2) (fun z => As z.1 z.2.1 z.2.2) (x, y, u) Q))) : J W0 N L A ((Code.loop c).wp P Q) :=
  J.loop (fun z : α × β × γ => I z.1 z.2.1 z.2.2) (fun z => m z.1 z.2.1 z.2.2) (fun z => Ls z.1 z.2.1 z.2.2) (fun z => As z.1 z.2.1 z.2.2) (x0, y0, z0) h0 hL hA fun x h => round x.1 x.2.1 x.2.2 h
theorem J.loop4 (I : α → β → γ → δ → Prop) (m : α → β → γ → δ → Nat) (Ls : α → β → γ → δ → Slots) (As : α → β → γ → δ → List Assn) (x0 : α) (y0 : β) (z0 : γ) (w0 : δ) (h0 : I x0 y0 z0 w0) (hL : Knows L (Ls x0 y0 z0 w0)) (hA : A = As x0 y0 z0 w0)
    (round : ∀ x y u v, I x y u v → J W0 N (Ls x y u v) (As x y u v) (c.wp P (LoopQ W0 N (fun z : α × β × γ × δ => I z.1 z.2.1 z.2.2.1 z.2.2.2) (fun z => m z.1 z.2.1 z.2.2.1 z.2.2.2) (fun z => Ls z.1 z.2.1 z.2.2.1 z.2.2.2) (fun z => As z.1 z.2.1 z.2.2.1 z.2.2.2) (x, y, u, v) Q))) : J W0 N L A ((Code.loop c).wp P Q) :=
  J.loop (fun z : α × β × γ × δ => I z.1 z.2.1 z.2.2.1 z.2.2.2) (fun z => m z.1 z.2.1 z.2.2.1 z.2.2.2) (fun z => Ls z.1 z.2.1 z.2.2.1 z.2.2.2) (fun z => As z.1 z.2.1 z.2.2.1 z.2.2.2) (x0, y0, z0, w0) h0 hL hA fun x h => round x.1 x.2.1 x.2.2.1 x.2.2.2 h
end loops
end Go.X
namespace Go.Proofs.Ytgdmfagmpfalbaa
open Go.Proofs.Try
open Go.X

theorem clip_spec (p : Option Addr) (c : Nat) (bs : List UInt8) (hn : bs.length ≤ 9223372036854775807) : FSpec Try.prog 62 [.slice p bs.length c] [own 5 1 (.slice p bs.length c) (bytesV bs)] (fun v B => v = .slice p bs.length bs.length ∧ B = [own 5 1 (.slice p bs.length bs.length) (bytesV bs)]) := by
  refine FSpec.of func62 rfl ntmps62 rfl fun W0 F => ?_
  refine J.seq <| J.region <| J.p rfl (Q.asg rfl) <| J.nil <| J.then_n <| J.seq ?_
  refine J.tells 0 rfl own.len fun hln => ?_
  obtain ⟨_, hcap⟩ := hln
  refine J.region <| J.m rfl <| J.m rfl <| J.p rfl (Q.lenSl runUnderlying41 rfl) <| J.m rfl <| J.p rfl (Q.lenSl runUnderlying41 rfl) <| J.p rfl (Q.slHM runUnderlying41 sizeOf5 rfl rfl rfl (by omega) (by omega) (by omega)) <| J.p rfl (Q.asg rfl) <| J.nil <| J.then_n <| J.cret ?_
  refine J.conv (Y := own 5 1 (.slice p bs.length bs.length) (bytesV bs)) 0 rfl own.clip ?_
  refine J.ret1 (B := [own 5 1 (.slice p bs.length bs.length) (bytesV bs)]) rfl rfl ⟨rfl, rfl⟩ rfl

theorem number_spec (p : Option Addr) (c : Nat) (bs : List UInt8) (v : Nat) (hn : bs.length ≤ 70368744100000) (hv : v ≤ 18446744073709551615) : FSpec Try.prog 56 [.slice p bs.length c, .int .u64 v] [own 5 1 (.slice p bs.length c) (bytesV bs)]
    (fun u B => ∃ p' c', u = .slice p' (bs ++ numB v).length c' ∧ B = [own 5 1 (.slice p' (bs ++ numB v).length c') (bytesV (bs ++ numB v))]) := by
  refine FSpec.of func56 rfl ntmps56 rfl fun W0 F => ?_
  refine J.seq <| J.region <| J.p rfl (Q.asg rfl) <| J.nil <| J.then_n <| J.seq <| J.region <| J.m rfl ?_
  refine J.call call62 (clip_spec p c bs (by omega)) [0] rfl rfl rfl rfl ?_
  rintro _ _ ⟨rfl, rfl⟩
  refine J.norm rfl <| J.p rfl (Q.asg rfl) <| J.nil <| J.then_n <| J.seq <| J.block ?_
  refine J.loop (fun z : List UInt8 × Nat × Option Addr × Nat => z.1 ++ numB z.2.1 = bs ++ numB v ∧ z.2.1 ≤ 18446744073709551615 ∧ z.1.length ≤ bs.length + (numB v).length) (fun z => z.2.1) (fun z => [(0, .slice z.2.2.1 z.1.length z.2.2.2), (1, .int .u64 z.2.1)]) (fun z => [own 5 1 (.slice z.2.2.1 z.1.length z.2.2.2) (bytesV z.1), F]) (bs, v, p, bs.length) ⟨rfl, hv, by show bs.length ≤ _; omega⟩ ⟨rfl, rfl, trivial⟩ rfl fun z hz => ?_
  obtain ⟨acc, w, q, d⟩ := z
  obtain ⟨hz1, hz2, hz3⟩ := hz
  dsimp only at hz1 hz2 hz3
  refine J.seq <| J.seq <| J.region <| J.m rfl <| J.p rfl (Q.geq rfl rfl) <| J.nil <| J.then_n ?_
  refine J.kases 8 rfl (fun hc8 => ?_) (fun hc8 => ?_)
  ·
   refine J.cond_t rfl <| J.cskip <| J.then_n <| J.block <| J.seq ?_
   have hw : ¬ w < 128 := by have h := hc8; dsimp only at h; omega
   have hst := numB_step (v := w) hw
   refine J.region <| J.m rfl <| J.m rfl <| J.p rfl (Q.conv runUnderlying56 runUnderlying5 rfl) <| J.p rfl (Q.or rfl rfl) ?_
   refine J.slot 12 (byteV (UInt8.ofNat (w % 128 + 128))) rfl (by show Value.int .u8 _ = _; rw [or128 w]; rfl) ?_
   refine J.c rfl rfl (C.bslG (l := [_]) runUnderlying41 sizeOf5 zeroValue5 (by decide) rfl rfl rfl rfl rfl) ?_
   rintro _ _ ⟨b13, rfl, rfl⟩
   refine J.norm rfl ?_
   refine J.conv (Y := own 5 1 (.slice (some ⟨b13, 0, none⟩) 1 1) (bytesV [UInt8.ofNat (w % 128 + 128)])) 0 rfl (own_of_block rfl) ?_
   refine J.slr1 0 rfl fun hs13 => ?_
   refine J.c rfl rfl (C.app (i := 1) runUnderlying41 runUnderlying41 typeInfo5 sizeOf5 zeroValue5 rfl rfl rfl (hs13.within (i := 0) rfl) (bytesV_one _) (by rw [show Try.t5.bytes = 1 from rfl]; show (acc.length + 1) * 1 ≤ _; have := numB_len v hv; omega) (by decide)) ?_
   rintro _ _ ⟨p14, c14, rfl, rfl⟩
   refine J.norm rfl <| J.p rfl (Q.asg rfl) <| J.nil <| J.then_n <| J.region <| J.m rfl <| J.p rfl (Q.shr rfl rfl (by omega)) ?_
   refine J.slot 16 (.int .u64 ((w / 128 : Nat) : Int)) rfl (by show Value.int .u64 _ = _; congr 1; show (w : Int).fdiv (2 ^ 7) = _; rw [Int.fdiv_eq_ediv_of_nonneg _ (by decide)]; omega) ?_
   refine J.p rfl (Q.asg rfl) <| J.nil <| J.blk_n ?_
   refine J.keep [1, 2] rfl ?_
   have hbl : (acc ++ [UInt8.ofNat (w % 128 + 128)]).length = acc.length + 1 := by simp
   refine J.again (acc ++ [UInt8.ofNat (w % 128 + 128)], w / 128, p14, c14) ⟨?_, by show w / 128 ≤ _; omega, ?_⟩ (by show w / 128 < w; omega) ⟨(by show _ = some (Value.slice p14 _ c14); rw [hbl]; rfl), rfl, trivial⟩ ?_
   · show (acc ++ [UInt8.ofNat (w % 128 + 128)]) ++ numB (w / 128) = bs ++ numB v
     rw [← hz1, hst, List.append_assoc]; rfl
   · have h1 := congrArg List.length hz1
     rw [hst] at h1
     simp only [List.length_append, List.length_cons] at h1
     show (acc ++ [UInt8.ofNat (w % 128 + 128)]).length ≤ _
     rw [hbl]; omega
   · show _ = [own 5 1 (.slice p14 (acc ++ [UInt8.ofNat (w % 128 + 128)]).length c14) (bytesV (acc ++ [UInt8.ofNat (w % 128 + 128)])), _]
     rw [hbl, ← bytesV_append]
  refine J.cond_f rfl <| J.exit <| J.then_x <| J.lp_x <| J.blk_x <| J.then_n <| J.seq ?_
  have hlt : w < 128 := by have h := hc8; dsimp only at h; omega
  rw [numB_small hlt] at hz1
  refine J.region <| J.m rfl <| J.m rfl <| J.p rfl (Q.conv runUnderlying56 runUnderlying5 rfl) ?_
  refine J.slot 19 (byteV (UInt8.ofNat w)) rfl (by show Value.int .u8 _ = _; rw [low8 hlt]; rfl) ?_
  refine J.c rfl rfl (C.bslG (l := [_]) runUnderlying41 sizeOf5 zeroValue5 (by decide) rfl rfl rfl rfl rfl) ?_
  rintro _ _ ⟨b20, rfl, rfl⟩
  refine J.norm rfl ?_
  refine J.conv (Y := own 5 1 (.slice (some ⟨b20, 0, none⟩) 1 1) (bytesV [UInt8.ofNat w])) 0 rfl (own_of_block rfl) ?_
  refine J.slr1 0 rfl fun hs20 => ?_
  refine J.c rfl rfl (C.app (i := 1) runUnderlying41 runUnderlying41 typeInfo5 sizeOf5 zeroValue5 rfl rfl rfl (hs20.within (i := 0) rfl) (bytesV_one _) (by rw [show Try.t5.bytes = 1 from rfl]; show (acc.length + 1) * 1 ≤ _; have := numB_len v hv; omega) (by decide)) ?_
  rintro _ _ ⟨p21, c21, rfl, rfl⟩
  refine J.norm rfl <| J.p rfl (Q.asg rfl) <| J.nil <| J.then_n <| J.cret ?_
  rw [← hz1]
  have hbl : (acc ++ [UInt8.ofNat w]).length = acc.length + 1 := by simp
  refine J.keep [1, 2] rfl ?_
  refine J.ret1 (B := [own 5 1 (.slice p21 (acc ++ [UInt8.ofNat w]).length c21) (bytesV (acc ++ [UInt8.ofNat w]))]) rfl rfl ⟨p21, c21, by rw [hbl], rfl⟩ ?_
  show _ = [own 5 1 (.slice p21 (acc ++ [UInt8.ofNat w]).length c21) (bytesV (acc ++ [UInt8.ofNat w])), F]
  rw [hbl, ← bytesV_append]

def encB (bs : List UInt8) : List UInt8 := numB bs.length ++ bs

section
variable (G : Assn) (q : Option Addr) (e : Nat) (bs : List UInt8) (hs : SlR [G] 1 (.slice q bs.length e) (bytesV bs)) (hn : bs.length ≤ 70368744100000) (b : Nat)
include hs hn
theorem size_spec : FSpec Try.prog 63 [.slice (some ⟨b, 0, none⟩) 1 1] [pt b (.cells [.slice q bs.length e].toArray 41 (0, 0)), G] (fun v B => v = .int .i64 bs.length ∧ B = [pt b (.cells [.slice q bs.length e].toArray 41 (0, 0)), G]) := by
  refine FSpec.of func63 rfl ntmps63 rfl fun W0 F => ?_
  refine J.seq <| J.region <| J.p rfl (Q.asg rfl) <| J.nil <| J.then_n <| J.seq <| J.region <| J.p rfl (Q.asg rfl) <| J.nil <| J.then_n <| J.seq <| J.seq <| J.region <| J.m rfl <| J.p rfl (Q.lenSl runUnderlying32 rfl) <| J.m rfl <| J.nil <| J.then_n <| J.block ?_
  refine J.loop2 (fun (i : Nat) (z : Int) => i ≤ 1 ∧ z = (if i = 0 then 0 else bs.length : Nat)) (fun i _ => 1 - i) (fun i z => [(3, .int .i64 z), (6, .slice (some ⟨b, 0, none⟩) 1 1), (7, .int .i64 1), (8, .int .i64 i)]) (fun _ _ => [pt b (.cells [.slice q bs.length e].toArray 41 (0, 0)), G, F]) 0 0 ⟨Nat.zero_le _, rfl⟩ ⟨rfl, rfl, rfl, rfl, trivial⟩ rfl fun i z hz => ?_
  obtain ⟨hi, hz⟩ := hz
  refine J.seq <| J.region <| J.p rfl (Q.lss rfl rfl) <| J.nil <| J.then_n <| J.seq ?_
  refine J.kases 9 rfl (fun hc9 => ?_) (fun hc9 => ?_)
  ·
   refine J.cond_t rfl <| J.cskip <| J.then_n <| J.seq <| J.block <| J.seq ?_
   obtain rfl : i = 0 := by omega
   rw [if_pos rfl] at hz
   refine J.region <| J.p rfl (Q.ia runUnderlying32 sizeOf41 rfl rfl (by omega) (by omega)) ?_
   refine J.p rfl (Q.ldI isAgg41 rfl) ?_
   refine J.p rfl (Q.asg rfl) <| J.nil <| J.then_n <| J.region <| J.m rfl <| J.m rfl <| J.p rfl (Q.lenSl runUnderlying41 rfl) <| J.p rfl (Q.add64 rfl rfl (by omega)) <| J.p rfl (Q.asg rfl) <| J.nil <| J.blk_n <| J.then_n <| J.region <| J.p rfl (Q.add64 rfl rfl (by omega)) <| J.m rfl <| J.nil ?_
   refine J.again (1, _) ⟨Nat.le_refl _, by show _ = ((if (1 : Nat) = 0 then 0 else bs.length : Nat) : Int); rw [if_neg (by decide), hz]; simp⟩ (by show 1 - 1 < 1 - 0; omega) ⟨rfl, rfl, rfl, rfl, trivial⟩ rfl
  refine J.cond_f rfl <| J.exit <| J.then_x <| J.lp_x <| J.blk_x <| J.then_n <| J.seq <| J.region <| J.m rfl <| J.p rfl (Q.asg rfl) <| J.nil <| J.then_n <| J.cret ?_
  obtain rfl : i = 1 := by omega
  rw [if_neg (by decide)] at hz
  subst hz
  refine J.ret1 (B := [_, _]) rfl rfl ⟨rfl, rfl⟩ rfl

theorem bytes_spec (p : Option Addr) (c : Nat) (acc : List UInt8) (ha : acc.length ≤ 70368744100000) : FSpec Try.prog 57 [.slice p acc.length c, .slice (some ⟨b, 0, none⟩) 1 1] [own 5 1 (.slice p acc.length c) (bytesV acc), pt b (.cells [.slice q bs.length e].toArray 41 (0, 0)), G]
    (fun u B => ∃ p' c', u = .slice p' (acc ++ encB bs).length c' ∧ B = [own 5 1 (.slice p' (acc ++ encB bs).length c') (bytesV (acc ++ encB bs)), G]) := by
  refine FSpec.of func57 rfl ntmps57 rfl fun W0 F => ?_
  refine J.seq <| J.region <| J.p rfl (Q.asg rfl) <| J.nil <| J.then_n <| J.seq <| J.region <| J.m rfl <| J.m rfl ?_
  refine J.call call63 (size_spec G q e bs hs hn b) [1, 2] rfl rfl rfl rfl ?_
  rintro _ _ ⟨rfl, rfl⟩
  refine J.norm rfl <| J.p rfl (Q.conv runUnderlying3 runUnderlying56 rfl) ?_
  refine J.slot 10 (.int .u64 (bs.length : Int)) rfl (by congr 1; exact wrap64 (by omega)) ?_
  refine J.call call56 (number_spec p c acc bs.length (by omega) (by omega)) [2] rfl rfl rfl rfl ?_
  rintro _ _ ⟨p1, c1, rfl, rfl⟩
  refine J.norm rfl ?_
  have hnl := numB_len bs.length (by omega)
  refine J.p rfl (Q.asg rfl) <| J.nil <| J.then_n <| J.seq <| J.seq <| J.region <| J.m rfl <| J.p rfl (Q.lenSl runUnderlying32 rfl) <| J.m rfl <| J.nil <| J.then_n <| J.block ?_
  refine J.loop3 (fun (i : Nat) (p' : Option Addr) (c' : Nat) => i ≤ 1) (fun i _ _ => 1 - i) (fun i p' c' => [(0, .slice p' (acc ++ numB bs.length ++ (if i = 0 then [] else bs)).length c'), (12, .slice (some ⟨b, 0, none⟩) 1 1), (13, .int .i64 1), (14, .int .i64 i)]) (fun i p' c' => [own 5 1 (.slice p' (acc ++ numB bs.length ++ (if i = 0 then [] else bs)).length c') (bytesV (acc ++ numB bs.length ++ (if i = 0 then [] else bs))), pt b (.cells [.slice q bs.length e].toArray 41 (0, 0)), G, F]) 0 p1 c1 (Nat.zero_le _) ⟨by rw [if_pos rfl, List.append_nil]; rfl, rfl, rfl, rfl, trivial⟩ (by rw [if_pos rfl, List.append_nil]) fun i p' c' hi => ?_
  refine J.seq <| J.region <| J.p rfl (Q.lss rfl rfl) <| J.nil <| J.then_n <| J.seq ?_
  refine J.kases 15 rfl (fun hc15 => ?_) (fun hc15 => ?_)
  ·
   refine J.cond_t rfl <| J.cskip <| J.then_n <| J.seq <| J.block <| J.seq ?_
   obtain rfl : i = 0 := by omega
   rw [if_pos rfl, List.append_nil]
   refine J.region <| J.p rfl (Q.ia runUnderlying32 sizeOf41 rfl rfl (by omega) (by omega)) ?_
   refine J.p rfl (Q.ldI isAgg41 rfl) ?_
   refine J.p rfl (Q.asg rfl) <| J.nil <| J.then_n <| J.region <| J.m rfl <| J.m rfl ?_
   refine J.c rfl rfl (C.app (i := 0) runUnderlying41 runUnderlying41 typeInfo5 sizeOf5 zeroValue5 rfl rfl rfl (hs.within (i := 2) rfl) (bytesV_one _) (by rw [show Try.t5.bytes = 1 from rfl, List.length_append]; omega) (by decide)) ?_
   rintro _ _ ⟨p2, c2, rfl, rfl⟩
   refine J.norm rfl <| J.p rfl (Q.asg rfl) <| J.nil <| J.blk_n <| J.then_n <| J.region <| J.p rfl (Q.add64 rfl rfl (by omega)) <| J.m rfl <| J.nil ?_
   refine J.again (1, p2, c2) (Nat.le_refl _) (by show 1 - 1 < 1 - 0; omega) ⟨(by show _ = some (Value.slice p2 (acc ++ numB bs.length ++ (if (1 : Nat) = 0 then [] else bs)).length c2); rw [if_neg (by decide), X.len_app (acc ++ numB bs.length)]; rfl), rfl, rfl, rfl, trivial⟩ ?_
   show _ = [own 5 1 (.slice p2 (acc ++ numB bs.length ++ (if (1 : Nat) = 0 then [] else bs)).length c2) (bytesV (acc ++ numB bs.length ++ (if (1 : Nat) = 0 then [] else bs))), _, _, _]
   rw [if_neg (by decide), X.len_app (acc ++ numB bs.length), ← bytesV_append (acc ++ numB bs.length) bs]
  refine J.cond_f rfl <| J.exit <| J.then_x <| J.lp_x <| J.blk_x <| J.then_n <| J.seq ?_
  obtain rfl : i = 1 := by omega
  rw [if_neg (by decide), List.append_assoc]
  refine J.region <| J.m rfl <| J.p rfl (Q.asg rfl) <| J.nil <| J.then_n <| J.cret ?_
  refine J.keep [0, 2, 3] rfl ?_
  refine J.ret1 (B := [own 5 1 (.slice p' (acc ++ encB bs).length c') (bytesV (acc ++ encB bs)), G]) rfl rfl ⟨p', c', rfl, rfl⟩ rfl
end
end Go.Proofs.Ytgdmfagmpfalbaa
namespace Go.X
set_option linter.unusedSectionVars false
set_option linter.unusedSimpArgs false
set_option linter.unusedVariables false

class OwnB (A : List Assn) (b : Nat) (E sz off n c : outParam Nat) (xs : outParam (List Value)) (D : outParam (List Assn)) : Prop where
  perm : A.Perm (own E sz (.slice (some ⟨b, off, none⟩) n c) xs :: D)
instance OwnB.head {A : List Assn} {b E sz off n c : Nat} {xs : List Value} : OwnB (own E sz (.slice (some ⟨b, off, none⟩) n c) xs :: A) b E sz off n c xs A := ⟨List.Perm.refl _⟩
instance (priority := 900) OwnB.tail {A D : List Assn} {Y : Assn} {b E sz off n c : Nat} {xs : List Value} [h : OwnB A b E sz off n c xs D] : OwnB (Y :: A) b E sz off n c xs (Y :: D) := ⟨(h.perm.cons Y).trans (List.Perm.swap _ _ _)⟩
instance OwnB.left {A B D : List Assn} {b E sz off n c : Nat} {xs : List Value} [h : OwnB A b E sz off n c xs D] : OwnB (A ++ B) b E sz off n c xs (D ++ B) := ⟨h.perm.append_right B⟩
section
variable {P : Program} {L : Slots} {A D : List Assn} {ty T : TypeId} {x y : Operand}
theorem C.st1O {E sz b off n c o : Nat} (j : Nat) {xs : List Value} {v : Value} (hs : ∀ w, (sizeOf T).run P w = .ok 1 w) (ex : ev L x = some (.pointer (some ⟨b, o, none⟩))) (ey : ev L y = some v) (hv : oneC v = true) [h : OwnB A b E sz off n c xs D]
    (hoj : o = off + j) (hj : j + 1 ≤ xs.length) : OpC P (.store T x y) ty L A (fun u B => u = undef ∧ B = own E sz (.slice (some ⟨b, off, none⟩) n c) (xs.set j v) :: D) :=
  (C.stO (A := own E sz (.slice (some ⟨b, off, none⟩) n c) xs :: D) 0 hs ex ey hv rfl hoj hj).imp fun _ s => s.perm h.perm
end

class OwnAt (A : List Assn) (v : Value) (E sz : Nat) (xs : outParam (List Value)) (D : outParam (List Assn)) : Prop where
  imp : ∀ h, HSat h A → HSat h (own E sz v xs :: D)
instance OwnAt.head {A : List Assn} {v : Value} {E sz : Nat} {xs : List Value} : OwnAt (own E sz v xs :: A) v E sz xs A := ⟨fun _ s => s⟩
instance OwnAt.zero {A : List Assn} {b E sz : Nat} {z : Nat × Nat} : OwnAt (pt b (.cells ([] : List Value).toArray E z) :: A) (.slice (some ⟨b, 0, none⟩) 0 0) E sz [] A := ⟨fun _ s => HSat.imp s own_of_zero⟩
instance (priority := 900) OwnAt.tail {A D : List Assn} {Y : Assn} {v : Value} {E sz : Nat} {xs : List Value} [h : OwnAt A v E sz xs D] : OwnAt (Y :: A) v E sz xs (Y :: D) :=
  ⟨fun _ s => (HSat.under s fun k q => h.imp k q).perm (List.Perm.swap _ _ _)⟩
section
variable {P : Program} {L : Slots} {A D : List Assn} {W0 : World} {N : Nat} {l : List Oper} {NQ : List Nat} {Q : Exit → Act → World → Prop} {S : List Nat} {Dm Em : List Assn}
theorem C.appI {E sz n c m c2 : Nat} {T T' E2 : TypeId} {ti : TypeInfo} {zv : Value} {p p2 : Option Addr} {xs ys : List Value} {x y : Operand} {ty : TypeId}
    (ht : ∀ w, (underlying T).run P w = .ok (.slice E) w) (ht2 : ∀ w, (underlying T').run P w = .ok (.slice E2) w)
    (hi : ∀ w, (typeInfo E).run P w = .ok ti w) (hs : ∀ w, (sizeOf E).run P w = .ok sz w) (hz : ∀ w, (zeroValue E).run P w = .ok zv w) (hzs : zv.cells.size = sz)
    (ex : evs L [x, y] = some [.slice p n c, .slice p2 m c2]) [h : OwnAt A (.slice p n c) E sz xs D]
    (hsrc : SlR (own E sz (.slice p n c) xs :: D) sz (.slice p2 m c2) ys) (hone : ∀ v, v ∈ ys → oneC v = true)
    (hfit : (n + m) * ti.bytes ≤ 140737488355328) (hb0 : ti.bytes ≠ 0) :
    OpC P (.call { callee := .builtin .append, args := #[x, y], argTypes := #[T, T'] }) ty L A (fun v B => ∃ p' c', v = .slice p' (n + m) c' ∧ B = own E sz (.slice p' (n + m) c') (xs ++ ys) :: D) :=
  (C.app (A := own E sz (.slice p n c) xs :: D) (i := 0) ht ht2 hi hs hz hzs ex rfl hsrc hone hfit hb0).imp h.imp
theorem RGi.appI {i : Nat} {d E sz n c m c2 : Nat} {T T' E2 : TypeId} {ti : TypeInfo} {zv : Value} {p p2 : Option Addr} {xs ys : List Value} {x y : Operand} {ty : TypeId} {pos : String} {aft : Array Edge} {g : Option (Nat × Bool)}
    (ho : l[i]? = some ⟨some d, .call { callee := .builtin .append, args := #[x, y], argTypes := #[T, T'] }, ty, pos, aft, g⟩)
    (hi : memN i NQ = true) (hN : Nat.blt d N = true) (hg : guardL l.toArray g L = some true)
    (ht : ∀ w, (underlying T).run P w = .ok (.slice E) w) (ht2 : ∀ w, (underlying T').run P w = .ok (.slice E2) w)
    (hti : ∀ w, (typeInfo E).run P w = .ok ti w) (hs : ∀ w, (sizeOf E).run P w = .ok sz w) (hz : ∀ w, (zeroValue E).run P w = .ok zv w) (hzs : zv.cells.size = sz)
    (ex : evs L [x, y] = some [.slice p n c, .slice p2 m c2]) [h : OwnAt Em (.slice p n c) E sz xs D]
    (hsrc : SlR (own E sz (.slice p n c) xs :: (Dm ++ D)) sz (.slice p2 m c2) ys) (hone : ∀ v, v ∈ ys → oneC v = true)
    (hfit : (n + m) * ti.bytes ≤ 140737488355328) (hb0 : ti.bytes ≠ 0)
    (k : ∀ p' c', RG P W0 N l NQ Q (i :: S) ((d, .slice p' (n + m) c') :: L) Dm (own E sz (.slice p' (n + m) c') (xs ++ ys) :: D)) : RGi P W0 N l NQ Q S L Dm Em i := by
  have im : ∀ k, HSat k (Dm ++ Em) → HSat k (own E sz (.slice p n c) xs :: (Dm ++ D)) := by
    intro k s
    obtain ⟨h1, h2, a, b, d, u, v⟩ := s.append
    exact (HSat.of_append a (h.imp _ b) d u v).perm List.perm_middle
  refine RGi.one ho hi hN hg ((C.app (A := own E sz (.slice p n c) xs :: (Dm ++ D)) (i := 0) ht ht2 hti hs hz hzs ex rfl hsrc hone hfit hb0).imp im) ?_
  rintro v B ⟨p', c', rfl, rfl⟩
  exact ⟨_, List.perm_middle.symm, k p' c'⟩
end

section
variable {P : Program} {fn : Func} {N : Nat} {W0 : World} {L : Slots} {A B D : List Assn} {F : Assn} {R : Value → List Assn → Prop} {s t : Nat} {T : TypeId} {b : Nat} {vs : List Value} {u : Value} {G : Act → World → Prop}
theorem J.retCI (B : List Assn) (hr : fn.results = #[.cell s T]) (hv : find s L = some (.pointer (some ⟨b, 0, none⟩))) (ha : ∀ w, (isAgg T).run P w = .ok true w) (hs : ∀ w, (sizeOf T).run P w = .ok vs.length w) (hrd : ReadsN A b 0 vs)
    (hR : R (.agg vs.toArray) B) [h : PickL A (B ++ [F]) D] : J W0 N L A (bodyPost P fn (RetQ W0 R F) .ret) := by
  refine ⟨fun a w f t => ?_⟩
  have hg : (a.tmps[s]?).getD undef = .pointer (some ⟨b, 0, none⟩) := by rw [f.get s _ hv]; rfl
  have hres : (results fn a.tmps).run P w = .ok (.agg vs.toArray) w := by
    simp [results, hr, hg, asAddr, run_loadAgg ha hs hrd t]
  exact bodyPost_ret hres f.defers ⟨_, B, rfl, hR, t.imp fun k q => HSat.keepI (A := A) (F := D) q⟩
theorem J.focusI {α : Type} {f : α → Assn} {l : List α} (k : Nat) {x : α} (hk : l[k]? = some x) [h : PickO A (star (l.map f)) D] (j : J W0 N L (f x :: star ((l.eraseIdx k).map f) :: D) G) : J W0 N L A G :=
  j.imp fun q s => by
    have s1 := HSat.unpack (s.perm h.perm)
    have s2 : HSat q ((f x :: (l.eraseIdx k).map f) ++ D) := s1.perm ((perm_focus f hk).append_right D)
    exact HSat.under (A := f x) s2 (fun _ s => HSat.pack s)
theorem J.unfocusI {α : Type} {f : α → Assn} {l : List α} (k : Nat) (x : α) (hk : k < l.length) [h : PickL A [f x, star ((l.eraseIdx k).map f)] D] (j : J W0 N L (star ((l.set k x).map f) :: D) G) : J W0 N L A G :=
  j.imp fun q s => by
    have s1 := s.perm h.perm
    have s2 : HSat q (f x :: ((l.eraseIdx k).map f ++ D)) := HSat.under (A := f x) s1 (fun _ s => HSat.unpack s)
    exact HSat.pack (HSat.perm (As := (f x :: (l.eraseIdx k).map f) ++ D) ((perm_unfocus f hk).append_right D) s2)
theorem J.unpackI (Bs : List Assn) [h : PickO A (star Bs) D] (j : J W0 N L (Bs ++ D) G) : J W0 N L A G := (j.imp fun _ s => HSat.unpack s).perm h.perm
theorem J.openI {α : Type} (U : Assn) {Bs : α → List Assn} {p : α → Prop} (f : ∀ h, U h → ∃ x, p x ∧ HSat h (Bs x)) [h : PickO A U D] (j : ∀ x, p x → J W0 N L (Bs x ++ D) G) : J W0 N L A G :=
  by
  refine ⟨fun a w u s => ?_⟩
  obtain ⟨h1, h2, hb, hd, d, s1, s2⟩ := s.heap.perm h.perm
  obtain ⟨x, px, hx⟩ := f h1 hb
  exact (j x px).run a w u ⟨s.os, s.tape, s.out, HSat.of_append hx hd d s1 s2⟩
end
end Go.X
namespace Go.X
theorem SlR.ptI {D : List Assn} {b n c sz : Nat} {l : List Value} {e : TypeId} {z : Nat × Nat} {KK : Obj → List Assn} [h : AtPt D b (.cells l.toArray e z) KK] (hl : l.length = n * sz) : SlR D sz (.slice (some ⟨b, 0, none⟩) n c) l := by
  obtain ⟨i, h1, _⟩ := h.at_
  exact SlR.pt i h1 hl (fun j u hj => by rw [Nat.zero_add]; exact hj)
theorem flat_one {α : Type} {cl : α → List Value} (h : ∀ x v, v ∈ cl x → oneC v = true) {l : List α} : ∀ v, v ∈ l.flatMap cl → oneC v = true := by
  intro v hv
  obtain ⟨x, _, hx⟩ := List.mem_flatMap.1 hv
  exact h x v hx
theorem take_one {xs : List Value} {n : Nat} (h : ∀ v, v ∈ xs → oneC v = true) : ∀ v, v ∈ xs.take n → oneC v = true := fun v hv => h v (List.mem_of_mem_take hv)
theorem drop_one {xs : List Value} {n : Nat} (h : ∀ v, v ∈ xs → oneC v = true) : ∀ v, v ∈ xs.drop n → oneC v = true := fun v hv => h v (List.mem_of_mem_drop hv)
end Go.X
namespace Go.X
theorem Reads.inI {D F : List Assn} {X : Assn} {b o : Nat} {v : Value} (h : Reads [X] b o v) [k : PickO D X F] : Reads D b o v := by
  obtain ⟨i, hi⟩ := List.getElem?_of_mem (k.perm.mem_iff.2 List.mem_cons_self)
  exact h.within hi
end Go.X
namespace Go.X.G
set_option linter.unusedSectionVars false
set_option linter.unusedSimpArgs false
set_option linter.unusedVariables false
variable {κ ν : Type} [DecidableEq κ]
section ops
variable {P : Program} {L : Slots} {A D F : List Assn} {ty T K E : TypeId} {x y z : Operand} {enc : κ → Value} {rep : κ → ν → Value → Assn} {S : List (κ × ν)} {es : List (Ent κ ν)} {c : Nat} {K1 K2 : Obj → List Assn}
end ops
section
variable {W0 : World} {N : Nat} {L : Slots} {A D : List Assn} {Gl : Act → World → Prop} {enc : κ → Value} {rep : κ → ν → Value → Assn} {r : Nat} {S : List (κ × ν)} {k : κ} {val : Value} {lt : κ → κ → Bool}
end
variable {lt : κ → κ → Bool} {S T : List (κ × ν)} {es : List (Ent κ ν)} {c : Nat} {seen : List Nat} {e : Ent κ ν}
end Go.X.G
namespace Go.X
theorem J.tellsI {W0 : World} {N : Nat} {L : Slots} {A D : List Assn} {G : Act → World → Prop} (X : Assn) {p : Prop} [k : PickO A X D] (f : ∀ h, X h → p) (h : p → J W0 N L A G) : J W0 N L A G := by
  obtain ⟨i, hi⟩ := List.getElem?_of_mem (k.perm.mem_iff.2 List.mem_cons_self)
  exact J.tells i hi f h
end Go.X
namespace Go.X
set_option linter.unusedSectionVars false
set_option linter.unusedSimpArgs false
set_option linter.unusedVariables false
section
variable {P : Program} {L : Slots} {D A F Ain : List Assn} {ty : TypeId} {x y : Operand} {k : IntKind} {a : Int} {R : Value → List Assn → Prop} {f : FuncId} {argTypes : Array TypeId}
theorem Q.maxI {m : Int} {ts : Array TypeId} (e : evs L [x, y] = some [.int k a, .int k m]) : OpQ P (.call { callee := .builtin .max, args := #[x, y], argTypes := ts }) ty L D (.int k (if m > a then m else a)) :=
  OpQ.built (xs := [x, y]) e fun w cs => by simp [builtin, Builtin.max_, Builtin.max2]
end

section
variable {P : Program} {fn : Func} {N : Nat} {W0 : World} {L : Slots} {A B D : List Assn} {F : Assn} {R : Value → List Assn → Prop} {s s2 t t2 : Nat} {T T2 : TypeId} {b b2 : Nat} {vs vs2 : List Value} {u u2 : Value}
end

section
variable {D F : List Assn} {b o : Nat} {X : Assn} {vs l : List Value} {e : TypeId} {z : Nat × Nat} {KK : Obj → List Assn}
theorem ReadsN.inI (h : ReadsN [X] b o vs) [k : PickO D X F] : ReadsN D b o vs := by
  obtain ⟨i, hi⟩ := List.getElem?_of_mem (k.perm.mem_iff.2 List.mem_cons_self)
  exact h.within hi
theorem star_snoc {α : Type} {f : α → Assn} {l : List α} (x : α) : ∀ h, HSat h [f x, star (l.map f)] → star ((l ++ [x]).map f) h := by
  intro h s
  have := star_ins1 (f := f) (l := l) l.length x h s
  simpa using this
end

section
variable {P : Program} {W0 : World} {N : Nat} {l : List Oper} {NQ : List Nat} {Q : Exit → Act → World → Prop} {S : List Nat} {L : Slots} {D E : List Assn}
variable {ty : TypeId} {pos : String} {aft : Array Edge} {g : Option (Nat × Bool)} {T : TypeId} {x y : Operand} {b off : Nat} {m m' : List Value} {e : TypeId} {z : Nat × Nat} {v : Value} {B : List Assn} {KK : Obj → List Assn}
theorem RG.stkI (i : Nat) (hR : RegOK l NQ) (hf : front l S = [i]) (ho : l[i]? = some ⟨none, .store T x y, ty, pos, aft, g⟩) (hi : memN i NQ = true) (hg : guardL l.toArray g L = some true)
    (hs : ∀ w, (sizeOf T).run P w = .ok 1 w) (ex : ev L x = some (.pointer (some ⟨b, off, none⟩))) (ey : ev L y = some v) (hv : oneC v = true) [h : AtPt E b (.cells m.toArray e z) KK]
    (hl : setV off v m = some m') (hz : (decide (z.1 ≤ off) && decide (off < z.2)) = false) (hB : normA (KK (.cells m'.toArray e z)) = some B) (k : RG P W0 N l NQ Q (i :: S) L D B) : RG P W0 N l NQ Q S L D E := by
  have hop := C.stI (P := P) (L := L) (ty := ty) (A := D ++ E) (KK := fun n => D ++ KK n) (h := AtPt.right) hs ex ey hv hl hz (normA_some _)
  refine RG.one i hR hf ho hi rfl hg hop ?_
  rintro _ _ ⟨rfl, rfl⟩
  have e : KK (.cells m'.toArray e z) = B := by
    rw [normA_some] at hB; exact Option.some.inj hB
  exact ⟨B, by rw [e], k⟩
end

namespace G
variable {κ ν : Type} [DecidableEq κ]
def valRep (f : ν → Value) (_ : κ) (v : ν) (val : Value) : Assn := fun _ => val = f v
section
variable {P : Program} {L : Slots} {A D F : List Assn} {ty : TypeId} {T K E : TypeId} {x y z : Operand} {enc : κ → Value} {lt : κ → κ → Bool} {r : Nat} {k : κ} {f : ν → Value}
end
end G
end Go.X
namespace Go.Rf

structure Rec where
  term : Nat
  bs : List UInt8

inductive XM where
  | ask (term n : Nat)
  | vote (given : Bool)
  | take (ahead term commit : Nat) (rs : List Rec)
  | took (ok : Bool) (n : Nat)
  | older

structure Ms where
  src : Nat
  dst : Nat
  term : Nat
  x : XM

structure Nd where
  id : Nat
  n : Nat
  term : Nat
  vote : Nat
  log : List Rec
  commit : Nat
  role : Nat
  leader : Nat
  votes : List Bool
  lead : Option (List Nat × List Nat)

def lastT (l : List Rec) : Nat := (l[l.length - 1]?).elim 0 Rec.term

def Nd.follow (s : Nd) (t : Nat) : Nd :=
  { s with term := if s.term < t then t else s.term, vote := if s.term < t then 0 else s.vote, leader := if s.term < t then 0 else s.leader, role := 1, lead := none, votes := [] }
def Nd.others (s : Nd) : List Nat := (List.range s.n).filter fun j => !(j == s.id)
abbrev Nd.msg (s : Nd) (to : Nat) (x : XM) : Ms := ⟨s.id, to, s.term, x⟩

def ins (a : Nat) : List Nat → List Nat
  | [] => [a]
  | b :: l => if a ≤ b then a :: b :: l else b :: ins a l
def srt : List Nat → List Nat
  | [] => []
  | a :: l => ins a (srt l)

def Nd.cnt (s : Nd) (mt : List Nat) : Nat :=
  let at_ := (srt mt).getD ((s.n - 1) / 2) 0
  if s.commit < at_ ∧ (s.log[at_ - 1]?).elim 0 Rec.term = s.term then at_ else s.commit
def Nd.count (s : Nd) (nx mt : List Nat) : Nd := { s with lead := some (nx, mt), commit := s.cnt mt }
def Nd.add (s : Nd) (nx mt : List Nat) (b : List UInt8) : Nd :=
  ({ s with log := s.log ++ [⟨s.term, b⟩] } : Nd).count nx (mt.set s.id (s.log.length + 1))
def Nd.feed (s : Nd) (nx : List Nat) (i : Nat) : Ms :=
  let ahead := nx.getD i 0 - 1
  s.msg i (.take ahead (if ahead = 0 then 0 else (s.log[ahead - 1]?).elim 0 Rec.term) s.commit (s.log.drop ahead))
def Nd.beat (s : Nd) : List Ms := match s.lead with
  | none => []
  | some (nx, _) => s.others.map (s.feed nx)
abbrev Nd.crown (s : Nd) : Nd := { s with role := 3, leader := s.id + 1, votes := [], lead := some (List.replicate s.n (s.log.length + 1), List.replicate s.n 0) }
def Nd.win (s : Nd) : Nd := s.crown.add (List.replicate s.n (s.log.length + 1)) (List.replicate s.n 0) []
def Nd.stand (s : Nd) : Nd := { s.follow (s.term + 1) with role := 2, vote := s.id + 1, votes := (List.replicate s.n false).set s.id true }
def Nd.elect (s : Nd) : Nd × List Ms :=
  if s.role = 3 ∨ s.term = 18446744073709551615 then (s, [])
  else if s.n = 1 then (s.stand.win, s.stand.win.beat)
  else (s.stand, s.stand.others.map fun i => s.stand.msg i (.ask (lastT s.log) s.log.length))
def Nd.refuses (s : Nd) (to lt n : Nat) : Bool := (!(s.vote == 0) && !(s.vote == to + 1)) || decide (lt < lastT s.log) || (lt == lastT s.log && decide (n < s.log.length))
def Nd.gives (s : Nd) (to lt n : Nat) : Nd := if s.refuses to lt n then s else { s with vote := to + 1 }
def Nd.counts (s : Nd) (src : Nat) (g : Bool) : Nd × List Ms :=
  if s.role ≠ 2 ∨ g = false then (s, [])
  else
    let s' := { s with votes := s.votes.set src true }
    if 2 * s'.votes.count true ≤ s.n then (s', []) else (s'.win, s'.win.beat)
def lay (commit : Nat) : List Rec → Nat → List Rec → List Rec × Bool
  | log, _, [] => (log, true)
  | log, a, k :: ks =>
    match log[a]? with
    | none => lay commit (log ++ [k]) (a + 1) ks
    | some r =>
      if r.term = k.term then lay commit log (a + 1) ks
      else if a < commit then (log, false)
      else lay commit (log.take a ++ [k]) (a + 1) ks
def Nd.takes (s : Nd) (src ahead lt commit : Nat) (rs : List Rec) : Nd × List Ms :=
  if s.role = 3 then (s, [])
  else
    let s1 := { s.follow s.term with leader := src + 1 }
    if s.log.length < ahead ∨ 0 < ahead ∧ (s.log[ahead - 1]?).elim 0 Rec.term ≠ lt then (s1, [s1.msg src (.took false (min s.log.length (ahead - 1)))])
    else
      let p := lay s.commit s.log ahead rs
      if p.2 then ({ s1 with log := p.1, commit := max s.commit (min commit (ahead + rs.length)) }, [s1.msg src (.took true (ahead + rs.length))])
      else ({ s1 with log := p.1 }, [])
def Nd.hears (s : Nd) (src : Nat) (ok : Bool) (n : Nat) : Nd × List Ms := match s.lead with
  | none => (s, [])
  | some (nx, mt) =>
    if s.log.length < n then (s, [])
    else if ok then
      let m := max (mt.getD src 0) n
      (s.count (nx.set src (max (nx.getD src 0) (m + 1))) (mt.set src m), [])
    else if nx.getD src 0 ≤ n + 1 ∨ nx.getD src 0 ≤ mt.getD src 0 + 1 then (s, [])
    else
      let nx' := nx.set src (max (mt.getD src 0) n + 1)
      ({ s with lead := some (nx', mt) }, [s.feed nx' src])
def Nd.hear (s : Nd) (m : Ms) : Nd × List Ms := match m.x with
  | .ask lt n => (s.gives m.src lt n, [s.msg m.src (.vote (!s.refuses m.src lt n))])
  | .vote g => s.counts m.src g
  | .take a lt c rs => s.takes m.src a lt c rs
  | .took ok n => s.hears m.src ok n
  | .older => (s, [])
def Nd.receive (s : Nd) (m : Ms) : Nd × List Ms :=
  if m.term < s.term then (s, [s.msg m.src .older])
  else (if s.term < m.term then s.follow m.term else s).hear m
def Nd.new (i n : Nat) : Nd := ⟨i, n, 0, 0, [], 0, 1, 0, [], none⟩
end Go.Rf
namespace Go.Rf

structure Gh where
  L : Nat → List Rec
  ld : Nat → Option Nat
  CL : Nat → Nat → List Rec
  vh : Nat → Nat → Option Nat
  ack : Nat → Nat → Nat
  made : List (Nat × Nat × List UInt8)

def Gh.B (g : Gh) (t : Nat) : List Rec := match g.ld t with
  | none => []
  | some c => g.CL c t
theorem Gh.B_some {g : Gh} {t c : Nat} (h : g.ld t = some c) : g.B t = g.CL c t := by simp [Gh.B, h]

def Good (g : Gh) (l : List Rec) : Prop := ∀ k r, l[k]? = some r → g.ld r.term ≠ none ∧ l.take (k + 1) <+: g.L r.term
def Srt (l : List Rec) : Prop := l.Pairwise (fun a b => a.term ≤ b.term) ∧ ∀ r, r ∈ l → 1 ≤ r.term
def Com (g : Gh) (n t m : Nat) : Prop := 0 < m ∧ (∃ r, (g.L t)[m - 1]? = some r ∧ r.term = t) ∧ ∃ Q : List Nat, Q.Nodup ∧ (∀ j, j ∈ Q → j < n ∧ m ≤ g.ack j t) ∧ n < 2 * Q.length
def CP (g : Gh) (n T : Nat) (p : List Rec) : Prop := p = [] ∨ ∃ t m, t ≤ T ∧ Com g n t m ∧ p <+: (g.L t).take m
def KP (g : Gh) (j T lt : Nat) (l : List Rec) : Prop := ∀ t, t < T → ∀ m r, 0 < m → m ≤ g.ack j t → (g.L t)[m - 1]? = some r → r.term = t →
  (∃ u, t < u ∧ u ≤ lt ∧ g.ld u ≠ none ∧ ¬ (g.L t).take m <+: g.B u) ∨ (g.L t).take m <+: l


theorem take_pre {α : Type} {l m : List α} {k : Nat} (h : l <+: m) (hk : k ≤ l.length) : l.take k = m.take k := by
  obtain ⟨x, rfl⟩ := h
  rw [List.take_append_of_le_length hk]
theorem pre_get {α : Type} {l m : List α} {k : Nat} {r : α} (h : l <+: m) (e : l[k]? = some r) : m[k]? = some r := by
  obtain ⟨x, rfl⟩ := h
  rw [List.getElem?_append_left (List.getElem?_eq_some_iff.1 e).1, e]
theorem pre_len {α : Type} {l m : List α} (h : l <+: m) : l.length ≤ m.length := h.length_le
theorem take_take_pre {α : Type} (l : List α) (a b : Nat) (h : a ≤ b) : l.take a <+: l.take b := by
  rw [List.prefix_take_iff]; exact ⟨List.take_prefix _ _, by simp; omega⟩
theorem get_lt {α : Type} {l : List α} {k : Nat} {r : α} (e : l[k]? = some r) : k < l.length := (List.getElem?_eq_some_iff.1 e).1
theorem take_len {α : Type} {l : List α} {k : Nat} (h : k ≤ l.length) : (l.take k).length = k := by simp; omega

theorem Srt.get {l : List Rec} (h : Srt l) {i j : Nat} {a b : Rec} (hi : l[i]? = some a) (hj : l[j]? = some b) (hij : i ≤ j) : a.term ≤ b.term := by
  rcases Nat.lt_or_ge i j with q | q
  · have := List.pairwise_iff_getElem.1 h.1 i j (get_lt hi) (get_lt hj) q
    rw [(List.getElem?_eq_some_iff.1 hi).2, (List.getElem?_eq_some_iff.1 hj).2] at this
    exact this
  · have : i = j := by omega
    subst this; rw [hi] at hj; cases hj; exact Nat.le_refl _
theorem Srt.pos {l : List Rec} (h : Srt l) {i : Nat} {a : Rec} (hi : l[i]? = some a) : 1 ≤ a.term := h.2 a (List.mem_of_getElem? hi)
theorem Srt.sub {l m : List Rec} (h : Srt m) (s : l <+: m) : Srt l := ⟨h.1.sublist s.sublist, fun r hr => h.2 r (s.subset hr)⟩
theorem Srt.app {l x : List Rec} {t : Nat} (h : Srt l) (ht : 1 ≤ t) (hl : ∀ r, r ∈ l → r.term ≤ t) (hx : ∀ r, r ∈ x → r.term = t) : Srt (l ++ x) := by
  refine ⟨List.pairwise_append.2 ⟨h.1, ?_, fun a ha b hb => by rw [hx b hb]; exact hl a ha⟩, ?_⟩
  · refine List.pairwise_of_forall_mem_list ?_
    intro a ha b hb; rw [hx a ha, hx b hb]; exact Nat.le_refl _
  · intro r hr
    rcases List.mem_append.1 hr with q | q
    · exact h.2 r q
    · rw [hx r q]; exact ht
theorem lastT_get {l : List Rec} {k : Nat} {r : Rec} (h : Srt l) (e : l[k]? = some r) : r.term ≤ lastT l := by
  have hk := get_lt e
  unfold lastT
  rw [List.getElem?_eq_getElem (by omega)]
  exact h.get e (List.getElem?_eq_getElem (by omega)) (by omega)
theorem lastT_le {l : List Rec} {t : Nat} (h : ∀ r, r ∈ l → r.term ≤ t) : lastT l ≤ t := by
  unfold lastT
  cases e : l[l.length - 1]? with
  | none => simp
  | some r => exact h r (List.mem_of_getElem? e)
theorem lastT_lt {l : List Rec} {t : Nat} (ht : 1 ≤ t) (h : ∀ r, r ∈ l → r.term < t) : lastT l < t := by
  unfold lastT
  cases e : l[l.length - 1]? with
  | none => exact ht
  | some r => exact h r (List.mem_of_getElem? e)
theorem lastT_some {l : List Rec} (h : 0 < lastT l) : ∃ r, l[l.length - 1]? = some r ∧ r.term = lastT l := by
  unfold lastT at *
  cases e : l[l.length - 1]? with
  | none => rw [e] at h; exact absurd h (by simp)
  | some r => exact ⟨r, rfl, rfl⟩

theorem meet {n : Nat} {Q R : List Nat} (hQ : Q.Nodup) (hR : R.Nodup) (h1 : ∀ j, j ∈ Q → j < n) (h2 : ∀ j, j ∈ R → j < n) (q : n < 2 * Q.length) (r : n < 2 * R.length) : ∃ j, j ∈ Q ∧ j ∈ R := by
  apply Classical.byContradiction
  intro no
  have hd : (Q ++ R).Nodup := List.nodup_append.2 ⟨hQ, hR, fun a ha b hb e => no ⟨a, ha, e ▸ hb⟩⟩
  have := hd.length_le_of_subset (l₂ := List.range n) (fun j hj => by
    rw [List.mem_range]
    rcases List.mem_append.1 hj with x | x
    · exact h1 j x
    · exact h2 j x)
  simp at this
  omega


structure GOK (g : Gh) (n : Nat) : Prop where
  ack : ∀ j t, g.ack j t ≤ (g.L t).length
  ldn : ∀ t, g.ld t = none → g.L t = []
  ldq : ∀ t c, g.ld t = some c → c < n ∧ g.vh c t = some c ∧ ∃ Q : List Nat, Q.Nodup ∧ (∀ j, j ∈ Q → j < n ∧ g.vh j t = some c) ∧ n < 2 * Q.length
  ldL : ∀ t c, g.ld t = some c → ∃ rest, g.L t = g.CL c t ++ rest ∧ ∀ r, r ∈ rest → r.term = t
  vhok : ∀ j t c, g.vh j t = some c → g.vh c t = some c ∧ KP g j t (t - 1) (g.CL c t)
  clok : ∀ c t, g.vh c t = some c → 1 ≤ t ∧ Good g (g.CL c t) ∧ Srt (g.CL c t) ∧ ∀ r, r ∈ g.CL c t → r.term < t
  mkd : ∀ t k r, (g.L t)[k]? = some r → (r.term, k, r.bs) ∈ g.made

section
variable {g g' : Gh} {n : Nat}

theorem Good.sub {l m : List Rec} (h : Good g m) (s : l <+: m) : Good g l := fun k r e => by
  have h1 := h k r (pre_get s e)
  refine ⟨h1.1, ?_⟩
  rw [take_pre s (by have := get_lt e; omega)]
  exact h1.2
theorem Good.same {l m : List Rec} (h : Good g l) (h' : Good g m) {k : Nat} {a b : Rec} (ha : l[k]? = some a) (hb : m[k]? = some b) (e : a.term = b.term) : l.take (k + 1) = m.take (k + 1) := by
  have h1 := (h k a ha).2
  have h2 := (h' k b hb).2
  rw [← e] at h2
  have l1 := get_lt ha
  have l2 := get_lt hb
  have a1 := List.prefix_iff_eq_take.1 h1
  have a2 := List.prefix_iff_eq_take.1 h2
  rw [a1, a2, take_len (by omega : k + 1 ≤ l.length), take_len (by omega : k + 1 ≤ m.length)]
theorem GOK.L (h : GOK g n) (t : Nat) : Good g (g.L t) ∧ Srt (g.L t) ∧ ∀ r, r ∈ g.L t → r.term ≤ t := by
  cases e : g.ld t with
  | none =>
    rw [h.ldn t e]
    exact ⟨fun k r e => by simp at e, ⟨List.Pairwise.nil, fun r hr => by cases hr⟩, fun r hr => by cases hr⟩
  | some c =>
    obtain ⟨rest, h1, h2⟩ := h.ldL t c e
    obtain ⟨h3, h4, h5, h6⟩ := h.clok c t (h.ldq t c e).2.1
    refine ⟨fun k r ek => ?_, ?_, ?_⟩
    · rcases Nat.lt_or_ge k (g.CL c t).length with q | q
      · rw [h1, List.getElem?_append_left q] at ek
        have := h4 k r ek
        refine ⟨this.1, ?_⟩
        rw [h1, List.take_append_of_le_length (by omega)]
        exact this.2
      · rw [h1, List.getElem?_append_right q] at ek
        have := h2 r (List.mem_of_getElem? ek)
        rw [this]
        exact ⟨by rw [e]; simp, List.take_prefix _ _⟩
    · rw [h1]; exact h5.app h3 (fun r hr => Nat.le_of_lt (h6 r hr)) h2
    · rw [h1]; intro r hr
      rcases List.mem_append.1 hr with q | q
      · exact Nat.le_of_lt (h6 r q)
      · exact Nat.le_of_eq (h2 r q)
theorem CP.mono {T U : Nat} {p : List Rec} (h : CP g n T p) (hT : T ≤ U) : CP g n U p := by
  rcases h with e | ⟨t, m, a, b, c⟩
  · exact .inl e
  · exact .inr ⟨t, m, by omega, b, c⟩
structure Ext (g g' : Gh) : Prop where
  ld : ∀ t c, g.ld t = some c → g'.ld t = some c
  L : ∀ t, g.L t <+: g'.L t
  CL : ∀ c t, g.vh c t = some c → g'.CL c t = g.CL c t
  vh : ∀ j t c, g.vh j t = some c → g'.vh j t = some c
  ack : ∀ j t, g.ack j t ≤ g'.ack j t
  made : ∀ x, x ∈ g.made → x ∈ g'.made
  madel : g.made.length ≤ g'.made.length

theorem Ext.refl (g : Gh) : Ext g g := ⟨fun _ _ e => e, fun _ => List.prefix_refl _, fun _ _ _ => rfl, fun _ _ _ e => e, fun _ _ => Nat.le_refl _, fun _ e => e, Nat.le_refl _⟩
theorem Ext.trans {g'' : Gh} (a : Ext g g') (b : Ext g' g'') : Ext g g'' :=
  ⟨fun t c e => b.ld t c (a.ld t c e), fun t => (a.L t).trans (b.L t), fun c t e => (b.CL c t (a.vh _ _ _ e)).trans (a.CL c t e), fun j t c e => b.vh _ _ _ (a.vh _ _ _ e), fun j t => Nat.le_trans (a.ack j t) (b.ack j t), fun x e => b.made x (a.made x e), Nat.le_trans a.madel b.madel⟩

theorem Ext.led (e : Ext g g') {t : Nat} (h : g.ld t ≠ none) : g'.ld t ≠ none := by
  cases h1 : g.ld t with
  | none => exact absurd h1 h
  | some c => rw [e.ld t c h1]; simp
theorem Good.ext (e : Ext g g') {l : List Rec} (h : Good g l) : Good g' l := fun k r x => ⟨e.led (h k r x).1, (h k r x).2.trans (e.L _)⟩
theorem Com.ext (e : Ext g g') {t m : Nat} (h : Com g n t m) : Com g' n t m := by
  obtain ⟨a, ⟨r, b, c⟩, Q, q1, q2, q3⟩ := h
  exact ⟨a, ⟨r, pre_get (e.L t) b, c⟩, Q, q1, fun j hj => ⟨(q2 j hj).1, Nat.le_trans (q2 j hj).2 (e.ack j t)⟩, q3⟩
theorem CP.ext (e : Ext g g') (h : GOK g n) {T : Nat} {p : List Rec} (hp : CP g n T p) : CP g' n T p := by
  rcases hp with x | ⟨t, m, a, b, c⟩
  · exact .inl x
  · refine .inr ⟨t, m, a, b.ext e, ?_⟩
    have : m ≤ (g.L t).length := by
      obtain ⟨hm, ⟨r, hr, _⟩, _⟩ := b
      have := get_lt hr; omega
    rw [← take_pre (e.L t) this]; exact c
theorem Gh.B_ext (e : Ext g g') (h : GOK g n) {u : Nat} (hu : g.ld u ≠ none) : g'.B u = g.B u := by
  cases h1 : g.ld u with
  | none => exact absurd h1 hu
  | some c => rw [Gh.B_some h1, Gh.B_some (e.ld u c h1), e.CL c u (h.ldq u c h1).2.1]
theorem KP.ext (e : Ext g g') (h : GOK g n) {j T lt : Nat} {l : List Rec} (hk : KP g j T lt l) (ha : ∀ t, t < T → g'.ack j t = g.ack j t) : KP g' j T lt l := by
  intro t ht m r hm hma hr rt
  rw [ha t ht] at hma
  have hlen : m ≤ (g.L t).length := Nat.le_trans hma (h.ack j t)
  have hr' : (g.L t)[m - 1]? = some r := by
    have : m - 1 < (g.L t).length := by omega
    have h1 := pre_get (e.L t) (List.getElem?_eq_getElem this)
    rw [h1] at hr; rw [List.getElem?_eq_getElem this]; exact hr
  rw [← take_pre (e.L t) hlen]
  rcases hk t ht m r hm hma hr' rt with ⟨u, a, b, c, d⟩ | x
  · exact .inl ⟨u, a, b, e.led c, by rw [Gh.B_ext e h c]; exact d⟩
  · exact .inr x
def tri (l : List Rec) : List (Nat × Nat × List UInt8) := (List.range l.length).map fun k => ((l.getD k ⟨0, []⟩).term, k, (l.getD k ⟨0, []⟩).bs)
theorem tri_nodup (l : List Rec) : (tri l).Nodup := by
  unfold tri
  refine List.pairwise_map.2 ((List.nodup_range).imp fun h e => h ?_)
  simp only [Prod.mk.injEq] at e
  exact e.2.1
theorem getD_some {α : Type} {l : List α} {k : Nat} {d r : α} (e : l[k]? = some r) : l.getD k d = r := by rw [List.getD_eq_getElem?_getD, e]; rfl
theorem Good.made (hg : GOK g n) {l : List Rec} (h : Good g l) : ∀ k r, l[k]? = some r → (r.term, k, r.bs) ∈ g.made := fun k r e =>
  hg.mkd r.term k r (pre_get (h k r e).2 (by rw [List.getElem?_take, if_pos (by omega)]; exact e))
theorem Good.tri (hg : GOK g n) {l : List Rec} (h : Good g l) : tri l ⊆ g.made := by
  intro x hx
  obtain ⟨k, hk, rfl⟩ := List.mem_map.1 hx
  rw [List.mem_range] at hk
  have := List.getElem?_eq_getElem hk
  rw [getD_some this]
  exact h.made hg k _ this
theorem Good.len (hg : GOK g n) {l : List Rec} (h : Good g l) : l.length ≤ g.made.length := by
  have := (tri_nodup l).length_le_of_subset (h.tri hg)
  simpa [Rf.tri] using this
theorem KP.up {j T lt lt' : Nat} {l l' : List Rec} (hk : KP g j T lt l) (h1 : lt ≤ lt') (h2 : l <+: l') : KP g j T lt' l' := by
  intro t ht m r hm hma hr rt
  rcases hk t ht m r hm hma hr rt with ⟨u, a, b, c, d⟩ | x
  · exact .inl ⟨u, a, by omega, c, d⟩
  · exact .inr (x.trans h2)
theorem KP.low {j T T' lt : Nat} {l : List Rec} (hk : KP g j T lt l) (h : T' ≤ T) : KP g j T' lt l := fun t ht => hk t (by omega)
end
end Go.Rf
namespace Go.Rf

def LeadOK (g : Gh) (n i : Nat) (s : Nd) : Prop := match s.lead with
  | none => s.role ≠ 3
  | some (nx, mt) => s.role = 3 ∧ nx.length = n ∧ mt.length = n ∧ g.ld s.term = some i ∧ g.L s.term = s.log ∧ (∀ j m : Nat, mt[j]? = some m → m ≤ g.ack j s.term ∧ m ≤ s.log.length) ∧ (∀ j m : Nat, nx[j]? = some m → 1 ≤ m ∧ m ≤ s.log.length + 1)

structure NodeOK (g : Gh) (n i : Nat) (s : Nd) : Prop where
  isid : s.id = i
  isn : s.n = n
  good : Good g s.log
  srt : Srt s.log
  top : ∀ r, r ∈ s.log → r.term ≤ s.term
  vote : g.vh i s.term = if s.vote = 0 then none else some (s.vote - 1)
  voten : s.vote ≤ n
  late : ∀ t, s.term < t → g.vh i t = none ∧ g.ack i t = 0
  cand : s.role = 2 → s.vote = i + 1 ∧ g.CL i s.term = s.log ∧ s.votes.length = n ∧ (∀ j, s.votes[j]? = some true → g.vh j s.term = some i) ∧ g.ld s.term ≠ some i
  lead : LeadOK g n i s
  com : s.commit ≤ s.log.length ∧ CP g n s.term (s.log.take s.commit)
  kp : KP g i (s.term + 1) (lastT s.log) s.log
  role : s.role = 1 ∨ s.role = 2 ∨ s.role = 3
  ldr : s.leader ≤ n

structure TakeOK (g : Gh) (n src term a lt c : Nat) (rs : List Rec) : Prop where
  ld : g.ld term = some src
  fits : a + rs.length ≤ (g.L term).length
  pos : 0 < a + rs.length
  isrs : rs = ((g.L term).drop a).take rs.length
  islt : lt = if a = 0 then 0 else ((g.L term)[a - 1]?).elim 0 Rec.term
  end_ : ((g.L term)[a + rs.length - 1]?).elim 0 Rec.term = term
  isc : c ≤ a + rs.length ∧ CP g n term ((g.L term).take c)

def MsgX (g : Gh) (n : Nat) (m : Ms) : XM → Prop
  | .ask lt k => g.vh m.src m.term = some m.src ∧ lt = lastT (g.CL m.src m.term) ∧ k = (g.CL m.src m.term).length
  | .vote b => b = true → g.vh m.src m.term = some m.dst
  | .take a lt c rs => TakeOK g n m.src m.term a lt c rs
  | .took ok k => (ok = true → k ≤ g.ack m.src m.term) ∧ k ≤ g.made.length
  | .older => True
def MsgOK (g : Gh) (n : Nat) (m : Ms) : Prop := m.src < n ∧ m.dst < n ∧ m.src ≠ m.dst ∧ MsgX g n m m.x

structure Loc (g g' : Gh) (i : Nat) : Prop where
  ext : Ext g g'
  vh : ∀ j t, j ≠ i → g'.vh j t = g.vh j t
  ack : ∀ j t, j ≠ i → g'.ack j t = g.ack j t
  CL : ∀ j t, j ≠ i → g'.CL j t = g.CL j t
  ld : ∀ j t, j ≠ i → g'.ld t = some j → g.ld t = some j
  L : ∀ j t, j ≠ i → g.ld t = some j → g'.L t = g.L t

section
variable {g g' : Gh} {n i j : Nat} {s : Nd}

theorem NodeOK.other (h : NodeOK g n j s) (hg : GOK g n) (l : Loc g g' i) (hj : j ≠ i) : NodeOK g' n j s where
  isid := h.isid
  isn := h.isn
  good := h.good.ext l.ext
  srt := h.srt
  top := h.top
  vote := by rw [l.vh j _ hj]; exact h.vote
  voten := h.voten
  late := fun t ht => by rw [l.vh j _ hj, l.ack j _ hj]; exact h.late t ht
  cand := fun e => by
    obtain ⟨a, b, c, d, f⟩ := h.cand e
    exact ⟨a, by rw [l.CL j _ hj]; exact b, c, fun k hk => l.ext.vh _ _ _ (d k hk), fun x => f (l.ld j _ hj x)⟩
  lead := by
    have := h.lead
    unfold LeadOK at *
    split
    · rename_i e; rw [e] at this; exact this
    · rename_i nx mt e
      rw [e] at this
      obtain ⟨a, b, c, d, f, k, q⟩ := this
      exact ⟨a, b, c, l.ext.ld _ _ d, by rw [l.L j _ hj d]; exact f, fun x m hm => ⟨Nat.le_trans (k x m hm).1 (l.ext.ack _ _), (k x m hm).2⟩, q⟩
  com := ⟨h.com.1, h.com.2.ext l.ext hg⟩
  kp := h.kp.ext l.ext hg fun t _ => l.ack j t hj
  role := h.role
  ldr := h.ldr

theorem TakeOK.ext {src term a lt c : Nat} {rs : List Rec} (h : TakeOK g n src term a lt c rs) (hg : GOK g n) (e : Ext g g') : TakeOK g' n src term a lt c rs where
  ld := e.ld _ _ h.ld
  fits := Nat.le_trans h.fits (pre_len (e.L _))
  pos := h.pos
  isrs := by
    have h1 := h.isrs
    have h2 := h.fits
    obtain ⟨x, hx⟩ := e.L term
    rw [← hx, List.drop_append_of_le_length (by omega), List.take_append_of_le_length (by simp; omega)]
    exact h1
  islt := by
    have h1 := h.islt
    have h2 := h.fits
    by_cases q : a = 0
    · rw [if_pos q] at h1 ⊢; exact h1
    · rw [if_neg q] at h1 ⊢
      obtain ⟨x, hx⟩ := e.L term
      rw [← hx, List.getElem?_append_left (by omega)]
      exact h1
  end_ := by
    have h1 := h.end_
    have h2 := h.fits
    obtain ⟨x, hx⟩ := e.L term
    cases y : (g.L term)[a + rs.length - 1]? with
    | some r => rw [pre_get (e.L term) y]; rw [y] at h1; exact h1
    | none =>
      have h0 := hg.ldq _ _ h.ld
      have : 1 ≤ term := (hg.clok _ _ h0.2.1).1
      rw [y] at h1
      exact absurd h1 (by simp only [Option.elim]; omega)
  isc := ⟨h.isc.1, by
    rw [← take_pre (e.L term) (Nat.le_trans h.isc.1 h.fits)]
    exact h.isc.2.ext e hg⟩
theorem MsgOK.ext {m : Ms} (h : MsgOK g n m) (hg : GOK g n) (e : Ext g g') : MsgOK g' n m := by
  refine ⟨h.1, h.2.1, h.2.2.1, ?_⟩
  have hx := h.2.2.2
  cases q : m.x with
  | ask lt k =>
    rw [q] at hx
    exact ⟨e.vh _ _ _ hx.1, by rw [e.CL _ _ hx.1]; exact hx.2.1, by rw [e.CL _ _ hx.1]; exact hx.2.2⟩
  | vote b => rw [q] at hx; exact fun z => e.vh _ _ _ (hx z)
  | take a lt c rs => rw [q] at hx; exact TakeOK.ext hx hg e
  | took ok k => rw [q] at hx; exact ⟨fun z => Nat.le_trans (hx.1 z) (e.ack _ _), Nat.le_trans hx.2 e.madel⟩
  | older => trivial
end


def up2 {α : Type} (f : Nat → Nat → α) (a b : Nat) (v : α) : Nat → Nat → α := fun x y => if x = a ∧ y = b then v else f x y
def up1 {α : Type} (f : Nat → α) (a : Nat) (v : α) : Nat → α := fun x => if x = a then v else f x
section
variable {α : Type} {f : Nat → Nat → α} {h : Nat → α} {a b x y : Nat} {v : α}
theorem up2_same : up2 f a b v a b = v := by simp [up2]
theorem up2_ne (q : ¬ (x = a ∧ y = b)) : up2 f a b v x y = f x y := by simp only [up2, if_neg q]
theorem up1_same : up1 h a v a = v := by simp [up1]
theorem up1_ne (q : x ≠ a) : up1 h a v x = h x := by simp only [up1, if_neg q]
end

section
variable {g : Gh} {n i t : Nat} {s : Nd}

def Gh.stands (g : Gh) (i t : Nat) (l : List Rec) : Gh := { g with CL := up2 g.CL i t l, vh := up2 g.vh i t (some i) }
def Gh.votes (g : Gh) (i t c : Nat) : Gh := { g with vh := up2 g.vh i t (some c) }
def Gh.leads (g : Gh) (i t : Nat) (l : List Rec) : Gh := { g with ld := up1 g.ld t (some i), L := up1 g.L t l }
def Gh.makes (g : Gh) (i t : Nat) (l : List Rec) (r : Rec) : Gh := { g with L := up1 g.L t (l ++ [r]), ack := up2 g.ack i t (l.length + 1), made := (r.term, l.length, r.bs) :: g.made }
def Gh.acks (g : Gh) (i t k : Nat) : Gh := { g with ack := up2 g.ack i t (max (g.ack i t) k) }

theorem stands_loc (hv : g.vh i t = none) (hl : ∀ c, g.ld t = some c → g.vh c t = some c) (l : List Rec) : Loc g (g.stands i t l) i where
  ext := ⟨fun _ _ e => e, fun _ => List.prefix_refl _, fun c u e => by
      show up2 g.CL i t l c u = _
      exact up2_ne fun ⟨x, y⟩ => (by subst x y; rw [hv] at e; cases e),
    fun j u c e => by
      show up2 g.vh i t (some i) j u = _
      rw [up2_ne fun ⟨x, y⟩ => by subst x y; rw [hv] at e; cases e]; exact e,
    fun _ _ => Nat.le_refl _, fun _ e => e, Nat.le_refl _⟩
  vh := fun j u hj => up2_ne fun ⟨x, _⟩ => hj x
  ack := fun _ _ _ => rfl
  CL := fun j u hj => up2_ne fun ⟨x, _⟩ => hj x
  ld := fun _ _ _ e => e
  L := fun _ _ _ _ => rfl
theorem votes_loc (hv : g.vh i t = none) (c : Nat) : Loc g (g.votes i t c) i where
  ext := ⟨fun _ _ e => e, fun _ => List.prefix_refl _, fun c u e => rfl,
    fun j u c' e => by
      show up2 g.vh i t (some c) j u = _
      rw [up2_ne fun ⟨x, y⟩ => by subst x y; rw [hv] at e; cases e]; exact e,
    fun _ _ => Nat.le_refl _, fun _ e => e, Nat.le_refl _⟩
  vh := fun j u hj => up2_ne fun ⟨x, _⟩ => hj x
  ack := fun _ _ _ => rfl
  CL := fun j u hj => rfl
  ld := fun _ _ _ e => e
  L := fun _ _ _ _ => rfl
theorem leads_loc (hg : GOK g n) (hl : g.ld t = none) (l : List Rec) : Loc g (g.leads i t l) i where
  ext := ⟨fun u c e => by
      show up1 g.ld t (some i) u = _
      rw [up1_ne fun x => by subst x; rw [hl] at e; cases e]; exact e, fun u => by
      show _ <+: up1 g.L t l u
      by_cases q : u = t
      · subst q; rw [hg.ldn u hl]; exact List.nil_prefix
      · rw [up1_ne q]; exact List.prefix_refl _, fun c u e => rfl, fun j u c' e => e, fun _ _ => Nat.le_refl _, fun _ e => e, Nat.le_refl _⟩
  vh := fun j u hj => rfl
  ack := fun _ _ _ => rfl
  CL := fun j u hj => rfl
  ld := fun j u hj e => by
    have e : up1 g.ld t (some i) u = some j := e
    by_cases q : u = t
    · subst q; rw [up1_same] at e; cases e; exact absurd rfl hj
    · rw [up1_ne q] at e; exact e
  L := fun j u hj e => up1_ne fun x => by subst x; rw [hl] at e; cases e
theorem makes_loc (hl : g.ld t = some i) {l : List Rec} (hL : g.L t = l) (ha : g.ack i t ≤ l.length) (r : Rec) : Loc g (g.makes i t l r) i where
  ext := ⟨fun u c e => e, fun u => by
      show _ <+: up1 g.L t (l ++ [r]) u
      by_cases q : u = t
      · subst q; rw [up1_same, hL]; exact List.prefix_append _ _
      · rw [up1_ne q]; exact List.prefix_refl _, fun c u e => rfl, fun j u c' e => e, fun j u => by
      show _ ≤ up2 g.ack i t (l.length + 1) j u
      by_cases q : j = i ∧ u = t
      · obtain ⟨rfl, rfl⟩ := q; rw [up2_same]; omega
      · rw [up2_ne q]; exact Nat.le_refl _, fun x e => List.mem_cons_of_mem _ e, Nat.le_succ _⟩
  vh := fun j u hj => rfl
  ack := fun j u hj => up2_ne fun ⟨x, _⟩ => hj x
  CL := fun j u hj => rfl
  ld := fun j u hj e => e
  L := fun j u hj e => up1_ne fun x => by subst x; rw [hl] at e; cases e; exact hj rfl
theorem acks_loc (k : Nat) : Loc g (g.acks i t k) i where
  ext := ⟨fun u c e => e, fun u => List.prefix_refl _, fun c u e => rfl, fun j u c' e => e, fun j u => by
      show _ ≤ up2 g.ack i t (max (g.ack i t) k) j u
      by_cases q : j = i ∧ u = t
      · obtain ⟨rfl, rfl⟩ := q; rw [up2_same]; omega
      · rw [up2_ne q]; exact Nat.le_refl _, fun x e => e, Nat.le_refl _⟩
  vh := fun j u hj => rfl
  ack := fun j u hj => up2_ne fun ⟨x, _⟩ => hj x
  CL := fun j u hj => rfl
  ld := fun j u hj e => e
  L := fun j u hj e => rfl

theorem GOK.vh_ext {g' : Gh} (hg : GOK g n) (l : Loc g g' i) (hv : ∀ j t, g'.vh j t = g.vh j t) (hc : ∀ j t, g'.CL j t = g.CL j t) (hlate : ∀ t u, g.vh i t ≠ none → u < t → g'.ack i u = g.ack i u) :
    ∀ j t c, g'.vh j t = some c → g'.vh c t = some c ∧ KP g' j t (t - 1) (g'.CL c t) := by
  intro j t c e
  rw [hv] at e
  rw [hv, hc]
  refine ⟨(hg.vhok j t c e).1, (hg.vhok j t c e).2.ext l.ext hg fun u hu => ?_⟩
  by_cases q : j = i
  · subst q; exact hlate t u (by rw [e]; simp) hu
  · exact l.ack j u q

theorem GOK.stands (hg : GOK g n) (hv : g.vh i t = none) {l : List Rec} (ht : 1 ≤ t) (h1 : Good g l) (h2 : Srt l) (h3 : ∀ r, r ∈ l → r.term < t) (hk : KP g i t (t - 1) l) : GOK (g.stands i t l) n := by
  have lc := stands_loc hv (fun c e => (hg.ldq t c e).2.1) l
  have hvh : ∀ j u c, (g.stands i t l).vh j u = some c → (j = i ∧ u = t ∧ c = i) ∨ g.vh j u = some c := by
    intro j u c e
    by_cases q : j = i ∧ u = t
    · obtain ⟨rfl, rfl⟩ := q
      have e : up2 g.vh j u (some j) j u = some c := e
      rw [up2_same] at e; cases e; exact .inl ⟨rfl, rfl, rfl⟩
    · have e : up2 g.vh i t (some i) j u = some c := e
      rw [up2_ne q] at e; exact .inr e
  have hCL : ∀ c u, g.vh c u = some c → (g.stands i t l).CL c u = g.CL c u := lc.ext.CL
  refine ⟨hg.ack, hg.ldn, fun u c e => ?_, fun u c e => ?_, fun j u c e => ?_, fun c u e => ?_, hg.mkd⟩
  · obtain ⟨a, b, Q, q1, q2, q3⟩ := hg.ldq u c e
    exact ⟨a, lc.ext.vh _ _ _ b, Q, q1, fun j hj => ⟨(q2 j hj).1, lc.ext.vh _ _ _ (q2 j hj).2⟩, q3⟩
  · rw [hCL c u (hg.ldq u c e).2.1]; exact hg.ldL u c e
  · rcases hvh j u c e with ⟨rfl, rfl, rfl⟩ | e'
    · refine ⟨e, ?_⟩
      rw [show (g.stands c u l).CL c u = l from up2_same]
      exact hk.ext lc.ext hg fun _ _ => rfl
    · have := hg.vhok j u c e'
      rw [hCL c u this.1]
      exact ⟨lc.ext.vh _ _ _ this.1, this.2.ext lc.ext hg fun _ _ => rfl⟩
  · rcases hvh c u c e with ⟨rfl, rfl, _⟩ | e'
    · rw [show (g.stands c u l).CL c u = l from up2_same]
      exact ⟨ht, h1.ext lc.ext, h2, h3⟩
    · rw [hCL c u e']
      obtain ⟨a, b, c, d⟩ := hg.clok c u e'
      exact ⟨a, b.ext lc.ext, c, d⟩

theorem GOK.votes (hg : GOK g n) (hv : g.vh i t = none) {c : Nat} (hc : g.vh c t = some c) (hk : KP g i t (t - 1) (g.CL c t)) : GOK (g.votes i t c) n := by
  have lc := votes_loc (i := i) hv c
  refine ⟨hg.ack, hg.ldn, fun u d e => ?_, hg.ldL, fun j u d e => ?_, fun d u e => ?_, hg.mkd⟩
  · obtain ⟨a, b, Q, q1, q2, q3⟩ := hg.ldq u d e
    exact ⟨a, lc.ext.vh _ _ _ b, Q, q1, fun j hj => ⟨(q2 j hj).1, lc.ext.vh _ _ _ (q2 j hj).2⟩, q3⟩
  · by_cases q : j = i ∧ u = t
    · obtain ⟨rfl, rfl⟩ := q
      have e : up2 g.vh j u (some c) j u = some d := e
      rw [up2_same] at e; cases e
      exact ⟨lc.ext.vh _ _ _ hc, hk.ext lc.ext hg fun _ _ => rfl⟩
    · have e : up2 g.vh i t (some c) j u = some d := e
      rw [up2_ne q] at e
      have := hg.vhok j u d e
      exact ⟨lc.ext.vh _ _ _ this.1, this.2.ext lc.ext hg fun _ _ => rfl⟩
  · by_cases q : d = i ∧ u = t
    · obtain ⟨rfl, rfl⟩ := q
      have e : up2 g.vh d u (some c) d u = some d := e
      rw [up2_same] at e; cases e
      rw [hv] at hc; cases hc
    · have e : up2 g.vh i t (some c) d u = some d := e
      rw [up2_ne q] at e
      obtain ⟨a, b, c, d⟩ := hg.clok d u e
      exact ⟨a, b.ext lc.ext, c, d⟩

theorem GOK.leads (hg : GOK g n) (hi : i < n) (hl : g.ld t = none) (hv : g.vh i t = some i) {Q : List Nat} (q1 : Q.Nodup) (q2 : ∀ j, j ∈ Q → j < n ∧ g.vh j t = some i) (q3 : n < 2 * Q.length) (hmk : ∀ k r, (g.CL i t)[k]? = some r → (r.term, k, r.bs) ∈ g.made) : GOK (g.leads i t (g.CL i t)) n := by
  have lc := leads_loc (i := i) hg hl (g.CL i t)
  have hld : ∀ u c, (g.leads i t (g.CL i t)).ld u = some c → (u = t ∧ c = i) ∨ (u ≠ t ∧ g.ld u = some c) := by
    intro u c e
    have e : up1 g.ld t (some i) u = some c := e
    by_cases q : u = t
    · subst q; rw [up1_same] at e; cases e; exact .inl ⟨rfl, rfl⟩
    · rw [up1_ne q] at e; exact .inr ⟨q, e⟩
  have hL : ∀ u, (u = t → (g.leads i t (g.CL i t)).L u = g.CL i t) ∧ (u ≠ t → (g.leads i t (g.CL i t)).L u = g.L u) := fun u => ⟨fun e => by subst e; exact up1_same, fun e => up1_ne e⟩
  refine ⟨fun j u => Nat.le_trans (hg.ack j u) (pre_len (lc.ext.L u)), fun u e => ?_, fun u c e => ?_, fun u c e => ?_, ?_, fun c u e => ?_, fun u k r e => ?_⟩
  · have e : up1 g.ld t (some i) u = none := e
    by_cases q : u = t
    · subst q; rw [up1_same] at e; cases e
    · rw [up1_ne q] at e; rw [(hL u).2 q]; exact hg.ldn u e
  · rcases hld u c e with ⟨rfl, rfl⟩ | ⟨_, e⟩
    · exact ⟨hi, hv, Q, q1, q2, q3⟩
    · exact hg.ldq u c e
  · rcases hld u c e with ⟨rfl, rfl⟩ | ⟨q, e⟩
    · rw [(hL u).1 rfl]; exact ⟨[], by rw [List.append_nil]; rfl, fun _ hr => by cases hr⟩
    · rw [(hL u).2 q]; exact hg.ldL u c e
  · exact hg.vh_ext lc (fun _ _ => rfl) (fun _ _ => rfl) fun _ _ _ _ => rfl
  · obtain ⟨a, b, c, d⟩ := hg.clok c u e
    exact ⟨a, b.ext lc.ext, c, d⟩
  · by_cases q : u = t
    · rw [(hL u).1 q] at e; exact hmk k r e
    · rw [(hL u).2 q] at e; exact hg.mkd u k r e

theorem GOK.makes (hg : GOK g n) (hl : g.ld t = some i) {l : List Rec} (hL : g.L t = l) (hlate : ∀ u, g.vh i u ≠ none → u ≤ t) {r : Rec} (hr : r.term = t) : GOK (g.makes i t l r) n := by
  have ha : g.ack i t ≤ l.length := by rw [← hL]; exact hg.ack i t
  have lc := makes_loc hl hL ha r
  have hL' : ∀ u, (u = t → (g.makes i t l r).L u = l ++ [r]) ∧ (u ≠ t → (g.makes i t l r).L u = g.L u) := fun u => ⟨fun e => by subst e; exact up1_same, fun e => up1_ne e⟩
  refine ⟨fun j u => ?_, fun u e => ?_, hg.ldq, fun u c e => ?_, ?_, fun c u e => ?_, fun u k x e => ?_⟩
  · show up2 g.ack i t (l.length + 1) j u ≤ _
    by_cases q : j = i ∧ u = t
    · obtain ⟨rfl, rfl⟩ := q; rw [up2_same, (hL' u).1 rfl]; simp
    · rw [up2_ne q]; exact Nat.le_trans (hg.ack j u) (pre_len (lc.ext.L u))
  · by_cases q : u = t
    · subst q
      have e : g.ld u = none := e
      rw [hl] at e; cases e
    · rw [(hL' u).2 q]; exact hg.ldn u e
  · by_cases q : u = t
    · subst q
      have e : g.ld u = some c := e
      rw [hl] at e; cases e
      obtain ⟨rest, h1, h2⟩ := hg.ldL u i hl
      rw [(hL' u).1 rfl]
      refine ⟨rest ++ [r], by rw [← List.append_assoc, ← hL, h1]; rfl, fun x hx => ?_⟩
      rcases List.mem_append.1 hx with y | y
      · exact h2 x y
      · simp at y; subst y; exact hr
    · rw [(hL' u).2 q]; exact hg.ldL u c e
  · refine hg.vh_ext lc (fun _ _ => rfl) (fun _ _ => rfl) fun u v hu hv => up2_ne fun ⟨_, x⟩ => ?_
    have := hlate u hu; omega
  · obtain ⟨a, b, c, d⟩ := hg.clok c u e
    exact ⟨a, b.ext lc.ext, c, d⟩
  · by_cases q : u = t
    · rw [(hL' u).1 q] at e
      rcases Nat.lt_or_ge k l.length with z | z
      · rw [List.getElem?_append_left z] at e
        exact List.mem_cons_of_mem _ (hg.mkd u k x (by rw [q, hL]; exact e))
      · rw [List.getElem?_append_right z] at e
        have h0 : k - l.length = 0 := by have := get_lt e; simp at this; omega
        rw [h0] at e; simp at e; subst e
        have : k = l.length := by omega
        subst this; exact List.mem_cons_self
    · rw [(hL' u).2 q] at e; exact List.mem_cons_of_mem _ (hg.mkd u k x e)

theorem GOK.acks (hg : GOK g n) {k : Nat} (hk : k ≤ (g.L t).length) (hlate : ∀ u, g.vh i u ≠ none → u ≤ t) : GOK (g.acks i t k) n := by
  have lc := acks_loc (g := g) (i := i) (t := t) k
  refine ⟨fun j u => ?_, hg.ldn, hg.ldq, hg.ldL, ?_, fun c u e => ?_, hg.mkd⟩
  · show up2 g.ack i t (max (g.ack i t) k) j u ≤ (g.L u).length
    by_cases q : j = i ∧ u = t
    · obtain ⟨rfl, rfl⟩ := q; rw [up2_same]; have := hg.ack j u; omega
    · rw [up2_ne q]; exact hg.ack j u
  · refine hg.vh_ext lc (fun _ _ => rfl) (fun _ _ => rfl) fun u v hu hv => up2_ne fun ⟨_, x⟩ => ?_
    have := hlate u hu; omega
  · obtain ⟨a, b, c, d⟩ := hg.clok c u e
    exact ⟨a, b.ext lc.ext, c, d⟩
end
end Go.Rf
namespace Go.Rf

theorem Loc.refl (g : Gh) (i : Nat) : Loc g g i := ⟨Ext.refl g, fun _ _ _ => rfl, fun _ _ _ => rfl, fun _ _ _ => rfl, fun _ _ _ e => e, fun _ _ _ _ => rfl⟩
theorem Loc.trans {g g' g'' : Gh} {i : Nat} (a : Loc g g' i) (b : Loc g' g'' i) : Loc g g'' i :=
  ⟨a.ext.trans b.ext, fun j t h => (b.vh j t h).trans (a.vh j t h), fun j t h => (b.ack j t h).trans (a.ack j t h), fun j t h => (b.CL j t h).trans (a.CL j t h), fun j t h e => a.ld j t h (b.ld j t h e),
   fun j t h e => (b.L j t h (a.ext.ld _ _ e)).trans (a.L j t h e)⟩

def Next (g : Gh) (n i : Nat) (s : Nd) (out : List Ms) (mk : List (Nat × Nat × List UInt8)) : Prop :=
  ∃ g', Loc g g' i ∧ GOK g' n ∧ NodeOK g' n i s ∧ (∀ m, m ∈ out → MsgOK g' n m ∧ m.src = i ∧ m.term = s.term) ∧ g'.made = mk ++ g.made


theorem ins_perm (a : Nat) : ∀ l : List Nat, (ins a l).Perm (a :: l)
  | [] => List.Perm.refl _
  | b :: l => by
    unfold ins
    split
    · exact List.Perm.refl _
    · exact ((ins_perm a l).cons b).trans (List.Perm.swap _ _ _)
theorem srt_perm : ∀ l : List Nat, (srt l).Perm l
  | [] => List.Perm.refl _
  | a :: l => (ins_perm a (srt l)).trans ((srt_perm l).cons a)
theorem ins_srt (a : Nat) : ∀ l : List Nat, l.Pairwise (· ≤ ·) → (ins a l).Pairwise (· ≤ ·)
  | [], _ => by simp [ins]
  | b :: l, h => by
    unfold ins
    have h1 := List.pairwise_cons.1 h
    split
    · rename_i q
      refine List.pairwise_cons.2 ⟨fun x hx => ?_, h⟩
      rcases List.mem_cons.1 hx with e | e
      · subst e; exact q
      · exact Nat.le_trans q (h1.1 x e)
    · rename_i q
      refine List.pairwise_cons.2 ⟨fun x hx => ?_, ins_srt a l h1.2⟩
      rcases List.mem_cons.1 ((ins_perm a l).subset hx) with e | e
      · subst e; omega
      · exact h1.1 x e
theorem srt_srt : ∀ l : List Nat, (srt l).Pairwise (· ≤ ·)
  | [] => List.Pairwise.nil
  | a :: l => ins_srt a _ (srt_srt l)
theorem countP_sorted : ∀ {l : List Nat} {k v : Nat}, l.Pairwise (· ≤ ·) → l[k]? = some v → l.length - k ≤ l.countP (fun x => decide (v ≤ x))
  | [], _, _, _, e => by simp at e
  | a :: l, 0, v, h, e => by
    simp at e; subst e
    have : (a :: l).countP (fun x => decide (a ≤ x)) = (a :: l).length := List.countP_eq_length.2 fun x hx => by
      rcases List.mem_cons.1 hx with e | e
      · subst e; simp
      · simp; exact (List.pairwise_cons.1 h).1 x e
    omega
  | a :: l, k + 1, v, h, e => by
    have h1 := countP_sorted (List.pairwise_cons.1 h).2 (by simpa using e : l[k]? = some v)
    rw [List.countP_cons]
    simp only [List.length_cons]
    omega
theorem count_range {α : Type} (d : α) (p : α → Bool) (l : List α) : ((List.range l.length).filter fun j => p (l.getD j d)).length = l.countP p := by
  rw [← List.countP_eq_length_filter]
  have h : (List.range l.length).map (fun j => l.getD j d) = l := by
    refine List.ext_getElem (by simp) fun i h1 h2 => ?_
    simp [h2]
  conv => rhs; rw [← h]
  rw [List.countP_map]
  rfl
theorem maj {mt : List Nat} {n : Nat} (hn : 1 ≤ n) (hm : mt.length = n) : ∃ Q : List Nat, Q.Nodup ∧ (∀ j, j ∈ Q → j < n ∧ (srt mt).getD ((n - 1) / 2) 0 ≤ mt.getD j 0) ∧ n < 2 * Q.length := by
  have hl : (srt mt).length = n := by rw [(srt_perm mt).length_eq, hm]
  have hk : (n - 1) / 2 < (srt mt).length := by omega
  have he : (srt mt)[(n - 1) / 2]? = some ((srt mt).getD ((n - 1) / 2) 0) := by
    rw [List.getD_eq_getElem?_getD, List.getElem?_eq_getElem hk]; rfl
  have h1 := countP_sorted (srt_srt mt) he
  rw [(srt_perm mt).countP_eq] at h1
  refine ⟨(List.range mt.length).filter fun j => decide ((srt mt).getD ((n - 1) / 2) 0 ≤ mt.getD j 0), (List.nodup_range).sublist List.filter_sublist, fun j hj => ?_, ?_⟩
  · rw [List.mem_filter, List.mem_range] at hj
    exact ⟨by omega, of_decide_eq_true hj.2⟩
  · rw [count_range 0 (fun x => decide ((srt mt).getD ((n - 1) / 2) 0 ≤ x)) mt]
    omega
theorem majB {l : List Bool} {n : Nat} (hl : l.length = n) (h : n < 2 * l.count true) : ∃ Q : List Nat, Q.Nodup ∧ (∀ j, j ∈ Q → j < n ∧ l[j]? = some true) ∧ n < 2 * Q.length := by
  refine ⟨(List.range l.length).filter fun j => (l.getD j false) == true, (List.nodup_range).sublist List.filter_sublist, fun j hj => ?_, ?_⟩
  · rw [List.mem_filter, List.mem_range] at hj
    refine ⟨by omega, ?_⟩
    have := hj.2
    rw [List.getD_eq_getElem?_getD, List.getElem?_eq_getElem hj.1] at this
    rw [List.getElem?_eq_getElem hj.1]
    simpa using this
  · rw [count_range false (fun x => x == true) l]
    exact h

section
variable {g : Gh} {n i : Nat} {s : Nd}

theorem KP.wide {T T' lt : Nat} {l : List Rec} (h : KP g i T lt l) (hl : ∀ t, T ≤ t → g.ack i t = 0) : KP g i T' lt l := by
  intro t ht m r hm hma hr rt
  rcases Nat.lt_or_ge t T with q | q
  · exact h t q m r hm hma hr rt
  · rw [hl t q] at hma; omega
theorem NodeOK.lateV (h : NodeOK g n i s) : ∀ u, g.vh i u ≠ none → u ≤ s.term := fun u hu => by
  apply Classical.byContradiction
  intro no
  exact hu (h.late u (by omega)).1

theorem NodeOK.follow (h : NodeOK g n i s) {t : Nat} : NodeOK g n i (s.follow t) := by
  have hle : s.term ≤ (s.follow t).term := by show s.term ≤ if s.term < t then t else s.term; split <;> omega
  refine ⟨h.isid, h.isn, h.good, h.srt, fun r hr => Nat.le_trans (h.top r hr) hle, ?_, ?_, fun u hu => h.late u (by omega), fun e => ?_, ?_, ⟨h.com.1, h.com.2.mono hle⟩, h.kp.wide fun u hu => (h.late u (by omega)).2, .inl rfl, ?_⟩
  · show g.vh i (if s.term < t then t else s.term) = if (if s.term < t then 0 else s.vote) = 0 then none else some ((if s.term < t then 0 else s.vote) - 1)
    by_cases q : s.term < t
    · simp only [if_pos q, if_true]; exact (h.late t q).1
    · simp only [if_neg q]; exact h.vote
  · show (if s.term < t then 0 else s.vote) ≤ n
    split
    · omega
    · exact h.voten
  · have : (1 : Nat) = 2 := e
    omega
  · show (1 : Nat) ≠ 3
    omega
  · show (if s.term < t then 0 else s.leader) ≤ n
    split
    · omega
    · exact h.ldr

theorem NodeOK.ldr' (h : NodeOK g n i s) {k : Nat} (hk : k ≤ n) : NodeOK g n i { s with leader := k } :=
  ⟨h.isid, h.isn, h.good, h.srt, h.top, h.vote, h.voten, h.late, h.cand, h.lead, h.com, h.kp, h.role, hk⟩

theorem NodeOK.cnt (h : NodeOK g n i s) (hg : GOK g n) (hi : i < n) (hr : s.role = 3) {nx mt : List Nat} (h1 : nx.length = n) (h2 : mt.length = n) (hld : g.ld s.term = some i) (hL : g.L s.term = s.log)
    (h3 : ∀ j m : Nat, mt[j]? = some m → m ≤ g.ack j s.term ∧ m ≤ s.log.length) (h4 : ∀ j m : Nat, nx[j]? = some m → 1 ≤ m ∧ m ≤ s.log.length + 1) : NodeOK g n i (s.count nx mt) := by
  refine ⟨h.isid, h.isn, h.good, h.srt, h.top, h.vote, h.voten, h.late, fun e => ?_, ⟨hr, h1, h2, hld, hL, h3, h4⟩, ?_, h.kp, h.role, h.ldr⟩
  · have : s.role = 2 := e
    omega
  · show s.cnt mt ≤ s.log.length ∧ CP g n s.term (s.log.take (s.cnt mt))
    unfold Nd.cnt
    simp only
    rw [h.isn]
    split
    · rename_i q
      obtain ⟨Q, q1, q2, q3⟩ := maj (by omega : 1 ≤ n) h2
      have hpos : 0 < (Rf.srt mt).getD ((n - 1) / 2) 0 := by omega
      have hterm : 1 ≤ s.term := (hg.clok _ _ (hg.ldq _ _ hld).2.1).1
      have hget : ∃ r, s.log[(Rf.srt mt).getD ((n - 1) / 2) 0 - 1]? = some r ∧ r.term = s.term := by
        have q' := q.2
        cases e : s.log[(Rf.srt mt).getD ((n - 1) / 2) 0 - 1]? with
        | none => rw [e] at q'; exact absurd q' (by simp only [Option.elim]; omega)
        | some r => rw [e] at q'; exact ⟨r, rfl, q'⟩
      obtain ⟨r, hr1, hr2⟩ := hget
      have hlen := get_lt hr1
      refine ⟨by omega, .inr ⟨s.term, _, Nat.le_refl _, ⟨hpos, ⟨r, by rw [hL]; exact hr1, hr2⟩, Q, q1, fun j hj => ⟨(q2 j hj).1, ?_⟩, q3⟩, by rw [hL]; exact List.prefix_refl _⟩⟩
      have hj := q2 j hj
      have hg' : mt[j]? = some (mt.getD j 0) := by
        rw [List.getD_eq_getElem?_getD, List.getElem?_eq_getElem (by omega)]; rfl
      exact Nat.le_trans hj.2 (h3 j _ hg').1
    · exact h.com

theorem NodeOK.add (h : NodeOK g n i s) (hg : GOK g n) (hi : i < n) (hr : s.role = 3) {nx mt : List Nat} (h1 : nx.length = n) (h2 : mt.length = n) (hld : g.ld s.term = some i) (hL : g.L s.term = s.log)
    (h3 : ∀ j m : Nat, mt[j]? = some m → m ≤ g.ack j s.term ∧ m ≤ s.log.length) (h4 : ∀ j m : Nat, nx[j]? = some m → 1 ≤ m ∧ m ≤ s.log.length + 1) (b : List UInt8) :
    Next g n i (s.add nx mt b) [] [(s.term, s.log.length, b)] ∧ lastT (s.add nx mt b).log = (s.add nx mt b).term := by
  have hterm : 1 ≤ s.term := (hg.clok _ _ (hg.ldq _ _ hld).2.1).1
  have ha : g.ack i s.term ≤ s.log.length := by rw [← hL]; exact hg.ack i _
  have lc : Loc g (g.makes i s.term s.log ⟨s.term, b⟩) i := makes_loc hld hL ha ⟨s.term, b⟩
  have hg' : GOK (g.makes i s.term s.log ⟨s.term, b⟩) n := hg.makes hld hL h.lateV rfl
  have hL' : (g.makes i s.term s.log ⟨s.term, b⟩).L s.term = s.log ++ [⟨s.term, b⟩] := up1_same
  have hack : (g.makes i s.term s.log ⟨s.term, b⟩).ack i s.term = s.log.length + 1 := up2_same
  have hgd : Good (g.makes i s.term s.log ⟨s.term, b⟩) (s.log ++ [⟨s.term, b⟩]) := by rw [← hL']; exact (hg'.L _).1
  have hsr : Srt (s.log ++ [⟨s.term, b⟩]) := by rw [← hL']; exact (hg'.L _).2.1
  have hlast : lastT (s.log ++ [⟨s.term, b⟩]) = s.term := by unfold lastT; simp
  have base : NodeOK (g.makes i s.term s.log ⟨s.term, b⟩) n i { s with log := s.log ++ [⟨s.term, b⟩], lead := some (nx, mt) } := by
    refine ⟨h.isid, h.isn, hgd, hsr, fun r hr => ?_, h.vote, h.voten, fun t ht => ⟨(h.late t ht).1, ?_⟩, fun e => ?_, ?_, ⟨?_, ?_⟩, ?_, h.role, h.ldr⟩
    · rcases List.mem_append.1 hr with q | q
      · exact h.top r q
      · simp at q; subst q; exact Nat.le_refl _
    · show up2 g.ack i s.term (s.log.length + 1) i t = 0
      rw [up2_ne fun ⟨_, x⟩ => by have ht : s.term < t := ht; omega]; exact (h.late t ht).2
    · have : s.role = 2 := e
      omega
    · exact ⟨hr, h1, h2, hld, hL', fun j m hm => ⟨Nat.le_trans (h3 j m hm).1 (lc.ext.ack _ _), by have := (h3 j m hm).2; simp; omega⟩, fun j m hm => by have := h4 j m hm; simp; omega⟩
    · have := h.com.1; simp; omega
    · show CP _ n s.term ((s.log ++ [_]).take s.commit)
      rw [List.take_append_of_le_length h.com.1]
      exact h.com.2.ext lc.ext hg
    · show KP _ i (s.term + 1) (lastT (s.log ++ [_])) (s.log ++ [_])
      rw [hlast]
      intro t ht m r hm hma hmr rt
      rcases Nat.lt_or_ge t s.term with q | q
      · have := (h.kp.low (by omega : t + 1 ≤ s.term + 1)).ext lc.ext hg (fun u hu => by
          show up2 g.ack i s.term (s.log.length + 1) i u = _
          exact up2_ne fun ⟨_, x⟩ => by omega)
        exact (this.up (lastT_le h.top) (List.prefix_append _ _)) t (by omega) m r hm hma hmr rt
      · have : t = s.term := by omega
        subst this
        exact .inr (by rw [hL']; exact List.take_prefix _ _)
  refine ⟨⟨_, lc, hg', ?_, (fun m hm => (by cases hm)), rfl⟩, hlast⟩
  have hid : s.id = i := h.isid
  refine base.cnt hg' hi hr h1 (by simp; exact h2) hld hL' (fun j m hm => ?_) (fun j m hm => by have := h4 j m hm; simp; omega)
  rw [List.getElem?_set] at hm
  split at hm
  · rename_i q
    split at hm
    · simp at hm; subst hm
      rw [← q, hid]
      exact ⟨by show _ ≤ Gh.ack _ i s.term; rw [hack]; exact Nat.le_refl _, by simp⟩
    · cases hm
  · exact ⟨Nat.le_trans (h3 j m hm).1 (lc.ext.ack _ _), by have := (h3 j m hm).2; simp; omega⟩
end
end Go.Rf
namespace Go.Rf
section
variable {g : Gh} {n i : Nat} {s : Nd}

theorem Next.refl (h : NodeOK g n i s) (hg : GOK g n) : Next g n i s [] [] := ⟨g, Loc.refl g i, hg, h, (fun m hm => (by cases hm)), rfl⟩
theorem Next.out {out : List Ms} {mk : List (Nat × Nat × List UInt8)} (h : Next g n i s [] mk) (f : ∀ g', GOK g' n → NodeOK g' n i s → Ext g g' → ∀ m, m ∈ out → MsgOK g' n m ∧ m.src = i ∧ m.term = s.term) : Next g n i s out mk := by
  obtain ⟨g', a, b, c, _, e⟩ := h
  exact ⟨g', a, b, c, f g' b c a.ext, e⟩
theorem Next.then {s' : Nd} {out : List Ms} {g1 : Gh} {mk : List (Nat × Nat × List UInt8)} (l : Loc g g1 i) (hm : g1.made = g.made) (h : Next g1 n i s' out mk) : Next g n i s' out mk := by
  obtain ⟨g', a, b, c, d, e⟩ := h
  exact ⟨g', l.trans a, b, c, d, by rw [e, hm]⟩

theorem Nd.mem_others {k : Nat} (h : k ∈ s.others) : k < s.n ∧ k ≠ s.id := by
  unfold Nd.others at h
  rw [List.mem_filter, List.mem_range] at h
  refine ⟨h.1, fun e => ?_⟩
  rw [e] at h
  simp at h

theorem NodeOK.feed (h : NodeOK g n i s) (hg : GOK g n) (hi : i < n) {nx mt : List Nat} (hl : s.lead = some (nx, mt)) (hlast : lastT s.log = s.term) {k : Nat} (hk : k < n) (hki : k ≠ i) : MsgOK g n (s.feed nx k) ∧ (s.feed nx k).src = i ∧ (s.feed nx k).term = s.term := by
  have hle := h.lead
  unfold LeadOK at hle
  rw [hl] at hle
  obtain ⟨h1, h2, h3, h4, h5, h6, h7⟩ := hle
  have hterm : 1 ≤ s.term := (hg.clok _ _ (hg.ldq _ _ h4).2.1).1
  have hnk : nx[k]? = some (nx.getD k 0) := by rw [List.getD_eq_getElem?_getD, List.getElem?_eq_getElem (by omega)]; rfl
  have hn := h7 k _ hnk
  obtain ⟨r, hr, hrt⟩ := lastT_some (l := s.log) (by omega)
  have hlen := get_lt hr
  have hsrc : s.id = i := h.isid
  refine ⟨⟨by show s.id < n; omega, hk, by show s.id ≠ k; omega, ?_⟩, hsrc, rfl⟩
  show TakeOK g n s.id s.term (nx.getD k 0 - 1) _ s.commit (s.log.drop (nx.getD k 0 - 1))
  rw [hsrc]
  refine ⟨h4, by rw [h5]; simp only [List.length_drop]; omega, by simp only [List.length_drop]; omega, by rw [h5]; rw [List.take_of_length_le (Nat.le_refl _)], by rw [h5], ?_, ?_, ?_⟩
  · rw [h5, show nx.getD k 0 - 1 + (s.log.drop (nx.getD k 0 - 1)).length - 1 = s.log.length - 1 by simp only [List.length_drop]; omega, hr]
    show r.term = s.term
    omega
  · have := h.com.1; simp only [List.length_drop]; omega
  · rw [h5]; exact h.com.2
theorem NodeOK.beat (h : NodeOK g n i s) (hg : GOK g n) (hi : i < n) (hlast : s.role = 3 → lastT s.log = s.term) : ∀ m, m ∈ s.beat → MsgOK g n m ∧ m.src = i ∧ m.term = s.term := by
  intro m hm
  unfold Nd.beat at hm
  have hle := h.lead
  unfold LeadOK at hle
  split at hm
  · cases hm
  · rename_i nx mt e
    rw [e] at hle
    obtain ⟨k, hk, rfl⟩ := List.mem_map.1 hm
    have := Nd.mem_others hk
    exact h.feed hg hi e (hlast hle.1) (by have := h.isn; omega) (by have := h.isid; omega)

theorem NodeOK.win (h : NodeOK g n i s) (hg : GOK g n) (hi : i < n) (hr : s.role = 2) (hv : n < 2 * s.votes.count true) (hmk : ∀ k r, s.log[k]? = some r → (r.term, k, r.bs) ∈ g.made) :
    Next g n i s.win s.win.beat [(s.term, s.log.length, [])] ∧ lastT s.win.log = s.win.term := by
  obtain ⟨c1, c2, c3, c4, c5⟩ := h.cand hr
  obtain ⟨Q, q1, q2, q3⟩ := majB c3 hv
  have hvi : g.vh i s.term = some i := by rw [h.vote, if_neg (by omega), c1]; rfl
  have hld : g.ld s.term = none := by
    cases e : g.ld s.term with
    | none => rfl
    | some c =>
      obtain ⟨_, _, R, r1, r2, r3⟩ := hg.ldq _ _ e
      obtain ⟨j, j1, j2⟩ := meet q1 r1 (fun j hj => (q2 j hj).1) (fun j hj => (r2 j hj).1) q3 r3
      have := (r2 j j2).2
      rw [c4 j (q2 j j1).2] at this
      cases this
      exact absurd e c5
  have hg1 : GOK (g.leads i s.term (g.CL i s.term)) n := hg.leads hi hld hvi q1 (fun j hj => ⟨(q2 j hj).1, c4 j (q2 j hj).2⟩) q3 (by rw [c2]; exact hmk)
  have lc : Loc g (g.leads i s.term (g.CL i s.term)) i := leads_loc hg hld _
  have hL : (g.leads i s.term (g.CL i s.term)).L s.term = s.log := by rw [← c2]; exact up1_same
  have hnew : NodeOK (g.leads i s.term (g.CL i s.term)) n i s.crown := by
    refine ⟨h.isid, h.isn, h.good.ext lc.ext, h.srt, h.top, h.vote, h.voten, h.late, fun e => ?_, ?_, ⟨h.com.1, h.com.2.ext lc.ext hg⟩, h.kp.ext lc.ext hg (fun _ _ => rfl), .inr (.inr rfl), ?_⟩
    · have : (3 : Nat) = 2 := e
      omega
    · refine ⟨rfl, by rw [List.length_replicate]; exact h.isn, by rw [List.length_replicate]; exact h.isn, up1_same, hL, fun j m hm => ?_, fun j m hm => ?_⟩
      · rw [List.getElem?_replicate] at hm
        split at hm
        · cases hm; exact ⟨Nat.zero_le _, Nat.zero_le _⟩
        · cases hm
      · rw [List.getElem?_replicate] at hm
        split at hm
        · cases hm; exact ⟨by omega, Nat.le_refl _⟩
        · cases hm
    · show s.id + 1 ≤ n
      have := h.isid; omega
  have hle := hnew.lead
  obtain ⟨l1, l2, l3, l4, l5, l6, l7⟩ := hle
  have key := hnew.add hg1 hi rfl l2 l3 l4 l5 l6 l7 []
  refine ⟨Next.out (Next.then lc rfl key.1) ?_, key.2⟩
  intro g' hg' hn' e' m hm
  exact hn'.beat hg' hi (fun _ => key.2) m hm

theorem NodeOK.made (h : NodeOK g n i s) (hg : GOK g n) : ∀ k r, s.log[k]? = some r → (r.term, k, r.bs) ∈ g.made := h.good.made hg

theorem NodeOK.stand (h : NodeOK g n i s) (hg : GOK g n) (hi : i < n) : NodeOK (g.stands i (s.term + 1) s.log) n i s.stand ∧ GOK (g.stands i (s.term + 1) s.log) n ∧ Loc g (g.stands i (s.term + 1) s.log) i := by
  have hv : g.vh i (s.term + 1) = none := (h.late _ (by omega)).1
  have hid : s.id = i := h.isid
  have hn : s.n = n := h.isn
  have lc : Loc g (g.stands i (s.term + 1) s.log) i := stands_loc hv (fun c e => (hg.ldq _ c e).2.1) s.log
  have hg' : GOK (g.stands i (s.term + 1) s.log) n := hg.stands hv (by omega) h.good h.srt (fun r hr => by have := h.top r hr; omega) (h.kp.up (by have := lastT_le h.top; omega) (List.prefix_refl _))
  have hf := h.follow (t := s.term + 1)
  have hterm : (s.follow (s.term + 1)).term = s.term + 1 := by show (if s.term < s.term + 1 then s.term + 1 else s.term) = _; rw [if_pos (by omega)]
  have hvh : (g.stands i (s.term + 1) s.log).vh i (s.term + 1) = some i := up2_same
  refine ⟨⟨hid, hn, h.good.ext lc.ext, h.srt, hf.top, ?_, by show s.id + 1 ≤ n; omega, fun t ht => ⟨?_, (hf.late t ht).2⟩, fun _ => ⟨by show s.id + 1 = i + 1; omega, ?_, ?_, ?_, ?_⟩, by show (2 : Nat) ≠ 3; omega, ⟨hf.com.1, hf.com.2.ext lc.ext hg⟩, hf.kp.ext lc.ext hg (fun _ _ => rfl), .inr (.inl rfl), hf.ldr⟩, hg', lc⟩
  · show (g.stands i (s.term + 1) s.log).vh i (s.follow (s.term + 1)).term = if s.id + 1 = 0 then none else some (s.id + 1 - 1)
    rw [hterm, hvh, if_neg (by omega), hid]; rfl
  · show up2 g.vh i (s.term + 1) (some i) i t = none
    have ht : (s.follow (s.term + 1)).term < t := ht
    rw [hterm] at ht
    rw [up2_ne fun ⟨_, x⟩ => by omega]; exact (h.late t (by omega)).1
  · show up2 g.CL i (s.term + 1) s.log i (s.follow (s.term + 1)).term = _
    rw [hterm, up2_same]; rfl
  · show ((List.replicate s.n false).set s.id true).length = n
    simp; exact hn
  · intro j hj
    have hj : ((List.replicate s.n false).set s.id true)[j]? = some true := hj
    rw [List.getElem?_set] at hj
    split at hj
    · rename_i q
      rw [show s.stand.term = s.term + 1 from hterm, ← q, hid]; exact hvh
    · rw [List.getElem?_replicate] at hj
      split at hj <;> simp at hj
  · rw [show s.stand.term = s.term + 1 from hterm]
    intro e
    have := (hg.ldq _ _ e).2.1
    rw [hv] at this; cases this

theorem NodeOK.elect (h : NodeOK g n i s) (hg : GOK g n) (hi : i < n) (hlast : s.role = 3 → lastT s.log = s.term) :
    ∃ mk : List (Nat × Nat × List UInt8), (∀ x, x ∈ mk → x.2.2 = []) ∧ mk.length ≤ 1 ∧ Next g n i s.elect.1 s.elect.2 mk ∧ (s.elect.1.role = 3 → lastT s.elect.1.log = s.elect.1.term) := by
  have hid : s.id = i := h.isid
  have hn : s.n = n := h.isn
  unfold Nd.elect
  split
  · exact ⟨[], (fun x hx => (by cases hx)), by simp, Next.refl h hg, hlast⟩
  split
  · rename_i q1 q2
    obtain ⟨a, b, c⟩ := h.stand hg hi
    have hv : n < 2 * s.stand.votes.count true := by
      show n < 2 * ((List.replicate s.n false).set s.id true).count true
      have h0 : s.id = 0 := by omega
      rw [q2, h0, show n = 1 by omega]
      decide
    have := a.win b hi rfl hv (a.made b)
    exact ⟨_, (by intro x hx; simp at hx; subst hx; rfl), (by simp), Next.then c rfl this.1, fun _ => this.2⟩
  · obtain ⟨a, b, c⟩ := h.stand hg hi
    refine ⟨[], (fun x hx => (by cases hx)), by simp, ?_, fun e => ?_⟩
    · refine Next.then c rfl (Next.out (Next.refl a b) fun g' hg' hn' e' m hm => ?_)
      obtain ⟨k, hk, rfl⟩ := List.mem_map.1 hm
      have hk := Nd.mem_others hk
      have hk1 : k < s.n := hk.1
      have hk2 : k ≠ s.id := hk.2
      have hvi : g'.vh i s.stand.term = some i := by rw [hn'.vote]; rw [(hn'.cand rfl).1]; simp
      have hcl : g'.CL i s.stand.term = s.log := (hn'.cand rfl).2.1
      refine ⟨⟨?_, ?_, ?_, ?_⟩, ?_, rfl⟩
      · show s.id < n; omega
      · show k < n; omega
      · show s.id ≠ k; omega
      · show g'.vh s.id s.stand.term = some s.id ∧ _ = lastT (g'.CL s.id s.stand.term) ∧ _ = (g'.CL s.id s.stand.term).length
        rw [hid, hcl]; exact ⟨hvi, rfl, rfl⟩
      · exact hid
    · have : (2 : Nat) = 3 := e
      omega
theorem NodeOK.propose (h : NodeOK g n i s) (hg : GOK g n) (hi : i < n) {nx mt : List Nat} (hl : s.lead = some (nx, mt)) (b : List UInt8) :
    Next g n i (s.add nx mt b) [] [(s.term, s.log.length, b)] ∧ lastT (s.add nx mt b).log = (s.add nx mt b).term := by
  have hle := h.lead
  unfold LeadOK at hle
  rw [hl] at hle
  obtain ⟨l1, l2, l3, l4, l5, l6, l7⟩ := hle
  exact h.add hg hi l1 l2 l3 l4 l5 l6 l7 b

theorem NodeOK.counts (h : NodeOK g n i s) (hg : GOK g n) (hi : i < n) {src : Nat} (hs : src < n) {b : Bool} (hb : b = true → g.vh src s.term = some i) (hlast : s.role = 3 → lastT s.log = s.term) :
    ∃ mk : List (Nat × Nat × List UInt8), (∀ x, x ∈ mk → x.2.2 = []) ∧ mk.length ≤ 1 ∧ Next g n i (s.counts src b).1 (s.counts src b).2 mk ∧ ((s.counts src b).1.role = 3 → lastT (s.counts src b).1.log = (s.counts src b).1.term) := by
  unfold Nd.counts
  split
  · exact ⟨[], (fun x hx => (by cases hx)), by simp, Next.refl h hg, hlast⟩
  rename_i q
  have hr : s.role = 2 := Classical.byContradiction fun x => q (.inl x)
  have hbt : b = true := by cases b with | true => rfl | false => exact absurd (.inr rfl) q
  obtain ⟨c1, c2, c3, c4, c5⟩ := h.cand hr
  have a : NodeOK g n i { s with votes := s.votes.set src true } := by
    refine ⟨h.isid, h.isn, h.good, h.srt, h.top, h.vote, h.voten, h.late, fun e => ⟨c1, c2, ?_, fun j hj => ?_, c5⟩, ?_, h.com, h.kp, h.role, h.ldr⟩
    · show (s.votes.set src true).length = n
      rw [List.length_set]; exact c3
    · have hj : (s.votes.set src true)[j]? = some true := hj
      rw [List.getElem?_set] at hj
      split at hj
      · rename_i q; rw [← q]; exact hb hbt
      · exact c4 j hj
    · have := h.lead
      unfold LeadOK at *
      exact this
  simp only
  split
  · exact ⟨[], (fun x hx => (by cases hx)), by simp, Next.refl a hg, fun e => by have : s.role = 3 := e; omega⟩
  · rename_i q2
    have hn : s.n = n := h.isn
    have := a.win hg hi hr (by
      have q2 : ¬ 2 * (s.votes.set src true).count true ≤ s.n := q2
      show n < 2 * (s.votes.set src true).count true
      omega) (a.made hg)
    exact ⟨_, (by intro x hx; simp at hx; subst hx; rfl), (by simp), this.1, fun _ => this.2⟩

theorem NodeOK.gives (h : NodeOK g n i s) (hg : GOK g n) (hi : i < n) {c lt k : Nat} (hc : c < n) (hci : c ≠ i) (h1 : g.vh c s.term = some c) (h2 : lt = lastT (g.CL c s.term)) (h3 : k = (g.CL c s.term).length) :
    Next g n i (s.gives c lt k) [s.msg c (.vote (!s.refuses c lt k))] [] ∧ (s.gives c lt k).role = s.role ∧ (s.gives c lt k).log = s.log ∧ (s.gives c lt k).term = s.term := by
  have hid : s.id = i := h.isid
  unfold Nd.gives
  split
  · rename_i q
    refine ⟨Next.out (Next.refl h hg) fun g' hg' hn' e' m hm => ?_, rfl, rfl, rfl⟩
    simp at hm; subst hm
    refine ⟨⟨by show s.id < n; omega, hc, by show s.id ≠ c; omega, ?_⟩, hid, rfl⟩
    show (!s.refuses c lt k) = true → _
    rw [q]; intro x; cases x
  · rename_i q
    refine ⟨?_, rfl, rfl, rfl⟩
    have q0 : s.refuses c lt k = false := by simpa using q
    unfold Nd.refuses at q0
    simp only [Bool.or_eq_false_iff, Bool.and_eq_false_iff, decide_eq_false_iff_not, Bool.not_eq_false', beq_iff_eq, beq_eq_false_iff_ne] at q0
    obtain ⟨⟨q1, q2⟩, q3⟩ := q0
    obtain ⟨cl1, cl2, cl3, cl4⟩ := hg.clok c s.term h1
    -- what i has is in the row with which c stood
    have hkp : KP g i s.term (s.term - 1) (g.CL c s.term) := by
      have hlt : lastT (g.CL c s.term) < s.term := lastT_lt cl1 cl4
      intro t ht m r hm hma hr rt
      rcases h.kp t (by omega) m r hm hma hr rt with ⟨u, a, b, c', d⟩ | hp
      · exact .inl ⟨u, a, by omega, c', d⟩
      have hlenL := get_lt hr
      have hml : m ≤ s.log.length := by have := pre_len hp; rw [take_len (by omega)] at this; exact this
      have hlog : s.log[m - 1]? = some r := pre_get hp (by rw [List.getElem?_take, if_pos (by omega)]; exact hr)
      have ht1 : t ≤ lastT s.log := by rw [← rt]; exact lastT_get h.srt hlog
      have hrpos : 1 ≤ r.term := h.srt.pos hlog
      obtain ⟨x, hx, hxt⟩ := lastT_some (l := s.log) (by omega)
      obtain ⟨y, hy, hyt⟩ := lastT_some (l := g.CL c s.term) (by omega)
      have hylen := get_lt hy
      have hgy := cl2 _ y hy
      rw [show (g.CL c s.term).length - 1 + 1 = (g.CL c s.term).length by omega, List.take_length] at hgy
      by_cases e : lastT s.log = lastT (g.CL c s.term)
      · -- the same last term: both are fronts of that leader's row
        have hgx := h.good _ x hx
        rw [show s.log.length - 1 + 1 = s.log.length by have := get_lt hx; omega, List.take_length] at hgx
        have e' : x.term = y.term := by omega
        rw [e'] at hgx
        refine .inr (hp.trans (List.prefix_of_prefix_length_le hgx.2 hgy.2 ?_))
        rcases q3 with q3 | q3
        · omega
        · omega
      · -- a later one
        have hlt2 : lastT s.log < lastT (g.CL c s.term) := by omega
        by_cases hin : (g.L t).take m <+: g.L y.term
        · refine .inr (List.prefix_of_prefix_length_le hin hgy.2 ?_)
          rw [take_len (by omega)]
          apply Classical.byContradiction
          intro no
          have hy' : (g.L y.term)[(g.CL c s.term).length - 1]? = some y := pre_get hgy.2 hy
          have hr' : (g.L y.term)[m - 1]? = some r := pre_get hin (by rw [List.getElem?_take, if_pos (by omega)]; exact hr)
          have := (hg.L y.term).2.1.get hy' hr' (by omega)
          omega
        · refine .inl ⟨y.term, by omega, by omega, hgy.1, fun hb => hin ?_⟩
          cases e2 : g.ld y.term with
          | none => exact absurd e2 hgy.1
          | some d =>
            rw [Gh.B_some e2] at hb
            obtain ⟨rest, r1, _⟩ := hg.ldL _ _ e2
            exact hb.trans (by rw [r1]; exact List.prefix_append _ _)
    by_cases hv : s.vote = 0
    · have hvn : g.vh i s.term = none := by rw [h.vote, if_pos hv]
      have lc : Loc g (g.votes i s.term c) i := votes_loc hvn c
      have hg' := hg.votes hvn h1 hkp
      have hvh : (g.votes i s.term c).vh i s.term = some c := up2_same
      refine ⟨_, lc, hg', ⟨h.isid, h.isn, h.good.ext lc.ext, h.srt, h.top, ?_, by show c + 1 ≤ n; omega, fun t ht => ⟨?_, (h.late t ht).2⟩, fun e => ?_, ?_, ⟨h.com.1, h.com.2.ext lc.ext hg⟩, h.kp.ext lc.ext hg (fun _ _ => rfl), h.role, h.ldr⟩, fun m hm => ?_, rfl⟩
      · show (g.votes i s.term c).vh i s.term = if c + 1 = 0 then none else some (c + 1 - 1)
        rw [hvh, if_neg (by omega)]; rfl
      · have ht : s.term < t := ht
        show up2 g.vh i s.term (some c) i t = none
        rw [up2_ne fun ⟨_, x⟩ => by omega]; exact (h.late t ht).1
      · have := (h.cand e).1
        omega
      · have := h.lead
        unfold LeadOK at *
        exact this
      · simp at hm; subst hm
        refine ⟨⟨by show s.id < n; omega, hc, by show s.id ≠ c; omega, fun _ => ?_⟩, hid, rfl⟩
        show (g.votes i s.term c).vh s.id s.term = some c
        rw [hid]; exact hvh
    · have hvc : s.vote = c + 1 := by
        rcases q1 with q1 | q1
        · exact absurd q1 hv
        · exact q1
      have hvh : g.vh i s.term = some c := by rw [h.vote, if_neg hv, hvc]; rfl
      have e : ({ s with vote := c + 1 } : Nd) = s := by rw [← hvc]
      rw [e]
      refine Next.out (Next.refl h hg) fun g' hg' hn' e' m hm => ?_
      simp at hm; subst hm
      refine ⟨⟨by show s.id < n; omega, hc, by show s.id ≠ c; omega, fun _ => ?_⟩, hid, rfl⟩
      show g'.vh s.id s.term = some c
      rw [hid]; exact e'.vh _ _ _ hvh
end
end Go.Rf
namespace Go.Rf

theorem lay_end (c : Nat) : ∀ (rs l : List Rec) (a : Nat), l.length = a → lay c l a rs = (l ++ rs, true)
  | [], l, a, _ => by simp [lay]
  | k :: ks, l, a, h => by
    unfold lay
    rw [List.getElem?_eq_none (by omega)]
    simp only
    rw [lay_end c ks (l ++ [k]) (a + 1) (by simp; omega)]
    simp

theorem take_more {α : Type} {l : List α} {a : Nat} {k : α} (h : l[a]? = some k) : l.take (a + 1) = l.take a ++ [k] := by
  have ha := get_lt h
  rw [List.take_add_one, h]; rfl
theorem take_pre_eq {α : Type} {l m : List α} {a c : Nat} (h : l.take a = m.take a) (hc : c ≤ a) : l.take c = m.take c := by
  have := congrArg (List.take c) h
  rw [List.take_take, List.take_take, Nat.min_eq_left hc] at this
  exact this
theorem lay_spec {g : Gh} {LL : List Rec} (hL : Good g LL) (c : Nat) : ∀ (rs l : List Rec) (a : Nat), Good g l → a ≤ l.length → l.take a = LL.take a → a + rs.length ≤ LL.length → rs = (LL.drop a).take rs.length →
    lay c l a rs = (l, false) ∨ (lay c l a rs = (l, true) ∧ l.take (a + rs.length) = LL.take (a + rs.length)) ∨
    (lay c l a rs = (LL.take (a + rs.length), true) ∧ ∃ b, a ≤ b ∧ b < a + rs.length ∧ b ≤ l.length ∧ l.take b = LL.take b ∧ (b = l.length ∨ c ≤ b ∧ ∃ r k, l[b]? = some r ∧ LL[b]? = some k ∧ r.term ≠ k.term))
  | [], l, a, _, _, h, _, _ => .inr (.inl ⟨by simp [lay], by simpa using h⟩)
  | k :: ks, l, a, hg, ha, h, hf, hrs => by
    simp only [List.length_cons] at hf hrs ⊢
    have hk : LL[a]? = some k := by
      have := congrArg (fun x => x[0]?) hrs
      simp only [List.getElem?_cons_zero] at this
      rw [List.getElem?_take, if_pos (by omega), List.getElem?_drop] at this
      simpa using this.symm
    have hks : ks = (LL.drop (a + 1)).take ks.length := by
      have := congrArg List.tail hrs
      rw [List.tail_cons] at this
      conv => lhs; rw [this]
      rw [List.drop_eq_getElem_cons (by omega : a < LL.length), List.take_succ_cons, List.tail_cons]
    have hall : LL.take a ++ (k :: ks) = LL.take (a + (ks.length + 1)) := by
      rw [hrs]; exact (List.take_add ..).symm
    have h2 : a + (ks.length + 1) = a + 1 + ks.length := by omega
    unfold lay
    cases e : l[a]? with
    | none =>
      have hal : a = l.length := by
        apply Classical.byContradiction
        intro no
        rw [List.getElem?_eq_getElem (by omega)] at e; cases e
      simp only
      rw [lay_end c ks (l ++ [k]) (a + 1) (by simp; omega)]
      refine .inr (.inr ⟨?_, a, Nat.le_refl _, by omega, ha, h, .inl hal⟩)
      rw [← hall, ← h, hal, List.take_length]; simp
    | some r =>
      simp only
      split
      · rename_i q
        have hs := hg.same hL e hk q
        have := lay_spec hL c ks l (a + 1) hg (by have := get_lt e; omega) hs (by omega) hks
        rw [h2]
        rcases this with x | x | ⟨x, b, b1, b2, b3, b4, b5⟩
        · exact .inl x
        · exact .inr (.inl x)
        · exact .inr (.inr ⟨x, b, by omega, b2, b3, b4, b5⟩)
      · rename_i q
        split
        · exact .inl rfl
        · rename_i q2
          rw [lay_end c ks (l.take a ++ [k]) (a + 1) (by simp; omega)]
          refine .inr (.inr ⟨?_, a, Nat.le_refl _, by omega, ha, h, .inr ⟨by omega, r, k, e, hk, q⟩⟩)
          rw [← hall, ← h]; simp

section
variable {g : Gh} {n i : Nat} {s : Nd}

theorem NodeOK.takes (h : NodeOK g n i s) (hg : GOK g n) (hi : i < n) {src a lt c : Nat} {rs : List Rec} (hs : src < n) (hsi : src ≠ i) (ht : TakeOK g n src s.term a lt c rs) :
    Next g n i (s.takes src a lt c rs).1 (s.takes src a lt c rs).2 [] ∧ (s.role ≠ 3 → (s.takes src a lt c rs).1.role ≠ 3) ∧ (s.role = 3 → (s.takes src a lt c rs).1 = s) := by
  have hid : s.id = i := h.isid
  unfold Nd.takes
  split
  · rename_i q; exact ⟨Next.refl h hg, fun x => absurd q x, fun _ => rfl⟩
  rename_i q
  have hs1 : NodeOK g n i { s.follow s.term with leader := src + 1 } := (h.follow (t := s.term)).ldr' (by omega)
  have hterm : (s.follow s.term).term = s.term := by show (if s.term < s.term then s.term else s.term) = _; split <;> rfl
  simp only
  split
  · refine ⟨Next.out (Next.refl hs1 hg) fun g' hg' hn' e' m hm => ?_, fun _ => by show (1 : Nat) ≠ 3; omega, fun x => absurd x q⟩
    simp at hm; subst hm
    exact ⟨⟨by show s.id < n; omega, hs, by show s.id ≠ src; omega, (fun x => by cases x), by have := hn'.good.len hg'; have : s.log.length ≤ g'.made.length := this; show min s.log.length (a - 1) ≤ _; omega⟩, hid, rfl⟩
  rename_i q1
  have ha : a ≤ s.log.length := by omega
  have hLt := hg.L s.term
  have htk : s.log.take a = (g.L s.term).take a := by
    by_cases z : a = 0
    · subst z; simp
    · have hl := ht.islt
      rw [if_neg z] at hl
      have h1 : a - 1 < s.log.length := by omega
      have h2 : a - 1 < (g.L s.term).length := by have := ht.fits; omega
      rw [List.getElem?_eq_getElem h2] at hl
      have q2 : ¬ (s.log[a - 1]?).elim 0 Rec.term ≠ lt := fun x => q1 (.inr ⟨by omega, x⟩)
      rw [List.getElem?_eq_getElem h1] at q2
      simp only [Option.elim] at hl q2
      have := h.good.same hLt.1 (List.getElem?_eq_getElem h1) (List.getElem?_eq_getElem h2) (by omega)
      rw [show a - 1 + 1 = a by omega] at this
      exact this
  have hcase := lay_spec hLt.1 s.commit rs s.log a h.good ha htk ht.fits ht.isrs
  rcases hcase with x | x
  · rw [x]
    simp only [Bool.false_eq_true, if_false]
    exact ⟨Next.refl hs1 hg, fun _ => by show (1 : Nat) ≠ 3; omega, fun y => absurd y q⟩
  -- what is laid
  have key : ∃ l, lay s.commit s.log a rs = (l, true) ∧ Good g l ∧ Srt l ∧ (∀ r, r ∈ l → r.term ≤ s.term) ∧ l.take (a + rs.length) = (g.L s.term).take (a + rs.length) ∧ (∀ p, p <+: s.log → p <+: g.L s.term → p <+: l) ∧
      s.commit ≤ l.length ∧ l.take s.commit = s.log.take s.commit := by
    rcases x with ⟨x, y⟩ | ⟨x, b, b1, b2, b3, b4, b5⟩
    · exact ⟨_, x, h.good, h.srt, h.top, y, fun p hp _ => hp, h.com.1, rfl⟩
    · have hcb : s.commit ≤ b := by
        rcases b5 with z | ⟨z, _⟩
        · have := h.com.1; omega
        · exact z
      have hf := ht.fits
      refine ⟨_, x, hLt.1.sub (List.take_prefix _ _), hLt.2.1.sub (List.take_prefix _ _), fun r hr => hLt.2.2 r (List.mem_of_mem_take hr), by rw [List.take_take]; simp, fun p hp hq => ?_, by rw [take_len hf]; omega, ?_⟩
      · rw [List.prefix_take_iff]
        refine ⟨hq, ?_⟩
        apply Classical.byContradiction
        intro no
        rcases b5 with z | ⟨_, r, k, z1, z2, z3⟩
        · have := pre_len hp; omega
        · have hb : b < p.length := by omega
          have e1 := pre_get hp (List.getElem?_eq_getElem hb)
          have e2 := pre_get hq (List.getElem?_eq_getElem hb)
          rw [z1] at e1; rw [z2] at e2
          cases e1; cases e2; exact z3 rfl
      · rw [List.take_take, Nat.min_eq_left (by omega)]
        have := congrArg (List.take s.commit) b4
        rw [List.take_take, List.take_take, Nat.min_eq_left hcb] at this
        exact this.symm
  obtain ⟨l, hx, k1, k2, k3, k4, k5, k6, k7⟩ := key
  rw [hx]
  simp only [if_true]
  refine ⟨?_, fun _ => by show (1 : Nat) ≠ 3; omega, fun y => absurd y q⟩
  have hf := ht.fits
  have hpos := ht.pos
  have lc : Loc g (g.acks i s.term (a + rs.length)) i := acks_loc _
  have hg' : GOK (g.acks i s.term (a + rs.length)) n := hg.acks hf h.lateV
  have hlen : a + rs.length ≤ l.length := by
    have := congrArg List.length k4
    rw [take_len hf, List.length_take] at this; omega
  have hpre : (g.L s.term).take (a + rs.length) <+: l := by rw [← k4]; exact List.take_prefix _ _
  have hlast : s.term ≤ lastT l := by
    have he := ht.end_
    have h1 : a + rs.length - 1 < (g.L s.term).length := by omega
    rw [List.getElem?_eq_getElem h1] at he
    simp only [Option.elim] at he
    have : l[a + rs.length - 1]? = some (g.L s.term)[a + rs.length - 1] := pre_get hpre (by rw [List.getElem?_take, if_pos (by omega), List.getElem?_eq_getElem h1])
    have := lastT_get k2 this
    omega
  have hld : g.ld s.term ≠ none := by rw [ht.ld]; simp
  refine ⟨_, lc, hg', ⟨hid, h.isn, k1.ext lc.ext, k2, fun r hr => ?_, ?_, ?_, fun t htt => ?_, fun e => ?_, ?_, ⟨?_, ?_⟩, ?_, .inl rfl, hs1.ldr⟩, fun m hm => ?_, rfl⟩
  · show r.term ≤ (s.follow s.term).term
    rw [hterm]; exact k3 r hr
  · exact hs1.vote
  · exact hs1.voten
  · have htt : (s.follow s.term).term < t := htt
    rw [hterm] at htt
    refine ⟨(h.late t htt).1, ?_⟩
    show up2 g.ack i s.term _ i t = 0
    rw [up2_ne fun ⟨_, y⟩ => by omega]; exact (h.late t htt).2
  · have : (1 : Nat) = 2 := e
    omega
  · show (1 : Nat) ≠ 3
    omega
  · show max s.commit (min c (a + rs.length)) ≤ l.length
    omega
  · show CP _ n (s.follow s.term).term (l.take (max s.commit (min c (a + rs.length))))
    rw [hterm]
    rcases Nat.le_total (min c (a + rs.length)) s.commit with z | z
    · rw [Nat.max_eq_left z, k7]; exact h.com.2.ext lc.ext hg
    · rw [Nat.max_eq_right z]
      have hc := ht.isc
      rw [Nat.min_eq_left hc.1, take_pre_eq k4 hc.1]
      exact hc.2.ext lc.ext hg
  · show KP _ i ((s.follow s.term).term + 1) (lastT l) l
    rw [hterm]
    intro t htt m r hm hma hr rt
    have hma : m ≤ up2 g.ack i s.term (max (g.ack i s.term) (a + rs.length)) i t := hma
    have hBL : ∀ p : List Rec, p <+: g.B s.term → p <+: g.L s.term := by
      intro p hp
      rw [Gh.B_some ht.ld] at hp
      obtain ⟨rest, r1, _⟩ := hg.ldL _ _ ht.ld
      exact hp.trans (by rw [r1]; exact List.prefix_append _ _)
    by_cases z : t = s.term
    · subst z
      rw [up2_same] at hma
      refine .inr ?_
      rcases (Nat.lt_or_ge (a + rs.length) m).symm with w | w
      · exact (take_take_pre _ _ _ w).trans hpre
      · have hmo : m ≤ g.ack i s.term := by omega
        rcases h.kp s.term (by omega) m r hm hmo hr rt with ⟨u, u1, u2, _⟩ | y
        · have := lastT_le h.top; omega
        · exact k5 _ y (List.take_prefix _ _)
    · rw [up2_ne fun ⟨_, y⟩ => z y] at hma
      rcases h.kp t (by omega) m r hm hma hr rt with ⟨u, u1, u2, u3, u4⟩ | y
      · exact .inl ⟨u, u1, by have := lastT_le h.top; omega, u3, u4⟩
      · by_cases w : (g.L t).take m <+: g.L s.term
        · exact .inr (k5 _ y w)
        · exact .inl ⟨s.term, by omega, hlast, hld, fun hb => w (hBL _ hb)⟩
  · simp at hm; subst hm
    refine ⟨⟨by show s.id < n; omega, hs, by show s.id ≠ src; omega, fun _ => ?_, Nat.le_trans hf (hLt.1.len hg)⟩, hid, rfl⟩
    show a + rs.length ≤ up2 g.ack i s.term _ s.id (s.follow s.term).term
    rw [hterm, hid, up2_same]; omega

theorem NodeOK.hears (h : NodeOK g n i s) (hg : GOK g n) (hi : i < n) {src k : Nat} {ok : Bool} (hs : src < n) (hsi : src ≠ i) (ht : ok = true → k ≤ g.ack src s.term) (hlast : s.role = 3 → lastT s.log = s.term) :
    Next g n i (s.hears src ok k).1 (s.hears src ok k).2 [] ∧ (s.hears src ok k).1.role = s.role ∧ (s.hears src ok k).1.log = s.log ∧ (s.hears src ok k).1.term = s.term := by
  have hle := h.lead
  unfold LeadOK at hle
  unfold Nd.hears
  cases e : s.lead with
  | none => exact ⟨Next.refl h hg, rfl, rfl, rfl⟩
  | some p =>
    obtain ⟨nx, mt⟩ := p
    rw [e] at hle
    obtain ⟨l1, l2, l3, l4, l5, l6, l7⟩ := hle
    simp only
    have hm0 : mt[src]? = some (mt.getD src 0) := by rw [List.getD_eq_getElem?_getD, List.getElem?_eq_getElem (by omega)]; rfl
    have hn0 : nx[src]? = some (nx.getD src 0) := by rw [List.getD_eq_getElem?_getD, List.getElem?_eq_getElem (by omega)]; rfl
    have hm1 := l6 src _ hm0
    have hn1 := l7 src _ hn0
    split
    · exact ⟨Next.refl h hg, rfl, rfl, rfl⟩
    rename_i q
    split
    · rename_i q1
      refine ⟨Next.refl (h.cnt hg hi l1 (by simp; exact l2) (by simp; exact l3) l4 l5 (fun j m hm => ?_) (fun j m hm => ?_)) hg, rfl, rfl, rfl⟩
      · rw [List.getElem?_set] at hm
        split at hm
        · rename_i z
          split at hm
          · cases hm
            rw [← z]
            have := ht q1
            constructor <;> omega
          · cases hm
        · exact l6 j m hm
      · rw [List.getElem?_set] at hm
        split at hm
        · split at hm
          · cases hm
            have := ht q1
            constructor <;> omega
          · cases hm
        · exact l7 j m hm
    · split
      · exact ⟨Next.refl h hg, rfl, rfl, rfl⟩
      · have hn' : NodeOK g n i { s with lead := some (nx.set src (max (mt.getD src 0) k + 1), mt) } := by
          refine ⟨h.isid, h.isn, h.good, h.srt, h.top, h.vote, h.voten, h.late, h.cand, ⟨l1, by simp; exact l2, l3, l4, l5, l6, fun j m hm => ?_⟩, h.com, h.kp, h.role, h.ldr⟩
          rw [List.getElem?_set] at hm
          split at hm
          · split at hm
            · cases hm
              constructor
              · omega
              · show _ ≤ s.log.length + 1
                omega
            · cases hm
          · exact l7 j m hm
        refine ⟨Next.out (Next.refl hn' hg) fun g' hg' hn2 e' m hm => ?_, rfl, rfl, rfl⟩
        simp only [List.mem_singleton] at hm
        subst hm
        exact hn2.feed hg' hi rfl (hlast l1) hs hsi

theorem NodeOK.receive (h : NodeOK g n i s) (hg : GOK g n) (hi : i < n) {m : Ms} (hm : MsgOK g n m) (hd : m.dst = i) (hlast : s.role = 3 → lastT s.log = s.term) :
    ∃ mk : List (Nat × Nat × List UInt8), (∀ x, x ∈ mk → x.2.2 = []) ∧ mk.length ≤ 1 ∧ Next g n i (s.receive m).1 (s.receive m).2 mk ∧ ((s.receive m).1.role = 3 → lastT (s.receive m).1.log = (s.receive m).1.term) := by
  have hid : s.id = i := h.isid
  obtain ⟨m1, m2, m3, m4⟩ := hm
  have hsi : m.src ≠ i := by omega
  unfold Nd.receive
  split
  · refine ⟨[], (fun x hx => (by cases hx)), by simp, Next.out (Next.refl h hg) fun g' hg' hn' e' x hx => ?_, hlast⟩
    simp at hx; subst hx
    exact ⟨⟨by show s.id < n; omega, m1, by show s.id ≠ m.src; omega, trivial⟩, hid, rfl⟩
  rename_i q
  have key : ∀ s' : Nd, NodeOK g n i s' → s'.term = m.term → (s'.role = 3 → lastT s'.log = s'.term) →
      ∃ mk : List (Nat × Nat × List UInt8), (∀ x, x ∈ mk → x.2.2 = []) ∧ mk.length ≤ 1 ∧ Next g n i (s'.hear m).1 (s'.hear m).2 mk ∧ ((s'.hear m).1.role = 3 → lastT (s'.hear m).1.log = (s'.hear m).1.term) := by
    intro s' h' ht' hl'
    unfold Nd.hear
    cases e : m.x with
    | ask lt k =>
      rw [e] at m4
      obtain ⟨a, b, c⟩ := m4
      have := h'.gives hg hi m1 hsi (lt := lt) (k := k) (by rw [ht']; exact a) (by rw [ht']; exact b) (by rw [ht']; exact c)
      refine ⟨[], (fun x hx => (by cases hx)), by simp, this.1, fun r => ?_⟩
      simp only at r ⊢
      rw [this.2.1] at r
      rw [this.2.2.1, this.2.2.2]; exact hl' r
    | vote b =>
      rw [e] at m4
      exact h'.counts hg hi m1 (fun x => by rw [ht', ← hd]; exact m4 x) hl'
    | take a lt c rs =>
      rw [e] at m4
      have m4 : TakeOK g n m.src m.term a lt c rs := m4
      rw [← ht'] at m4
      have := h'.takes hg hi m1 hsi m4
      refine ⟨[], (fun x hx => (by cases hx)), by simp, this.1, fun r => ?_⟩
      by_cases z : s'.role = 3
      · simp only at r ⊢
        rw [this.2.2 z]; exact hl' z
      · exact absurd r (this.2.1 z)
    | took ok k =>
      rw [e] at m4
      have := h'.hears hg hi m1 hsi (ok := ok) (k := k) (fun x => by rw [ht']; exact m4.1 x) hl'
      refine ⟨[], (fun x hx => (by cases hx)), by simp, this.1, fun r => ?_⟩
      simp only at r ⊢
      rw [this.2.1] at r
      rw [this.2.2.1, this.2.2.2]; exact hl' r
    | older => exact ⟨[], (fun x hx => (by cases hx)), by simp, Next.refl h' hg, hl'⟩
  split
  · rename_i z
    exact key _ h.follow (by show (if s.term < m.term then m.term else s.term) = _; rw [if_pos z]) (fun e => by have : (1 : Nat) = 3 := e; omega)
  · rename_i z
    exact key _ h (by omega) hlast
end
end Go.Rf
namespace Go.Rf

structure Obs (g : Gh) (n : Nat) (ldm : Nat → Option Nat) (row : List (List UInt8)) (pr : List UInt8 → Nat) : Prop where
  ld : ∀ t i, ldm t = some i → g.ld t = some i
  row : ∃ T p, CP g n T p ∧ row = p.map Rec.bs
  pr : ∀ s, s ≠ [] → (g.made.filter fun x => x.2.2 == s).length ≤ pr s

structure Grp (g : Gh) (n T K : Nat) (nodes : List Nd) (bag : List Ms) : Prop where
  len : nodes.length = n
  gok : GOK g n
  node : ∀ i s, nodes[i]? = some s → NodeOK g n i s ∧ (s.role = 3 → lastT s.log = s.term) ∧ s.term ≤ T
  bag : ∀ m, m ∈ bag → MsgOK g n m ∧ m.term ≤ T
  mT : g.made.length ≤ T
  mK : ∀ x, x ∈ g.made → x.2.2.length ≤ K

def Gh.none (n : Nat) : Gh := ⟨fun _ => [], fun _ => .none, fun _ _ => [], fun _ _ => .none, fun _ _ => 0, []⟩
theorem begun_grp (n K : Nat) (hn : 1 ≤ n) : Grp (Gh.none n) n 0 K ((List.range n).map fun i => Nd.new i n) [] := by
  refine ⟨by simp, ⟨fun _ _ => Nat.le_refl _, fun _ _ => rfl, fun _ _ e => (by cases e), fun _ _ e => (by cases e), fun _ _ _ e => (by cases e), fun _ _ e => (by cases e), fun _ _ _ e => (by simp [Gh.none] at e)⟩, fun i s e => ?_, fun m hm => (by cases hm), Nat.le_refl _, fun x hx => (by cases hx)⟩
  rw [List.getElem?_map] at e
  cases h : (List.range n)[i]? with
  | none => rw [h] at e; cases e
  | some j =>
    rw [h] at e
    obtain ⟨h1, h2⟩ := List.getElem?_eq_some_iff.1 h
    have : i = j := by simpa using h2
    subst this
    simp only [Option.map_some, Option.some.injEq] at e
    subst e
    simp only [List.length_range] at h1
    refine ⟨⟨rfl, rfl, fun k r e => by simp [Nd.new] at e, ⟨List.Pairwise.nil, fun r hr => (by cases hr)⟩, fun r hr => (by cases hr), rfl, Nat.zero_le _, fun _ _ => ⟨rfl, rfl⟩, fun e => (by cases e), ?_, ⟨Nat.le_refl _, .inl rfl⟩, fun t ht m r hm hma _ _ => ?_, .inl rfl, Nat.zero_le _⟩, fun e => (by cases e), Nat.le_refl _⟩
    · show (1 : Nat) ≠ 3
      omega
    · have hma : m ≤ 0 := hma
      omega
theorem begun_obs (n : Nat) : Obs (Gh.none n) n (fun _ => .none) [] (fun _ => 0) := ⟨fun _ _ e => (by cases e), ⟨0, [], .inl rfl, rfl⟩, fun _ _ => Nat.le_refl _⟩

section
variable {g : Gh} {n T K : Nat} {nodes : List Nd} {bag : List Ms}

theorem Obs.ext {g' : Gh} {ldm : Nat → Option Nat} {row : List (List UInt8)} {pr pr' : List UInt8 → Nat} (h : Obs g n ldm row pr) (hg : GOK g n) (e : Ext g g') {mk : List (Nat × Nat × List UInt8)} (hm : g'.made = mk ++ g.made)
    (hp : ∀ s, s ≠ [] → pr s + (mk.filter fun x => x.2.2 == s).length ≤ pr' s) : Obs g' n ldm row pr' := by
  refine ⟨fun t i x => e.ld _ _ (h.ld t i x), ?_, fun s hs => ?_⟩
  · obtain ⟨T, p, a, b⟩ := h.row
    exact ⟨T, p, a.ext e hg, b⟩
  · rw [hm, List.filter_append, List.length_append]
    have := h.pr s hs
    have := hp s hs
    omega
theorem Grp.move (h : Grp g n T K nodes bag) {i : Nat} (hi : i < n) {s' : Nd} {out bag' : List Ms} {mk : List (Nat × Nat × List UInt8)} (hx : Next g n i s' out mk) (hl : s'.role = 3 → lastT s'.log = s'.term) (ht : s'.term ≤ T + 1) (hmk : mk.length ≤ 1) (hmK : ∀ x, x ∈ mk → x.2.2.length ≤ K)
    (hb : ∀ m, m ∈ bag' → m ∈ bag ∨ m ∈ out) : ∃ g', Grp g' n (T + 1) K (nodes.set i s') bag' ∧ Ext g g' ∧ g'.made = mk ++ g.made := by
  obtain ⟨g', lc, hg', hn', ho, hm⟩ := hx
  refine ⟨g', ⟨by rw [List.length_set]; exact h.len, hg', fun j s e => ?_, fun m hm => ?_, by rw [hm, List.length_append]; have := h.mT; omega, fun x hx => ?_⟩, lc.ext, hm⟩
  · rw [List.getElem?_set] at e
    split at e
    · rename_i q
      split at e
      · cases e; subst q; exact ⟨hn', hl, ht⟩
      · cases e
    · rename_i q
      obtain ⟨a, b, c⟩ := h.node j s e
      exact ⟨a.other h.gok lc fun x => q x.symm, b, by omega⟩
  · rcases hb m hm with x | x
    · have := h.bag m x
      exact ⟨this.1.ext h.gok lc.ext, by omega⟩
    · obtain ⟨a, b, c⟩ := ho m x
      exact ⟨a, by omega⟩
  · rw [hm] at hx
    rcases List.mem_append.1 hx with y | y
    · exact hmK x y
    · exact h.mK x y
theorem Grp.sub (h : Grp g n T K nodes bag) {bag' : List Ms} (hb : ∀ m, m ∈ bag' → m ∈ bag) : Grp g n T K nodes bag' := ⟨h.len, h.gok, h.node, fun m hm => h.bag m (hb m hm), h.mT, h.mK⟩
theorem Grp.up (h : Grp g n T K nodes bag) {T' : Nat} (hT : T ≤ T') : Grp g n T' K nodes bag := ⟨h.len, h.gok, fun i s e => by
  obtain ⟨a, b, c⟩ := h.node i s e
  exact ⟨a, b, by omega⟩, fun m hm => ⟨(h.bag m hm).1, by have := (h.bag m hm).2; omega⟩, by have := h.mT; omega, h.mK⟩

def Stat (n T K : Nat) (nodes : List Nd) (bag : List Ms) (ldm : Nat → Option Nat) (row : List (List UInt8)) (pr : List UInt8 → Nat) : Prop :=
  ∃ g, Grp g n T K nodes bag ∧ Obs g n ldm row pr
variable {ldm : Nat → Option Nat} {row : List (List UInt8)} {pr : List UInt8 → Nat} {i : Nat} {s : Nd}

theorem filter_nil {mk : List (Nat × Nat × List UInt8)} (h : ∀ x, x ∈ mk → x.2.2 = []) {s : List UInt8} (hs : s ≠ []) : (mk.filter fun x => x.2.2 == s).length = 0 := by
  rw [List.length_eq_zero_iff, List.filter_eq_nil_iff]
  intro x hx
  rw [h x hx]
  simpa using hs
theorem Stat.lt (h : Stat n T K nodes bag ldm row pr) (e : nodes[i]? = some s) : i < n := by
  obtain ⟨g, hg, _⟩ := h
  have := get_lt e; rw [hg.len] at this; exact this
theorem Nd.win_term : s.win.term = s.term := rfl
theorem Nd.elect_term : s.elect.1.term ≤ s.term + 1 := by
  have h : s.stand.term = s.term + 1 := by show (if s.term < s.term + 1 then s.term + 1 else s.term) = _; rw [if_pos (by omega)]
  unfold Nd.elect
  split
  · show s.term ≤ _; omega
  · split
    · show s.stand.win.term ≤ _
      rw [Nd.win_term, h]; exact Nat.le_refl _
    · show s.stand.term ≤ _
      omega
theorem Nd.hear_term {m : Ms} : (s.hear m).1.term = s.term := by
  unfold Nd.hear
  cases m.x with
  | ask lt k => simp only; unfold Nd.gives; split <;> rfl
  | vote b =>
    simp only; unfold Nd.counts; split
    · rfl
    · simp only; split <;> rfl
  | take a lt c rs =>
    have h0 : (s.follow s.term).term = s.term := by show (if s.term < s.term then s.term else s.term) = _; split <;> rfl
    simp only; unfold Nd.takes; split
    · rfl
    · simp only; split
      · exact h0
      · split <;> exact h0
  | took ok k =>
    simp only; unfold Nd.hears
    cases s.lead with
    | none => rfl
    | some p =>
      simp only; split
      · rfl
      · split
        · rfl
        · split <;> rfl
  | older => rfl
theorem Nd.receive_term {m : Ms} : (s.receive m).1.term ≤ max s.term m.term := by
  unfold Nd.receive
  split
  · exact Nat.le_max_left _ _
  · rw [Nd.hear_term]
    split
    · show (if s.term < m.term then m.term else s.term) ≤ _
      split <;> omega
    · exact Nat.le_max_left _ _

theorem Stat.elect (h : Stat n T K nodes bag ldm row pr) (e : nodes[i]? = some s) {bag' : List Ms} (hb : ∀ m, m ∈ bag' → m ∈ bag ∨ m ∈ s.elect.2) : Stat n (T + 1) K (nodes.set i s.elect.1) bag' ldm row pr := by
  have hi := h.lt e
  obtain ⟨g, hg, ho⟩ := h
  obtain ⟨a, b, c⟩ := hg.node i s e
  obtain ⟨mk, m1, m2, m3, m4⟩ := a.elect hg.gok hi b
  obtain ⟨g', g1, g2, g3⟩ := hg.move hi m3 m4 (Nat.le_trans Nd.elect_term (by omega)) m2 (fun x hx => by rw [m1 x hx]; simp) hb
  exact ⟨g', g1, ho.ext hg.gok g2 g3 fun s hs => by rw [filter_nil m1 hs]; simp⟩
theorem Stat.receive (h : Stat n T K nodes bag ldm row pr) {m : Ms} (hm : m ∈ bag) (e : nodes[m.dst]? = some s) {bag' : List Ms} (hb : ∀ x, x ∈ bag' → x ∈ bag ∨ x ∈ (s.receive m).2) : Stat n (T + 1) K (nodes.set m.dst (s.receive m).1) bag' ldm row pr := by
  have hi := h.lt e
  obtain ⟨g, hg, ho⟩ := h
  obtain ⟨a, b, c⟩ := hg.node _ s e
  obtain ⟨q1, q2⟩ := hg.bag m hm
  obtain ⟨mk, m1, m2, m3, m4⟩ := a.receive hg.gok hi q1 rfl b
  obtain ⟨g', g1, g2, g3⟩ := hg.move hi m3 m4 (Nat.le_trans Nd.receive_term (by omega)) m2 (fun x hx => by rw [m1 x hx]; simp) hb
  exact ⟨g', g1, ho.ext hg.gok g2 g3 fun s hs => by rw [filter_nil m1 hs]; simp⟩
theorem Stat.beat (h : Stat n T K nodes bag ldm row pr) (e : nodes[i]? = some s) {bag' : List Ms} (hb : ∀ m, m ∈ bag' → m ∈ bag ∨ m ∈ s.beat) : Stat n T K nodes bag' ldm row pr := by
  have hi := h.lt e
  obtain ⟨g, hg, ho⟩ := h
  obtain ⟨a, b, c⟩ := hg.node _ s e
  refine ⟨g, ⟨hg.len, hg.gok, hg.node, fun m hm => ?_, hg.mT, hg.mK⟩, ho⟩
  rcases hb m hm with x | x
  · exact hg.bag m x
  · obtain ⟨q1, q2, q3⟩ := a.beat hg.gok hi b m x
    exact ⟨q1, by omega⟩
theorem Stat.propose (h : Stat n T K nodes bag ldm row pr) (e : nodes[i]? = some s) {nx mt : List Nat} (hl : s.lead = some (nx, mt)) {b : List UInt8} (hb : b.length ≤ K) {pr' : List UInt8 → Nat} (hp : ∀ x, x ≠ [] → pr x + (if x = b then 1 else 0) ≤ pr' x) :
    Stat n (T + 1) K (nodes.set i (s.add nx mt b)) bag ldm row pr' := by
  have hi := h.lt e
  obtain ⟨g, hg, ho⟩ := h
  obtain ⟨a, b1, c⟩ := hg.node i s e
  have m3 := a.propose hg.gok hi hl b
  obtain ⟨g', g1, g2, g3⟩ := hg.move hi m3.1 (fun _ => m3.2) (by show s.term ≤ _; omega) (by simp) (fun x hx => by simp at hx; subst hx; exact hb) (bag' := bag) (fun m hm => .inl hm)
  refine ⟨g', g1, ho.ext hg.gok g2 g3 fun x hx => ?_⟩
  have := hp x hx
  by_cases q : x = b
  · subst q; simpa using this
  · rw [if_neg q] at this
    rw [List.filter_cons]
    simp only [show (b == x) = false by simpa using fun z => q z.symm]
    simpa using this
theorem Stat.sub (h : Stat n T K nodes bag ldm row pr) {bag' : List Ms} (hb : ∀ m, m ∈ bag' → m ∈ bag) : Stat n T K nodes bag' ldm row pr := by
  obtain ⟨g, hg, ho⟩ := h
  exact ⟨g, hg.sub hb, ho⟩
theorem Stat.up (h : Stat n T K nodes bag ldm row pr) {T' : Nat} (hT : T ≤ T') : Stat n T' K nodes bag ldm row pr := by
  obtain ⟨g, hg, ho⟩ := h
  exact ⟨g, hg.up hT, ho⟩


end
end Go.Rf
namespace Go.Proofs.Ytgdmfagmpfalbaa
open Go.Proofs.Try
open Go.X
open Go.Rf (Rec XM Ms Nd)

def recB (r : Rec) : List UInt8 := numB r.term ++ encB r.bs
def recsB (l : List Rec) : List UInt8 := numB l.length ++ l.flatMap recB
def flagN (b : Bool) : Nat := if b then 1 else 0
def xB : XM → List UInt8
  | .ask t n => [1, t, n].flatMap numB
  | .vote g => [2, flagN g].flatMap numB
  | .take a lt c rs => [3, a, lt, c].flatMap numB ++ recsB rs
  | .took ok n => [4, flagN ok, n].flatMap numB
  | .older => [5].flatMap numB
def msgB (m : Ms) : List UInt8 := [m.src, m.dst, m.term].flatMap numB ++ xB m.x

structure RecW where
  r : Rec
  p : Option Addr
  c : Nat
abbrev RecW.cells (w : RecW) : List Value := [.int .u64 w.r.term, .slice w.p w.r.bs.length w.c]
theorem RecW.len (w : RecW) : w.cells.length = 2 := rfl
theorem RecW.one (x : RecW) : ∀ v, v ∈ x.cells → oneC v = true := by
  intro v hv
  simp only [RecW.cells, List.mem_cons, List.not_mem_nil, or_false] at hv
  rcases hv with rfl | rfl <;> rfl
structure RecW.ok (G : Assn) (w : RecW) : Prop where
  rd : SlR [G] 1 (.slice w.p w.r.bs.length w.c) (bytesV w.r.bs)
  n : w.r.bs.length ≤ 65536
  t : w.r.term ≤ 1048576

theorem recB_len (r : Rec) (h1 : r.bs.length ≤ 65536) (h2 : r.term ≤ 1048576) : (recB r).length ≤ 65556 := by
  have := numB_len r.term (by omega)
  have := numB_len r.bs.length (by omega)
  simp only [recB, encB, List.length_append]; omega
theorem recs_len : ∀ (l : List RecW), (∀ w, w ∈ l → w.r.bs.length ≤ 65536 ∧ w.r.term ≤ 1048576) → (l.flatMap fun w => recB w.r).length ≤ 65556 * l.length
  | [], _ => by simp
  | w :: l, h => by
    have h1 := recs_len l fun x hx => h x (List.mem_cons_of_mem _ hx)
    have h2 := h w List.mem_cons_self
    have h3 := recB_len w.r h2.1 h2.2
    rw [List.flatMap_cons, List.length_append, List.length_cons]; omega

theorem clone_spec (G : Assn) (sp : Option Addr) (sc : Nat) (bs : List UInt8) (hs : SlR [G] 1 (.slice sp bs.length sc) (bytesV bs)) (hn : bs.length ≤ 140737488355328) :
    FSpec Try.prog 32 [.slice sp bs.length sc] [G] (fun v B => ∃ p c, v = .slice p bs.length c ∧ B = [own 5 1 (.slice p bs.length c) (bytesV bs), G]) := by
  refine FSpec.of func32 rfl ntmps32 rfl fun W0 F => ?_
  refine J.seq <| J.region <| J.p rfl (Q.asg rfl) <| J.nil <| J.then_n <| J.seq <| J.seq <| J.region <| J.m rfl <| J.p rfl (Q.eqlsl runUnderlying41 rfl rfl) <| J.nil <| J.then_n ?_
  refine J.kases 4 rfl (fun hc4 => ?_) (fun hc4 => ?_)
  ·
   refine J.cond_t rfl <| J.seq <| J.region <| J.p rfl (Q.asg rfl) <| J.nil <| J.then_n <| J.cret <| J.then_r ?_
   have hb : bs = [] := by
     cases sp with
     | none =>
       rcases hs with ⟨_, c, e, hx⟩ | ⟨b, off, len, cap, e, _⟩
       · simpa [bytesV] using hx
       · cases e
     | some a => simp at hc4
   subst hb
   refine J.give (own.nil 5 1 _) ?_
   refine J.ret1 (B := [own 5 1 (.slice none 0 0) [], G]) rfl rfl ⟨none, 0, rfl, rfl⟩ rfl
  refine J.cond_f rfl <| J.cskip <| J.then_n <| J.seq <| J.region ?_
  refine J.c rfl rfl (C.bslG (l := []) runUnderlying41 sizeOf5 zeroValue5 (by decide) rfl rfl rfl rfl rfl) ?_
  rintro _ _ ⟨b5, rfl, rfl⟩
  refine J.norm rfl ?_
  refine J.conv (Y := own 5 1 (.slice (some ⟨b5, 0, none⟩) 0 0) []) 0 rfl (own.of_pt rfl (Nat.le_refl _) (by simp) (by simp) (by simp)) ?_
  refine J.m rfl ?_
  refine J.c rfl rfl (C.app (i := 0) runUnderlying41 runUnderlying41 typeInfo5 sizeOf5 zeroValue5 rfl rfl rfl (hs.within (i := 1) rfl) (bytesV_one bs) (by rw [show Try.t5.bytes = 1 from rfl]; omega) (by decide)) ?_
  rintro _ _ ⟨p7, c7, rfl, rfl⟩
  refine J.norm rfl <| J.p rfl (Q.asg rfl) <| J.nil <| J.then_n <| J.cret ?_
  refine J.ret1 (B := [own 5 1 (.slice p7 (0 + bs.length) c7) ([] ++ bytesV bs), G]) rfl rfl ⟨p7, c7, by rw [Nat.zero_add], by rw [Nat.zero_add, List.nil_append]⟩ rfl
end Go.Proofs.Ytgdmfagmpfalbaa
namespace Go.Proofs.Ytgdmfagmpfalbaa
open Go.Proofs.Try
open Go.X

theorem u64_in {n : Int} (h : 0 ≤ n ∧ n ≤ 18446744073709551615) : IntKind.u64.wrap n = n := by
  unfold IntKind.wrap
  simp only [IntKind.bits, IntKind.signed]
  have : n % 18446744073709551616 = n := Int.emod_eq_of_lt h.1 (by omega)
  simp [this]
theorem lit_slr {b n : Nat} {l : List Value} {E : TypeId} (h : l.length = n) : SlR [pt b (.cells l.toArray E (0, 0))] 1 (.slice (some ⟨b, 0, none⟩) n n) l :=
  SlR.pt (D := [pt b (.cells l.toArray E (0, 0))]) 0 rfl (by rw [h, Nat.mul_one]) (fun j u h => by rw [Nat.zero_add]; exact h)

def encN (n : Nat) : Value := .int .u64 n

theorem flag_spec (b : Bool) : FSpec Try.prog 51 [.bool b] [] (fun v B => v = .int .u64 (flagN b : Nat) ∧ B = []) := by
  refine FSpec.of func51 rfl ntmps51 rfl fun W0 F => ?_
  refine J.seq <| J.region <| J.p rfl (Q.asg rfl) <| J.nil <| J.then_n <| J.seq <| J.seq <| J.region <| J.m rfl <| J.nil <| J.then_n ?_
  refine J.kases 3 rfl (fun hc3 => ?_) (fun hc3 => ?_)
  ·
   refine J.cond_t rfl <| J.seq <| J.region <| J.p rfl (Q.asg rfl) <| J.nil <| J.then_n <| J.cret <| J.then_r ?_
   subst hc3
   refine J.ret1 (B := []) rfl rfl ⟨rfl, rfl⟩ rfl
  refine J.cond_f rfl <| J.cskip <| J.then_n <| J.seq <| J.region <| J.p rfl (Q.asg rfl) <| J.nil <| J.then_n <| J.cret ?_
  subst hc3
  refine J.ret1 (B := []) rfl rfl ⟨rfl, rfl⟩ rfl

theorem numbers_spec (G : Assn) (p : Option Addr) (c : Nat) (bs : List UInt8) (vp : Option Addr) (vn vc : Nat) (vs : List Nat) (hr : SlR [G] 1 (.slice vp vn vc) (vs.map encN)) (hn : bs.length ≤ 1073741824) (hl : vs.length ≤ 1048576) (hv : ∀ v, v ∈ vs → v ≤ 18446744073709551615) :
    FSpec Try.prog 50 [.slice p bs.length c, .slice vp vn vc] [own 5 1 (.slice p bs.length c) (bytesV bs), G]
    (fun u B => ∃ p' c', u = .slice p' (bs ++ vs.flatMap numB).length c' ∧ B = [own 5 1 (.slice p' (bs ++ vs.flatMap numB).length c') (bytesV (bs ++ vs.flatMap numB)), G]) := by
  have hlen : vs.length = vn := by have := hr.len; simp at this; omega
  refine FSpec.of func50 rfl ntmps50 rfl fun W0 F => ?_
  refine J.seq <| J.region <| J.p rfl (Q.asg rfl) <| J.nil <| J.then_n <| J.seq <| J.seq <| J.region <| J.m rfl <| J.p rfl (Q.lenSl runUnderlying124 rfl) <| J.m rfl <| J.nil <| J.then_n <| J.block ?_
  refine J.loop (fun z : Nat × Option Addr × Nat => z.1 ≤ vn ∧ ((vs.take z.1).flatMap numB).length ≤ 10 * z.1) (fun z => vn - z.1) (fun z => [(0, .slice z.2.1 (bs ++ (vs.take z.1).flatMap numB).length z.2.2), (7, .slice vp vn vc), (8, .int .i64 vn), (9, .int .i64 z.1)]) (fun z => [own 5 1 (.slice z.2.1 (bs ++ (vs.take z.1).flatMap numB).length z.2.2) (bytesV (bs ++ (vs.take z.1).flatMap numB)), G, F]) (0, p, c) ⟨Nat.zero_le _, Nat.le_refl _⟩ ⟨(by show _ = some (Value.slice p (bs ++ []).length c); rw [List.append_nil]; rfl), rfl, rfl, rfl, trivial⟩ (by show _ = [own 5 1 (.slice p (bs ++ []).length c) (bytesV (bs ++ [])), _, _]; rw [List.append_nil]; rfl) fun z hz => ?_
  obtain ⟨i, q, d⟩ := z
  obtain ⟨hi, hb⟩ := hz
  dsimp only at hi hb
  refine J.seq <| J.region <| J.p rfl (Q.lss rfl rfl) <| J.nil <| J.then_n <| J.seq ?_
  refine J.kases 10 rfl (fun hc10 => ?_) (fun hc10 => ?_)
  ·
   refine J.cond_t rfl <| J.cskip <| J.then_n <| J.seq <| J.block <| J.seq ?_
   obtain ⟨b, off, hvp, hrd⟩ := hr.some_ (by omega)
   obtain ⟨v, hvi⟩ : ∃ v, vs[i]? = some v := ⟨_, List.getElem?_eq_getElem (by omega)⟩
   have hvb := hv v (List.mem_of_getElem? hvi)
   have hnl := numB_len v hvb
   have hft : (vs.take (i + 1)).flatMap numB = (vs.take i).flatMap numB ++ numB v := by
     obtain ⟨h1, h2⟩ := List.getElem?_eq_some_iff.1 hvi
     rw [List.take_succ_eq_append_getElem h1, List.flatMap_append, h2, List.flatMap_cons, List.flatMap_nil, List.append_nil]
   refine J.slot 7 (.slice (some ⟨b, off, none⟩) vn vc) rfl (by rw [hvp]) ?_
   refine J.region <| J.p rfl (Q.ia runUnderlying124 sizeOf56 rfl rfl (by omega) (by omega)) ?_
   refine J.p rfl (Q.ld isAgg56 rfl (((hrd i (encN v) (by simp [hvi])).within (i := 1) rfl).cast (by simp))) ?_
   refine J.p rfl (Q.asg rfl) <| J.nil <| J.then_n <| J.region <| J.m rfl <| J.m rfl ?_
   refine J.call call56 (number_spec q d (bs ++ (vs.take i).flatMap numB) v (by rw [List.length_append]; omega) hvb) [0] rfl rfl rfl rfl ?_
   rintro _ _ ⟨p15, c15, rfl, rfl⟩
   refine J.norm rfl <| J.p rfl (Q.asg rfl) <| J.nil <| J.blk_n <| J.then_n <| J.region <| J.p rfl (Q.add64 rfl rfl (by omega)) <| J.m rfl <| J.nil ?_
   have e1 : bs ++ (vs.take (i + 1)).flatMap numB = (bs ++ (vs.take i).flatMap numB) ++ numB v := by rw [hft, List.append_assoc]
   refine J.again (i + 1, p15, c15) ⟨by show i + 1 ≤ vn; omega, by show ((vs.take (i + 1)).flatMap numB).length ≤ 10 * (i + 1); rw [hft, List.length_append]; omega⟩ (by show vn - (i + 1) < vn - i; omega) ⟨(by show _ = some (Value.slice p15 (bs ++ (vs.take (i + 1)).flatMap numB).length c15); rw [e1]; rfl), (by show _ = some (Value.slice vp vn vc); rw [hvp]; rfl), rfl, rfl, trivial⟩ ?_
   show _ = [own 5 1 (.slice p15 (bs ++ (vs.take (i + 1)).flatMap numB).length c15) (bytesV (bs ++ (vs.take (i + 1)).flatMap numB)), _, _]
   rw [e1]
  refine J.cond_f rfl <| J.exit <| J.then_x <| J.lp_x <| J.blk_x <| J.then_n <| J.seq <| J.region <| J.m rfl <| J.p rfl (Q.asg rfl) <| J.nil <| J.then_n <| J.cret ?_
  have hin : i = vn := by have h := hc10; dsimp only at h; omega
  have htk : vs.take i = vs := List.take_of_length_le (by omega)
  refine J.ret1 (B := [own 5 1 (.slice q (bs ++ vs.flatMap numB).length d) (bytesV (bs ++ vs.flatMap numB)), G]) rfl rfl ⟨q, d, by show Value.slice q (bs ++ (vs.take i).flatMap numB).length d = _; rw [htk], rfl⟩ ?_
  show [own 5 1 (.slice q (bs ++ (vs.take i).flatMap numB).length d) (bytesV (bs ++ (vs.take i).flatMap numB)), _, _] = _
  rw [htk]; rfl

theorem numB_first (w : Nat) : ∃ (c0 : Nat) (r : List UInt8), numB w = UInt8.ofNat c0 :: r ∧ c0 < 256 ∧ c0 % 128 = w % 128 ∧ (c0 < 128 ↔ w < 128) ∧ (w < 128 → r = [] ∧ c0 = w) ∧ (¬ w < 128 → r = numB (w / 128)) := by
  by_cases h : w < 128
  · rw [numB_small h]
    exact ⟨w, [], rfl, by omega, rfl, Iff.rfl, fun _ => ⟨rfl, rfl⟩, fun a => absurd h a⟩
  · rw [numB_step h]
    exact ⟨_, _, rfl, by omega, by omega, by omega, fun a => absurd a h, fun _ => rfl⟩

def smallB (w : Nat) : Bool := decide (w < 128)

theorem readNumber_spec (G : Assn) (p : Option Addr) (n c : Nat) (bs rest : List UInt8) (v : Nat) (hr : SlR [G] 1 (.slice p n c) (bytesV bs)) (hbs : bs = numB v ++ rest) (hv : v ≤ 18446744073709551615) (hn : n ≤ 1099511627776) :
    FSpec Try.prog 54 [.slice p n c] [G] (fun u B => u = .tuple #[.int .u64 v, .int .i64 (numB v).length, .int .i64 0] ∧ B = [G]) := by
  have hlen : bs.length = n := by have := hr.len; simp [bytesV] at this; omega
  have hnv := numB_len v hv
  refine FSpec.of func54 rfl ntmps54 rfl fun W0 F => ?_
  refine J.seq <| J.region <| J.p rfl (Q.asg rfl) <| J.p rfl (Q.asg rfl) <| J.p rfl (Q.asg rfl) <| J.nil <| J.then_n <| J.seq <| J.region <| J.p rfl (Q.asg rfl) <| J.nil <| J.then_n <| J.seq <| J.seq <| J.region <| J.m rfl <| J.p rfl (Q.lenSl runUnderlying41 rfl) <| J.m rfl <| J.nil <| J.then_n <| J.block ?_
  refine J.loop (fun z : Nat × Nat × Nat => z.1 + (numB z.2.1).length = (numB v).length ∧ bs.drop z.1 = numB z.2.1 ++ rest ∧ z.2.2 + 2 ^ (7 * z.1) * z.2.1 = v ∧ z.2.2 < 2 ^ (7 * z.1) ∧ (0 < z.1 → 1 ≤ z.2.1)) (fun z => n - z.1) (fun z => [(0, .slice p n c), (5, .int .u64 z.2.2), (8, .slice p n c), (9, .int .i64 n), (10, .int .i64 z.1)]) (fun _ => [G, F]) (0, v, 0) ⟨Nat.zero_add _, hbs, by show 0 + 2 ^ 0 * v = v; omega, by show 0 < 2 ^ 0; decide, fun h => absurd h (Nat.lt_irrefl 0)⟩ ⟨rfl, rfl, rfl, rfl, rfl, trivial⟩ rfl fun z hz => ?_
  obtain ⟨i, w, acc⟩ := z
  obtain ⟨h1, h2, h3, h4, h5⟩ := hz
  dsimp only at h1 h2 h3 h4 h5
  obtain ⟨c0, r, f1, f2, f3, f4, f5, f6⟩ := numB_first w
  have hci : bs[i]? = some (UInt8.ofNat (c0)) := by
    have := congrArg (fun l : List UInt8 => l[0]?) h2
    simp only [List.getElem?_drop, f1] at this
    simpa using this
  have hil : i < n := by have := (List.getElem?_eq_some_iff.1 hci).1; omega
  have hi9 : i ≤ 9 := by rw [f1] at h1; simp at h1; omega
  have hct : (UInt8.ofNat (c0)).toNat = c0 := by simp; omega
  refine J.seq <| J.region <| J.p rfl (Q.lss rfl rfl) <| J.nil <| J.then_n <| J.seq ?_
  refine J.cases 11 rfl (fun hc11 => ?_) (fun hc11 => ?_)
  ·
   replace hc11 := X.nm hc11
   skip
   refine J.cond_t rfl <| J.cskip <| J.then_n <| J.seq <| J.block <| J.seq ?_
   obtain ⟨b, off, hp, hrd⟩ := hr.some_ (by omega)
   refine J.slot 8 (.slice (some ⟨b, off, none⟩) n c) rfl (by rw [hp]) ?_
   refine J.region <| J.m rfl <| J.p rfl (Q.ia runUnderlying41 sizeOf5 rfl rfl (by omega) (by omega)) ?_
   refine J.p rfl (Q.ld isAgg5 rfl (((hrd i (.int .u8 (c0)) (by simp [bytesV, byteV, hci, hct])).within (i := 0) rfl).cast (by simp))) ?_
   refine J.p rfl (Q.asg rfl) <| J.p rfl (Q.asg rfl) <| J.nil <| J.then_n <| J.seq <| J.seq ?_
   have c9 : i = 9 → 1 < c0 → False := fun e1 e2 => by
     subst e1
     have e3 : (2 : Nat) ^ (7 * 9) = 9223372036854775808 := by decide
     rw [e3] at h3
     have e4 : w ≤ 1 := by omega
     have := (f5 (by omega)).2
     omega
   have hle : 2 ^ (7 * i) * (w % 128) ≤ 2 ^ (7 * i) * w := Nat.mul_le_mul_left _ (Nat.mod_le _ _)
   have hb64 : acc + 2 ^ (7 * i) * (w % 128) < 18446744073709551616 := by omega
   refine J.region <| J.m rfl <| J.p rfl (Q.eql rfl rfl) <| J.m rfl ?_
   refine J.kases 17 rfl (fun hb17 => ?_) (fun hb17 => ?_)
   ·
    refine J.m rfl <| J.p rfl (Q.gtr rfl rfl) <| J.p rfl (Q.pick_t rfl rfl) <| J.nil <| J.then_n ?_
    refine J.cases 20 rfl (fun hc20 => ?_) (fun hc20 => ?_)
    ·
     first | (exfalso; have q1 := hb17; have q2 := of_decide_eq_true hc20; dsimp only at q1; exact c9 (by omega) (by omega)) | cases hc20
    replace hc20 := X.nm hc20
    refine J.cond_f rfl <| J.cskip <| J.then_n <| J.seq <| J.region <| J.m rfl <| J.m rfl <| J.p rfl (Q.and rfl rfl) ?_
    refine J.slot 23 (.int .u8 ((w % 128 : Nat) : Int)) rfl (by show Value.int .u8 _ = _; rw [and127 f2, f3]) ?_
    refine J.p rfl (Q.conv runUnderlying5 runUnderlying56 rfl) ?_
    refine J.slot 24 (.int .u64 ((w % 128 : Nat) : Int)) rfl (by rw [wrap64 (by omega)]) ?_
    refine J.m rfl <| J.p rfl (Q.mul64 rfl rfl (by omega)) ?_
    refine J.slot 26 (.int .i64 ((7 * i : Nat) : Int)) rfl (by rw [Int.natCast_mul]; rfl) ?_
    refine J.p rfl (Q.shl rfl rfl (by omega)) ?_
    refine J.slot 27 (.int .u64 ((2 ^ (7 * i) * (w % 128) : Nat) : Int)) rfl (by
      have hmin : min (((7 * i : Nat) : Int).toNat) IntKind.u64.bits = 7 * i := by show min _ 64 = _; omega
      have e : ((w % 128 : Nat) : Int) * 2 ^ (7 * i) = ((2 ^ (7 * i) * (w % 128) : Nat) : Int) := by rw [Int.natCast_mul, Int.mul_comm, Int.natCast_pow]; rfl
      rw [hmin, e, wrap64 (by omega)]) ?_
    refine J.p rfl (Q.or rfl rfl) ?_
    refine J.slot 28 (.int .u64 ((acc + 2 ^ (7 * i) * (w % 128) : Nat) : Int)) rfl (by show Value.int .u64 _ = _; rw [or64 h4 hb64]) ?_
    refine J.p rfl (Q.asg rfl) <| J.nil <| J.then_n <| J.seq <| J.region <| J.m rfl <| J.p rfl (Q.lss rfl rfl) ?_
    refine J.slot 30 (.bool (smallB w)) rfl (by show Value.bool (decide ((c0 : Int) < 128)) = _; unfold smallB; rw [decide_eq_decide.2 (show (c0 : Int) < 128 ↔ w < 128 by omega)]) ?_
    refine J.nil <| J.then_n ?_
    refine J.kases 30 rfl (fun hc30 => ?_) (fun hc30 => ?_)
    ·
     refine J.cond_t rfl <| J.seq <| J.seq ?_
     have hw : w < 128 := of_decide_eq_true hc30
     refine J.region <| J.m rfl <| J.p rfl (Q.eql rfl rfl) <| J.m rfl ?_
     refine J.kases 33 rfl (fun hb33 => ?_) (fun hb33 => ?_)
     ·
      refine J.m rfl <| J.p rfl (Q.gtr rfl rfl) <| J.p rfl (Q.pick_t rfl rfl) <| J.nil <| J.then_n ?_
      refine J.cases 36 rfl (fun hc36 => ?_) (fun hc36 => ?_)
      ·
       first | (exfalso; have q1 := hb33; have q2 := of_decide_eq_true hc36; dsimp only at q2; have q3 := h5 (by omega); have q4 := (f5 hw).2; omega) | cases hc36
      replace hc36 := X.nm hc36
      refine J.cond_f rfl <| J.cskip <| J.then_n <| J.seq <| J.region <| J.m rfl <| J.m rfl <| J.p rfl (Q.add64 rfl rfl (by omega)) <| J.p rfl (Q.asg rfl) <| J.p rfl (Q.asg rfl) <| J.p rfl (Q.asg rfl) <| J.nil <| J.then_n <| J.cret <| J.blk_r <| J.then_r <| J.lp_r <| J.blk_r <| J.then_r ?_
      refine J.ret3 (B := [G]) rfl rfl rfl rfl ⟨?_, rfl⟩ rfl
      have e1 : acc + 2 ^ (7 * i) * (w % 128) = v := by rw [Nat.mod_eq_of_lt hw]; exact h3
      have e2 : (numB v).length = i + 1 := by rw [f1, (f5 hw).1] at h1; simp at h1; omega
      rw [e1, e2]
      rfl
     refine J.k rfl <| J.k rfl <| J.p rfl (Q.pick_f rfl rfl) <| J.nil <| J.then_n <| J.cond_f rfl <| J.cskip <| J.then_n <| J.seq <| J.region <| J.m rfl <| J.m rfl <| J.p rfl (Q.add64 rfl rfl (by omega)) <| J.p rfl (Q.asg rfl) <| J.p rfl (Q.asg rfl) <| J.p rfl (Q.asg rfl) <| J.nil <| J.then_n <| J.cret <| J.blk_r <| J.then_r <| J.lp_r <| J.blk_r <| J.then_r ?_
     refine J.ret3 (B := [G]) rfl rfl rfl rfl ⟨?_, rfl⟩ rfl
     have e1 : acc + 2 ^ (7 * i) * (w % 128) = v := by rw [Nat.mod_eq_of_lt hw]; exact h3
     have e2 : (numB v).length = i + 1 := by rw [f1, (f5 hw).1] at h1; simp at h1; omega
     rw [e1, e2]
     rfl
    refine J.cond_f rfl <| J.cskip <| J.blk_n <| J.then_n <| J.region <| J.p rfl (Q.add64 rfl rfl (by omega)) <| J.m rfl <| J.nil ?_
    have hw : ¬ w < 128 := of_decide_eq_false hc30
    have hp7 : (2 : Nat) ^ (7 * (i + 1)) = 2 ^ (7 * i) * 128 := by rw [show 7 * (i + 1) = 7 * i + 7 by omega, Nat.pow_add]
    have hmd : 2 ^ (7 * i) * w = 2 ^ (7 * i) * (w % 128) + 2 ^ (7 * i) * 128 * (w / 128) := by rw [Nat.mul_assoc, ← Nat.mul_add]; congr 1; omega
    have hlt : 2 ^ (7 * i) * (w % 128) + 2 ^ (7 * i) ≤ 2 ^ (7 * i) * 128 := by rw [← Nat.mul_succ]; exact Nat.mul_le_mul_left _ (by omega)
    refine J.again (i + 1, w / 128, acc + 2 ^ (7 * i) * (w % 128)) ⟨?_, ?_, ?_, ?_, fun _ => by show 1 ≤ w / 128; omega⟩ (by show n - (i + 1) < n - i; omega) ⟨rfl, rfl, (by show _ = some (Value.slice p n c); rw [hp]; rfl), rfl, rfl, trivial⟩ rfl
    · show i + 1 + (numB (w / 128)).length = _
      rw [f1, f6 hw, List.length_cons] at h1; omega
    · show bs.drop (i + 1) = numB (w / 128) ++ rest
      rw [← List.drop_drop (i := 1) (j := i), h2, f1, f6 hw]; rfl
    · show acc + 2 ^ (7 * i) * (w % 128) + 2 ^ (7 * (i + 1)) * (w / 128) = v
      rw [hp7]; omega
    · show acc + 2 ^ (7 * i) * (w % 128) < 2 ^ (7 * (i + 1))
      rw [hp7]; omega
   refine J.k rfl <| J.k rfl <| J.p rfl (Q.pick_f rfl rfl) <| J.nil <| J.then_n <| J.cond_f rfl <| J.cskip <| J.then_n <| J.seq <| J.region <| J.m rfl <| J.m rfl <| J.p rfl (Q.and rfl rfl) ?_
   refine J.slot 23 (.int .u8 ((w % 128 : Nat) : Int)) rfl (by show Value.int .u8 _ = _; rw [and127 f2, f3]) ?_
   refine J.p rfl (Q.conv runUnderlying5 runUnderlying56 rfl) ?_
   refine J.slot 24 (.int .u64 ((w % 128 : Nat) : Int)) rfl (by rw [wrap64 (by omega)]) ?_
   refine J.m rfl <| J.p rfl (Q.mul64 rfl rfl (by omega)) ?_
   refine J.slot 26 (.int .i64 ((7 * i : Nat) : Int)) rfl (by rw [Int.natCast_mul]; rfl) ?_
   refine J.p rfl (Q.shl rfl rfl (by omega)) ?_
   refine J.slot 27 (.int .u64 ((2 ^ (7 * i) * (w % 128) : Nat) : Int)) rfl (by
     have hmin : min (((7 * i : Nat) : Int).toNat) IntKind.u64.bits = 7 * i := by show min _ 64 = _; omega
     have e : ((w % 128 : Nat) : Int) * 2 ^ (7 * i) = ((2 ^ (7 * i) * (w % 128) : Nat) : Int) := by rw [Int.natCast_mul, Int.mul_comm, Int.natCast_pow]; rfl
     rw [hmin, e, wrap64 (by omega)]) ?_
   refine J.p rfl (Q.or rfl rfl) ?_
   refine J.slot 28 (.int .u64 ((acc + 2 ^ (7 * i) * (w % 128) : Nat) : Int)) rfl (by show Value.int .u64 _ = _; rw [or64 h4 hb64]) ?_
   refine J.p rfl (Q.asg rfl) <| J.nil <| J.then_n <| J.seq <| J.region <| J.m rfl <| J.p rfl (Q.lss rfl rfl) ?_
   refine J.slot 30 (.bool (smallB w)) rfl (by show Value.bool (decide ((c0 : Int) < 128)) = _; unfold smallB; rw [decide_eq_decide.2 (show (c0 : Int) < 128 ↔ w < 128 by omega)]) ?_
   refine J.nil <| J.then_n ?_
   refine J.kases 30 rfl (fun hc30 => ?_) (fun hc30 => ?_)
   ·
    refine J.cond_t rfl <| J.seq <| J.seq ?_
    have hw : w < 128 := of_decide_eq_true hc30
    refine J.region <| J.m rfl <| J.p rfl (Q.eql rfl rfl) <| J.m rfl ?_
    refine J.kases 33 rfl (fun hb33 => ?_) (fun hb33 => ?_)
    ·
     refine J.m rfl <| J.p rfl (Q.gtr rfl rfl) <| J.p rfl (Q.pick_t rfl rfl) <| J.nil <| J.then_n ?_
     refine J.cases 36 rfl (fun hc36 => ?_) (fun hc36 => ?_)
     ·
      first | (exfalso; have q1 := hb33; have q2 := of_decide_eq_true hc36; dsimp only at q2; have q3 := h5 (by omega); have q4 := (f5 hw).2; omega) | cases hc36
     replace hc36 := X.nm hc36
     refine J.cond_f rfl <| J.cskip <| J.then_n <| J.seq <| J.region <| J.m rfl <| J.m rfl <| J.p rfl (Q.add64 rfl rfl (by omega)) <| J.p rfl (Q.asg rfl) <| J.p rfl (Q.asg rfl) <| J.p rfl (Q.asg rfl) <| J.nil <| J.then_n <| J.cret <| J.blk_r <| J.then_r <| J.lp_r <| J.blk_r <| J.then_r ?_
     refine J.ret3 (B := [G]) rfl rfl rfl rfl ⟨?_, rfl⟩ rfl
     have e1 : acc + 2 ^ (7 * i) * (w % 128) = v := by rw [Nat.mod_eq_of_lt hw]; exact h3
     have e2 : (numB v).length = i + 1 := by rw [f1, (f5 hw).1] at h1; simp at h1; omega
     rw [e1, e2]
     rfl
    refine J.k rfl <| J.k rfl <| J.p rfl (Q.pick_f rfl rfl) <| J.nil <| J.then_n <| J.cond_f rfl <| J.cskip <| J.then_n <| J.seq <| J.region <| J.m rfl <| J.m rfl <| J.p rfl (Q.add64 rfl rfl (by omega)) <| J.p rfl (Q.asg rfl) <| J.p rfl (Q.asg rfl) <| J.p rfl (Q.asg rfl) <| J.nil <| J.then_n <| J.cret <| J.blk_r <| J.then_r <| J.lp_r <| J.blk_r <| J.then_r ?_
    refine J.ret3 (B := [G]) rfl rfl rfl rfl ⟨?_, rfl⟩ rfl
    have e1 : acc + 2 ^ (7 * i) * (w % 128) = v := by rw [Nat.mod_eq_of_lt hw]; exact h3
    have e2 : (numB v).length = i + 1 := by rw [f1, (f5 hw).1] at h1; simp at h1; omega
    rw [e1, e2]
    rfl
   refine J.cond_f rfl <| J.cskip <| J.blk_n <| J.then_n <| J.region <| J.p rfl (Q.add64 rfl rfl (by omega)) <| J.m rfl <| J.nil ?_
   have hw : ¬ w < 128 := of_decide_eq_false hc30
   have hp7 : (2 : Nat) ^ (7 * (i + 1)) = 2 ^ (7 * i) * 128 := by rw [show 7 * (i + 1) = 7 * i + 7 by omega, Nat.pow_add]
   have hmd : 2 ^ (7 * i) * w = 2 ^ (7 * i) * (w % 128) + 2 ^ (7 * i) * 128 * (w / 128) := by rw [Nat.mul_assoc, ← Nat.mul_add]; congr 1; omega
   have hlt : 2 ^ (7 * i) * (w % 128) + 2 ^ (7 * i) ≤ 2 ^ (7 * i) * 128 := by rw [← Nat.mul_succ]; exact Nat.mul_le_mul_left _ (by omega)
   refine J.again (i + 1, w / 128, acc + 2 ^ (7 * i) * (w % 128)) ⟨?_, ?_, ?_, ?_, fun _ => by show 1 ≤ w / 128; omega⟩ (by show n - (i + 1) < n - i; omega) ⟨rfl, rfl, (by show _ = some (Value.slice p n c); rw [hp]; rfl), rfl, rfl, trivial⟩ rfl
   · show i + 1 + (numB (w / 128)).length = _
     rw [f1, f6 hw, List.length_cons] at h1; omega
   · show bs.drop (i + 1) = numB (w / 128) ++ rest
     rw [← List.drop_drop (i := 1) (j := i), h2, f1, f6 hw]; rfl
   · show acc + 2 ^ (7 * i) * (w % 128) + 2 ^ (7 * (i + 1)) * (w / 128) = v
     rw [hp7]; omega
   · show acc + 2 ^ (7 * i) * (w % 128) < 2 ^ (7 * (i + 1))
     rw [hp7]; omega
  exact absurd hil (by have h := of_decide_eq_false hc11; dsimp only at h; omega)

theorem slr_drop {D : List Assn} {b off n c k : Nat} {xs : List Value} (h : ReadsN D b off xs) (hl : xs.length = n) (hk : k ≤ n) (hc : n ≤ c) : SlR D 1 (.slice (some ⟨b, off + (if c = k then 0 else k) * 1, none⟩) (n - k) (c - k)) (xs.drop k) := by
  by_cases e : n = k
  · refine .inl ⟨_, c - k, by rw [show n - k = 0 by omega], ?_⟩
    exact List.drop_eq_nil_of_le (by omega)
  · rw [if_neg (by omega), Nat.mul_one]
    refine .inr ⟨b, off + k, n - k, c - k, rfl, by rw [List.length_drop]; omega, fun j u hu => ?_⟩
    rw [List.getElem?_drop] at hu
    have := h (k + j) u hu
    rwa [← Nat.add_assoc] at this

abbrev rdA (r : Nat) (p : Option Addr) (n c : Nat) : Assn := pt r (.cells [Value.slice p n c, .int .i64 0].toArray 107 (0, 0))

theorem number_r (G : Assn) (r : Nat) (p : Option Addr) (n c : Nat) (bs rest : List UInt8) (v : Nat) (hr : SlR [G] 1 (.slice p n c) (bytesV bs)) (hbs : bs = numB v ++ rest) (hv : v ≤ 18446744073709551615) (hn : n ≤ 1099511627776) (hc : n ≤ c) :
    FSpec Try.prog 45 [.pointer (some ⟨r, 0, none⟩)] [rdA r p n c, G] (fun u B => ∃ p' n' c', u = .int .u64 v ∧ SlR [G] 1 (.slice p' n' c') (bytesV rest) ∧ n' ≤ 1099511627776 ∧ n' ≤ c' ∧ B = [rdA r p' n' c', G]) := by
  have hlen : bs.length = n := by have := hr.len; simp [bytesV] at this; omega
  have hnl : (numB v).length ≤ n := by rw [← hlen, hbs, List.length_append]; omega
  have hn0 : 0 < (numB v).length := by obtain ⟨c0, q, f1, _⟩ := numB_first v; rw [f1]; simp
  obtain ⟨b, off, rfl, hrd⟩ := hr.some_ (by omega)
  refine FSpec.of func45 rfl ntmps45 rfl fun W0 F => ?_
  refine J.conv (Y := pt r (.cells [Value.slice (some ⟨b, off, none⟩) n c, .int .i64 0].toArray 107 (0, 0))) 0 rfl (fun _ h => h) ?_
  refine J.seq <| J.region <| J.p rfl (Q.asg rfl) <| J.nil <| J.then_n <| J.seq <| J.seq <| J.region <| J.m rfl <| J.p rfl (Q.nil_ rfl) <| J.p rfl (Q.fa (n := 1) runUnderlying107 rfl rfl sizeOf38 rfl) ?_
  refine J.p rfl (Q.ldI isAgg38 rfl) ?_
  refine J.p rfl (Q.neq rfl rfl) <| J.nil <| J.then_n ?_
  refine J.cases 10 rfl (fun hc10 => ?_) (fun hc10 => ?_)
  ·
   cases hc10
  replace hc10 := X.nm hc10
  refine J.cond_f rfl <| J.cskip <| J.then_n <| J.seq <| J.region <| J.m rfl <| J.p rfl (Q.nil_ rfl) <| J.p rfl (Q.fa (n := 0) runUnderlying107 rfl rfl sizeOf41 rfl) ?_
  refine J.p rfl (Q.ldI isAgg41 rfl) ?_
  refine J.call call54 (readNumber_spec G (some ⟨b, off, none⟩) n c bs rest v hr hbs hv hn) [1] rfl rfl rfl rfl ?_
  rintro _ _ ⟨rfl, rfl⟩
  refine J.norm rfl ?_
  refine J.pick [1, 0, 2] rfl ?_
  refine J.m rfl <| J.p rfl (Q.ext rfl rfl) <| J.p rfl (Q.ext rfl rfl) <| J.p rfl (Q.ext rfl rfl) <| J.p rfl (Q.asg rfl) <| J.p rfl (Q.asg rfl) <| J.p rfl (Q.asg rfl) <| J.nil <| J.then_n <| J.seq <| J.region <| J.m rfl <| J.m rfl <| J.p rfl (Q.nil_ rfl) <| J.p rfl (Q.fa (n := 1) runUnderlying107 rfl rfl sizeOf38 rfl) ?_
  refine J.stJ rfl sizeOf38 rfl rfl rfl ?_
  refine J.nil <| J.then_n <| J.seq <| J.region <| J.m rfl <| J.m rfl <| J.p rfl (Q.nil_ rfl) <| J.p rfl (Q.fa (n := 0) runUnderlying107 rfl rfl sizeOf41 rfl) ?_
  refine J.p rfl (Q.ldI isAgg41 rfl) ?_
  refine J.m rfl <| J.p rfl (Q.slL runUnderlying41 sizeOf5 rfl rfl (by omega) (by omega)) <| J.p rfl (Q.nil_ rfl) <| J.p rfl (Q.fa (n := 0) runUnderlying107 rfl rfl sizeOf41 rfl) ?_
  refine J.stJ rfl sizeOf41 rfl rfl rfl ?_
  refine J.nil <| J.then_n <| J.seq <| J.region <| J.m rfl <| J.p rfl (Q.asg rfl) <| J.nil <| J.then_n <| J.cret ?_
  have hsl := slr_drop (k := (numB v).length) hrd (by simp [bytesV, hlen]) hnl hc
  have hdr : (bytesV bs).drop (numB v).length = bytesV rest := by rw [hbs]; simp [bytesV]
  rw [hdr] at hsl
  refine J.ret1 (B := [rdA r _ _ _, G]) rfl rfl ⟨_, _, _, rfl, hsl, by omega, by omega, rfl⟩ ?_
  simp only [Int.toNat_natCast]
  rfl
end Go.Proofs.Ytgdmfagmpfalbaa

