/-
  Rules for single operations: what each comes to, over whatever program, its types' facts handed in. No program in sight.
-/
import Derived.Test.YtdancegklkifaaaXb
import Derived.IntWalk
import Derived.Lib.Strings
namespace Go.X
set_option linter.unusedSectionVars false
set_option linter.unusedSimpArgs false
set_option linter.unusedVariables false

theorem Agree.at_ {a : Act} {L : Slots} {op : Op} (ag : Agree a L op) {x : Operand} {v : Value} (e : ev L x = some v) (h : x ∈ op.operands.toList) : a.eval x = v := ag x h v e

section
variable {P : Program} {L : Slots} {D : List Assn} {ty : TypeId}

theorem OpQ.pure_ {op : Op} {v : Value} (h : ∀ (dst : Option Tmp) (pos : String) (aft : Array Edge) (g : Option (Nat × Bool)) (a : Act) (w : World), Agree a L op → (execOp a.eval ⟨dst, op, ty, pos, aft, g⟩).run P w = .ok (.value v) w) : OpQ P op ty L D v :=
  ⟨fun dst pos aft g a _ w _ ag s => ⟨w, h dst pos aft g a w ag, s⟩⟩

theorem Q.mv {x : Operand} {v : Value} (e : ev L x = some v) : OpQ P (.move x) ty L D v :=
  .pure_ fun _ _ _ _ a w ag => by simp [execOp, ag.at_ e (by simp [Op.operands])]
theorem Q.asg {x : Operand} {v : Value} (e : ev L x = some v) : OpQ P (.assign x) ty L D v :=
  .pure_ fun _ _ _ _ a w ag => by simp [execOp, ag.at_ e (by simp [Op.operands])]
theorem Q.pick_t {c x y : Operand} {v : Value} (ec : ev L c = some (.bool true)) (e : ev L x = some v) : OpQ P (.pick c x y) ty L D v :=
  .pure_ fun _ _ _ _ a w ag => by simp [execOp, ag.at_ ec (by simp [Op.operands]), ag.at_ e (by simp [Op.operands]), asBool]
theorem Q.pick_f {c x y : Operand} {v : Value} (ec : ev L c = some (.bool false)) (e : ev L y = some v) : OpQ P (.pick c x y) ty L D v :=
  .pure_ fun _ _ _ _ a w ag => by simp [execOp, ag.at_ ec (by simp [Op.operands]), ag.at_ e (by simp [Op.operands]), asBool]

theorem Q.bin {op : BinOp} {T T' : TypeId} {x y : Operand} {p q v : Value} (ex : ev L x = some p) (ey : ev L y = some q)
    (h : ∀ w, (do eqGuard op T x y p q; binOp op T p q : Sem Value).run P w = .ok v w) : OpQ P (.binOp op T x y T') ty L D v :=
  .pure_ fun _ _ _ _ a w ag => by
    have h1 := ag.at_ ex (by simp [Op.operands])
    have h2 := ag.at_ ey (by simp [Op.operands])
    have hw := h w
    simp only [execOp, h1, h2, Sem.run_bind] at hw ⊢
    simp only [hw, Result.andThen_ok, Sem.run_pure]

theorem guard_int {op : BinOp} {T : TypeId} {x y : Operand} {k k' : IntKind} {a b : Int} (w : World) : (eqGuard op T x y (.int k a) (.int k' b)).run P w = .ok () w := by
  cases op <;> simp [eqGuard]

variable {T T' : TypeId} {x y : Operand} {k : IntKind} {a b : Int}

theorem Q.add (ex : ev L x = some (.int k a)) (ey : ev L y = some (.int k b)) : OpQ P (.binOp .add T x y T') ty L D (.int k (k.wrap (a + b))) :=
  Q.bin ex ey fun w => by simp [guard_int, binOp, Op.intArith]
theorem Q.sub (ex : ev L x = some (.int k a)) (ey : ev L y = some (.int k b)) : OpQ P (.binOp .sub T x y T') ty L D (.int k (k.wrap (a - b))) :=
  Q.bin ex ey fun w => by simp [guard_int, binOp, Op.intArith]
theorem Q.mul (ex : ev L x = some (.int k a)) (ey : ev L y = some (.int k b)) : OpQ P (.binOp .mul T x y T') ty L D (.int k (k.wrap (a * b))) :=
  Q.bin ex ey fun w => by simp [guard_int, binOp, Op.intArith]
theorem Q.add64 (ex : ev L x = some (.int .i64 a)) (ey : ev L y = some (.int .i64 b)) (h : -9223372036854775808 ≤ a + b ∧ a + b ≤ 9223372036854775807) : OpQ P (.binOp .add T x y T') ty L D (.int .i64 (a + b)) := by
  have := Q.add (P := P) (T := T) (T' := T') (ty := ty) (D := D) ex ey; rwa [IntWalk.i64_in _ h] at this
theorem Q.sub64 (ex : ev L x = some (.int .i64 a)) (ey : ev L y = some (.int .i64 b)) (h : -9223372036854775808 ≤ a - b ∧ a - b ≤ 9223372036854775807) : OpQ P (.binOp .sub T x y T') ty L D (.int .i64 (a - b)) := by
  have := Q.sub (P := P) (T := T) (T' := T') (ty := ty) (D := D) ex ey; rwa [IntWalk.i64_in _ h] at this
theorem Q.mul64 (ex : ev L x = some (.int .i64 a)) (ey : ev L y = some (.int .i64 b)) (h : -9223372036854775808 ≤ a * b ∧ a * b ≤ 9223372036854775807) : OpQ P (.binOp .mul T x y T') ty L D (.int .i64 (a * b)) := by
  have := Q.mul (P := P) (T := T) (T' := T') (ty := ty) (D := D) ex ey; rwa [IntWalk.i64_in _ h] at this
theorem Q.quo (ex : ev L x = some (.int k a)) (ey : ev L y = some (.int k b)) (h : b ≠ 0) : OpQ P (.binOp .quo T x y T') ty L D (.int k (k.wrap (a.tdiv b))) :=
  Q.bin ex ey fun w => by simp [guard_int, binOp, Op.intDiv, h]
theorem Q.rem (ex : ev L x = some (.int k a)) (ey : ev L y = some (.int k b)) (h : b ≠ 0) : OpQ P (.binOp .rem T x y T') ty L D (.int k (a.tmod b)) :=
  Q.bin ex ey fun w => by simp [guard_int, binOp, Op.intDiv, h]
/-- Quotient and rest of numbers that are not negative. -/
theorem Q.quo64 (ex : ev L x = some (.int .i64 a)) (ey : ev L y = some (.int .i64 b)) (ha : 0 ≤ a) (ha' : a ≤ 9223372036854775807) (hb : 0 < b) : OpQ P (.binOp .quo T x y T') ty L D (.int .i64 (a / b)) := by
  have := Q.quo (P := P) (T := T) (T' := T') (ty := ty) (D := D) ex ey (by omega)
  rw [Int.tdiv_eq_ediv_of_nonneg ha] at this
  have h1 : 0 ≤ a / b := Int.ediv_nonneg ha (by omega)
  have h2 : a / b ≤ a := Int.ediv_le_self _ ha
  rwa [IntWalk.i64_in _ (by omega)] at this
theorem Q.rem64 (ex : ev L x = some (.int .i64 a)) (ey : ev L y = some (.int .i64 b)) (ha : 0 ≤ a) (hb : 0 < b) : OpQ P (.binOp .rem T x y T') ty L D (.int .i64 (a % b)) := by
  have := Q.rem (P := P) (T := T) (T' := T') (ty := ty) (D := D) ex ey (by omega)
  rwa [Int.tmod_eq_emod_of_nonneg ha] at this
theorem Q.lss (ex : ev L x = some (.int k a)) (ey : ev L y = some (.int k b)) : OpQ P (.binOp .lss T x y T') ty L D (.bool (decide (a < b))) :=
  Q.bin ex ey fun w => by simp [guard_int, binOp, Op.intCmp]
theorem Q.leq (ex : ev L x = some (.int k a)) (ey : ev L y = some (.int k b)) : OpQ P (.binOp .leq T x y T') ty L D (.bool (decide (a ≤ b))) :=
  Q.bin ex ey fun w => by simp [guard_int, binOp, Op.intCmp]
theorem Q.gtr (ex : ev L x = some (.int k a)) (ey : ev L y = some (.int k b)) : OpQ P (.binOp .gtr T x y T') ty L D (.bool (decide (b < a))) :=
  Q.bin ex ey fun w => by simp [guard_int, binOp, Op.intCmp]
theorem Q.geq (ex : ev L x = some (.int k a)) (ey : ev L y = some (.int k b)) : OpQ P (.binOp .geq T x y T') ty L D (.bool (decide (b ≤ a))) :=
  Q.bin ex ey fun w => by simp [guard_int, binOp, Op.intCmp]
theorem Q.eql (ex : ev L x = some (.int k a)) (ey : ev L y = some (.int k b)) : OpQ P (.binOp .eql T x y T') ty L D (.bool (decide (a = b))) :=
  Q.bin ex ey fun w => by simp [guard_int, binOp, Op.intCmp]; rfl
theorem Q.neq (ex : ev L x = some (.int k a)) (ey : ev L y = some (.int k b)) : OpQ P (.binOp .neq T x y T') ty L D (.bool (!decide (a = b))) :=
  Q.bin ex ey fun w => by simp [guard_int, binOp, Op.intCmp]; rfl
theorem Q.xor (ex : ev L x = some (.int k a)) (ey : ev L y = some (.int k b)) : OpQ P (.binOp .xor T x y T') ty L D (.int k (k.wrap (BitVec.ofInt k.bits a ^^^ BitVec.ofInt k.bits b).toNat)) :=
  Q.bin ex ey fun w => by simp [guard_int, binOp, Op.intBits]
theorem Q.shl {k' : IntKind} (ex : ev L x = some (.int k a)) (ey : ev L y = some (.int k' b)) (h : 0 ≤ b) : OpQ P (.binOp .shl T x y T') ty L D (.int k (k.wrap (a * 2 ^ (min b.toNat k.bits)))) :=
  Q.bin ex ey fun w => by simp [guard_int, binOp, Op.shift, show ¬ b < 0 by omega]
theorem Q.shr {k' : IntKind} (ex : ev L x = some (.int k a)) (ey : ev L y = some (.int k' b)) (h : 0 ≤ b) : OpQ P (.binOp .shr T x y T') ty L D (.int k (a.fdiv (2 ^ (min b.toNat k.bits)))) :=
  Q.bin ex ey fun w => by simp [guard_int, binOp, Op.shift, show ¬ b < 0 by omega]

theorem list_beq (l m : List UInt8) : (l == m) = decide (l = m) := by
  by_cases h : l = m <;> simp [h]
theorem guard_str {op : BinOp} {T : TypeId} {x y : Operand} {s t : ByteArray} (w : World) : (eqGuard op T x y (.string s) (.string t)).run P w = .ok () w := by
  cases op <;> simp [eqGuard]
theorem Q.eqls {s t : ByteArray} (ex : ev L x = some (.string s)) (ey : ev L y = some (.string t)) : OpQ P (.binOp .eql T x y T') ty L D (.bool (decide (s.data.toList = t.data.toList))) :=
  Q.bin ex ey fun w => by simp only [Sem.run_bind, guard_str, Result.andThen_ok, binOp, Op.stringOp, ByteArray.toList_eq, list_beq]; rfl
theorem Q.neqs {s t : ByteArray} (ex : ev L x = some (.string s)) (ey : ev L y = some (.string t)) : OpQ P (.binOp .neq T x y T') ty L D (.bool (!decide (s.data.toList = t.data.toList))) :=
  Q.bin ex ey fun w => by simp only [Sem.run_bind, guard_str, Result.andThen_ok, binOp, Op.stringOp, ByteArray.toList_eq, list_beq]; rfl
theorem Q.lsss {s t : ByteArray} (ex : ev L x = some (.string s)) (ey : ev L y = some (.string t)) : OpQ P (.binOp .lss T x y T') ty L D (.bool (Op.bytesLess s.data.toList t.data.toList)) :=
  Q.bin ex ey fun w => by simp [guard_str, binOp, Op.stringOp, ByteArray.toList_eq]
theorem Q.gtrs {s t : ByteArray} (ex : ev L x = some (.string s)) (ey : ev L y = some (.string t)) : OpQ P (.binOp .gtr T x y T') ty L D (.bool (!(Op.bytesLess s.data.toList t.data.toList || decide (s.data.toList = t.data.toList)))) :=
  Q.bin ex ey fun w => by simp only [Sem.run_bind, guard_str, Result.andThen_ok, binOp, Op.stringOp, ByteArray.toList_eq, list_beq]; rfl
theorem Q.adds {s t : ByteArray} (ex : ev L x = some (.string s)) (ey : ev L y = some (.string t)) (h : ((s.size + t.size : Nat) : Int) ≤ 9223372036854775807) : OpQ P (.binOp .add T x y T') ty L D (.string (s ++ t)) :=
  Q.bin ex ey fun w => by
    have : ¬ ((s.size + t.size : Nat) : Int) > IntKind.i64.max := by simp only [IntKind.max, IntKind.signed, IntKind.bits]; simp; omega
    simp only [Sem.run_bind, guard_str, Result.andThen_ok, binOp, Op.stringOp, if_neg this]; rfl

theorem run_equalIn_bool (d : Nat) (p q : Bool) (w : World) (hu : ∀ w, (underlying T).run P w = .ok .bool w) : (Op.equalIn (d + 1) T (.bool p) (.bool q)).run P w = .ok (p == q) w := by
  simp [Op.equalIn, hu]
theorem run_equalIn_ptr (d : Nat) {E : TypeId} (p : Option Addr) (w : World) (hu : ∀ w, (underlying T).run P w = .ok (.pointer E) w) : (Op.equalIn (d + 1) T (.pointer p) (.pointer none)).run P w = .ok p.isNone w := by
  cases p <;> simp [Op.equalIn, hu]
theorem run_equalIn_slice (d : Nat) {E : TypeId} (p : Option Addr) (n c : Nat) (w : World) (hu : ∀ w, (underlying T).run P w = .ok (.slice E) w) : (Op.equalIn (d + 1) T (.slice p n c) (.slice none 0 0)).run P w = .ok p.isNone w := by
  cases p <;> simp [Op.equalIn, hu]
theorem run_equalIn_map (d : Nat) {E K : TypeId} (p : Option Nat) (w : World) (hu : ∀ w, (underlying T).run P w = .ok (.map K E) w) : (Op.equalIn (d + 1) T (.map p) (.map none)).run P w = .ok p.isNone w := by
  cases p <;> simp [Op.equalIn, hu]

theorem run_eql_of {u v : Value} {r : Bool} {w : World} (h : ∀ d, (Op.equalIn (d + 1) T u v).run P w = .ok r w) : (Op.equal T u v).run P w = .ok r w := h 9999

theorem Q.eqlb {p q : Bool} (hu : ∀ w, (underlying T).run P w = .ok .bool w) (ex : ev L x = some (.bool p)) (ey : ev L y = some (.bool q)) : OpQ P (.binOp .eql T x y T') ty L D (.bool (p == q)) :=
  Q.bin ex ey fun w => by
    have := run_eql_of (fun d => run_equalIn_bool d p q w hu)
    simp [eqGuard, binOp, this]
theorem Q.neqb {p q : Bool} (hu : ∀ w, (underlying T).run P w = .ok .bool w) (ex : ev L x = some (.bool p)) (ey : ev L y = some (.bool q)) : OpQ P (.binOp .neq T x y T') ty L D (.bool (!(p == q))) :=
  Q.bin ex ey fun w => by
    have := run_eql_of (fun d => run_equalIn_bool d p q w hu)
    simp [eqGuard, binOp, this]

/-- A pointer against nil. -/
theorem Q.eqlp {E : TypeId} {p : Option Addr} (hu : ∀ w, (underlying T).run P w = .ok (.pointer E) w) (ex : ev L x = some (.pointer p)) (ey : ev L y = some (.pointer none)) : OpQ P (.binOp .eql T x y T') ty L D (.bool p.isNone) :=
  Q.bin ex ey fun w => by
    have := run_eql_of (fun d => run_equalIn_ptr d p w hu)
    simp [eqGuard, binOp, this]
theorem Q.neqp {E : TypeId} {p : Option Addr} (hu : ∀ w, (underlying T).run P w = .ok (.pointer E) w) (ex : ev L x = some (.pointer p)) (ey : ev L y = some (.pointer none)) : OpQ P (.binOp .neq T x y T') ty L D (.bool (!p.isNone)) :=
  Q.bin ex ey fun w => by
    have := run_eql_of (fun d => run_equalIn_ptr d p w hu)
    simp [eqGuard, binOp, this]
/-- A slice against nil. -/
theorem Q.eqlsl {E : TypeId} {p : Option Addr} {n c : Nat} (hu : ∀ w, (underlying T).run P w = .ok (.slice E) w) (ex : ev L x = some (.slice p n c)) (ey : ev L y = some (.slice none 0 0)) : OpQ P (.binOp .eql T x y T') ty L D (.bool p.isNone) :=
  Q.bin ex ey fun w => by
    have := run_eql_of (fun d => run_equalIn_slice d p n c w hu)
    simp [eqGuard, binOp, this]
theorem Q.neqsl {E : TypeId} {p : Option Addr} {n c : Nat} (hu : ∀ w, (underlying T).run P w = .ok (.slice E) w) (ex : ev L x = some (.slice p n c)) (ey : ev L y = some (.slice none 0 0)) : OpQ P (.binOp .neq T x y T') ty L D (.bool (!p.isNone)) :=
  Q.bin ex ey fun w => by
    have := run_eql_of (fun d => run_equalIn_slice d p n c w hu)
    simp [eqGuard, binOp, this]
/-- A map against nil. -/
theorem Q.eqlm {E K : TypeId} {p : Option Nat} (hu : ∀ w, (underlying T).run P w = .ok (.map K E) w) (ex : ev L x = some (.map p)) (ey : ev L y = some (.map none)) : OpQ P (.binOp .eql T x y T') ty L D (.bool p.isNone) :=
  Q.bin ex ey fun w => by
    have := run_eql_of (fun d => run_equalIn_map d p w hu)
    simp [eqGuard, binOp, this]
theorem Q.neqm {E K : TypeId} {p : Option Nat} (hu : ∀ w, (underlying T).run P w = .ok (.map K E) w) (ex : ev L x = some (.map p)) (ey : ev L y = some (.map none)) : OpQ P (.binOp .neq T x y T') ty L D (.bool (!p.isNone)) :=
  Q.bin ex ey fun w => by
    have := run_eql_of (fun d => run_equalIn_map d p w hu)
    simp [eqGuard, binOp, this]

theorem Q.not {p : Bool} (ex : ev L x = some (.bool p)) : OpQ P (.unOp .not T x) ty L D (.bool (!p)) :=
  .pure_ fun _ _ _ _ a w ag => by simp [execOp, ag.at_ ex (by simp [Op.operands]), Op.unary]
theorem Q.neg {n : Int} (ex : ev L x = some (.int k n)) : OpQ P (.unOp .neg T x) ty L D (.int k (k.wrap (0 - n))) :=
  .pure_ fun _ _ _ _ a w ag => by simp [execOp, ag.at_ ex (by simp [Op.operands]), Op.unary, Op.intArith]
theorem Q.nil_ {p : Addr} (ex : ev L x = some (.pointer (some p))) : OpQ P (.nilCheck x) ty L D (.pointer (some p)) :=
  .pure_ fun _ _ _ _ a w ag => by simp [execOp, ag.at_ ex (by simp [Op.operands])]
theorem Q.conv {n : Int} {k k' : IntKind} {d : TypeDesc} (h1 : ∀ w, (underlying T).run P w = .ok d w) (h2 : ∀ w, (underlying T').run P w = .ok (.int k') w) (ex : ev L x = some (.int k n)) :
    OpQ P (.convert T T' x) ty L D (.int k' (k'.wrap n)) :=
  .pure_ fun _ _ _ _ a w ag => by simp [execOp, ag.at_ ex (by simp [Op.operands]), convert, h1, h2, Conv.intToInt]
theorem Q.conv64 {n : Int} {k : IntKind} {d : TypeDesc} (h1 : ∀ w, (underlying T).run P w = .ok d w) (h2 : ∀ w, (underlying T').run P w = .ok (.int .i64) w) (ex : ev L x = some (.int k n)) (h : -9223372036854775808 ≤ n ∧ n ≤ 9223372036854775807) :
    OpQ P (.convert T T' x) ty L D (.int .i64 n) := by
  have := Q.conv (D := D) (ty := ty) h1 h2 ex; rwa [IntWalk.i64_in _ h] at this
theorem Q.convss {s : ByteArray} (h1 : ∀ w, (underlying T).run P w = .ok .string w) (h2 : ∀ w, (underlying T').run P w = .ok .string w) (ex : ev L x = some (.string s)) :
    OpQ P (.convert T T' x) ty L D (.string s) :=
  .pure_ fun _ _ _ _ a w ag => by simp [execOp, ag.at_ ex (by simp [Op.operands]), convert, h1, h2]

theorem Q.ext {i : Nat} {vs : List Value} {v : Value} (ex : ev L x = some (.tuple vs.toArray)) (hv : vs[i]? = some v) : OpQ P (.extract x i) ty L D v :=
  .pure_ fun _ _ _ _ a w ag => by simp [execOp, ag.at_ ex (by simp [Op.operands]), Instr.extract, hv]

theorem Q.func {fn : Fn} {fs cs : List Operand} {us vs : List Value} (e1 : evs L fs = some us) (e2 : evs L cs = some vs) : OpQ P (.makeFunc fn fs.toArray cs.toArray) ty L D (.func fn us.toArray vs.toArray) :=
  .pure_ fun _ _ _ _ a w ag => by
    have h1 := evs_map (fun x hx => ag x (by simp [Op.operands, hx])) e1
    have h2 := evs_map (fun x hx => ag x (by simp [Op.operands, hx])) e2
    simp [execOp, Instr.makeFunc, h1, h2]

/-! fields and places -/
theorem addr_add (b off n : Nat) : (⟨b, off, none⟩ : Addr).add n = ⟨b, off + n, none⟩ := by
  unfold Addr.add; split
  · subst_vars; rfl
  · rfl

theorem Q.fa {b off n i m : Nat} {fs : Array Field} {f : Field} (hu : ∀ w, (underlying T).run P w = .ok (.struct fs) w) (ex : ev L x = some (.pointer (some ⟨b, off, none⟩))) (hf : fs[i]? = some f)
    (hs : ∀ w, (sizeOf f.type).run P w = .ok (m + 1) w) (hn : f.offset = n) : OpQ P (.fieldAddr T x i) ty L D (.pointer (some ⟨b, off + n, none⟩)) :=
  .pure_ fun _ _ _ _ a w ag => by
    simp [execOp, ag.at_ ex (by simp [Op.operands]), Instr.fieldAt, hu, hf, Instr.sureAddr, fieldPlace, hs, addr_add, hn]

theorem Q.ia {E b off len cap sz : Nat} {i : Int} (hu : ∀ w, (underlying T).run P w = .ok (.slice E) w) (hs : ∀ w, (sizeOf E).run P w = .ok sz w) (ex : ev L x = some (.slice (some ⟨b, off, none⟩) len cap)) (ey : ev L y = some (.int k i))
    (h0 : 0 ≤ i) (h1 : i < (len : Int)) : OpQ P (.indexAddr T x y) ty L D (.pointer (some ⟨b, off + i.toNat * sz, none⟩)) :=
  .pure_ fun _ _ _ _ a w ag => by
    simp [execOp, ag.at_ ex (by simp [Op.operands]), ag.at_ ey (by simp [Op.operands]), Instr.indexAt, asIntOf, hu, hs, h0, h1, addr_add]

/-! reading memory -/
/-- Memory with these assertions holds v there. -/
def Reads (D : List Assn) (b off : Nat) (v : Value) : Prop := ∀ h, HSat h D → ∃ c e z, h b = some (.cells c e z) ∧ c[off]? = some v

theorem Reads.pt (i : Nat) {l : List Value} {e : TypeId} {z : Nat × Nat} {b off : Nat} {v : Value} (h : D[i]? = some (pt b (.cells l.toArray e z))) (hv : l[off]? = some v) : Reads D b off v := by
  intro k s
  obtain ⟨k', a, u⟩ := s.at_ h
  exact ⟨_, _, _, u _ _ a, by simpa using hv⟩
theorem Reads.by_ (i : Nat) {G : Assn} {b off : Nat} {v : Value} (h : D[i]? = some G) (hv : ∀ k, G k → ∃ c e z, k b = some (.cells c e z) ∧ c[off]? = some v) : Reads D b off v := by
  intro k s
  obtain ⟨k', a, u⟩ := s.at_ h
  obtain ⟨c, e, z, h1, h2⟩ := hv k' a
  exact ⟨c, e, z, u _ _ h1, h2⟩
theorem Reads.more {F : List Assn} {b off : Nat} {v : Value} (h : Reads D b off v) : Reads (D ++ F) b off v := by
  intro k s
  obtain ⟨h1, h2, p, q, d, u, _⟩ := s.append
  obtain ⟨c, e, z, r1, r2⟩ := h h1 p
  exact ⟨c, e, z, u _ _ r1, r2⟩
theorem Reads.cell {b off : Nat} {v : Value} (h : Reads D b off v) {W0 w : World} (s : Sat W0 w D) : w.cell? ⟨b, off, none⟩ = some v := by
  obtain ⟨c, e, z, h1, h2⟩ := h _ s.heap
  simp only [hp] at h1
  simp [World.cell?, h1, h2]

theorem Q.ld {b off : Nat} {v : Value} (ha : ∀ w, (isAgg T).run P w = .ok false w) (ex : ev L x = some (.pointer (some ⟨b, off, none⟩))) (hr : Reads D b off v) : OpQ P (.load T x) ty L D v :=
  ⟨fun _ _ _ _ a W0 w F ag s => ⟨w, by
    have hc := (hr.more (F := F)).cell s
    simp [execOp, ag.at_ ex (by simp [Op.operands]), Instr.loadAt, Instr.sureAddr, loadVar, ha, hc], s⟩⟩

/-- Several cells in a row. -/
def ReadsN (D : List Assn) (b off : Nat) (vs : List Value) : Prop := ∀ i v, vs[i]? = some v → Reads D b (off + i) v

theorem run_loadCellsFrom {W0 w : World} {b off : Nat} (s : Sat W0 w D) : ∀ (vs : List Value) (i : Nat) (acc : Array Value), (∀ j v, vs[j]? = some v → Reads D b (off + (i + j)) v) →
    (loadCellsFrom ⟨b, off, none⟩ i vs.length acc).run P w = .ok (acc ++ vs.toArray) w
  | [], i, acc, _ => by simp [loadCellsFrom]
  | v :: vs, i, acc, h => by
    have hc := (h 0 v (by simp)).cell s
    simp only [Nat.add_zero] at hc
    simp only [List.length_cons, loadCellsFrom, addr_add, Sem.run_bind, run_load, hc, Result.andThen_ok]
    rw [run_loadCellsFrom s vs (i + 1) (acc.push v) (fun j u hu => by rw [show i + 1 + j = i + (j + 1) from by omega]; exact h (j + 1) u (by simpa using hu))]
    simp

theorem run_loadCells {W0 w : World} {b off : Nat} {vs : List Value} (s : Sat W0 w D) (h : ReadsN D b off vs) : (loadCells ⟨b, off, none⟩ vs.length).run P w = .ok vs.toArray w := by
  unfold loadCells
  rw [run_loadCellsFrom s vs 0 #[] (fun j u hu => by rw [Nat.zero_add]; exact h j u hu)]
  simp

theorem Q.ldN {b off : Nat} {vs : List Value} (ha : ∀ w, (isAgg T).run P w = .ok true w) (hs : ∀ w, (sizeOf T).run P w = .ok vs.length w) (ex : ev L x = some (.pointer (some ⟨b, off, none⟩))) (hr : ReadsN D b off vs) : OpQ P (.load T x) ty L D (.agg vs.toArray) :=
  ⟨fun _ _ _ _ a W0 w F ag s => ⟨w, by
    have hc := run_loadCells (P := P) s (fun i v hv => (hr i v hv).more (F := F))
    simp [execOp, ag.at_ ex (by simp [Op.operands]), Instr.loadAt, Instr.sureAddr, loadVar, ha, hs, hc], s⟩⟩

/-- A field of a struct value: of one cell. -/
theorem Q.fld {i : Nat} {fs : Array Field} {f : Field} {vs : List Value} {v : Value} (hu : ∀ w, (underlying T).run P w = .ok (.struct fs) w) (ex : ev L x = some (.agg vs.toArray)) (hf : fs[i]? = some f)
    (ha : ∀ w, (isAgg f.type).run P w = .ok false w) (hv : vs[f.offset]? = some v) : OpQ P (.field T x i) ty L D v :=
  .pure_ fun _ _ _ _ a w ag => by simp [execOp, ag.at_ ex (by simp [Op.operands]), Instr.field, hu, hf, asAgg, part, ha, hv]

theorem Q.idxs {s : ByteArray} {i : Int} {u : UInt8} (hu : ∀ w, (underlying T).run P w = .ok .string w) (ex : ev L x = some (.string s)) (ey : ev L y = some (.int k i)) (h0 : 0 ≤ i) (hv : s.data.toList[i.toNat]? = some u) : OpQ P (.index T x y) ty L D (.int .u8 u.toNat) :=
  .pure_ fun _ _ _ _ a w ag => by
    have hlt : i.toNat < s.size := by
      have := (List.getElem?_eq_some_iff.1 hv).1
      simpa using this
    have hv' : s[i.toNat]? = some u := by
      rw [getElem?_pos s i.toNat hlt]
      have h2 := (List.getElem?_eq_some_iff.1 hv).2
      simp only [Array.getElem_toList] at h2
      exact congrArg some h2
    simp [execOp, ag.at_ ex (by simp [Op.operands]), ag.at_ ey (by simp [Op.operands]), Instr.index, asIntOf, hu, h0, hv']

/-! lengths -/
theorem OpQ.built {b : Builtin} {xs : List Operand} {ts : Array TypeId} {vs : List Value} {v : Value} (e : evs L xs = some vs) (h : ∀ w cs, (builtin b ts ty cs vs.toArray).run P w = .ok (.value v) w) :
    OpQ P (.call { callee := .builtin b, args := xs.toArray, argTypes := ts }) ty L D v :=
  .pure_ fun _ _ _ _ a w ag => by
    have hx : xs.map a.eval = vs := evs_map (fun x hx => ag x (by simp [Op.operands, Call.operands, hx])) e
    have ha : (xs.toArray).map a.eval = vs.toArray := by simp [hx]
    simp only [execOp, resolve, invoke, Sem.run_bind, Sem.run_pure, Result.andThen_ok, ha]
    exact h w _

theorem Q.lenS {s : ByteArray} (hu : ∀ w, (underlying T).run P w = .ok .string w) (e : evs L [x] = some [.string s]) : OpQ P (.call { callee := .builtin .len, args := #[x], argTypes := #[T] }) ty L D (.int .i64 s.size) :=
  OpQ.built (xs := [x]) e fun w cs => by simp [builtin, Builtin.len_, hu, goInt]
theorem Q.lenSl {E : TypeId} {p : Option Addr} {n c : Nat} (hu : ∀ w, (underlying T).run P w = .ok (.slice E) w) (e : evs L [x] = some [.slice p n c]) : OpQ P (.call { callee := .builtin .len, args := #[x], argTypes := #[T] }) ty L D (.int .i64 n) :=
  OpQ.built (xs := [x]) e fun w cs => by simp [builtin, Builtin.len_, hu, goInt]
theorem Q.capSl {E : TypeId} {p : Option Addr} {n c : Nat} (hu : ∀ w, (underlying T).run P w = .ok (.slice E) w) (e : evs L [x] = some [.slice p n c]) : OpQ P (.call { callee := .builtin .cap, args := #[x], argTypes := #[T] }) ty L D (.int .i64 c) :=
  OpQ.built (xs := [x]) e fun w cs => by simp [builtin, Builtin.cap_, hu, goInt]
theorem Q.minI {m : Int} {ts : Array TypeId} (e : evs L [x, y] = some [.int k a, .int k m]) : OpQ P (.call { callee := .builtin .min, args := #[x, y], argTypes := ts }) ty L D (.int k (if m < a then m else a)) :=
  OpQ.built (xs := [x, y]) e fun w cs => by simp [builtin, Builtin.min_, Builtin.min2]

/-! parts of slices and strings -/
theorem Q.slLH {E b off len cap sz : Nat} {lo hi : Int} {l h : Operand} (hu : ∀ w, (underlying T).run P w = .ok (.slice E) w) (hs : ∀ w, (sizeOf E).run P w = .ok sz w) (ex : ev L x = some (.slice (some ⟨b, off, none⟩) len cap))
    (el : ev L l = some (.int k lo)) {k' : IntKind} (eh : ev L h = some (.int k' hi)) (h0 : 0 ≤ lo) (h1 : lo ≤ hi) (h2 : hi ≤ (cap : Int)) :
    OpQ P (.slice T x (some l) (some h) none) ty L D (.slice (some ⟨b, off + (if cap = lo.toNat then 0 else lo.toNat) * sz, none⟩) (hi.toNat - lo.toNat) (cap - lo.toNat)) :=
  .pure_ fun _ _ _ _ a w ag => by
    have e1 := ag.at_ ex (by simp [Op.operands])
    have e2 := ag.at_ el (by simp [Op.operands])
    have e3 := ag.at_ eh (by simp [Op.operands])
    have hh : 0 ≤ hi ∧ hi ≤ (cap : Int) := by omega
    have hl : lo ≤ max hi 0 := by omega
    simp [execOp, e1, e2, e3, Instr.sliceAt, Instr.slice, hu, Instr.sliceBounds, Instr.sliceBound, asIntOf, hs, hh, h0, hl]
    by_cases hc : cap = lo.toNat <;> simp [hc, addr_add]
theorem Q.slL {E b off len cap sz : Nat} {lo : Int} {l : Operand} (hu : ∀ w, (underlying T).run P w = .ok (.slice E) w) (hs : ∀ w, (sizeOf E).run P w = .ok sz w) (ex : ev L x = some (.slice (some ⟨b, off, none⟩) len cap))
    (el : ev L l = some (.int k lo)) (h0 : 0 ≤ lo) (h1 : lo ≤ (len : Int)) :
    OpQ P (.slice T x (some l) none none) ty L D (.slice (some ⟨b, off + (if cap = lo.toNat then 0 else lo.toNat) * sz, none⟩) (len - lo.toNat) (cap - lo.toNat)) :=
  .pure_ fun _ _ _ _ a w ag => by
    have e1 := ag.at_ ex (by simp [Op.operands])
    have e2 := ag.at_ el (by simp [Op.operands])
    simp [execOp, e1, e2, Instr.sliceAt, Instr.slice, hu, Instr.sliceBounds, Instr.sliceBound, asIntOf, hs, h0, h1]
    by_cases hc : cap = lo.toNat <;> simp [hc, addr_add]
theorem Q.slH {E len cap sz : Nat} {p : Option Addr} {hi : Int} {h : Operand} (hu : ∀ w, (underlying T).run P w = .ok (.slice E) w) (hs : ∀ w, (sizeOf E).run P w = .ok sz w) (ex : ev L x = some (.slice p len cap))
    (eh : ev L h = some (.int k hi)) (h0 : 0 ≤ hi) (h2 : hi ≤ (cap : Int)) :
    OpQ P (.slice T x none (some h) none) ty L D (.slice p hi.toNat cap) :=
  .pure_ fun _ _ _ _ a w ag => by
    have e1 := ag.at_ ex (by simp [Op.operands])
    have e3 := ag.at_ eh (by simp [Op.operands])
    simp [execOp, e1, e3, Instr.sliceAt, Instr.slice, hu, Instr.sliceBounds, Instr.sliceBound, asIntOf, hs, h0, h2]
    cases p <;> simp [Addr.add]
theorem Q.slHM {E len cap sz : Nat} {p : Option Addr} {hi mx : Int} {h m : Operand} (hu : ∀ w, (underlying T).run P w = .ok (.slice E) w) (hs : ∀ w, (sizeOf E).run P w = .ok sz w) (ex : ev L x = some (.slice p len cap))
    (eh : ev L h = some (.int k hi)) {k' : IntKind} (em : ev L m = some (.int k' mx)) (h0 : 0 ≤ hi) (h1 : hi ≤ mx) (h2 : mx ≤ (cap : Int)) :
    OpQ P (.slice T x none (some h) (some m)) ty L D (.slice p hi.toNat mx.toNat) :=
  .pure_ fun _ _ _ _ a w ag => by
    have e1 := ag.at_ ex (by simp [Op.operands])
    have e3 := ag.at_ eh (by simp [Op.operands])
    have e4 := ag.at_ em (by simp [Op.operands])
    have hm : 0 ≤ mx := by omega
    have hh : hi ≤ max mx 0 := by omega
    simp [execOp, e1, e3, e4, Instr.sliceAt, Instr.slice, hu, Instr.sliceBounds, Instr.sliceBound, asIntOf, hs, h0, hm, hh, h2]
    cases p <;> simp [Addr.add]
theorem Q.strLH {s : ByteArray} {lo hi : Int} {l h : Operand} (hu : ∀ w, (underlying T).run P w = .ok .string w) (ex : ev L x = some (.string s)) (el : ev L l = some (.int k lo)) {k' : IntKind} (eh : ev L h = some (.int k' hi)) (h0 : 0 ≤ lo) (h1 : lo ≤ hi) (h2 : hi ≤ (s.size : Int)) :
    OpQ P (.slice T x (some l) (some h) none) ty L D (.string (s.extract lo.toNat hi.toNat)) :=
  .pure_ fun _ _ _ _ a w ag => by
    have e1 := ag.at_ ex (by simp [Op.operands])
    have e2 := ag.at_ el (by simp [Op.operands])
    have e3 := ag.at_ eh (by simp [Op.operands])
    have hh : 0 ≤ hi ∧ hi ≤ (s.size : Int) := by omega
    have hl : lo ≤ max hi 0 := by omega
    simp [execOp, e1, e2, e3, Instr.sliceAt, Instr.slice, hu, Instr.sliceBounds, Instr.sliceBound, asIntOf, hh, h0, hl]
theorem Q.strH {s : ByteArray} {hi : Int} {h : Operand} (hu : ∀ w, (underlying T).run P w = .ok .string w) (ex : ev L x = some (.string s)) (eh : ev L h = some (.int k hi)) (h0 : 0 ≤ hi) (h2 : hi ≤ (s.size : Int)) :
    OpQ P (.slice T x none (some h) none) ty L D (.string (s.extract 0 hi.toNat)) :=
  .pure_ fun _ _ _ _ a w ag => by
    have e1 := ag.at_ ex (by simp [Op.operands])
    have e3 := ag.at_ eh (by simp [Op.operands])
    simp [execOp, e1, e3, Instr.sliceAt, Instr.slice, hu, Instr.sliceBounds, Instr.sliceBound, asIntOf, h0, h2]
theorem Q.strL {s : ByteArray} {lo : Int} {l : Operand} (hu : ∀ w, (underlying T).run P w = .ok .string w) (ex : ev L x = some (.string s)) (el : ev L l = some (.int k lo)) (h0 : 0 ≤ lo) (h2 : lo ≤ (s.size : Int)) :
    OpQ P (.slice T x (some l) none none) ty L D (.string (s.extract lo.toNat s.size)) :=
  .pure_ fun _ _ _ _ a w ag => by
    have e1 := ag.at_ ex (by simp [Op.operands])
    have e3 := ag.at_ el (by simp [Op.operands])
    simp [execOp, e1, e3, Instr.sliceAt, Instr.slice, hu, Instr.sliceBounds, Instr.sliceBound, asIntOf, h0, h2]

end
end Go.X
